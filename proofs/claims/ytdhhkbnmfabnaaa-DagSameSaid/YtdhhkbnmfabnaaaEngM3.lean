/-
 Regions that draw their order, part 4: operations whose footprints lie apart may change places.
-/
import Derived.Test.YtdhhkbnmfabnaaaEngM2
set_option linter.all false
namespace Go.Eng
open Go Go.RowKit
def Eff.pt (i : Nat) (x : Option Blk) : Eff → Option Blk
 | .none => x
 | .set b o => if b = i then x.map fun _ => o else x
 | .app b o => if b = i then x.map fun _ => o else x.map (Blk.drop b)
def Eff.dr : Eff → V → V
 | .app b _ => V.drop b
 | _ => id
theorem Eff.ap_heap (E : Eff) (st : St) (i : Nat) : (E.ap st).heap[i]? = E.pt i st.heap[i]? := by
 cases E with
 | none => rfl
 | set b o =>
  simp only [Eff.ap, Eff.pt, St.setB]
  by_cases h : b = i
  ·subst h
   rw [if_pos rfl, List.getElem?_set]
   simp only [if_true]
   by_cases hl : b < st.heap.length
   ·rw [if_pos hl, List.getElem?_eq_getElem hl]; rfl
   ·rw [if_neg hl, List.getElem?_eq_none (by omega)]; rfl
  ·rw [if_neg h, List.getElem?_set_ne h]
 | app b o =>
  simp only [Eff.ap, Eff.pt, St.setB, St.drop]
  by_cases h : b = i
  ·subst h
   rw [if_pos rfl, List.getElem?_set]
   simp only [if_true, List.length_map]
   by_cases hl : b < st.heap.length
   ·rw [if_pos hl, List.getElem?_eq_getElem hl]; rfl
   ·rw [if_neg hl, List.getElem?_eq_none (by omega)]; rfl
  ·rw [if_neg h, List.getElem?_set_ne h, List.getElem?_map]
theorem Eff.ap_env (E : Eff) (st : St) : (E.ap st).env = st.env.map E.dr := by
 cases E <;> simp [Eff.ap, Eff.dr, St.setB, St.drop]
theorem V0.drop_not {b : Nat} {y : V0} (h : b ∉ y.ids) : y.drop b = y := by
 cases y with
 | own b' off len =>
  have : (b' == b) = false := by simp [V0.ids] at h; simp; exact fun hh => h hh.symm
  simp [V0.drop, this]
 | aptr b' i j =>
  have : (b' == b) = false := by simp [V0.ids] at h; simp; exact fun hh => h hh.symm
  simp [V0.drop, this]
 | _ => rfl
theorem V0.drop_known {b : Nat} {y : V0} (h : (y.drop b).known = true) : y.drop b = y := by
 cases y with
 | own b' off len =>
  simp only [V0.drop] at h ⊢
  cases hb : (b' == b) with
  | false => rfl
  | true => rw [hb] at h; cases h
 | aptr b' i j =>
  simp only [V0.drop] at h ⊢
  cases hb : (b' == b) with
  | false => rfl
  | true => rw [hb] at h; cases h
 | _ => rfl
theorem V0.drop_ids {b x : Nat} {y : V0} (h : x ∈ (y.drop b).ids) : x ∈ y.ids := by
 cases y with
 | own b' off len =>
  simp only [V0.drop] at h
  cases hb : (b' == b) with
  | false => rw [hb] at h; exact h
  | true => rw [hb] at h; cases h
 | aptr b' i j =>
  simp only [V0.drop] at h
  cases hb : (b' == b) with
  | false => rw [hb] at h; exact h
  | true => rw [hb] at h; cases h
 | _ => exact h
theorem V0.drop_comm (b c : Nat) (y : V0) : (y.drop c).drop b = (y.drop b).drop c := by
 cases y with
 | own b' off len => simp only [V0.drop]; cases h1 : (b' == b) <;> cases h2 : (b' == c) <;> simp [V0.drop, h1, h2]
 | aptr b' i j => simp only [V0.drop]; cases h1 : (b' == b) <;> cases h2 : (b' == c) <;> simp [V0.drop, h1, h2]
 | _ => rfl
theorem map_eq_self {α : Type} {f : α → α} {l : List α} (h : ∀ x ∈ l, f x = x) : l.map f = l := by
 induction l with
 | nil => rfl
 | cons a l ih => rw [List.map_cons, h a (List.mem_cons_self ..), ih fun x hx => h x (List.mem_cons_of_mem _ hx)]
theorem V.drop_not {b : Nat} {y : V} (h : b ∉ y.ids) : y.drop b = y := by
 cases y with
 | x y => simp only [V.drop]; rw [V0.drop_not h]
 | agg l =>
  simp only [V.drop]
  rw [map_eq_self fun x hx => V0.drop_not fun hb => h (List.mem_flatten.2 ⟨_, List.mem_map.2 ⟨x, hx, rfl⟩, hb⟩)]
 | _ => rfl
theorem V.drop_known {b : Nat} {y : V} (h : (y.drop b).known = true) : y.drop b = y := by
 cases y with
 | x y => simp only [V.drop]; rw [V0.drop_known h]
 | agg l =>
  simp only [V.drop, V.known, List.all_map, List.all_eq_true] at h ⊢
  rw [map_eq_self fun x hx => V0.drop_known (h x hx)]
 | _ => rfl
theorem V.drop_comm (b c : Nat) (y : V) : (y.drop c).drop b = (y.drop b).drop c := by
 cases y with
 | x y => simp only [V.drop]; rw [V0.drop_comm]
 | agg l => simp only [V.drop, List.map_map]; congr 1; apply List.map_congr_left; intro x _; exact V0.drop_comm b c x
 | _ => rfl
theorem Blk.drop_not {b : Nat} {o : Blk} (h : b ∉ o.ids) : o.drop b = o := by
 cases o with
 | box cells =>
  simp only [Blk.drop]
  rw [map_eq_self fun x hx => V0.drop_not fun hb => h (List.mem_flatten.2 ⟨_, List.mem_map.2 ⟨x, hx, rfl⟩, hb⟩)]
 | _ => rfl
theorem Blk.drop_ids {b x : Nat} {o : Blk} (h : x ∈ (o.drop b).ids) : x ∈ o.ids := by
 cases o with
 | box cells =>
  simp only [Blk.drop, Blk.ids, List.map_map] at h
  obtain ⟨s, hs, hx⟩ := List.mem_flatten.1 h
  obtain ⟨y, hy, rfl⟩ := List.mem_map.1 hs
  exact List.mem_flatten.2 ⟨_, List.mem_map.2 ⟨y, hy, rfl⟩, V0.drop_ids hx⟩
 | _ => exact h
theorem Eff.dr_comm (E F : Eff) (v : V) : E.dr (F.dr v) = F.dr (E.dr v) := by
 cases E <;> cases F <;> first | rfl | exact V.drop_comm ..
section
variable {C : Oracle} {hb : Nat}
theorem Eff.pt_id {E : Eff} {φ : Foot} {st : St} (h : E.ok φ st) {i : Nat} (hi : i ∉ φ.wr) : E.pt i st.heap[i]? = st.heap[i]? := by
 cases E with
 | none => rfl
 | set b o =>
  have : b ≠ i := fun hh => hi (hh ▸ h.1)
  simp [Eff.pt, this]
 | app b o =>
  have : b ≠ i := fun hh => hi (hh ▸ h.1)
  simp only [Eff.pt, if_neg this]
  cases hq : st.heap[i]? with
  | none => rfl
  | some o' =>
   simp only [Option.map_some]
   rw [Blk.drop_not fun hb => hi (h.2.2.1 i o' hq hb)]
theorem Eff.dr_id {E : Eff} {φ : Foot} {st : St} (h : E.ok φ st) {v : V} (hv : ∀ b ∈ v.ids, b ∈ φ.wr → b ∉ φ.dr) : E.dr v = v := by
 cases E with
 | none => rfl
 | set b o => rfl
 | app b o => exact V.drop_not fun hb => hv b hb h.1 h.2.2.2
theorem Eff.dr_known {E : Eff} {v : V} (h : (E.dr v).known = true) : E.dr v = v := by
 cases E with
 | none => rfl
 | set b o => rfl
 | app b o => exact V.drop_known h
structure FLoc (C : Oracle) (hb : Nat) (st : St) (f : FOp) (φ : Foot) (us : List Nat) (v : V) (E : Eff) : Prop where
 sub : ∀ t ∈ us, t ∈ f.uses
 loc : ∀ st2 : St, (∀ t ∈ us, st2.env.getD t .u = st.env.getD t .u) → (∀ b, φ.has b → st2.heap[b]? = st.heap[b]?) → ∀ {ρ : Type} (k : St → Option ρ), evalL C hb st2 [f] k = k ((E.ap st2).putO f.dst v)
 eff : E.ok φ st
 vids : ∀ x ∈ v.ids, φ.names x
 uids : ∀ t ∈ us, (st.env.getD t .u).known = true ∧ ∀ b ∈ (st.env.getD t .u).ids, φ.names b
 cids : ∀ b ∈ φ.wr, ∀ x ∈ blkIds st.heap b, φ.has x
variable {st : St} {f p : FOp} {φ ψ : Foot} {us ws : List Nat} {v u : V} {E F : Eff}
theorem FLoc.after (h : FLoc C hb st f φ us v E) {b : Nat} (hb' : b ∈ φ.wr) {o : Blk} (ho : E.pt b st.heap[b]? = some o) : ∀ x ∈ o.ids, φ.has x := by
 intro x hx
 have hc := h.cids b hb'
 have he := h.eff
 cases E with
 | none =>
  have ho : st.heap[b]? = some o := ho
  exact hc x (by rw [blkIds_at ho]; exact hx)
 | set b0 o0 =>
  simp only [Eff.pt] at ho
  split at ho
  ·cases hq : st.heap[b]? with
   | none => rw [hq] at ho; cases ho
   | some o' => rw [hq] at ho; cases ho; exact he.2 x hx
  ·exact hc x (by rw [blkIds_at ho]; exact hx)
 | app b0 o0 =>
  simp only [Eff.pt] at ho
  split at ho
  ·cases hq : st.heap[b]? with
   | none => rw [hq] at ho; cases ho
   | some o' => rw [hq] at ho; cases ho; exact he.2.1 x hx
  ·cases hq : st.heap[b]? with
   | none => rw [hq] at ho; cases ho
   | some o' =>
    rw [hq] at ho; cases ho
    exact hc x (by rw [blkIds_at hq]; exact Blk.drop_ids hx)
theorem Eff.ok_move {st' : St} (h : E.ok φ st) (hN : ∀ (b' : Nat) (o' : Blk), st'.heap[b']? = some o' → b' ∉ φ.wr → ∀ b ∈ φ.wr, b ∈ o'.ids → ∃ o, st.heap[b']? = some o ∧ b ∈ o.ids) : E.ok φ st' := by
 cases E with
 | none => trivial
 | set b o => exact h
 | app b o =>
  refine ⟨h.1, h.2.1, fun b' o' h1 h2 => ?_, h.2.2.2⟩
  by_cases hb' : b' ∈ φ.wr
  ·exact hb'
  ·obtain ⟨o2, h3, h4⟩ := hN b' o' h1 hb' b h.1 h2
   exact h.2.2.1 b' o2 h3 h4
theorem FLoc.move {st' : St} (h : FLoc C hb st f φ us v E) (h1 : ∀ t ∈ us, st'.env.getD t .u = st.env.getD t .u) (h2 : ∀ b, φ.has b → st'.heap[b]? = st.heap[b]?)
  (hN : ∀ (b' : Nat) (o' : Blk), st'.heap[b']? = some o' → b' ∉ φ.wr → ∀ b ∈ φ.wr, b ∈ o'.ids → ∃ o, st.heap[b']? = some o ∧ b ∈ o.ids) : FLoc C hb st' f φ us v E where
 sub := h.sub
 loc := fun st2 he hh ρ k => h.loc st2 (fun t ht => (he t ht).trans (h1 t ht)) (fun b hb => (hh b hb).trans (h2 b hb)) k
 eff := Eff.ok_move h.eff hN
 vids := h.vids
 uids := fun t ht => by rw [h1 t ht]; exact h.uids t ht
 cids := fun b hb => by
  have : blkIds st'.heap b = blkIds st.heap b := by unfold blkIds; rw [h2 b (.inr hb)]
  rw [this]; exact h.cids b hb
theorem disj_spec {a b : List Nat} (h : disj a b = true) {x : Nat} (h1 : x ∈ a) (h2 : x ∈ b) : False := by
 unfold disj at h
 have := List.all_eq_true.1 h x h1
 simp at this
 exact this h2
structure Apart (p f : FOp) (ψ φ : Foot) : Prop where
 d1 : ∀ d, p.dst = some d → d ∉ f.uses
 d2 : ∀ d, f.dst = some d → d ∉ p.uses
 d3 : ∀ d, p.dst = some d → f.dst ≠ some d
 w1 : ∀ b ∈ ψ.wr, ¬ φ.has b
 w2 : ∀ b ∈ φ.wr, ¬ ψ.has b
 n1 : ∀ b ∈ ψ.dr, b ∉ φ.nm
 n2 : ∀ b ∈ φ.dr, b ∉ ψ.nm
theorem Apart.symm (h : Apart p f ψ φ) : Apart f p φ ψ := ⟨h.d2, h.d1, fun d h1 h2 => h.d3 d h2 h1, h.w2, h.w1, h.n2, h.n1⟩
theorem apart_of (h : (slotsOk p f && ψ.indep φ) = true) : Apart p f ψ φ := by
 rw [Bool.and_eq_true] at h
 obtain ⟨hs, hi⟩ := h
 unfold slotsOk at hs
 unfold Foot.indep at hi
 simp only [Bool.and_eq_true] at hs hi
 obtain ⟨⟨⟨⟨i1, i2⟩, i3⟩, i4⟩, i5⟩ := hi
 refine ⟨fun d hd hm => ?_, fun d hd hm => ?_, fun d hd hm => ?_, fun b hb hm => ?_, fun b hb hm => ?_, fun b hb hm => disj_spec i4 hb hm, fun b hb hm => disj_spec i5 hm hb⟩
 ·rw [hd] at hs
  simp only [Bool.and_eq_true, Bool.not_eq_true', List.contains_eq_mem, decide_eq_false_iff_not] at hs
  exact hs.1.1 hm
 ·rw [hd] at hs
  simp only [Bool.not_eq_true', List.contains_eq_mem, decide_eq_false_iff_not] at hs
  exact hs.2 hm
 ·rw [hd, hm] at hs
  simp at hs
 ·rcases hm with hm | hm
  ·exact disj_spec i1 hb hm
  ·exact disj_spec i2 hb hm
 ·rcases hm with hm | hm
  ·exact disj_spec i3 hm hb
  ·exact disj_spec i2 hm hb
theorem names_dr (hw : ∀ b ∈ φ.wr, ¬ ψ.has b) (hn : ∀ b ∈ φ.dr, b ∉ ψ.nm) {b : Nat} (h : ψ.names b) (h1 : b ∈ φ.wr) : b ∉ φ.dr := fun h2 => by
 rcases h with h | h
 ·exact hw b h1 h
 ·exact hn b h2 h
theorem getD_map_dr (E : Eff) (l : List V) (t : Nat) : (l.map E.dr).getD t .u = E.dr (l.getD t .u) := by
 rw [List.getD_eq_getElem?_getD, List.getD_eq_getElem?_getD, List.getElem?_map]
 cases l[t]? with
 | none => cases E <;> rfl
 | some v => rfl
theorem putO_env_ne {st : St} {d : Option Nat} {v : V} {t : Nat} (h : d ≠ some t) : (st.putO d v).env.getD t .u = st.env.getD t .u := by
 cases d with
 | none => rfl
 | some d =>
  simp only [St.putO, St.put]
  rw [List.getD_eq_getElem?_getD, List.getD_eq_getElem?_getD, List.getElem?_set_ne (fun hh => h (by rw [hh]))]
theorem FLoc.swap (hp : FLoc C hb st p ψ ws u F) (hf : FLoc C hb ((F.ap st).putO p.dst u) f φ us v E) (ha : Apart p f ψ φ) :
  FLoc C hb st f φ us v E ∧ FLoc C hb ((E.ap st).putO f.dst v) p ψ ws u F ∧ (F.ap ((E.ap st).putO f.dst v)).putO p.dst u = (E.ap ((F.ap st).putO p.dst u)).putO f.dst v := by
 have hh1 : ∀ b, b ∉ ψ.wr → ((F.ap st).putO p.dst u).heap[b]? = st.heap[b]? := fun b hb => by
  rw [St.putO_heap, Eff.ap_heap]; exact Eff.pt_id hp.eff hb
 have hback : FLoc C hb st f φ us v E := by
  refine hf.move (fun t ht => ?_) (fun b hb' => (hh1 b fun hw => ha.w1 b hw hb').symm) (fun b' o' h1 h2 b hb' h3 => ?_)
  ·have hk := (hf.uids t ht).1
   have hne : p.dst ≠ some t := fun hd => ha.d1 t hd (hf.sub t ht)
   rw [putO_env_ne hne, Eff.ap_env, getD_map_dr] at hk
   rw [putO_env_ne hne, Eff.ap_env, getD_map_dr, Eff.dr_known hk]
  ·by_cases hw : b' ∈ ψ.wr
   ·exact (ha.w2 b hb' (hp.cids b' hw b (by rw [blkIds_at h1]; exact h3))).elim
   ·exact ⟨o', by rw [hh1 b' hw]; exact h1, h3⟩
 have hh2 : ∀ b, b ∉ φ.wr → ((E.ap st).putO f.dst v).heap[b]? = st.heap[b]? := fun b hb => by
  rw [St.putO_heap, Eff.ap_heap]; exact Eff.pt_id hback.eff hb
 have hfwd : FLoc C hb ((E.ap st).putO f.dst v) p ψ ws u F := by
  refine hp.move (fun t ht => ?_) (fun b hb' => hh2 b fun hw => ha.w2 b hw hb') (fun b' o' h1 h2 b hb' h3 => ?_)
  ·have hne : f.dst ≠ some t := fun hd => ha.d2 t hd (hp.sub t ht)
   rw [putO_env_ne hne, Eff.ap_env, getD_map_dr]
   exact Eff.dr_id hback.eff fun b hb hw => names_dr ha.w2 ha.n2 ((hp.uids t ht).2 b hb) hw
  ·by_cases hw : b' ∈ φ.wr
   ·rw [St.putO_heap, Eff.ap_heap] at h1
    exact (ha.w1 b hb' (hback.after hw h1 b h3)).elim
   ·exact ⟨o', by rw [hh2 b' hw] at h1; exact h1, h3⟩
 refine ⟨hback, hfwd, ?_⟩
 have hheap : ((F.ap ((E.ap st).putO f.dst v)).putO p.dst u).heap = ((E.ap ((F.ap st).putO p.dst u)).putO f.dst v).heap := by
  apply List.ext_getElem?
  intro i
  simp only [St.putO_heap, Eff.ap_heap]
  by_cases hw : i ∈ ψ.wr
  ·have hn : i ∉ φ.wr := fun hh => ha.w1 i hw (.inr hh)
   have e1 := Eff.pt_id hback.eff hn
   have e2 := Eff.pt_id hf.eff hn
   simp only [St.putO_heap, Eff.ap_heap] at e2
   rw [e1, e2]
  ·have e1 := Eff.pt_id hp.eff hw
   have e2 := Eff.pt_id hfwd.eff hw
   simp only [St.putO_heap, Eff.ap_heap] at e2
   rw [e1, e2]
 have henv : ((F.ap ((E.ap st).putO f.dst v)).putO p.dst u).env = ((E.ap ((F.ap st).putO p.dst u)).putO f.dst v).env := by
  have eu : E.dr u = u := Eff.dr_id hf.eff fun b hb hw => names_dr ha.w2 ha.n2 (hp.vids b hb) hw
  have ev : F.dr v = v := Eff.dr_id hp.eff fun b hb hw => names_dr ha.w1 ha.n1 (hf.vids b hb) hw
  have ec : (st.env.map E.dr).map F.dr = (st.env.map F.dr).map E.dr := by
   simp only [List.map_map]; apply List.map_congr_left; intro x _; exact Eff.dr_comm F E x
  cases hpd : p.dst with
  | none =>
   cases hfd : f.dst with
   | none => simp only [St.putO, Eff.ap_env]; exact ec
   | some d => simp only [St.putO, St.put, Eff.ap_env, List.map_set, ev]; rw [ec]
  | some d =>
   cases hfd : f.dst with
   | none => simp only [St.putO, St.put, Eff.ap_env, List.map_set, eu]; rw [ec]
   | some d' =>
    have hne : d' ≠ d := fun hh => ha.d3 d hpd (by rw [hfd, hh])
    simp only [St.putO, St.put, Eff.ap_env, List.map_set, ev, eu]
    rw [ec, List.set_comm _ _ hne]
 revert hheap henv
 generalize (F.ap ((E.ap st).putO f.dst v)).putO p.dst u = s1
 generalize (E.ap ((F.ap st).putO p.dst u)).putO f.dst v = s2
 intro h1 h2
 cases s1; cases s2
 cases h1; cases h2; rfl
end
end Go.Eng
