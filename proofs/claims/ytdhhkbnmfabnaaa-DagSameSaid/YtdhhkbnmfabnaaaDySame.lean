/-
 DagSame: a reduction keeps Before, and is its own reduction.
-/
import Derived.Test.YtdhhkbnmfabnaaaDyRed
set_option linter.all false
namespace Go.Eng.R13
open Go Go.RowKit Go.Eng
theorem all_len : ∀ (N : Nat) (l : List Nat), (∀ v, v < N → v ∈ l) → N ≤ l.length
 | 0, _, _ => Nat.zero_le _
 | N + 1, l, h => by
  have h1 := all_len N (l.erase N) fun v hv => (List.mem_erase_of_ne (by omega)).2 (h v (by omega))
  have := List.length_erase_of_mem (h N (by omega))
  have hp : 0 < l.length := List.length_pos_of_mem (h N (by omega))
  omega
section
variable {N m : Nat} {f : FF}
theorem next_ok {r : Nat → Nat} (hr : ∀ a b, Ed m f a b → a < N ∧ r a < r b) (hg : ∀ i, i < m → 0 ≤ ea f i) (out : List Nat) : ∀ (D v : Nat), v < N → v ∉ out → r v ≤ D → ∃ w, w < N ∧ free m f out w = true
 | D, v, hv, ho, hD => by
  by_cases q : waits m f out v = true
  ·obtain ⟨i, hi, he, ha⟩ := waits_iff.1 q
   have h0 := hg i hi
   have hE : Ed m f (ea f i).toNat v := ⟨i, hi, by omega, he⟩
   obtain ⟨h1, h2⟩ := hr _ _ hE
   cases D with
   | zero => omega
   | succ D => exact next_ok hr hg out D (ea f i).toNat h1 ha (by omega)
  ·refine ⟨v, hv, ?_⟩
   unfold free
   have : waits m f out v = false := by simpa using q
   rw [this]; simp [ho]
theorem run_ok {r : Nat → Nat} (hr : ∀ a b, Ed m f a b → a < N ∧ r a < r b) (hg : ∀ i, i < m → 0 ≤ ea f i) : ∀ (d : Nat) (out : List Nat), out.length + d = N → ∃ l, run N m f d out = some l
 | 0, out, _ => ⟨out, rfl⟩
 | d + 1, out, h => by
  have : ∃ v, v < N ∧ v ∉ out := by
   apply Classical.byContradiction
   intro hno
   have := all_len N out fun v hv => Classical.byContradiction fun h => hno ⟨v, hv, h⟩
   omega
  obtain ⟨v, hv, ho⟩ := this
  obtain ⟨w, hw, hf⟩ := next_ok hr hg out (r v) v hv ho (Nat.le_refl _)
  unfold run
  cases hx : next N m f out with
  | none =>
   have := List.find?_eq_none.1 hx w (by simpa using hw)
   exact (this hf).elim
  | some x => exact run_ok hr hg d (out ++ [x]) (by simp; omega)
end
open Classical in
noncomputable def pos (N : Nat) (p : Nat → Nat) (v : Nat) : Nat := if h : ∃ k, k < N ∧ p k = v then Classical.choose h else 0
theorem pos_spec {N : Nat} {p : Nat → Nat} {v : Nat} (h : ∃ k, k < N ∧ p k = v) : pos N p v < N ∧ p (pos N p v) = v := by
 unfold pos
 rw [dif_pos h]
 exact Classical.choose_spec h
section
variable {N m : Nat} {f : FF} {p : Nat → Nat}
theorem Topo.pos_lt (ht : Topo N m f p) {a b : Nat} (h : Path m f a b) (hb : b < N) : a < N ∧ pos N p a < pos N p b := by
 obtain ⟨h1, h2⟩ := pos_spec (ht.all b hb)
 obtain ⟨k, hk, e⟩ := ht.path h _ h1 h2
 have hk' : k < N := by omega
 obtain ⟨h3, h4⟩ := pos_spec ⟨k, hk', e⟩
 have := ht.inj _ _ h3 hk' (by rw [h4, e])
 exact ⟨by rw [← e]; exact ht.lt k hk', by omega⟩
end
section
variable {n : Int} {m k : Nat} {f g : FF}
theorem ed_red (hr : prsP k g = red m f) {a b : Nat} : Ed k g a b ↔ Ed m f a b ∧ ¬ Far m f a b := by
 rw [ed_iff, hr]
 unfold red
 rw [List.mem_filter, ds_mem, ← ed_iff, keepB_iff, Int.toNat_natCast, Int.toNat_natCast]
theorem ed_lt (hg : Good n m f) {a b : Nat} (h : Ed m f a b) : a < Int.toNat n ∧ b < Int.toNat n := by
 obtain ⟨i, hi, h1, h2⟩ := h
 have := hg i hi
 omega
theorem path_red (hA : Acyc n m f) (hr : prsP k g = red m f) {a b : Nat} : Path k g a b ↔ Path m f a b := by
 obtain ⟨p, ht⟩ := hA.topo
 have hg := hA.2.1
 have hlt : ∀ a b, Path m f a b → b < Int.toNat n := fun a b h => by
  cases h with
  | one h => exact (ed_lt hg h).2
  | snoc _ h => exact (ed_lt hg h).2
 constructor
 ·exact Path.mono fun a b h => ((ed_red hr).1 h).1
 ·have key : ∀ (D : Nat) (a b : Nat), Path m f a b → pos (Int.toNat n) p b - pos (Int.toNat n) p a ≤ D → Path k g a b := by
   intro D
   induction D with
   | zero =>
    intro a b h hD
    have := (ht.pos_lt h (hlt _ _ h)).2
    omega
   | succ D ih =>
    intro a b h hD
    have h0 := (ht.pos_lt h (hlt _ _ h)).2
    cases h with
    | one h =>
     by_cases q : Far m f a b
     ·obtain ⟨c, h1, h2⟩ := q
      have k1 := (ht.pos_lt (.one h1) (ed_lt hg h1).2).2
      have k2 := (ht.pos_lt h2 (hlt _ _ h2)).2
      exact (ih a c (.one h1) (by omega)).trans (ih c b h2 (by omega))
     ·exact .one ((ed_red hr).2 ⟨h, q⟩)
    | snoc h1 h2 =>
     rename_i c
     have k1 := (ht.pos_lt h1 (hlt _ _ h1)).2
     have k2 := (ht.pos_lt (.one h2) (ed_lt hg h2).2).2
     exact (ih a c h1 (by omega)).trans (ih c b (.one h2) (by omega))
  exact fun h => key _ a b h (Nat.le_refl _)
theorem acyc_red (hA : Acyc n m f) (hr : prsP k g = red m f) : Acyc n k g := by
 obtain ⟨p, ht⟩ := hA.topo
 have hg := hA.2.1
 have hg' : Good n k g := good_of hg fun x hx => by
  rw [hr] at hx
  unfold red at hx
  exact (ds_mem x).1 (List.mem_filter.1 hx).1
 refine ⟨hA.1, hg', run_ok (r := pos (Int.toNat n) p) (fun a b h => ?_) (fun i hi => (hg' i hi).1) (Int.toNat n) [] (by simp)⟩
 have h := ((ed_red hr).1 h).1
 exact ht.pos_lt (.one h) (ed_lt hg h).2
theorem red_red (hr : prsP k g = red m f) : red k g = red m f := by
 have hs : (red m f).Pairwise (fun x y => ltP x y = true) := (ds_sorted m f).filter _
 have hd : dsP k g = red m f := by
  unfold dsP
  rw [hr, sortP_id hs, compP_id hs]
 show (dsP k g).filter (keepB k g) = red m f
 rw [hd]
 refine List.filter_eq_self.2 fun x hx => keepB_iff.2 fun ⟨c, h1, h2⟩ => ?_
 have hk : keepB m f x = true := (List.mem_filter.1 hx).2
 exact keepB_iff.1 hk ⟨c, ((ed_red hr).1 h1).1, h2.mono fun a b h => ((ed_red hr).1 h).1⟩
theorem red_len (hr : prsP k g = red m f) : k ≤ m := by
 have h1 : k = (red m f).length := by rw [← hr, prsP_len]
 have h2 : (red m f).length ≤ (dsP m f).length := List.length_filter_le ..
 have := ds_len m f
 omega
end
theorem l240 {ρ : Type} {u : Nat} (k : Nat) (g g' : FF) (hk : k ≤ 1000000) (h : ∀ i, i < k → ea g i = ea g' i ∧ eb g i = eb g' i) (k0 k1 : Option ρ) : ∀ (d i t : Nat) (x : Int), x = (i : Int) → i + d = k → d < t → L240v1 u k g k g' t x k0 k1 = k1
 | 0, i, t + 1, x, hx, hi, ht => by
  unfold L240v1
  rw [decide_eq_false (show ¬ x < Int.ofNat k by simp only [Int.ofNat_eq_natCast]; omega), cond_false]
 | d + 1, i, t + 1, x, hx, hi, ht => by
  have h2 : inb x k = true := inb_true (by omega) (by omega)
  have h3 : Int.toNat x = i := by omega
  obtain ⟨q1, q2⟩ := h i (by omega)
  have q1 : CV.int (g i 0) = CV.int (g' i 0) := q1
  have q2 : CV.int (g i 1) = CV.int (g' i 1) := q2
  unfold L240v1
  rw [decide_eq_true (show x < Int.ofNat k by simp only [Int.ofNat_eq_natCast]; omega), cond_true, h2, cond_true, cond_true, h3, show (!((CV.int (g i 0) == CV.int (g' i 0)) && ((CV.int (g i 1) == CV.int (g' i 1)) && true))) = false by rw [q1, q2]; simp, cond_false]
  exact l240 k g g' hk h k0 k1 d (i + 1) t _ (by rw [w64_of (by omega) (by omega)]; omega) (by omega) (by omega)
theorem edges240 {u : Nat} {k k' : Nat} {g g' : FF} (hk : k ≤ 1000000) (hu : k < u) (h : prsP k g = prsP k' g') : F240 u k g k' g' = some true := by
 have hkk : k = k' := by have := congrArg List.length h; rw [prsP_len, prsP_len] at this; exact this
 subst hkk
 unfold F240
 rw [show ((Int.ofNat k) != (Int.ofNat k)) = false by simp, cond_false]
 refine l240 k g g' hk (fun i hi => ?_) _ _ k 0 u 0 rfl (by omega) hu
 have h1 := prsP_at (g := g) hi
 have h2 := prsP_at (g := g') hi
 rw [h, h2] at h1
 have e := Option.some.inj h1
 rw [prP_e, prP_e] at e
 exact ⟨(congrArg Prod.fst e).symm, (congrArg Prod.snd e).symm⟩
theorem same10 (n : Int) (_ : I64 n) (m : Nat) (f : FF) (_ : SlIn (.pr (.int .i64) (.pr (.int .i64) .nil)) m f) (a : Int) (b : Int) (_ : I64 a) (_ : I64 b) : F249 400 n m f a b = some true := by
 unfold F249 F223
 rw [ob_some]
 by_cases hm : (Int.ofNat m) > 300
 ·rw [decide_eq_true hm, cond_true, awake_law]; rfl
 ·have hm' : m ≤ 300 := by simp only [Int.ofNat_eq_natCast] at hm; omega
  rw [decide_eq_false hm, cond_false]
  obtain ⟨k, g, c, e1, h1⟩ := reduce242 400 n m f (by omega) (by omega) (by omega)
  rw [e1, ob_some]
  dsimp only
  rcases h1 with ⟨hc, rfl, _⟩ | ⟨rfl, hA, hr⟩
  ·rw [show (c != 0) = true by simp [hc], cond_true, show (((Int.ofNat 0) == 0) == true) = true from rfl, cond_true, awake_law]; rfl
  ·have hk := red_len hr
   have hA' := acyc_red hA hr
   obtain ⟨k2, g2, c2, e2, h2⟩ := reduce242 400 n k g (by omega) (by omega) (by omega)
   rcases h2 with ⟨_, _, hno⟩ | ⟨rfl, _, hr2⟩
   ·exact (hno hA').elim
   ·rw [red_red hr, ← hr] at hr2
    obtain ⟨B1, e3, h3⟩ := before232 400 n k g a b (by omega) (by omega) (by omega)
    obtain ⟨B2, e4, h4⟩ := before232 400 n m f a b (by omega) (by omega) (by omega)
    have hB : B1 = B2 := by
     rw [Bool.eq_iff_iff, h3, h4]
     constructor
     ·rintro ⟨_, q1, q2, q3⟩
      exact ⟨hA, q1, q2, (path_red hA hr).1 q3⟩
     ·rintro ⟨_, q1, q2, q3⟩
      exact ⟨hA', q1, q2, (path_red hA hr).2 q3⟩
    rw [show ((0 : Int) != 0) = false from rfl, cond_false, e2, ob_some]
    dsimp only
    rw [show (decide ((Int.ofNat k) ≤ (Int.ofNat m)) == true) = true by rw [decide_eq_true (by simp only [Int.ofNat_eq_natCast]; omega)]; rfl, cond_true, edges240 (by omega) (by omega) hr2.symm, ob_some, show ((true : Bool) == true) = true from rfl, cond_true, show (((0 : Int) == 0) == true) = true from rfl, cond_true, e3, ob_some, e4, ob_some, hB, show ((B2 == B2) == true) = true by simp, cond_true, awake_law]
    rfl
end Go.Eng.R13
