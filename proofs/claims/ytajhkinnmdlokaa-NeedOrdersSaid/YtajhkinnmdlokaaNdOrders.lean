/-
 NeedOrders: Edges and Order return what is specified.
-/
import Derived.Test.YtajhkinnmdlokaaNdEdges
set_option linter.all false
namespace Go.Eng.R13
open Go Go.RowKit Go.Eng
def Ends (m : Nat) (f f' : FF) : Prop := ∀ i, i < m → ea f i = ea f' i ∧ eb f i = eb f' i
theorem errE_congr {n : Int} {f f' : FF} : ∀ (d i : Nat), (∀ j, i ≤ j → j < i + d → ea f j = ea f' j ∧ eb f j = eb f' j) → errE n f i d = errE n f' i d
 | 0, i, h => rfl
 | d + 1, i, h => by
  unfold errE
  obtain ⟨h1, h2⟩ := h i (Nat.le_refl _) (by omega)
  rw [h1, h2, errE_congr d (i + 1) fun j hj1 hj2 => h j (by omega) (by omega)]
theorem run_congr {N m : Nat} {f f' : FF} (h : Ends m f f') : ∀ (d : Nat) (out : List Nat), run N m f d out = run N m f' d out := by
 have hw : ∀ out v, waits m f out v = waits m f' out v := fun out v => by
  rw [Bool.eq_iff_iff, waits_iff, waits_iff]
  exact ⟨fun ⟨i, h1, h2, h3⟩ => ⟨i, h1, (h i h1).2 ▸ h2, (h i h1).1 ▸ h3⟩, fun ⟨i, h1, h2, h3⟩ => ⟨i, h1, (h i h1).2.symm ▸ h2, (h i h1).1.symm ▸ h3⟩⟩
 have hn : ∀ out, next N m f out = next N m f' out := fun out => by
  unfold next
  exact find_congr fun v _ => by unfold free; rw [hw]
 intro d
 induction d with
 | zero => intro out; rfl
 | succ d ih =>
  intro out
  unfold run
  rw [hn]
  cases next N m f' out with
  | none => rfl
  | some v => exact ih _
theorem OrdR.congr {n : Int} {m : Nat} {f f' : FF} (h : Ends m f f') {k : Nat} {g : FF} {c : Int} (ho : OrdR n m f k g c) : OrdR n m f' k g c := by
 have he : errE n f 0 m = errE n f' 0 m := errE_congr m 0 fun j _ hj => h j (by omega)
 have hG : Good n m f → Good n m f' := fun hg i hi => by rw [← (h i hi).1, ← (h i hi).2]; exact hg i hi
 cases ho with
 | range _ h1 => exact .range _ h1
 | bad _ h1 h2 => rw [he] at h2 ⊢; exact .bad _ h1 h2
 | cycle _ h1 h2 h3 => exact .cycle _ h1 (hG h2) (by rw [← run_congr h]; exact h3)
 | order _ l h1 h2 h3 h4 => exact .order _ l h1 (hG h2) (by rw [← run_congr h]; exact h3) h4
theorem ends_of {k k' : Nat} {g g' : FF} (h : prs k g = prs k' g') : k = k' ∧ Ends k g g' := by
 have h1 : k = k' := by rw [← prs_len k g, ← prs_len k' g', h]
 subst h1
 refine ⟨rfl, fun i hi => ?_⟩
 have := prs_at (g := g) hi
 rw [h, prs_at hi] at this
 simp only [Option.some.injEq, Prod.mk.injEq] at this
 exact ⟨this.1.symm, this.2.symm⟩
theorem run_lt {N m : Nat} {f : FF} : ∀ (d : Nat) (out l : List Nat), run N m f d out = some l → (∀ v, v ∈ out → v < N) → ∀ v, v ∈ l → v < N
 | 0, out, l, h, ho => by
  unfold run at h
  cases h
  exact ho
 | d + 1, out, l, h, ho => by
  unfold run at h
  cases hq : next N m f out with
  | none => rw [hq] at h; cases h
  | some v =>
   rw [hq] at h
   exact run_lt d _ l h fun w hw => by
    rcases List.mem_append.1 hw with hw | hw
    ·exact ho w hw
    ·rw [List.mem_singleton] at hw; subst hw; exact (next_some hq).1
section
variable {ρ : Type}
theorem l277 (u nb : Nat) (bg : FF) (k : Nat) (g g2 : FF) (p : Nat → Nat) (hk : k ≤ 1000) (hg : ∀ i, i < k → iv g i = (p i : Int)) (hg2 : ∀ i, i < k → iv g2 i = (p i : Int)) (hp : ∀ i, i < k → p i < nb)
  (s : ByteArray) (a1 : Nat) (f1 : FF) (a2 : Nat) (f2 : FF) (a3 : Nat) (f3 : FF) (a4 : Nat) (f4 : FF) (a5 : Nat) (f5 : FF) (k0 k1 : Nat → FF → Option ρ) :
  ∀ (d i t : Nat) (x : Int) (kk : Nat) (acc : FF), x = (i : Int) → i + d = k → d < t → kk ≤ i →
  ∃ k' g', k' = kk + d ∧ strs k' g' = strs kk acc ++ (List.range' i d).map (fun i => sv bg (p i)) ∧
   L277v1 u nb bg k g (Int.ofNat k) s a1 f1 a2 f2 a3 f3 a4 f4 a5 f5 t kk x acc k0 = k0 k' g' ∧ L255v1 u nb bg k g2 s a1 f1 a2 f2 a3 f3 a4 f4 a5 f5 t kk x acc k1 = k1 k' g'
 | 0, i, t + 1, x, kk, acc, hx, hi, ht, hkk => by
  have h1 : decide (x < Int.ofNat k) = false := decide_eq_false (by simp only [Int.ofNat_eq_natCast]; omega)
  refine ⟨kk, acc, rfl, by simp, ?_, ?_⟩
  ·unfold L277v1; rw [h1, cond_false]
  ·unfold L255v1; rw [h1, cond_false]
 | d + 1, i, t + 1, x, kk, acc, hx, hi, ht, hkk => by
  have h1 : decide (x < Int.ofNat k) = true := decide_eq_true (by simp only [Int.ofNat_eq_natCast]; omega)
  have h2 : inb x k = true := inb_true (by omega) (by omega)
  have h3 : Int.toNat x = i := by omega
  have hx1 : w64 (x + 1) = ((i + 1 : Nat) : Int) := by rw [w64_of (by omega) (by omega)]; omega
  have h4 : Nat.ble (kk + 1) 1073741824 = true := by simp; omega
  have e1 : CV.int (g i 0) = (p i : Int) := hg i (by omega)
  have e2 : CV.int (g2 i 0) = (p i : Int) := hg2 i (by omega)
  have h5 : inb (p i : Int) nb = true := inb_true (by omega) (by have := hp i (by omega); omega)
  have h6 : Int.toNat (p i : Int) = p i := by omega
  obtain ⟨k', g', b1, b2, b3, b4⟩ := l277 u nb bg k g g2 p hk hg hg2 hp s a1 f1 a2 f2 a3 f3 a4 f4 a5 f5 k0 k1 d (i + 1) t (w64 (x + 1)) (kk + 1) (joinF kk acc (rowsF 1 [.s (CV.str (bg (p i) 0))])) hx1 (by omega) (by omega) (by omega)
  refine ⟨k', g', by omega, ?_, ?_, ?_⟩
  ·rw [b2, strs_join, List.range'_succ, List.map_cons, List.append_assoc]; rfl
  ·unfold L277v1
   rw [h1, cond_true, h2, cond_true, h3, e1, h5, cond_true, h4, cond_true, h6]
   exact b3
  ·unfold L255v1
   rw [h1, cond_true, h2, cond_true, h3, e2, h5, cond_true, h4, cond_true, h6]
   exact b4
theorem l269 (u : Nat) (k : Nat) (g : FF) (hk : k ≤ 1000000) (k0 k1 : Option ρ) : ∀ (d i t : Nat) (x : Int), x = (i : Int) → i + d = k → d < t → L269v1 u k g k g t x k0 k1 = k1
 | 0, i, t + 1, x, hx, hi, ht => by
  unfold L269v1
  rw [show decide (x < Int.ofNat k) = false from decide_eq_false (by simp only [Int.ofNat_eq_natCast]; omega), cond_false]
 | d + 1, i, t + 1, x, hx, hi, ht => by
  have h1 : decide (x < Int.ofNat k) = true := decide_eq_true (by simp only [Int.ofNat_eq_natCast]; omega)
  have h2 : inb x k = true := inb_true (by omega) (by omega)
  have hx1 : w64 (x + 1) = ((i + 1 : Nat) : Int) := by rw [w64_of (by omega) (by omega)]; omega
  unfold L269v1
  rw [h1, cond_true, h2, cond_true, cond_true, tl_eq, decide_eq_true rfl, Bool.not_true, cond_false]
  exact l269 u k g hk k0 k1 d (i + 1) t _ hx1 (by omega) (by omega)
theorem same269 (u : Nat) (k : Nat) (g : FF) (hk : k ≤ 1000000) (hu : k < u) : F269 u k g k g = some true := by
 unfold F269
 rw [show ((Int.ofNat k) != (Int.ofNat k)) = false by simp, cond_false]
 exact l269 u k g hk _ _ k 0 u 0 rfl (by omega) hu
theorem l271 (u : Nat) (k : Nat) (g g' : FF) (hk : k ≤ 1000000) (he : Ends k g g') (k0 k1 : Option ρ) : ∀ (d i t : Nat) (x : Int), x = (i : Int) → i + d = k → d < t → L271v1 u k g k g' t x k0 k1 = k1
 | 0, i, t + 1, x, hx, hi, ht => by
  unfold L271v1
  rw [show decide (x < Int.ofNat k) = false from decide_eq_false (by simp only [Int.ofNat_eq_natCast]; omega), cond_false]
 | d + 1, i, t + 1, x, hx, hi, ht => by
  have h1 : decide (x < Int.ofNat k) = true := decide_eq_true (by simp only [Int.ofNat_eq_natCast]; omega)
  have h2 : inb x k = true := inb_true (by omega) (by omega)
  have h3 : Int.toNat x = i := by omega
  have hx1 : w64 (x + 1) = ((i + 1 : Nat) : Int) := by rw [w64_of (by omega) (by omega)]; omega
  obtain ⟨e1, e2⟩ := he i (by omega)
  have e1 : CV.int (g i 0) = CV.int (g' i 0) := e1
  have e2 : CV.int (g i 1) = CV.int (g' i 1) := e2
  unfold L271v1
  rw [h1, cond_true, h2, cond_true, cond_true, h3, e1, e2]
  simp only [beq_self_eq_true, Bool.and_self, Bool.not_true, cond_false]
  exact l271 u k g g' hk he k0 k1 d (i + 1) t _ hx1 (by omega) (by omega)
theorem same271 (u : Nat) (k : Nat) (g g' : FF) (hk : k ≤ 1000000) (hu : k < u) (he : Ends k g g') : F271 u k g k g' = some true := by
 unfold F271
 rw [show ((Int.ofNat k) != (Int.ofNat k)) = false by simp, cond_false]
 exact l271 u k g g' hk he _ _ k 0 u 0 rfl (by omega) hu
end
inductive NOrd (m : Nat) (f : FF) (nb : Nat) (bg : FF) (k : Nat) (g : FF) (c : Int) : Prop
 | bad (ke : Nat) (ge go : FF) (hp : prs ke ge = edgesL m f (sv bg) nb (List.range nb)) (ho : OrdR (nb : Int) ke ge 0 go c) (hc : c ≠ 0) (hk : k = 0)
 | good (ke : Nat) (ge go : FF) (l : List Nat) (hp : prs ke ge = edgesL m f (sv bg) nb (List.range nb)) (hg : Good (nb : Int) ke ge) (hr : run nb ke ge nb [] = some l) (hc : c = 0) (hk : k = nb) (hs : strs k g = l.map (sv bg))
structure NOut (u : Nat) (s : ByteArray) (a1 : Nat) (f1 : FF) (a2 : Nat) (f2 : FF) (a3 : Nat) (f3 : FF) (a4 : Nat) (f4 : FF) (m : Nat) (f : FF) (nb : Nat) (bg : FF) (ke : Nat) (ge ge' : FF) (k : Nat) (g : FF) (c : Int) : Prop where
 bl : F252 u s a1 f1 a2 f2 a3 f3 a4 f4 m f = some (nb, bg)
 le : nb ≤ a1
 bls : strs nb bg = bls a1 f1
 e1 : F276 u s a1 f1 a2 f2 a3 f3 a4 f4 m f = some (ke, ge)
 e2 : F254 u s a1 f1 a2 f2 a3 f3 a4 f4 m f = some (ke, ge')
 kle : ke ≤ 3600
 ends : Ends ke ge ge'
 prs : prs ke ge = edgesL m f (sv bg) nb (List.range nb)
 len : k ≤ 60
 o1 : F277 u s a1 f1 a2 f2 a3 f3 a4 f4 m f = some (k, g, c)
 o2 : F255 u s a1 f1 a2 f2 a3 f3 a4 f4 m f = some (k, g, c)
 out : NOrd m f nb bg k g c
theorem OrdR.ok {n : Int} {m : Nat} {f : FF} {k : Nat} {g : FF} {c : Int} (h : OrdR n m f k g c) (hc : c = 0) : ∃ l, 0 ≤ n ∧ Good n m f ∧ run (Int.toNat n) m f (Int.toNat n) [] = some l ∧ k = Int.toNat n ∧ ∀ i, i < Int.toNat n → iv g i = ((l.getD i 0 : Nat) : Int) := by
 cases h with
 | range => cases hc
 | bad _ _ h => exact absurd hc h
 | cycle => cases hc
 | order _ l h1 h2 h3 h4 => exact ⟨l, h1.1, h2, h3, rfl, h4⟩
theorem orders277 (u : Nat) (s : ByteArray) (a1 : Nat) (f1 : FF) (a2 : Nat) (f2 : FF) (a3 : Nat) (f3 : FF) (a4 : Nat) (f4 : FF) (m : Nat) (f : FF) (hm : m ≤ 60) (ha : a1 ≤ 60) (hu : 4000 ≤ u) :
  ∃ nb bg ke ge ge' k g c, NOut u s a1 f1 a2 f2 a3 f3 a4 f4 m f nb bg ke ge ge' k g c := by
 obtain ⟨nb, bg, k2, g2, e1, e2, e3, e4, e5, e6⟩ := edges254 u s a1 f1 a2 f2 a3 f3 a4 f4 m f (by omega) (by omega) (by omega) (by omega)
 obtain ⟨k1, g1, d1, d2, d3⟩ := edges276 u s a1 f1 a2 f2 a3 f3 a4 f4 m f (by omega) (by omega) (by omega) (by omega) e1 e3
 obtain ⟨hk, hends⟩ := ends_of (d3.trans e6.symm)
 subst hk
 have hke : k1 ≤ 3600 := by
  have : nb * nb ≤ 60 * 60 := Nat.mul_le_mul (by omega) (by omega)
  omega
 obtain ⟨ko, go, c, o1, o2⟩ := order225 u (Int.ofNat nb) k1 g1 (by omega) (by omega) (by omega)
 obtain ⟨ko', go', c', o1', o2'⟩ := order229 u (Int.ofNat nb) k1 g2 (by omega) (by omega) (by omega)
 have o2'' : OrdR (Int.ofNat nb) k1 g1 ko' go' c' := o2'.congr fun i hi => ⟨(hends i hi).1.symm, (hends i hi).2.symm⟩
 obtain ⟨q1, q2, q3⟩ := o2.same o2''
 subst q1 q2
 have big : ∀ k g, F277 u s a1 f1 a2 f2 a3 f3 a4 f4 m f = some (k, g, c) → F255 u s a1 f1 a2 f2 a3 f3 a4 f4 m f = some (k, g, c) → k ≤ 60 → NOrd m f nb bg k g c → ∃ nb bg ke ge ge' k g c, NOut u s a1 f1 a2 f2 a3 f3 a4 f4 m f nb bg ke ge ge' k g c :=
  fun k g h1 h2 h3 h4 => ⟨nb, bg, k1, g1, g2, k, g, c, e1, e3, e2, d1, e4, hke, hends, d3, h3, h1, h2, h4⟩
 cases hc : (c != 0) with
 | true =>
  have hc0 : c ≠ 0 := by simpa using hc
  refine big 0 (fun _ _ => .any) ?_ ?_ (by omega) (.bad k1 g1 go d3 ?_ hc0 rfl)
  ·unfold F277 FT277
   rw [blocks251, e1, ob_some]
   dsimp only
   rw [d1, ob_some]
   dsimp only
   rw [o1, ob_some]
   dsimp only
   rw [hc, cond_true, ob_some]
   rfl
  ·unfold F255 FT255
   rw [e1, ob_some, e4, ob_some]
   dsimp only
   rw [o1', ob_some]
   dsimp only
   rw [hc, cond_true, ob_some]
   rfl
  ·have : ko = 0 := by cases o2 <;> first | rfl | exact absurd rfl hc0
   subst this
   exact o2
 | false =>
  have hc0 : c = 0 := by simpa using hc
  subst hc0
  have hord : ∃ l, Good (nb : Int) k1 g1 ∧ run nb k1 g1 nb [] = some l ∧ ko = nb ∧ ∀ i, i < nb → iv go i = ((l.getD i 0 : Nat) : Int) := by
   obtain ⟨l, _, h2, h3, h4, h5⟩ := o2.ok rfl
   exact ⟨l, h2, h3, h4, h5⟩
  obtain ⟨l, r1, r2, r3, r4⟩ := hord
  subst r3
  have hlen : l.length = ko := by have := run_len ko [] l r2; simpa using this
  have hlt : ∀ i, i < ko → l.getD i 0 < ko := fun i hi => by
   rw [List.getD_eq_getElem?_getD, List.getElem?_eq_getElem (by omega)]
   exact run_lt ko [] l r2 (by simp) _ (List.getElem_mem _)
  obtain ⟨k', g', b1, b2, b3, b4⟩ := l277 (ρ := Bool × Nat × FF × Int) u ko bg ko go go' (fun i => l.getD i 0) (by omega) r4 (fun i hi => by rw [← q3 i hi]; exact r4 i hi) hlt s a1 f1 a2 f2 a3 f3 a4 f4 m f (fun x52 x53 => (some (false, x52, x53, 0))) (fun x50 x51 => (some (false, x50, x51, 0))) ko 0 u 0 0 (fun _ _ => .any) rfl (by omega) (by omega) (Nat.le_refl _)
  have hk' : k' = ko := by omega
  refine big k' g' ?_ ?_ (by omega) (.good k1 g1 go l d3 r1 r2 rfl hk' ?_)
  ·unfold F277 FT277
   rw [blocks251, e1, ob_some]
   dsimp only
   rw [d1, ob_some]
   dsimp only
   rw [o1, ob_some]
   dsimp only
   rw [hc, cond_false]
   rw [show L277v1 (ρ := Bool × Nat × FF × Int) u ko bg ko go (Int.ofNat ko) s a1 f1 a2 f2 a3 f3 a4 f4 m f u 0 0 (fun _ _ => .any) (fun x52 x53 => (some (false, x52, x53, 0))) = _ from b3, ob_some]
   rfl
  ·unfold F255 FT255
   rw [e1, ob_some, e4, ob_some]
   dsimp only
   rw [o1', ob_some]
   dsimp only
   rw [hc, cond_false]
   rw [show L255v1 (ρ := Bool × Nat × FF × Int) u ko bg ko go' s a1 f1 a2 f2 a3 f3 a4 f4 m f u 0 0 (fun _ _ => .any) (fun x50 x51 => (some (false, x50, x51, 0))) = _ from b4, ob_some]
   rfl
  ·rw [b2, ← List.range_eq_range']
   show [] ++ _ = _
   rw [List.nil_append]
   apply List.ext_getElem?
   intro i
   rw [List.getElem?_map, List.getElem?_map]
   by_cases hi : i < ko
   ·rw [List.getElem?_range hi, List.getElem?_eq_getElem (by omega)]
    simp only [Option.map_some]
    rw [List.getD_eq_getElem?_getD, List.getElem?_eq_getElem (by omega)]; rfl
   ·rw [List.getElem?_eq_none (by simp; omega), List.getElem?_eq_none (by omega)]; rfl
theorem l268 {ρ : Type} (u : Nat) (y : Int) (s : ByteArray) (a1 : Nat) (f1 : FF) (a2 : Nat) (f2 : FF) (a3 : Nat) (f3 : FF) (n : Nat) (f : FF) (a5 : Nat) (f5 : FF) (hn : n ≤ 1000000) (k0 k1 : Option ρ) :
  ∀ (d i t : Nat) (x : Int), x = (i : Int) → i + d = n → d < t → L268v1 u y s a1 f1 a2 f2 a3 f3 n f a5 f5 t x k0 k1 = k0 ∨ L268v1 u y s a1 f1 a2 f2 a3 f3 n f a5 f5 t x k0 k1 = k1
 | 0, i, t + 1, x, hx, hi, ht => by
  right
  unfold L268v1
  rw [show decide (x < Int.ofNat n) = false from decide_eq_false (by simp only [Int.ofNat_eq_natCast]; omega), cond_false]
 | d + 1, i, t + 1, x, hx, hi, ht => by
  have h1 : decide (x < Int.ofNat n) = true := decide_eq_true (by simp only [Int.ofNat_eq_natCast]; omega)
  have h2 : inb x n = true := inb_true (by omega) (by omega)
  have hx1 : w64 (x + 1) = ((i + 1 : Nat) : Int) := by rw [w64_of (by omega) (by omega)]; omega
  have ih := l268 u y s a1 f1 a2 f2 a3 f3 n f a5 f5 hn k0 k1 d (i + 1) t (w64 (x + 1)) hx1 (by omega) (by omega)
  unfold L268v1
  rw [h1, cond_true, h2, cond_true, cond_true]
  cases (decide (Int.ofNat (CV.len (f (Int.toNat x) 2)) > y) == false) with
  | false => left; rfl
  | true =>
   rw [cond_true]
   cases decide (Int.ofNat (CV.len (f (Int.toNat x) 4)) > y) with
   | true => left; rfl
   | false => rw [cond_false]; exact ih
theorem gt_bif {α : Type} (n : Nat) (x y : α) : (bif (decide (Int.ofNat n > 60) == false) then x else y) = if n ≤ 60 then x else y := by
 by_cases h : n ≤ 60
 ·rw [if_pos h, decide_eq_false (by simp only [Int.ofNat_eq_natCast]; omega)]; rfl
 ·rw [if_neg h, decide_eq_true (by simp only [Int.ofNat_eq_natCast]; omega)]; rfl
theorem few268 (u : Nat) (s : ByteArray) (a1 : Nat) (f1 : FF) (a2 : Nat) (f2 : FF) (a3 : Nat) (f3 : FF) (a4 : Nat) (f4 : FF) (a5 : Nat) (f5 : FF) (hu : 4000 ≤ u) :
  ∃ b, F268 u s a1 f1 a2 f2 a3 f3 a4 f4 a5 f5 60 = some b ∧ (b = true → a1 ≤ 60 ∧ a2 ≤ 60 ∧ a3 ≤ 60 ∧ a4 ≤ 60 ∧ a5 ≤ 60) := by
 unfold F268
 simp only [gt_bif]
 by_cases h1 : a1 ≤ 60
 ·rw [if_pos h1]
  by_cases h2 : a2 ≤ 60
  ·rw [if_pos h2]
   by_cases h3 : a3 ≤ 60
   ·rw [if_pos h3]
    by_cases h4 : a4 ≤ 60
    ·rw [if_pos h4]
     by_cases h5 : a5 ≤ 60
     ·rw [decide_eq_false (show ¬ Int.ofNat a5 > 60 by simp only [Int.ofNat_eq_natCast]; omega), cond_false]
      rcases l268 u 60 s a1 f1 a2 f2 a3 f3 a4 f4 a5 f5 (by omega) (some false) (some true) a4 0 u 0 rfl (by omega) (by omega) with h | h
      ·exact ⟨false, h, fun h => by cases h⟩
      ·exact ⟨true, h, fun _ => ⟨h1, h2, h3, h4, h5⟩⟩
     ·rw [decide_eq_true (show Int.ofNat a5 > 60 by simp only [Int.ofNat_eq_natCast]; omega), cond_true]
      exact ⟨false, rfl, fun h => by cases h⟩
    ·rw [if_neg h4]; exact ⟨false, rfl, fun h => by cases h⟩
   ·rw [if_neg h3]; exact ⟨false, rfl, fun h => by cases h⟩
  ·rw [if_neg h2]; exact ⟨false, rfl, fun h => by cases h⟩
 ·rw [if_neg h1]; exact ⟨false, rfl, fun h => by cases h⟩
theorem few274 (u : Nat) (s : ByteArray) (a1 : Nat) (f1 : FF) (a2 : Nat) (f2 : FF) (a3 : Nat) (f3 : FF) (a4 : Nat) (f4 : FF) (a5 : Nat) (f5 : FF) (r : Nat) (rf : FF) (d : Nat) (df : FF) (hu : 4000 ≤ u) :
  ∃ b, F274 u s a1 f1 a2 f2 a3 f3 a4 f4 a5 f5 r rf d df = some b ∧ (b = true → a1 ≤ 60 ∧ a2 ≤ 60 ∧ a3 ≤ 60 ∧ a4 ≤ 60 ∧ a5 ≤ 60 ∧ r ≤ 60 ∧ d ≤ 60) := by
 obtain ⟨b, e, hb⟩ := few268 u s a1 f1 a2 f2 a3 f3 a4 f4 a5 f5 hu
 unfold F274
 rw [e, ob_some]
 cases b with
 | false => exact ⟨false, rfl, fun h => by cases h⟩
 | true =>
  rw [show (true == true) = true from rfl, cond_true]
  by_cases hr : Int.ofNat r ≤ 60
  ·rw [decide_eq_true hr, show (true == true) = true from rfl, cond_true]
   refine ⟨_, rfl, fun h => ?_⟩
   have h := of_decide_eq_true h
   simp only [Int.ofNat_eq_natCast] at h hr
   have := hb rfl
   omega
  ·rw [decide_eq_false hr]
   exact ⟨false, rfl, fun h => by cases h⟩
theorem orders51 (s : ByteArray) (a1 : Nat) (f1 : FF) (a2 : Nat) (f2 : FF) (a3 : Nat) (f3 : FF) (a4 : Nat) (f4 : FF) (a5 : Nat) (f5 : FF) (_ : SlIn (.pr .str (.pr (.int .i64) (.pr .str .nil))) a1 f1) (_ : SlIn (.pr .str (.pr (.int .i64) (.pr (.int .i64) (.pr .str (.pr .str (.pr (.int .i64) (.pr (.sl (.pr (.int .i64) (.pr (.int .i64) .nil))) (.pr (.sl (.pr (.sl (.pr (.int .i64) (.pr (.int .i64) .nil))) .nil)) (.pr .str (.pr (.int .i64) (.pr (.int .i64) (.pr (.int .i64) (.pr (.int .i64) (.pr (.int .i64) (.pr (.int .i64) (.pr (.int .i64) (.pr (.int .i64) (.pr (.int .i64) .nil)))))))))))))))))) a2 f2) (_ : SlIn (.pr .str (.pr .str (.pr .str (.pr (.int .i64) (.pr (.int .i64) (.pr (.int .i64) .nil)))))) a3 f3) (_ : SlIn (.pr .str (.pr .str (.pr (.sl (.pr .str .nil)) (.pr (.int .i64) (.pr (.sl (.pr .str .nil)) .nil))))) a4 f4) (_ : SlIn (.pr (.int .i64) (.pr .str (.pr .str .nil))) a5 f5) : F279 4000 s a1 f1 a2 f2 a3 f3 a4 f4 a5 f5 = some true := by
 obtain ⟨b, e, hb⟩ := few274 4000 s a1 f1 a2 f2 a3 f3 a4 f4 a5 f5 0 (fun _ _ => .any) 0 (fun _ _ => .any) (Nat.le_refl _)
 unfold F279
 rw [e, ob_some]
 cases b with
 | false => rw [Bool.not_false, cond_true, awake_law]; rfl
 | true =>
  rw [Bool.not_true, cond_false]
  obtain ⟨h1, h2, h3, h4, h5, _⟩ := hb rfl
  obtain ⟨nb, bg, ke, ge, ge', k, g, c, o⟩ := orders277 4000 s a1 f1 a2 f2 a3 f3 a4 f4 a5 f5 h5 h1 (Nat.le_refl _)
  have hk := o.len
  have hke := o.kle
  rw [o.o1, ob_some, o.o2, ob_some, o.e1, ob_some, o.e2, ob_some]
  dsimp only
  rw [same271 4000 ke ge ge' (by omega) (by omega) o.ends, ob_some, show (true == true) = true from rfl, cond_true, same269 4000 k g (by omega) (by omega), ob_some, show (true == true) = true from rfl, cond_true]
  rw [show ((c == c) == true) = true by simp, cond_true, awake_law]
  rfl
end Go.Eng.R13
