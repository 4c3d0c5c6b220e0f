/-
 Functions that turn the rows of a slice in place and return the first ones of them.
-/
import Derived.Test.YtdhhkbnmfabnaaaEngV
set_option linter.all false
namespace Go.Eng
open Go Go.RowKit
variable {df : DF}
def finishU (r : Kd) (t n : Nat) (e : Ex) (st : St) : Option (Nat × (Nat → Nat → CV)) :=
 match e with
 | .exit _ => none
 | _ => match st.env.getD t .u with
  | .x (.own 0 0 m) => match st.heap with
   | .arr r' n' g' :: _ => bif r'.beq r && Nat.beq n' n then some (m, g') else none
   | _ => none
  | _ => none
def evalU (C : Oracle) (fuel : Nat) (F : AF) (t : Nat) (r : Kd) (n : Nat) (g : Nat → Nat → CV) (rest : List A) : Option (Nat × (Nat → Nat → CV)) :=
 evalC C fuel F.body ⟨.x (.own 0 0 n) :: (rest.map A.toV ++ List.replicate (F.n - (rest.length + 1)) .undef), [.arr r.mark n g]⟩ (finishU r.mark t n)
theorem evalU_sound {P : Program} {C : Oracle} (hmix : P.follows .mixedOrders = true) (hC : Sound P C) {f : FuncId} {F : AF} (hF : FFits P f F) {tr : Nat} (hres : F.res = [.tmp tr]) {fuel : Nat} {r : Kd} {n m : Nat} {g g' : Nat → Nat → CV} {rest : List A}
  (hr : 0 < r.len) (hfl : r.flat = true) (h : evalU C fuel F tr r n g rest = some (m, g')) (hmn : m ≤ n) (w : World) (okA : Nat → Prop) (gb cap : Nat) (cur : Array Value) (e : TypeId) (vs : Array Value) (hok : ∀ g, okA g → g < w.heap.size) (hgl : GlobR okA w) (hgb : ¬ okA gb)
  (hargs : ARs okA w rest vs) (hw : w.heap[gb]? = some (.cells cur e (0, 0))) (hnc : n ≤ cap) (hcm : cap ≤ maxLen) (hsz : cur.size = cap * r.len)
  (hcells : ∀ i j, i < n → j < r.len → (r.nth j).okP (g i j) ∧ ∃ u, cur[i * r.len + j]? = some u ∧ CR okA w (g i j) u) :
  Calls P f (#[.slice (some ⟨gb, 0, none⟩) n cap] ++ vs) w fun e' w' => ∃ w1 cur' a' cap', e' = .returned (.slice a' m cap') ∧ (m = 0 ∧ cap' = 0 ∨ a' = some ⟨gb, 0, none⟩ ∧ cap' = cap) ∧ Below w.heap.size w w1 ∧
   w'.heap = (w1.setRow gb cur').heap ∧ w'.os = w1.os ∧ (w'.tape = w1.tape ∧ w1.drawn ≤ w'.drawn) ∧ w'.output = w1.output ∧ cur'.size = cur.size ∧
   ∀ i j, i < m → j < r.len → (r.nth j).okP (g' i j) ∧ ∃ u, cur'[i * r.len + j]? = some u ∧ CR okA w (g' i j) u := by
 obtain ⟨fn, c, hfn, hbody, hnn, hres2, hfits⟩ := hF.fn
 refine calls_of_wp hfn hbody ?_
 unfold evalU at h
 have hgs : gb < w.heap.size := (Array.getElem?_eq_some_iff.1 hw).1
 have hcells' : ∀ i j, i < n → j < r.mark.len → (r.mark.nth j).okP (g i j) ∧ ∃ u, cur[i * r.mark.len + j]? = some u ∧ CR okA w (g i j) u := by
  intro i j hi hj
  rw [Kd.mark_len] at hj ⊢
  rw [Kd.mark_nth r j hj]
  exact hcells i j hi hj
 have hm : MR ⟨w, fun k => k = gb⟩ okA (fun b => if b = 0 then some gb else none) okA ([.arr r.mark n g] : List Blk) w := by
  refine ⟨⟨rfl, rfl, rfl, Nat.le_refl _, fun _ _ _ => rfl, fun k _ cur e hc => ⟨cur, hc, rfl⟩, Nat.le_refl _⟩, fun g hg => ⟨hok g hg, .inl hg⟩, fun g hg => hg, fun b g hg => ?_, fun b b' g hg hg' => ?_, fun b o hb => ?_, fun b g r n f hb _ hg => ?_⟩
  ·split at hg
   ·cases hg
    exact ⟨.inr rfl, hgs, hgb⟩
   ·cases hg
  ·split at hg
   ·split at hg'
    ·omega
    ·cases hg'
   ·cases hg
  ·cases b with
   | zero =>
    simp at hb; subst hb
    exact ⟨by rw [Kd.mark_len]; exact hr, .inr ⟨gb, cur, e, rfl, hw, by rw [Kd.mark_len, hsz]; exact Nat.mul_le_mul_right _ hnc, hcells'⟩⟩
   | succ b => simp at hb
  ·split at hg
   ·cases hg; rfl
   ·cases hg
 have he : ER ([], []) (fun b => if b = 0 then some gb else none) okA ([.arr r.mark n g] : List Blk) w (.x (.own 0 0 n) :: (rest.map A.toV ++ List.replicate (F.n - (rest.length + 1)) .undef))
   { tmps := (#[.slice (some ⟨gb, 0, none⟩) n cap] ++ vs) ++ Array.replicate (fn.ntmps - (#[Value.slice (some ⟨gb, 0, none⟩) n cap] ++ vs).size) undef, defers := [] } := by
  refine ⟨by simp [hargs.1, hnn]; omega, fun t v ht => ?_, ⟨rfl, fun _ h => by cases h⟩, hgl⟩
  cases t with
  | zero =>
   simp at ht; subst ht
   refine ⟨.slice (some ⟨gb, 0, none⟩) n cap, by rw [Array.append_assoc, Array.getElem?_append_left (by simp)]; rfl, rfl, ?_⟩
   refine ⟨by omega, some ⟨gb, 0, none⟩, cap, rfl, hnc, hcm, .inr ⟨gb, cur, e, rfl, ?_, hw, ?_⟩⟩
   ·rw [Nat.zero_mul]
   ·rw [Kd.mark_len, Nat.zero_add]; exact hsz
  | succ t =>
   simp only [List.getElem?_cons_succ] at ht
   by_cases hlt : t < rest.length
   ·rw [List.getElem?_append_left (by simpa using hlt), List.getElem?_map] at ht
    cases hq : rest[t]? with
    | none => rw [hq] at ht; cases ht
    | some x =>
     rw [hq] at ht; cases ht
     obtain ⟨u, hu, hr⟩ := hargs.2 t x hq
     refine ⟨u, ?_, hr.toV_sound⟩
     rw [Array.getElem?_append_left (by simp [hargs.1]; omega), Array.getElem?_append_right (by simp)]; simpa using hu
   ·rw [List.getElem?_append_right (by simp; omega), List.getElem?_replicate] at ht
    split at ht
    ·rename_i hl
     cases ht
     refine ⟨undef, ?_, rfl⟩
     simp only [List.length_map] at hl
     rw [Array.getElem?_append_right (by simp [hargs.1]; omega), Array.getElem?_replicate]
     rw [if_pos (by simp [hargs.1, hnn]; omega)]
    ·cases ht
 refine evalC_sound (st := ⟨_, _⟩) (r := (m, g')) (k := finishU r.mark tr n) hmix hC fuel F.body c hfits hm he (fun e1 μ ok st a w' hm he hk => ?_) h
 rw [hres] at hres2
 have main : (match st.env.getD tr .u with
  | .x (.own 0 0 m) => match st.heap with
   | .arr r' n' g' :: _ => bif r'.beq r.mark && Nat.beq n' n then some (m, g') else none
   | _ => none
  | _ => none) = some (m, g') → ∃ v, (results fn a.tmps).run P w' = .ok v w' ∧ ∃ w1 cur' a' cap', Ending.returned v = .returned (.slice a' m cap') ∧ (m = 0 ∧ cap' = 0 ∨ a' = some ⟨gb, 0, none⟩ ∧ cap' = cap) ∧ Below w.heap.size w w1 ∧
   w'.heap = (w1.setRow gb cur').heap ∧ w'.os = w1.os ∧ (w'.tape = w1.tape ∧ w1.drawn ≤ w'.drawn) ∧ w'.output = w1.output ∧ cur'.size = cur.size ∧
   ∀ i j, i < m → j < r.len → (r.nth j).okP (g' i j) ∧ ∃ u, cur'[i * r.len + j]? = some u ∧ CR okA w (g' i j) u := by
  intro hk
  have hh0 : st.env.getD tr .u = .x (.own 0 0 m) ∧ st.heap[0]? = some (.arr r.mark n g') := by
   split at hk
   ·rename_i m1 hv
    split at hk
    ·rename_i r1 n1 g1 tl hst
     obtain ⟨hb, hk⟩ := bif_some hk
     cases hk
     rw [Bool.and_eq_true] at hb
     refine ⟨hv, ?_⟩
     rw [hst, Kd.eq_of_beq hb.1, Nat.eq_of_beq_eq_true hb.2]; rfl
    ·cases hk
   ·cases hk
  obtain ⟨hv, hst0⟩ := hh0
  have hres1 : ∃ r1, fn.results.toList = [r1] ∧ resOk P (.tmp tr) r1 = true := by
   cases hq : fn.results.toList with
   | nil => rw [hq] at hres2; cases hres2
   | cons x l =>
    rw [hq] at hres2
    simp only [resOks, Bool.and_eq_true] at hres2
    cases l with
    | nil => exact ⟨x, rfl, hres2.1⟩
    | cons y l => cases hres2.2
  obtain ⟨r1, hl1, hr1⟩ := hres1
  have run : ∀ y u, (resSem a.tmps r1).run P w' = .ok u w' → VR μ ok w' st.heap y u → (results fn a.tmps).run P w' = .ok u w' := by
   intro y u h1 _
   have hrw : results fn a.tmps = (do
     let vs ← fn.results.mapM (resSem a.tmps)
     pure (if h : vs.size = 1 then vs[0] else .tuple vs)) := by
    unfold results
    have : (fun | .tmp t => pure (a.tmps.getD t undef) | .cell x t => do loadVar t (← asAddr (a.tmps.getD x undef)) : ResultVar → Sem Value) = resSem a.tmps := by funext v; cases v <;> rfl
    rw [← this]
    rfl
   have hrun : (fn.results.mapM (resSem a.tmps)).run P w' = .ok #[u] w' := by
    rw [Array.mapM_eq_mapM_toList, map_eq_pure_bind, Sem.run_bind, hl1, List.mapM_cons]
    simp [Sem.run_bind, h1]
   rw [hrw, Sem.run_bind, hrun]
   rfl
  obtain ⟨u, h1, h2⟩ := result_run hm he hr1 (y := .x (.own 0 0 m)) (by simp only [resV, hv]) (by simp)
  have hrun := run _ u h1 h2
  obtain ⟨_, h2⟩ := h2
  rw [hst0] at h2
  obtain ⟨hle, al, cap1, rfl, hlc, hcm1, hcase⟩ := h2
  obtain ⟨_, hblk⟩ := hm.blk 0 _ hst0
  obtain ⟨cur1, hw1, hsz1⟩ := hm.below.lent gb rfl cur e hw
  have hgg : ∀ g1, μ 0 = some g1 → g1 = gb := fun g1 hg1 => hm.tag 0 g1 _ _ _ hst0 (Kd.mark_tagged r) hg1
  refine ⟨_, hrun, w'.setRow gb cur, cur1, al, cap1, rfl, ?_, ⟨⟨hm.below.os, hm.below.tape, hm.below.output, by simpa using hm.below.size, fun k hk => ?_⟩, hm.below.drawn⟩, ?_, rfl, ⟨rfl, Nat.le_refl _⟩, rfl, hsz1, fun i j hi hj => ?_⟩
  ·rcases hcase with ⟨h3, h4⟩ | ⟨g1, cur2, ee, hg1, ha, hw2, hsz2⟩
   ·exact .inl ⟨h3, h4⟩
   ·have := hgg g1 hg1
    subst this
    rw [hw1] at hw2; cases hw2
    rw [Nat.zero_mul] at ha
    refine .inr ⟨ha, ?_⟩
    rw [Kd.mark_len, Nat.zero_add] at hsz2
    have : cap1 * r.len = cap * r.len := by rw [← hsz2, hsz1, hsz]
    exact Nat.eq_of_mul_eq_mul_right hr this
  ·by_cases hkk : k = gb
   ·subst hkk
    rw [setRow_heap w' k cur1 cur _ _ hw1, hw]
   ·rw [setRow_other w' gb k cur hkk]
    exact hm.below.block k hk hkk
  ·apply Array.ext_getElem?
   intro k
   by_cases hkk : k = gb
   ·subst hkk
    rw [setRow_heap _ k cur cur1 _ _ (setRow_heap w' k cur1 cur _ _ hw1), hw1]
   ·rw [setRow_other _ gb k cur1 hkk, setRow_other w' gb k cur hkk]
  ·obtain ⟨g1, cur2, e2, hg2, hw2, _, hrows⟩ := hblk.resolve_left (fun hh => by omega)
   have := hgg g1 hg2
   subst this
   rw [hw1] at hw2; cases hw2
   obtain ⟨hk1, u, hu, hcr⟩ := hrows i j (by omega) (by rw [Kd.mark_len]; exact hj)
   rw [Kd.mark_len] at hu
   rw [Kd.mark_nth r j hj] at hk1
   exact ⟨hk1, u, hu, CR.scalar (Kd.flat_scalar r j _ hfl hj hk1) hcr⟩
 cases e1 with
 | exit id => cases hk
 | normal =>
  obtain ⟨v, hv, hR⟩ := main hk
  exact ⟨he.defers.1, v, hv, hR⟩
 | ret =>
  obtain ⟨v, hv, hR⟩ := main hk
  exact ⟨he.defers.1, v, hv, hR⟩
theorem cutDen_of {P : Program} {C : Oracle} (hmix : P.follows .mixedOrders = true) (hC : Sound P C) {f : FuncId} {F : AF} (hF : FFits P f F) {tr : Nat} (hres : F.res = [.tmp tr]) {fuel : Nat} {r : Kd} {n m : Nat} {g g'' : Nat → Nat → CV} {rest : List A}
  (hr : 0 < r.len) (hfl : r.flat = true) (hmn : m ≤ n) (h0 : n = 0 → ∃ gg, evalF C fuel F (.v (.ro true r 0 g) :: rest) = some [.v (.ro true r 0 gg)])
  (h : (∀ i j, i < n → j < r.len → (r.nth j).okP (g i j)) → ∃ g', evalU C fuel F tr r n g rest = some (m, g') ∧ ∀ i j, i < m → j < r.len → g' i j = g'' i j) : CutDen P f r n g rest m g'' := by
 refine ⟨hF.ok, fun hn => ⟨by omega, fun w okA a vs hok hgl hvs => ?_⟩, fun w okA gb cap cur e vs hok hgl hgb hvs hw h1 h2 h3 h4 => ?_⟩
 ·obtain ⟨gg, h0⟩ := h0 hn
  have hd := evalF_sound hmix hC hF h0
  have hargs : ARs okA w (.v (.ro true r 0 g) :: rest) (#[.slice a 0 0] ++ vs) := by
   refine ⟨by simp [hvs.1]; omega, fun t x ht => ?_⟩
   cases t with
   | zero =>
    simp only [List.getElem?_cons_zero, Option.some.injEq] at ht; subst ht
    refine ⟨.slice a 0 0, by rw [Array.getElem?_append_left (by simp)]; rfl, ?_⟩
    show CR okA w (.ro true r 0 g) (.slice a 0 0)
    exact ⟨a, 0, rfl, Nat.zero_le _, Nat.zero_le _, (fun _ => rfl), .inl rfl⟩
   | succ t =>
    obtain ⟨u, hu, hcr⟩ := hvs.2 t x (by simpa using ht)
    refine ⟨u, ?_, hcr⟩
    rw [Array.getElem?_append_right (by simp)]; simpa using hu
  have hc := hd.2 w okA _ hok hgl hargs
  refine hc.mono fun e w' he => ?_
  obtain ⟨v, ok', h1, h2, _, _, h5⟩ := he
  obtain ⟨a', cap', h6, _, _, h7, _⟩ : CR ok' w' (.ro true r 0 gg) v := h5
  have h7 := h7 rfl
  subst h7
  exact ⟨a', by rw [h1, h6], h2⟩
 ·obtain ⟨g', hT, hg⟩ := h (fun i j hi hj => (h4 i j hi hj).1)
  refine (evalU_sound hmix hC hF hres hr hfl hT hmn w okA gb cap cur e vs hok hgl hgb hvs hw h1 h2 h3 h4).mono fun e' w' he => ?_
  obtain ⟨w1, cur', a', cap', hh⟩ := he
  refine ⟨w1, cur', a', cap', hh.1, hh.2.1, hh.2.2.1, hh.2.2.2.1, hh.2.2.2.2.1, hh.2.2.2.2.2.1, hh.2.2.2.2.2.2.1, hh.2.2.2.2.2.2.2.1, fun i j hi hj => ?_⟩
  rw [← hg i j hi hj]
  exact hh.2.2.2.2.2.2.2.2 i j hi hj
theorem FreshDen.weaken {P : Program} {f : FuncId} {r : Kd} {args args' : List A} {n : Nat} {g : Nat → Nat → CV} (h : WkL args args') (hd : FreshDen P f r args' n g) : FreshDen P f r args n g :=
 ⟨hd.1, fun w okA vs h1 h2 h3 => hd.2 w okA vs h1 h2 (h.ars h3)⟩
end Go.Eng
