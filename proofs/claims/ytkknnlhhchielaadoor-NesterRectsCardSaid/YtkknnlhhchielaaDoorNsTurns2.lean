/-
 nester.turns: the iterator shown by hand, the walk.
-/
import Derived.Test.YtkknnlhhchielaaDoorNsTurns
set_option linter.all false
namespace Go.Eng
open Go Go.RowKit
theorem MR.reload {w0 : Base} {okA : Nat → Prop} {μ : Nat → Option Nat} {ok : Nat → Prop} {H : List Blk} {w : World} (hm : MR w0 okA μ ok H w) {b : Nat} {r : Kd} {n : Nat} {f g : FF} (hb : H[b]? = some (.arr r n f)) (hg : ∀ i j, i < n → j < r.len → g i j = f i j) :
  MR w0 okA μ ok (H.set b (.arr r n g)) w ∧ Ext μ ok w H μ ok w (H.set b (.arr r n g)) := by
 have hlt : b < H.length := (List.getElem?_eq_some_iff.1 hb).1
 have hset : ∀ b', b' ≠ b → (H.set b (.arr r n g))[b']? = H[b']? := fun b' hn => List.getElem?_set_ne (Ne.symm hn)
 have hself : (H.set b (.arr r n g))[b]? = some (.arr r n g) := List.getElem?_set_self hlt
 have E : Ext μ ok w H μ ok w (H.set b (.arr r n g)) := by
  refine ⟨fun k hk => ⟨hk, rfl⟩, fun b' hb' => ?_, fun b' cs hb' => ?_, fun b' r1 n1 f1 hb' => ?_, fun b' sb n1 f1 hb' => ?_, fun b' κ n1 ln f1 hb' => ?_⟩
  ·by_cases q : b' = b
   ·subst q; rw [hb] at hb'; cases hb'
   ·rw [hset b' q]; exact hb'
  ·by_cases q : b' = b
   ·subst q; rw [hb] at hb'; cases hb'
   ·exact .inr ⟨⟨cs, by rw [hset b' q]; exact hb'⟩, rfl⟩
  ·by_cases q : b' = b
   ·subst q
    rw [hb] at hb'; cases hb'
    exact .inr ⟨⟨g, hself⟩, rfl, fun k cur e _ hw => ⟨cur, e, hw, rfl⟩⟩
   ·exact .inr ⟨⟨f1, by rw [hset b' q]; exact hb'⟩, rfl, fun k cur e _ hw => ⟨cur, e, hw, rfl⟩⟩
  ·by_cases q : b' = b
   ·subst q; rw [hb] at hb'; cases hb'
   ·exact .inr ⟨⟨n1, f1, by rw [hset b' q]; exact hb'⟩, rfl⟩
  ·by_cases q : b' = b
   ·subst q; rw [hb] at hb'; cases hb'
   ·exact .inr ⟨⟨f1, by rw [hset b' q]; exact hb'⟩, rfl, fun i => by rw [List.length_set]⟩
 refine ⟨⟨hm.below, hm.okd, hm.keep, hm.fresh, hm.inj, fun b' o hb' => ?_, fun b' k r1 n1 f1 hx ht hk => ?_⟩, E⟩
 ·by_cases q : b' = b
  ·subst q
   rw [hself] at hb'
   cases hb'
   obtain ⟨h1, h2⟩ := hm.blk b' _ hb
   refine ⟨h1, h2.imp id ?_⟩
   rintro ⟨k, cur, e, h3, h4, h5, h6⟩
   refine ⟨k, cur, e, h3, h4, h5, fun i j hi hj => ?_⟩
   rw [hg i j hi hj]
   exact h6 i j hi hj
  ·rw [hset b' q] at hb'
   exact E.blk (List.length_set ..) (fun k _ => rfl) (fun _ _ _ _ => rfl) (hm.blk b' o hb')
 ·by_cases q : b' = b
  ·subst q
   rw [hself] at hx
   cases hx
   exact hm.tag b' k r n f hb ht hk
  ·rw [hset b' q] at hx
   exact hm.tag b' k r1 n1 f1 hx ht hk
theorem us_at : ∀ (m t : Nat) (v : V), (us m [])[t]? = some v → v = .u
 | 0, t, v, h => by simp [us] at h
 | m + 1, 0, v, h => by simp [us] at h; exact h.symm
 | m + 1, t + 1, v, h => us_at m t v (by simpa [us] using h)
theorem us_len : ∀ m, (us m []).length = m
 | 0 => rfl
 | m + 1 => by simp [us, us_len m]
theorem tuS_inv {w0 : Base} {okA : Nat → Prop} {y up : Value} {μ : Nat → Option Nat} {ok : Nat → Prop} {st : St} {a : Act} {w : World} {n : Nat} {l : List Int} (hm : MR w0 okA μ ok st.heap w) (he : ER ([], [(0, y), (1, up)]) μ ok st.heap w st.env a) (hup : CR ok w (.rp (.pr (.int .i64) .nil) (fun _ => vi (Int.ofNat n))) up) (h : tuS n .normal st = some (some l)) :
  ∃ μ', MR w0 okA μ' ok [.arr intR n (fL l)] w ∧ ER ([], [(0, y), (1, up)]) μ' ok [.arr intR n (fL l)] w (tuE .u n) a := by
 have h : tuR n st = some (some l) := h
 unfold tuR at h
 split at h
 ·rename_i e0 e1 e2 m rest m' f hst
  obtain ⟨hc, hq⟩ := bif_some h
  cases hq
  clear h
  simp only [Bool.and_eq_true] at hc
  obtain ⟨h1, h2, h3, h4, h5⟩ := hc
  have h1 := (Nat.eq_of_beq_eq_true h1).symm
  have h2 := (Nat.eq_of_beq_eq_true h2).symm
  have h5 := Nat.eq_of_beq_eq_true h5
  subst h1 h2
  obtain ⟨μ', hm', he'⟩ := norm_sound hm he hst
  have hrow : ∀ i j, i < n → j < intR.len → fL ((List.range n).map fun i => CV.int (f i 0)) i j = f i j := by
   intro i j hi hj
   have hj0 : j = 0 := by simp [intR, Kd.len] at hj; omega
   subst hj0
   obtain ⟨_, hb⟩ := hm'.blk 0 _ rfl
   have hk : ∃ x, f i 0 = .i .i64 x := by
    rcases hb with ⟨q, _⟩ | ⟨g, cur, e, _, _, _, hcells⟩
    ·omega
    ·exact (hcells i 0 hi (by simp [Kd.len])).1
   obtain ⟨x, hx⟩ := hk
   have : ((List.range n).map fun i => CV.int (f i 0)).getD i 0 = x := by
    rw [List.getD_eq_getElem?_getD, List.getElem?_map, List.getElem?_range hi]
    simp [hx, CV.int]
   rw [hx]
   show vi _ = _
   rw [this]
  obtain ⟨hm2, E2⟩ := hm'.reload (b := 0) (g := fL ((List.range n).map fun i => CV.int (f i 0))) rfl hrow
  have he2 := he'.ext E2
  have hsz : a.tmps.size = 46 := by have := he2.size; simpa [h5] using this
  refine ⟨μ', hm2, ⟨by rw [hsz]; simp [tuE, us_len], fun t v ht => ?_, he2.defers, he2.glob⟩⟩
  have any : ∀ t, t < 46 → ∃ u, a.tmps[t]? = some u := fun t ht => ⟨a.tmps[t], by simp [hsz, ht]⟩
  have hlt : t < 46 := by have := (List.getElem?_eq_some_iff.1 ht).1; simpa [tuE, us_len] using this
  have hz : v = .u → ∃ u, a.tmps[t]? = some u ∧ VR μ' ok w ([Blk.arr intR n (fL ((List.range n).map fun i => CV.int (f i 0)))] : List Blk) v u := fun e => by
   obtain ⟨u, hu⟩ := any t hlt
   exact ⟨u, hu, by rw [e]; trivial⟩
  match t with
  | 0 => exact hz (by cases ht; rfl)
  | 1 =>
   cases ht
   exact ⟨up, he2.defers.2 (1, up) (by simp), hup⟩
  | 2 => exact hz (by cases ht; rfl)
  | 3 => exact he2.env 3 v ht
  | t + 4 => exact hz (us_at 42 t v (by simpa [tuE] using ht))
 ·cases h
theorem tu_clone {n : Nat} (hn : n ≤ 4) (y : Value) (f : FF) :
  evalL itO 1 ⟨((tuE (.x (.c (.lit y))) n).set 17 (.x (.c (.lit y)))).set 18 (.x (.own 0 0 n)), [.arr intR n f, .rsv]⟩ [o1 19 (.callo 0 35 [tm 18] [75] intR)] some =
   some ⟨(((tuE (.x (.c (.lit y))) n).set 17 (.x (.c (.lit y)))).set 18 (.x (.own 0 0 n))).set 19 (.x (.own 1 0 n)), [.arr intR n f, .arr intR n f]⟩ := by
 match n, hn with
 | 0, _ => rfl
 | 1, _ => rfl
 | 2, _ => rfl
 | 3, _ => rfl
 | 4, _ => rfl
theorem ER.more {df : DF} {μ : Nat → Option Nat} {ok : Nat → Prop} {H : List Blk} {w : World} {env env' : List V} {a : Act} (h : ER df μ ok H w env a) (hl : env'.length = env.length)
  (hv : ∀ (t : Nat) (v : V), env'[t]? = some v → v = V.u ∨ env[t]? = some v) : ER df μ ok H w env' a := h.weak hl hv
set_option maxHeartbeats 1000000 in
theorem tu_calls {P : Program} (hmix : P.follows .mixedOrders = true) (hF : FFits P 34 tuF) (hL : ItLib P) {okI : Nat → Prop} {W1 : World} {cs : Array Value} {n : Nat} (hn : n ≤ 4) (hok : ∀ g, okI g → g < W1.heap.size) (hgl : GlobR okI W1) (hcs : cs.size = 1) {up : Value} (hc0 : cs[0]? = some up) (hc : CR okI W1 (.rp (.pr (.int .i64) .nil) (fun _ => vi (Int.ofNat n))) up) :
  ItCalls P 34 cs okI W1 (turnN n) (fun c => roL (turnL n c)) := by
 intro l d J hJ1 hJ2 hY h0
 have hJ : JOk okI W1 J := ⟨hJ1, hJ2⟩
 have hC := itO_sound hL
 obtain ⟨fn, c, hfn, hbody, hnt, hres, hfit⟩ := hF.fn
 refine callsIn_of_wp hfn hbody trivial ?_ rfl
 obtain ⟨c0, cX, rfl, hf0, cA, cB, rfl, hfA, cl, rfl, cb, rfl, c3, rfl, cS, cN, rfl, ⟨c6, cC, rfl, ⟨id6, ops6, rfl, hr6, _⟩, o', cx, cy, rfl, hso, hcx, hcy⟩, hfN⟩ := hfit
 cases hcx; cases hcy
 have := sameOpd_tmp hso
 subst this
 have hresE : fn.results.toList = [] := by
  cases hq : fn.results.toList with
  | nil => rfl
  | cons a b => rw [hq] at hres; cases hres
 have hres0 : ∀ (a : Act) (w : World), (results fn a.tmps).run P w = .ok (.tuple #[]) w := fun a w => by
  have : fn.results = #[] := by rw [← Array.toArray_toList (xs := fn.results), hresE]
  simp [results, this]
 obtain ⟨y, hy⟩ : ∃ y : Value, y = .func (.yield l) #[] #[] := ⟨_, rfl⟩
 rw [← hy]
 have hnt' : fn.ntmps = 46 := hnt
 obtain ⟨dd, hdd⟩ : ∃ dd : DF, dd = ([], [(0, y), (1, up)]) := ⟨_, rfl⟩
 have offs : ∀ {x : AC}, (offB 0 x && offB 1 x) = true → offP dd x := fun {x} h => offP_of fun q hq => by
  rw [Bool.and_eq_true] at h
  rw [hdd] at hq
  simp only [List.mem_cons, List.not_mem_nil, or_false] at hq
  rcases hq with e | e <;> (subst e)
  ·exact h.1
  ·exact h.2
 have off2 : ∀ {f : FOp} {t : Nat}, f.dst = some t → (Nat.beq t 0 || Nat.beq t 1) = false → ∀ q, q ∈ dd.2 → f.dst ≠ some q.1 := by
  intro f t h1 h2 q hq k
  rw [h1] at k
  cases k
  rw [hdd] at hq
  simp only [List.mem_cons, List.not_mem_nil, or_false] at hq
  rcases hq with e | e <;> (subst e; cases h2)
 -- the beginning
 have hm1 := ((MR.init (w := W1) hok).rebase (fun _ _ => rfl) (Nat.le_refl _)).1
 have he1 : ER dd (fun _ => none) okI ([] : List Blk) W1 (.u :: .x (.c (.rp (.pr (.int .i64) .nil) (fun _ => vi (Int.ofNat n)))) :: List.replicate 44 .undef) { tmps := (#[y] ++ cs) ++ Array.replicate (fn.ntmps - (#[y] ++ cs).size) undef, defers := [] } := by
  have t0 : ((#[y] ++ cs) ++ Array.replicate (fn.ntmps - (#[y] ++ cs).size) undef)[0]? = some y := by rw [Array.getElem?_append_left (by simp; omega), Array.getElem?_append_left (by simp)]; rfl
  have t1 : ((#[y] ++ cs) ++ Array.replicate (fn.ntmps - (#[y] ++ cs).size) undef)[1]? = some up := by
   rw [Array.getElem?_append_left (by simp; omega), Array.getElem?_append_right (by simp)]
   exact hc0
  refine ⟨by simp [hcs, hnt'], fun t v ht => ?_, ⟨by rw [hdd], fun q hq => ?_⟩, hgl⟩
  ·rcases t with _ | _ | t
   ·cases ht; exact ⟨y, t0, trivial⟩
   ·cases ht; exact ⟨up, t1, hc⟩
   ·have hlt : t < 44 := by
     have := (List.getElem?_eq_some_iff.1 ht).1
     simp at this; omega
    have hv : v = .undef := by
     have : (List.replicate 44 V.undef)[t]? = some v := by simpa using ht
     rw [List.getElem?_replicate, if_pos hlt] at this
     cases this; rfl
    subst hv
    refine ⟨undef, ?_, rfl⟩
    rw [Array.getElem?_append_right (by simp [hcs]), Array.getElem?_replicate, if_pos (by simp [hcs, hnt']; omega)]
  ·rw [hdd] at hq
   simp only [List.mem_cons, List.not_mem_nil, or_false] at hq
   rcases hq with e | e <;> (subst e; assumption)
 have hy1 : YI okI J 0 (fun _ => none) okI W1 := ⟨hJ.less h0 fun g hg => by
  rcases hg.1 with ⟨b, q⟩ | q
  ·cases q
  ·exact hg.2 q, fun g hg => hg, fun g _ ⟨b, q⟩ => by cases q⟩
 -- what lies behind up
 have hcup : ∀ {c : Nat} {μ : Nat → Option Nat} {ok : Nat → Prop} {w : World}, YI okI J c μ ok w → CR ok w (.rp (.pr (.int .i64) .nil) (fun _ => vi (Int.ofNat n))) up := fun h => CR.mono (fun g hg => ⟨h.sub g hg, (hJ.world _ _ _ h.j).2.1 g hg⟩) hc
 have head : ∀ (m c : Nat), c + m = turnN n → 0 < m → ∀ (Wb w : World) (μb μ : Nat → Option Nat) (okb ok : Nat → Prop) (a : Act) (Q : Exit → Act → World → Prop), MR ⟨Wb, rg μb⟩ okb μ ok [.arr intR n (fL (turnL n c))] w → ER dd μ ok [.arr intR n (fL (turnL n c))] w (tuE .u n) a → YI okI J c μb okb Wb →
   (∀ a w I, a.defers = [] → J I (turnN n) w → Q .ret a w) →
   Code.roundsIn (wd none) d P (.block 3 (.seq (.seq (.region id6 ops6 false) (.cond (.tmp 21) .ret .skip)) cN)) Q m a w := by
  intro m
  induction m with
  | zero => intro c _ h; exact absurd h (Nat.lt_irrefl 0)
  | succ m ih =>
   intro c hcm _ Wb w μb μ okb ok a Q hm he hyb hQ
   obtain ⟨hlenL, hstep, hlast⟩ := tu_facts hn (c := c) (by omega)
   obtain ⟨L, hLdef⟩ : ∃ L, L = turnL n c := ⟨_, rfl⟩
   rw [← hLdef] at hm he hlenL hstep hlast
   rw [roundsIn_succ]
   refine wpIn_block (wpIn_seq (wpIn_seq (wpIn_region ?_)))
   have hl6 : ops6.size = 5 := hr6.len.symm
   rw [hl6]
   show wpOpsIn (wd none) d P ops6 _ [0, 1, 2, 3, 4] a w
   obtain ⟨x0, ho0, hf0⟩ := hr6.at_ 0 _ rfl
   obtain ⟨x1, ho1, hf1⟩ := hr6.at_ 1 _ rfl
   obtain ⟨x2, ho2, hf2⟩ := hr6.at_ 2 _ rfl
   obtain ⟨x3, ho3, hf3⟩ := hr6.at_ 3 _ rfl
   obtain ⟨x4, ho4, hf4⟩ := hr6.at_ 4 _ rfl
   obtain ⟨μ1, hm1, E1⟩ := hm.reserve 1
   have he2 : ER dd μ1 ok [.arr intR n (fL L), .rsv] w (tuE (.x (.c (.lit y))) n) a := by
    have h1 := he.ext E1
    refine ER.same (t := 0) (v := .x (.c (.lit y))) (env := tuE .u n) h1 fun u hu => ?_
    have := h1.defers.2 (0, y) (by rw [hdd]; simp)
    rw [hu] at this
    cases this
    exact ⟨rfl, by rw [hy]; rfl⟩
   have hm2 : MR ⟨Wb, rg μb⟩ okb μ1 ok [.arr intR n (fL L), .rsv] w := hm1
   clear he hm
   rw [wpOpsIn_cons]
   refine fop_step (C := itO) (hb := 1) (st := ⟨tuE (.x (.c (.lit y))) n, [.arr intR n (fL L), .rsv]⟩) (k := some) hC hm2 he2 ho0 hf0 (off2 rfl rfl) (fun μ ok st a w hm he hk => ?_) rfl
   cases hk
   rw [wpOpsIn_cons]
   refine fop_step (C := itO) (hb := 1) (st := ⟨_, [.arr intR n (fL L), .rsv]⟩) (k := some) hC hm he ho1 hf1 (off2 rfl rfl) (fun μ ok st a w hm he hk => ?_) rfl
   cases hk
   rw [wpOpsIn_cons]
   refine fop_step (C := itO) (hb := 1) (st := ⟨_, [.arr intR n (fL L), .rsv]⟩) (k := some) hC hm he ho2 hf2 (off2 rfl rfl) (fun μ ok st a w hm he hk => ?_) (tu_clone hn y (fL L))
   cases hk
   -- yield
   have hyw := hyb.run hJ hm
   obtain ⟨u17, h17, hr17⟩ := he.env 17 (.x (.c (.lit y))) rfl
   have hr17 : u17 = y := hr17.1
   subst hr17
   obtain ⟨u, h19, hr19⟩ := he.env 19 (.x (.own 1 0 n)) rfl
   have hcl := own_closed (b := 1) (g := fL L) hm.blk rfl hr19 (fun i _ => rfl)
   have hel : roL (turnL n c) = .ro false intR n (fL L) := by rw [← hLdef]; unfold roL; rw [hlenL]
   obtain ⟨rf, rt, ra, rb, hy2, hy3⟩ := hY _ c w (fun k => μ 1 = some k) u (by omega) hyw.j (fun k hk => ⟨.inl ⟨1, hk⟩, fun q => hyw.dis k (hyw.sub k q) ⟨1, hk⟩⟩) (by show CR _ w (roL (turnL n c)) u; rw [hel]; exact hcl)
   rw [wpOpsIn_cons]
   rw [hy] at h17
   refine yield_op ho3 hf3 h17 h19 hy2 hy3 (fun e w' hh => ⟨hh.1, ?_⟩)
   obtain ⟨hmY, EY, yY⟩ := MR.yielded hJ hm hyw (b := 1) rfl hh.2.1 hh.2.2
   have heY := (he.ext EY).put (d := 20) (v := bl true) (u := .bool true) (fun q hq => by
    rw [hdd] at hq
    simp only [List.mem_cons, List.not_mem_nil, or_false] at hq
    rcases hq with e | e <;> (subst e; simp)) rfl
   rw [wpOpsIn_cons]
   refine fop_step (C := itO) (hb := 1) (st := ⟨_, [.arr intR n (fL L), .dead]⟩) (k := some) hC hmY heY ho4 hf4 (off2 rfl rfl) (fun μ ok st a w hm he hk => ?_) rfl
   cases hk
   rw [wpOpsIn]
   have h21 := eval_tmp (env_bool he (t := 21) (x := false) rfl)
   refine wpIn_cond (t := false) h21 (wpIn_skip ?_)
   have heN : ER dd μ ok [.arr intR n (fL L), .dead] w (tuE .u n) a := he.weak rfl fun t v ht => by
    match t with
    | 0 => cases ht; exact .inl rfl
    | 1 => cases ht; exact .inr rfl
    | 2 => cases ht; exact .inr rfl
    | 3 => cases ht; exact .inr rfl
    | t + 4 => exact .inl (us_at 42 t v (by simpa [tuE] using ht))
   refine evalC_round (fl := none) (st := ⟨tuE .u n, [.arr intR n (fL L), .dead]⟩) (k := tuS n) (r := stepL L) hmix hC 10 tuN cN hfN hm heN (fun e μ ok st a w hm he hk => ?_) (.inl rfl) (offs rfl) hstep
   have hy4 := yY.run hJ hm
   cases e with
   | exit i => cases hk
   | ret =>
    have hk : (some none : Option (Option (List Int))) = some (stepL L) := hk
    have hnone : stepL L = none := (Option.some.inj hk).symm
    rw [hnone] at hlast
    have hend : c + 1 = turnN n := Nat.eq_of_beq_eq_true hlast.symm
    refine hQ a w _ ?_ (by rw [← hend]; exact hy4.j)
    have := he.defers.1
    rw [hdd] at this; exact this
   | normal =>
    cases hsL : stepL L with
    | none =>
     rw [hsL] at hk
     have hk : tuR n st = some none := hk
     unfold tuR at hk
     split at hk
     ·obtain ⟨_, hk⟩ := bif_some hk
      cases hk
     ·cases hk
    | some L' =>
     rw [hsL] at hk hlast
     have hnl : c + 1 ≠ turnN n := fun q => by
      rw [q, Nat.beq_refl] at hlast
      cases hlast
     have hL' : turnL n (c + 1) = L' := by
      show (match stepL (turnL n c) with | some l => l | none => []) = _
      rw [← hLdef, hsL]
     rw [hdd] at he
     obtain ⟨μ', hm', he'⟩ := tuS_inv hm he (hcup hy4) hk
     rw [← hL'] at hm' he'
     rw [← hdd] at he'
     exact ih (c + 1) (by omega) (by omega) _ w _ μ' _ ok a Q hm' he' yY hQ
 have hpos : 0 < turnN n := Nat.pow_pos (by omega)
 have hev := tuC0_eq hn
 unfold tuC0 at hev
 unfold evalC at hev
 refine wpIn_seq (evalC_round (fl := none) (k := fun e st => match e with | .normal => evalC itO 10 tuA1 (st.kill []) (tuS n) | e => tuS n e st) (r := some (turnL n 0)) hmix hC 10 _ c0 hf0 hm1 he1 (fun e μ ok st a w hm he hk => ?_) (.inl rfl) (offs rfl) hev)
 cases e with
 | exit i => cases hk
 | ret => cases hk
 | normal =>
  refine wpIn_seq (evalC_round (fl := none) (st := st.kill []) (k := tuS n) (r := some (turnL n 0)) hmix hC 10 tuA1 cA hfA hm (he.kill []) (fun e μ ok st a w hm he hk => ?_) (.inl rfl) (offs rfl) hk)
  cases e with
  | exit i => cases hk
  | ret => cases hk
  | normal =>
   have hy4 := hy1.run hJ hm
   rw [hdd] at he
   obtain ⟨μ', hm', he'⟩ := tuS_inv hm he (hcup hy4) hk
   rw [← hdd] at he'
   refine wpIn_block (wpIn_loop_rounds (turnN n) (head (turnN n) 0 (by omega) hpos W1 w _ μ' okI ok a _ hm' he' hy1 (fun a w I hd hj => ?_)))
   exact ⟨hd, _, hres0 a w, ⟨_, rfl⟩, I, hj⟩
end Go.Eng
