/-
 nester.orders: the iterator shown by hand: the walk.
-/
import Derived.Test.YtkknnlhhchielaaDoorNsOrd
set_option linter.all false
namespace Go.Eng
open Go Go.RowKit
theorem results_run {P : Program} {fn : Func} {rs : List ARes} (hres : resOks P rs fn.results.toList = true) {w0 : Base} {okA : Nat → Prop} {df : DF} {μ : Nat → Option Nat} {ok : Nat → Prop} {st : St} {a : Act} {w' : World} {res : List A} (hm : MR w0 okA μ ok st.heap w') (he : ER df μ ok st.heap w' st.env a) (hk : allSome (rs.map (resA st)) = some res) :
  ∃ v, (results fn a.tmps).run P w' = .ok v w' ∧ ResR (fun g => g < w'.heap.size ∧ (okA g ∨ w0.w.heap.size ≤ g ∨ w0.own g)) w' res v := by
 obtain ⟨us, h1, h2, h3⟩ := resL_run (P := P) hm he hres hk
 have hrun : (fn.results.mapM (resSem a.tmps)).run P w' = .ok us.toArray w' := by
  rw [Array.mapM_eq_mapM_toList, map_eq_pure_bind, Sem.run_bind, h1]
  rfl
 have hrw : results fn a.tmps = (do
   let vs ← fn.results.mapM (resSem a.tmps)
   pure (if h : vs.size = 1 then vs[0] else .tuple vs)) := by
  unfold results
  have : (fun | .tmp t => pure (a.tmps.getD t undef) | .cell x t => do loadVar t (← asAddr (a.tmps.getD x undef)) : ResultVar → Sem Value) = resSem a.tmps := by funext v; cases v <;> rfl
  rw [← this]
  rfl
 refine ⟨if h : us.toArray.size = 1 then us.toArray[0] else .tuple us.toArray, ?_, resR_of h2 h3⟩
 rw [hrw, Sem.run_bind, hrun]
 rfl
section
variable {P : Program} {okI : Nat → Prop} {W1 : World} {J : (Nat → Prop) → Nat → World → Prop} {N : Nat} {el : Nat → CV} {y p2 p3 : Value} {l : Nat}
def cloV (p2 p3 : Value) : Value := .func (.func 37) #[] #[p2, p3]
def NextOk (P : Program) (okI : Nat → Prop) (J : (Nat → Prop) → Nat → World → Prop) (N : Nat) (el : Nat → CV) (y p2 p3 : Value) (r : Nat) : Prop :=
 ∀ (D R : List Int) (c : Nat) (okN : Nat → Prop) (W : World) (vd vr : Value) (f1 f2 : Bool), R.length = r → D.length + r ≤ 4 → (∀ i, i < (permL r R).length → c + i < N ∧ el (c + i) = roL (D ++ (permL r R).getD i [])) → (∀ g, okI g → okN g) → (∀ g, okN g → g < W.heap.size) → GlobR okN W → J (fun g => okN g ∧ ¬ okI g) c W →
  CR okN W (.ro f1 intR D.length (fL D)) vd → CR okN W (.ro f2 intR R.length (fL R)) vr → CR okN W (boxY y) p2 → CR okN W (boxY (cloV p2 p3)) p3 →
  ∀ d, CallsIn (wd none) d P 37 #[vd, vr, p2, p3] W (fun e W' => e = .returned (.bool true) ∧ ∃ I', (∀ g, okN g ∧ ¬ okI g → I' g) ∧ J I' (c + (permL r R).length) W' ∧ ∀ g, okN g → W'.heap[g]? = W.heap[g]?)
theorem MR.drop0 {w0 : Base} {okA : Nat → Prop} {df : DF} {μ : Nat → Option Nat} {ok : Nat → Prop} {H : List Blk} {w : World} {env : List V} {a : Act} (hm : MR w0 okA μ ok H w) (he : ER df μ ok H w env a) (hc : (env.all (V.below 0)) = true) : ∃ μ', MR w0 okA μ' ok [] w ∧ ER df μ' ok [] w env a := by
 obtain ⟨μ', h1, h2⟩ := norm_sound (st := ⟨env, H⟩) (st' := ⟨env, []⟩) (kill := []) (h0 := 0) hm he (by
  unfold St.norm
  have : ((killE env []).all (V.below 0) && (List.take 0 H).all (Blk.below 0)) = true := by simp [killE, hc]
  dsimp only
  rw [this]
  rfl)
 exact ⟨μ', h1, h2⟩
end
def Kp (okN : Nat → Prop) (W : World) (ok : Nat → Prop) (w : World) : Prop := ∀ g, okN g → ok g ∧ w.heap[g]? = W.heap[g]?
theorem Kp.run {okN okb ok : Nat → Prop} {W Wb w : World} {μb μ : Nat → Option Nat} {H : List Blk} (h : Kp okN W okb Wb) (hlt : ∀ g, okN g → g < W.heap.size) (hd : ∀ g, okb g → ¬ rg μb g) (hm : MR ⟨Wb, rg μb⟩ okb μ ok H w) : Kp okN W ok w := fun g hg =>
 ⟨hm.keep g (h g hg).1, (hm.below.block g (lt_of_same (h g hg).2 (hlt g hg)) (hd g (h g hg).1)).trans (h g hg).2⟩
theorem Kp.ext {okN ok ok' : Nat → Prop} {W w w' : World} {μ μ' : Nat → Option Nat} {H H' : List Blk} (h : Kp okN W ok w) (E : Ext μ ok w H μ' ok' w' H') : Kp okN W ok' w' := fun g hg =>
 ⟨(E.ok g (h g hg).1).1, (E.ok g (h g hg).1).2.trans (h g hg).2⟩
def nxH (d : Nat) (f1 : Bool) (f : FF) (r1 : Nat) (f2 : Bool) (g : FF) (y clo : Value) (i : Nat) : List V :=
 .x (.c (.ro f1 intR d f)) :: .x (.c (.ro f2 intR r1 g)) :: .x (.c (boxY y)) :: .x (.c (boxY clo)) :: us 12 (.x (.c (.ro f2 intR r1 g)) :: vxi (Int.ofNat r1) :: vxi (Int.ofNat i) :: us 26 [])
theorem fL_snoc {D : List Int} {x : Int} {t : Nat} (ht : t < D.length + 1) : fL (D ++ [x]) t 0 = joinF D.length (fL D) (fun a b => listF [vi x] (a * 1 + b)) t 0 := by
 unfold joinF fL
 by_cases q : t < D.length
 ·have hb : Nat.blt t D.length = true := by rw [Nat.blt_eq]; exact q
  rw [hb]
  show vi _ = vi _
  rw [List.getD_eq_getElem?_getD, List.getD_eq_getElem?_getD, List.getElem?_append_left q]
 ·have hb : Nat.blt t D.length = false := by
   cases h : Nat.blt t D.length with
   | false => rfl
   | true => rw [Nat.blt_eq] at h; exact absurd h q
  have e : t = D.length := by omega
  rw [hb]
  subst e
  rw [Nat.sub_self]
  show vi _ = vi _
  rw [List.getD_eq_getElem?_getD, List.getElem?_append_right (Nat.le_refl _), Nat.sub_self]
  rfl
theorem fL_erase {R : List Int} {i t : Nat} (hi : i < R.length) (ht : t < R.length - 1) : fL (R.eraseIdx i) t 0 = joinF i (fL R) (shiftF (i + 1) (fL R)) t 0 := by
 unfold joinF fL
 by_cases q : t < i
 ·have hb : Nat.blt t i = true := by rw [Nat.blt_eq]; exact q
  rw [hb]
  show vi _ = vi _
  rw [List.getD_eq_getElem?_getD, List.getD_eq_getElem?_getD, List.getElem?_eraseIdx, if_pos q]
 ·have hb : Nat.blt t i = false := by
   cases h : Nat.blt t i with
   | false => rfl
   | true => rw [Nat.blt_eq] at h; exact absurd h q
  rw [hb]
  show vi _ = vi (R.getD (i + 1 + (t - i)) 0)
  rw [show i + 1 + (t - i) = t + 1 by omega, List.getD_eq_getElem?_getD, List.getD_eq_getElem?_getD, List.getElem?_eraseIdx, if_neg q]
section
variable {P : Program} {okI : Nat → Prop} {W1 : World} {J : (Nat → Prop) → Nat → World → Prop} {N : Nat} {el : Nat → CV} {y p2 p3 : Value} {l : Nat}
set_option maxHeartbeats 2000000 in
theorem next_zero (hmix : P.follows .mixedOrders = true) (hF : FFits P 37 nxF) (hL : ItLib P) (hJ : JOk okI W1 J) (hyl : y = .func (.yield l) #[] #[])
  (hY : ∀ I c W V u, c < N → J I c W → (∀ g, V g → I g) → CR V W (el c) u → ∃ fn tmps assign body, (Instr.yield l #[u]).run P W = .ok (.round l fn tmps assign body) W ∧
   ∀ d, RoundIn (wd none) d P l fn tmps assign body W (fun e W' => e = .returned (.bool true) ∧ J (fun g => I g ∧ ¬ V g) (c + 1) W' ∧ ∀ g, I g → W'.heap[g]? = W.heap[g]?)) :
  NextOk P okI J N el y p2 p3 0 := by
 have hC := itO_sound hL
 intro D R c okN W vd vr f1 f2 hR hDr hel hsub hlt hgl hj hvd hvr hp2 hp3 d
 obtain rfl : R = [] := List.eq_nil_of_length_eq_zero hR
 obtain ⟨fn, cc, hfn, hbody, hnt, hres, hfit⟩ := hF.fn
 refine callsIn_of_wp hfn hbody trivial ?_ rfl
 obtain ⟨c0, cX, rfl, ⟨id0, ops0, rfl, hr0, _⟩, cY, cZ, rfl, ⟨c1, cC, rfl, ⟨id1, ops1, rfl, hr1, _⟩, o1', cT, cS, rfl, hso1, ⟨c2, cR, rfl, ⟨id2, ops2, rfl, hr2, hd2⟩, hret⟩, hsk⟩, hfZ⟩ := hfit
 cases hret; cases hsk
 have := sameOpd_tmp hso1
 subst this
 have hnt' : fn.ntmps = 45 := hnt
 have hm0 := ((MR.init (w := W) hlt).rebase (fun _ _ => rfl) (Nat.le_refl _)).1
 have he0 : ER ([], []) (fun _ => none) okN ([] : List Blk) W (nxE0 D.length f1 (fL D) 0 f2 (fL []) y (cloV p2 p3)) { tmps := #[vd, vr, p2, p3] ++ Array.replicate (fn.ntmps - 4) undef, defers := [] } := by
  refine ⟨by simp [hnt', nxE0, us_len], fun t v ht => ?_, ⟨rfl, fun q hq => by cases hq⟩, hgl⟩
  match t with
  | 0 => cases ht; exact ⟨vd, by rw [Array.getElem?_append_left (by simp)]; rfl, hvd⟩
  | 1 => cases ht; exact ⟨vr, by rw [Array.getElem?_append_left (by simp)]; rfl, hvr⟩
  | 2 => cases ht; exact ⟨p2, by rw [Array.getElem?_append_left (by simp)]; rfl, hp2⟩
  | 3 => cases ht; exact ⟨p3, by rw [Array.getElem?_append_left (by simp)]; rfl, hp3⟩
  | t + 4 =>
   have h1 : t < 41 := by
    have := (List.getElem?_eq_some_iff.1 ht).1
    simp [nxE0, us_len] at this; omega
   have hv : v = .u := us_at 41 t v (by simpa [nxE0] using ht)
   refine ⟨undef, ?_, by rw [hv]; trivial⟩
   rw [Array.getElem?_append_right (by simp), Array.getElem?_replicate, if_pos (by simp [hnt']; omega)]
 have yb : YI okI J c (fun _ => none) okN W := ⟨hJ.less hj fun g hg => by
  rcases hg.1 with ⟨b, q⟩ | q
  ·cases q
  ·exact ⟨q, hg.2⟩, hsub, fun g _ ⟨b, q⟩ => by cases q⟩
 have k0 : Kp okN W okN W := fun g hg => ⟨hg, rfl⟩
 refine wpIn_seq (region_sound (C := itO) (hb := 0) (st := ⟨_, []⟩) (k := some) hC hr0 (fun f hf q hq => by cases hq) hm0 he0 (fun μ ok st a w hm he hk => ?_) rfl)
 cases hk
 refine wpIn_seq (wpIn_seq (region_sound (C := itO) (hb := 0) (st := ⟨_, []⟩) (k := some) hC hr1 (fun f hf q hq => by cases hq) hm he (fun μ ok st a w hm he hk => ?_) rfl))
 cases hk
 have h11 := eval_tmp (env_bool he (t := 11) (x := true) rfl)
 refine wpIn_cond (t := true) h11 (wpIn_seq ?_)
 obtain ⟨μ1, hm1, E1⟩ := hm.reserve 1
 have he1 : ER ([], []) μ1 ok [.rsv] w (nxE0 D.length f1 (fL D) 0 f2 (fL []) y (cloV p2 p3)) a := (he.ext E1).weak rfl fun t v ht => by
  match t with
  | 0 => cases ht; exact .inr rfl
  | 1 => cases ht; exact .inr rfl
  | 2 => cases ht; exact .inr rfl
  | 3 => cases ht; exact .inr rfl
  | t + 4 => exact .inl (us_at 41 t v (by simpa [nxE0] using ht))
 have hm1 : MR ⟨W, rg (fun _ => none)⟩ okN μ1 ok [.rsv] w := hm1
 refine region_draw_mid (C := itO) (hb := 0) (pre := nxR2) (st := ⟨_, [.rsv]⟩) (k := some) hmix hC hr2 (fun f hf q hq => by cases hq) (hd2 nxO2 rfl) (by decide) (by decide) (by decide) hm1 he1 (fun μ ok st a w hm he hk => ?_) (nx2 (by omega) f1 (fL D) 0 f2 (fL []) y (cloV p2 p3))
 cases hk
 obtain ⟨x3, ho3, hf3⟩ := hr2.at_ 3 _ rfl
 obtain ⟨x4, ho4, hf4⟩ := hr2.at_ 4 _ rfl
 have hyw := yb.run hJ hm
 have kw := k0.run hlt yb.dis hm
 obtain ⟨u12, h12, hr12⟩ := he.env 12 (.x (.c (.lit y))) rfl
 have hr12 : u12 = y := hr12.1
 subst hr12
 obtain ⟨u, h14, hr14⟩ := he.env 14 (.x (.own 0 0 D.length)) rfl
 have hcl := own_closed (b := 0) (g := fL D) hm.blk rfl hr14 (fun i _ => rfl)
 obtain ⟨hcN, hel0⟩ := hel 0 (by simp [permL])
 have hel1 : el c = roL D := by simpa [permL] using hel0
 obtain ⟨rf, rt, ra, rb, hy2, hy3⟩ := hY _ c w (fun k => μ 0 = some k) u (by simpa using hcN) hyw.j (fun k hk => ⟨.inl ⟨0, hk⟩, fun q => hyw.dis k (hyw.sub k q) ⟨0, hk⟩⟩) (by rw [hel1]; exact hcl)
 rw [hyl] at h12
 refine yield_op ho3 hf3 h12 h14 hy2 hy3 (fun e w' hh => ⟨hh.1, ?_⟩)
 obtain ⟨hmY, EY, yY⟩ := MR.yielded hJ hm hyw (b := 0) rfl hh.2.1 hh.2.2
 have heY := (he.ext EY).put (d := 15) (v := bl true) (u := .bool true) (fun q hq => by cases hq) rfl
 have kY := kw.ext EY
 refine fop_step (C := itO) (hb := 0) (st := ⟨_, [.dead]⟩) (k := some) hC hmY heY ho4 hf4 (fun q hq => by cases hq) (fun μ ok st a w hm he hk => ?_) rfl
 cases hk
 have y4 := yY.run hJ hm
 have k4 := kY.run hlt yY.dis hm
 obtain ⟨v, h1, h2⟩ := results_run hres hm he (res := [.v (.b true)]) rfl
 refine wpIn_ret ⟨he.defers.1, v, h1, ?_⟩
 have h2 : v = .bool true := h2
 refine ⟨by rw [h2], _, fun g hg => ⟨.inr (k4 g hg.1).1, hg.2⟩, y4.j, fun g hg => (k4 g hg).2⟩
set_option maxHeartbeats 4000000 in
theorem next_succ (hmix : P.follows .mixedOrders = true) (hF : FFits P 37 nxF) (hL : ItLib P) (hJ : JOk okI W1 J) {r : Nat} (ih : NextOk P okI J N el y p2 p3 r) :
  NextOk P okI J N el y p2 p3 (r + 1) := by
 have hC := itO_sound hL
 intro D R c okN W vd vr f1 f2 hR hDr hel hsub hlt hgl hj hvd hvr hp2 hp3 d
 obtain ⟨fn, cc, hfn, hbody, hnt, hres, hfit⟩ := hF.fn
 refine callsIn_of_wp hfn hbody trivial ?_ rfl
 obtain ⟨c0, cX, rfl, ⟨id0, ops0, rfl, hr0, _⟩, cY, cZ, rfl, ⟨c1, cC, rfl, ⟨id1, ops1, rfl, hr1, _⟩, o1', cT, cS, rfl, hso1, _, hsk⟩, cU, cV, rfl, ⟨c3, cW, rfl, ⟨id3, ops3, rfl, hr3, _⟩, cl, rfl, cb, rfl, c4, cE, rfl, ⟨id4, ops4, rfl, hr4, _⟩, cF, cG, rfl, ⟨o2', cs1, cs2, rfl, hso2, hs1, hs2⟩, cH, c8, rfl, ⟨cI, rfl, c5, cK, rfl, ⟨id5, ops5, rfl, hr5, _⟩, c6, cL, rfl, ⟨id6, ops6, rfl, hr6, hd6⟩, o3', cs3, cs4, rfl, hso3, _, hs4⟩, ⟨id8, ops8, rfl, hr8, _⟩⟩, c9, cM, rfl, ⟨id9, ops9, rfl, hr9, _⟩, hret⟩ := hfit
 cases hsk; cases hs1; cases hs2; cases hs4; cases hret
 have := sameOpd_tmp hso1
 subst this
 have := sameOpd_tmp hso2
 subst this
 have := sameOpd_tmp hso3
 subst this
 have hnt' : fn.ntmps = 45 := hnt
 have hm0 := ((MR.init (w := W) hlt).rebase (fun _ _ => rfl) (Nat.le_refl _)).1
 have he0 : ER ([], []) (fun _ => none) okN ([] : List Blk) W (nxE0 D.length f1 (fL D) R.length f2 (fL R) y (cloV p2 p3)) { tmps := #[vd, vr, p2, p3] ++ Array.replicate (fn.ntmps - 4) undef, defers := [] } := by
  refine ⟨by simp [hnt', nxE0, us_len], fun t v ht => ?_, ⟨rfl, fun q hq => by cases hq⟩, hgl⟩
  match t with
  | 0 => cases ht; exact ⟨vd, by rw [Array.getElem?_append_left (by simp)]; rfl, hvd⟩
  | 1 => cases ht; exact ⟨vr, by rw [Array.getElem?_append_left (by simp)]; rfl, hvr⟩
  | 2 => cases ht; exact ⟨p2, by rw [Array.getElem?_append_left (by simp)]; rfl, hp2⟩
  | 3 => cases ht; exact ⟨p3, by rw [Array.getElem?_append_left (by simp)]; rfl, hp3⟩
  | t + 4 =>
   have h1 : t < 41 := by
    have := (List.getElem?_eq_some_iff.1 ht).1
    simp [nxE0, us_len] at this; omega
   have hv : v = .u := us_at 41 t v (by simpa [nxE0] using ht)
   refine ⟨undef, ?_, by rw [hv]; trivial⟩
   rw [Array.getElem?_append_right (by simp), Array.getElem?_replicate, if_pos (by simp [hnt']; omega)]
 have yb : YI okI J c (fun _ => none) okN W := ⟨hJ.less hj fun g hg => by
  rcases hg.1 with ⟨b, q⟩ | q
  ·cases q
  ·exact ⟨q, hg.2⟩, hsub, fun g _ ⟨b, q⟩ => by cases q⟩
 have k0 : Kp okN W okN W := fun g hg => ⟨hg, rfl⟩
 refine wpIn_seq (region_sound (C := itO) (hb := 0) (st := ⟨_, []⟩) (k := some) hC hr0 (fun f hf q hq => by cases hq) hm0 he0 (fun μ ok st a w hm he hk => ?_) rfl)
 cases hk
 refine wpIn_seq (wpIn_seq (region_sound (C := itO) (hb := 0) (st := ⟨_, []⟩) (k := some) hC hr1 (fun f hf q hq => by cases hq) hm he (fun μ ok st a w hm he hk => ?_) rfl))
 cases hk
 have h11 := eval_tmp (env_bool he (t := 11) (x := ((R.length : Int) == 0)) rfl)
 have h11f : ((R.length : Int) == 0) = false := by
  rw [beq_eq_false_iff_ne]; omega
 rw [h11f] at h11
 refine wpIn_cond (t := false) h11 (wpIn_skip ?_)
 refine wpIn_seq (wpIn_seq (region_sound (C := itO) (hb := 0) (st := ⟨_, []⟩) (k := some) hC hr3 (fun f hf q hq => by cases hq) hm he (fun μ ok st a w hm he hk => ?_) rfl))
 cases hk
 have head : ∀ (m i : Nat), i + m = R.length → ∀ (Wb w : World) (μb μ : Nat → Option Nat) (okb ok : Nat → Prop) (a : Act) (Q : Exit → Act → World → Prop), MR ⟨Wb, rg μb⟩ okb μ ok ([] : List Blk) w → ER ([], []) μ ok ([] : List Blk) w (nxH D.length f1 (fL D) R.length f2 (fL R) y (cloV p2 p3) i) a → YI okI J (c + (preL r R i).length) μb okb Wb → Kp okN W okb Wb →
   (∀ (Wb w : World) (μb μ : Nat → Option Nat) (okb ok : Nat → Prop) (a : Act) (env : List V), MR ⟨Wb, rg μb⟩ okb μ ok ([] : List Blk) w → ER ([], []) μ ok ([] : List Blk) w env a → env.length = 45 → YI okI J (c + (permL (r + 1) R).length) μb okb Wb → Kp okN W okb Wb → Q (.exit 0) a w) →
   Code.roundsIn (wd none) d P (.seq (.region id4 ops4 false) (.seq (.cond (.tmp 19) .skip (.exit 0)) (.seq (.block 1 (.seq (.region id5 ops5 false) (.seq (.region id6 ops6 true) (.cond (.tmp 43) cs3 .skip)))) (.region id8 ops8 false)))) Q (m + 1) a w := by
  intro m
  induction m with
  | zero =>
   intro i him Wb w μb μ okb ok a Q hm he hyb hkb hQ
   have hi : i = R.length := by omega
   subst hi
   rw [roundsIn_succ]
   refine wpIn_seq (region_sound (C := itO) (hb := 0) (st := ⟨_, []⟩) (k := some) hC hr4 (fun f hf q hq => by cases hq) hm he (fun μ ok st a w hm he hk => ?_) rfl)
   cases hk
   have h19 := eval_tmp (env_bool he (t := 19) (x := decide (Int.ofNat R.length < Int.ofNat R.length)) rfl)
   rw [decide_eq_false (by omega)] at h19
   refine wpIn_seq (wpIn_cond (t := false) h19 (wpIn_exit ?_))
   exact hQ Wb w μb μ okb ok a _ hm he (by rfl) hyb hkb
  | succ m ihm =>
   intro i him Wb w μb μ okb ok a Q hm he hyb hkb hQ
   have hiR : i < R.length := by omega
   rw [roundsIn_succ]
   refine wpIn_seq (region_sound (C := itO) (hb := 0) (st := ⟨_, []⟩) (k := some) hC hr4 (fun f hf q hq => by cases hq) hm he (fun μ ok st a w hm he hk => ?_) rfl)
   cases hk
   have h19 := eval_tmp (env_bool he (t := 19) (x := decide (Int.ofNat i < Int.ofNat R.length)) rfl)
   rw [decide_eq_true (by show (i : Int) < (R.length : Int); omega)] at h19
   refine wpIn_seq (wpIn_cond (t := true) h19 (wpIn_skip ?_))
   have hin : inb (Int.ofNat i) R.length = true := inb_true (by show (0 : Int) ≤ (i : Int); omega) (by show (i : Int) < (R.length : Int); omega)
   have he5 : ER ([], []) μ ok ([] : List Blk) w (nxH D.length f1 (fL D) R.length f2 (fL R) y (cloV p2 p3) i) a := he.weak rfl fun t v ht => by
    by_cases q : t = 19
    ·subst q; cases ht; exact .inl rfl
    ·exact .inr ((List.getElem?_set_ne (Ne.symm q)).trans ht)
   have hev5 : evalL itO 0 ⟨nxH D.length f1 (fL D) R.length f2 (fL R) y (cloV p2 p3) i, []⟩ [mv 20 18, o1 21 (.indexAddr 75 3 1 (tm 16) (tm 18)), o1 22 (lo 3 21), o1 7 (sg 20), o1 8 (sg 22)] some =
     bif inb (Int.ofNat i) R.length then some ⟨((((((nxH D.length f1 (fL D) R.length f2 (fL R) y (cloV p2 p3) i).set 20 (vxi (Int.ofNat i))).set 21 (.x (.c (.rp intR (fL R i))))).set 22 (vxi (R.getD i 0))).set 7 (vxi (Int.ofNat i))).set 8 (vxi (R.getD i 0))), []⟩ else none := by kernel_rfl
   rw [hin, cond_true] at hev5
   refine wpIn_seq (wpIn_block (wpIn_seq (region_sound (C := itO) (hb := 0) (st := ⟨nxH D.length f1 (fL D) R.length f2 (fL R) y (cloV p2 p3) i, []⟩) (k := some) hC hr5 (fun f hf q hq => by cases hq) hm he5 (fun μ ok st a w hm he hk => ?_) hev5)))
   cases hk
   obtain ⟨μ1, hm1, E1⟩ := hm.reserve 4
   have he1 : ER ([], []) μ1 ok [.rsv, .rsv, .rsv, .rsv] w (nxE D.length f1 (fL D) R.length f2 (fL R) y (cloV p2 p3) i (R.getD i 0)) a := (he.ext E1).weak rfl fun t v ht => by
    rcases t with _ | _ | _ | _ | _ | _ | _ | _ | _ | _ | _ | _ | _ | _ | _ | _ | _ | _ | _ | t <;> first | (cases ht; exact .inl rfl) | (cases ht; exact .inr rfl) | exact .inl (us_at 26 t v (by simpa [nxE, us] using ht))
   have hm1 : MR ⟨Wb, rg μb⟩ okb μ1 ok [.rsv, .rsv, .rsv, .rsv] w := hm1
   obtain ⟨st6, hev6, n6⟩ := nx6_ex (d := D.length) (r1 := R.length) (by omega) hiR f1 (fL D) f2 (fL R) y (cloV p2 p3) (R.getD i 0)
   refine wpIn_seq (region_draw_mid (C := itO) (hb := 0) (pre := nxR6) (st := ⟨nxE D.length f1 (fL D) R.length f2 (fL R) y (cloV p2 p3) i (R.getD i 0), [.rsv, .rsv, .rsv, .rsv]⟩) (k := some) hmix hC hr6 (fun f hf q hq => by cases hq) (hd6 nxO6 rfl) (by decide) (by decide) (by decide) hm1 he1 (fun μ ok st a w hm he hk => ?_) hev6)
   cases hk
   obtain ⟨x19, ho19, hf19⟩ := hr6.at_ 19 _ rfl
   obtain ⟨x20, ho20, hf20⟩ := hr6.at_ 20 _ rfl
   have hyw := hyb.run hJ hm
   have kw := hkb.run hlt hyb.dis hm
   obtain ⟨u23, h23, hr23⟩ := he.env 23 (.x (.c (.lit (cloV p2 p3)))) n6.cl
   have hr23 : u23 = cloV p2 p3 := hr23.1
   subst hr23
   obtain ⟨u32, h32, hr32⟩ := he.env 32 (.x (.own 1 0 (D.length + 1))) n6.done
   obtain ⟨u41, h41, hr41⟩ := he.env 41 (.x (.own 3 0 (i + (R.length - (i + 1))))) n6.rest
   have hw : ∀ g, (ok g ∨ rg μ g) → g < w.heap.size := fun g hg => by
    rcases hg with q | ⟨b, q⟩
    ·exact (hm.okd g q).1
    ·exact (hm.fresh b g q).2.1
   have cl : ∀ {b : Nat} {cv : CV} {u : Value}, CR (fun k => μ b = some k) w cv u → CR (fun g => ok g ∨ rg μ g) w cv u := fun h => CR.mono (fun g hg => ⟨.inr ⟨_, hg⟩, rfl⟩) h
   have hcd := cl (own_closed (b := 1) (g := fL (D ++ [R.getD i 0])) hm.blk n6.dn hr32 (fun t ht => fL_snoc ht))
   have hcr := cl (own_closed (b := 3) (g := fL (R.eraseIdx i)) hm.blk n6.rs hr41 (fun t ht => fL_erase hiR (by omega)))
   have hRl : (R.eraseIdx i).length = r := by rw [List.length_eraseIdx_of_lt hiR]; omega
   have hDl : (D ++ [R.getD i 0]).length = D.length + 1 := by simp
   have hRl2 : i + (R.length - (i + 1)) = (R.eraseIdx i).length := by rw [hRl]; omega
   rw [hRl2] at hcr
   rw [← hDl] at hcd
   have hp : ∀ {cv : CV} {p : Value}, CR okN W cv p → CR (fun g => ok g ∨ rg μ g) w cv p := fun h => CR.mono (fun g hg => ⟨.inl (kw g hg).1, (kw g hg).2⟩) h
   have hcall := ih (D ++ [R.getD i 0]) (R.eraseIdx i) (c + (preL r R i).length) (fun g => ok g ∨ rg μ g) w u32 u41 false false hRl (by rw [hDl]; omega) (fun j hj => by
     obtain ⟨q1, q2⟩ := permL_at (k := r) hiR hj
     obtain ⟨q3, q4⟩ := hel _ q1
     rw [q2] at q4
     refine ⟨by omega, ?_⟩
     rw [Nat.add_assoc, q4, List.append_assoc]
     rfl) (fun g hg => .inl (hyw.sub g hg)) hw (he.glob.mono fun g hg => ⟨.inl hg, rfl⟩) (hJ.less hyw.j fun g hg => ⟨hg.1.symm, hg.2⟩) hcd hcr (hp hp2) (hp hp3) (d - 1)
   refine call_op ho19 hf19 (gf := 37) (cs := #[p2, p3]) h23 h32 h41 hF.ok hcall (fun e w' hh => ⟨hh.1, ?_⟩)
   obtain ⟨_, I', hI', hj', hsame⟩ := hh
   obtain ⟨hmC, EC, yC⟩ := MR.called hJ hm hyw.sub hyw.dis hj' (fun g hg => hI' g ⟨hg.1.symm, hg.2⟩) hsame
   have kC := kw.ext EC
   have heW : ER ([], []) μ ok st6.heap w' (nxH D.length f1 (fL D) R.length f2 (fL R) y (cloV p2 p3) i) a := (he.ext EC).weak n6.len.symm fun t v ht => by
    have hold := n6.old t
    rcases t with _ | _ | _ | _ | _ | _ | _ | _ | _ | _ | _ | _ | _ | _ | _ | _ | _ | _ | _ | t <;> first | (cases ht; exact .inl rfl) | (cases ht; exact .inr (hold (by omega))) | exact .inl (us_at 26 t v (by simpa [nxH, us] using ht))
   have heC := heW.put (d := 42) (v := bl true) (u := .bool true) (fun q hq => by cases hq) rfl
   refine fop_step (C := itO) (hb := 0) (st := ⟨(nxH D.length f1 (fL D) R.length f2 (fL R) y (cloV p2 p3) i).set 42 (bl true), st6.heap⟩) (k := some) hC hmC heC ho20 hf20 (fun q hq => by cases hq) (fun μ ok st a w hm he hk => ?_) rfl
   cases hk
   have h43 := eval_tmp (env_bool he (t := 43) (x := false) rfl)
   refine wpIn_cond (t := false) h43 (wpIn_skip ?_)
   refine region_sound (C := itO) (hb := 0) (st := ⟨((nxH D.length f1 (fL D) R.length f2 (fL R) y (cloV p2 p3) i).set 42 (bl true)).set 43 (bl false), st6.heap⟩) (k := some) hC hr8 (fun f hf q hq => by cases hq) hm he (fun μ ok st a w hm he hk => ?_) rfl
   cases hk
   have hwrap : IntKind.wrap .i64 (Int.ofNat i + 1) = Int.ofNat (i + 1) := by
    have : (Int.ofNat i : Int) = (i : Int) := rfl
    rw [IntKind.wrap_i64]
    show _ = ((i + 1 : Nat) : Int)
    omega
   have heN : ER ([], []) μ ok _ w (nxH D.length f1 (fL D) R.length f2 (fL R) y (cloV p2 p3) (i + 1)) a := he.weak rfl fun t v ht => by
    rcases t with _ | _ | _ | _ | _ | _ | _ | _ | _ | _ | _ | _ | _ | _ | _ | _ | _ | _ | _ | t <;> first | (cases ht; exact .inl rfl) | (cases ht; exact .inr rfl) | (cases ht; exact .inr (congrArg (fun x => some (vxi x)) hwrap)) | exact .inl (us_at 26 t v (by simpa [nxH, us] using ht))
   obtain ⟨μ', hm', he'⟩ := MR.drop0 hm heN rfl
   have hlen : c + (preL r R i).length + (permL r (R.eraseIdx i)).length = c + (preL r R (i + 1)).length := by rw [preL_succ]; simp; omega
   rw [hlen] at yC
   exact ihm (i + 1) (by omega) _ w _ μ' _ ok a Q hm' he' yC kC hQ
 have heH : ER ([], []) μ ok ([] : List Blk) w (nxH D.length f1 (fL D) R.length f2 (fL R) y (cloV p2 p3) 0) a := he.weak rfl fun t v ht => by
  rcases t with _ | _ | _ | _ | _ | _ | _ | _ | _ | _ | _ | _ | _ | _ | _ | _ | _ | _ | _ | t <;> first | (cases ht; exact .inl rfl) | (cases ht; exact .inr rfl) | exact .inl (us_at 26 t v (by simpa [nxH, us] using ht))
 refine wpIn_block (wpIn_loop_rounds (R.length + 1) (head R.length 0 (by omega) W w _ μ okN ok a _ hm heH (by simpa [preL] using yb) k0 (fun Wb w μb μ okb ok a env hm he hlen hyb hkb => ?_)))
 refine wpIn_seq (region_sound (C := itO) (hb := 0) (st := ⟨env, []⟩) (k := some) hC hr9 (fun f hf q hq => by cases hq) hm he (fun μ ok st a w hm he hk => ?_) rfl)
 cases hk
 have y4 := hyb.run hJ hm
 have k4 := hkb.run hlt hyb.dis hm
 have hset : (env.set 6 (bl true)).getD 6 .u = bl true := by rw [List.getD_eq_getElem?_getD, List.getElem?_set_self (by omega)]; rfl
 obtain ⟨v, h1, h2⟩ := results_run hres hm he (res := [.v (.b true)]) (by
  have : resA ⟨env.set 6 (bl true), []⟩ (.tmp 6) = some (.v (.b true)) := by
   show snapA [] ((env.set 6 (bl true)).getD 6 .u) = _
   rw [hset]; rfl
  show allSome [resA ⟨env.set 6 (bl true), []⟩ (.tmp 6)] = _
  rw [this]; rfl)
 refine wpIn_ret ⟨he.defers.1, v, h1, ?_⟩
 have h2 : v = .bool true := h2
 refine ⟨by rw [h2], _, fun g hg => ⟨.inr (k4 g hg.1).1, hg.2⟩, y4.j, fun g hg => (k4 g hg).2⟩
end
end Go.Eng
