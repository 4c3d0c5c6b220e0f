/-
 nester.orders, nester.turns: what the loop that ranges over them needs.
-/
import Derived.Test.YtkknnlhhchielaaDoorNsOrd2
import Derived.Test.YtkknnlhhchielaaDoorEngZ1
set_option linter.all false
namespace Go.Eng
open Go Go.RowKit
theorem next_all {P : Program} {okI : Nat → Prop} {W1 : World} {J : (Nat → Prop) → Nat → World → Prop} {N : Nat} {el : Nat → CV} {y p2 p3 : Value} {l : Nat} (hmix : P.follows .mixedOrders = true) (hF : FFits P 37 nxF) (hL : ItLib P) (hJ : JOk okI W1 J) (hyl : y = .func (.yield l) #[] #[])
  (hY : ∀ I c W V u, c < N → J I c W → (∀ g, V g → I g) → CR V W (el c) u → ∃ fn tmps assign body, (Instr.yield l #[u]).run P W = .ok (.round l fn tmps assign body) W ∧
   ∀ d, RoundIn (wd none) d P l fn tmps assign body W (fun e W' => e = .returned (.bool true) ∧ J (fun g => I g ∧ ¬ V g) (c + 1) W' ∧ ∀ g, I g → W'.heap[g]? = W.heap[g]?)) :
  ∀ r, NextOk P okI J N el y p2 p3 r
 | 0 => next_zero hmix hF hL hJ hyl hY
 | r + 1 => next_succ hmix hF hL hJ (next_all hmix hF hL hJ hyl hY r)
theorem CR.listed {ok : Nat → Prop} {w : World} {fl : Bool} {n : Nat} {g : FF} {u : Value} (h : CR ok w (.ro fl intR n g) u) : CR ok w (.ro fl intR (liL n g).length (fL (liL n g))) u := by
 have hl : (liL n g).length = n := by simp [liL]
 rw [hl]
 obtain ⟨a, cap, rfl, h1, h2, h3, h4⟩ := h
 refine ⟨a, cap, rfl, h1, h2, h3, h4.imp id ?_⟩
 rintro ⟨gg, off, h5, h6, h7⟩
 refine ⟨gg, off, h5, h6, fun i j hi hj => ?_⟩
 have hj0 : j = 0 := by simp [intR, Kd.len] at hj; omega
 subst hj0
 obtain ⟨⟨x, hx⟩, h8⟩ := h7 i 0 hi hj
 have e : fL (liL n g) i 0 = g i 0 := by
  show vi ((liL n g).getD i 0) = _
  rw [hx, List.getD_eq_getElem?_getD]
  unfold liL
  rw [List.getElem?_map, List.getElem?_range hi]
  simp [hx, CV.int]
 rw [e]
 exact ⟨⟨x, hx⟩, h8⟩
section
variable {P : Program} {ops : Array Oper} {Q : Exit → Act → World → Prop} {i : Nat} {K : Act → World → Prop} {a : Act} {w : World} {o : Oper} {fl : Option Nat} {fd : Nat}
theorem call_op0 {d tg tb : Nat} {ts : List TypeId} {m : Mode} (ho : ops[i]? = some o) (hf : OpFits P ops ⟨some d, .callv (.tmp tg) [.const (.slice none 0 0), .tmp tb] ts m, none⟩ o) {gf : FuncId} {cs : Array Value} {v : Value} (hg : a.tmps[tg]? = some (.func (.func gf) #[] cs)) (hb : a.tmps[tb]? = some v)
  (hok : callOk P gf = true) {R : Ending → World → Prop} (hr : CallsIn (wd none) (fd - 1) P gf (#[.slice none 0 0, v] ++ cs) w R) (hK : ∀ e w', R e w' → e = .returned (.bool true) ∧ K (a.put (some d) (.bool true)) w') :
  wpOpIn (wd none) fd P ops Q i K a w := by
 have want : o.guard = none := by
  have := hf.guard
  unfold guardOk at this
  cases hq : o.guard with
  | none => rfl
  | some p => rw [hq] at this; cases this
 unfold wpOpIn
 rw [ho]
 dsimp only
 rw [if_pos (by simp [Region.wanted, want])]
 refine ⟨fun _ _ => trivial, ?_⟩
 have hd : o.dst = some d := hf.dst
 have hrun : (o.semAt (wd none).round a.eval).run P w = .ok (.enter gf (#[.slice none 0 0, v] ++ cs)) w := by
  have hop : o.op = .call { callee := .value (tm tg), args := #[.const (.slice none 0 0), tm tb], argTypes := ts.toArray } := hf.op
  have e : (o.semAt (wd none).round a.eval) = execOp a.eval o := rfl
  rw [e]
  have hc := callFunc_run (P := P) (w := w) (args := (#[.slice none 0 0, v] ++ cs)) hok
  simp [execOp, hop, resolve, hg, hb, invoke, Deferred.ofValue, go_sem, hc]
 rw [hrun, Oper.uponIn_enter]
 refine ⟨(fun k => by cases k), hr.mono ?_⟩
 intro e w' h
 obtain ⟨he, h2⟩ := hK e w' h
 subst he
 dsimp only
 rw [hd]
 exact h2
end
set_option maxHeartbeats 2000000 in
theorem od_calls {P : Program} (hmix : P.follows .mixedOrders = true) (hF : FFits P 36 odF) (hN : FFits P 37 nxF) (hL : ItLib P) {okI : Nat → Prop} {W1 : World} {cs : Array Value} {fl : Bool} {n : Nat} {g : FF} (hn : n ≤ 4) (hok : ∀ g, okI g → g < W1.heap.size) (hgl : GlobR okI W1) (hcs : cs.size = 1) {up : Value} (hc0 : cs[0]? = some up) (hc : CR okI W1 (.rp (.pr (.sl intR) .nil) (fun _ => .ro fl intR n g)) up) :
  ItCalls P 36 cs okI W1 (permsL (liL n g)).length (fun c => roL ((permsL (liL n g)).getD c [])) := by
 intro l d J hJ1 hJ2 hY h0
 have hJ : JOk okI W1 J := ⟨hJ1, hJ2⟩
 have hC := itO_sound hL
 obtain ⟨fn, c, hfn, hbody, hnt, hres, hfit⟩ := hF.fn
 refine callsIn_of_wp hfn hbody trivial ?_ rfl
 obtain ⟨c0, cX, rfl, ⟨id0, ops0, rfl, hr0, _⟩, c1, cY, rfl, ⟨id1, ops1, rfl, hr1, _⟩, c2, c3, rfl, ⟨id2, ops2, rfl, hr2, _⟩, id3, ops3, rfl, hr3, _⟩ := hfit
 have hresE : fn.results.toList = [] := by
  cases hq : fn.results.toList with
  | nil => rfl
  | cons a b => rw [hq] at hres; cases hres
 have hres0 : ∀ (a : Act) (w : World), (results fn a.tmps).run P w = .ok (.tuple #[]) w := fun a w => by
  have : fn.results = #[] := by rw [← Array.toArray_toList (xs := fn.results), hresE]
  simp [results, this]
 obtain ⟨y, hy⟩ : ∃ y : Value, y = .func (.yield l) #[] #[] := ⟨_, rfl⟩
 rw [← hy]
 have hnt' : fn.ntmps = 8 := hnt
 have hm0 := ((MR.init (w := W1) hok).rebase (fun _ _ => rfl) (Nat.le_refl _)).1
 have he0 : ER ([], []) (fun _ => none) okI ([] : List Blk) W1 [.x (.c (.lit y)), .x (.c (.rp (.pr (.sl intR) .nil) (fun _ => .ro fl intR n g))), .undef, .undef, .undef, .undef, .undef, .undef] { tmps := (#[y] ++ cs) ++ Array.replicate (fn.ntmps - (#[y] ++ cs).size) undef, defers := [] } := by
  have t0 : ((#[y] ++ cs) ++ Array.replicate (fn.ntmps - (#[y] ++ cs).size) undef)[0]? = some y := by rw [Array.getElem?_append_left (by simp; omega), Array.getElem?_append_left (by simp)]; rfl
  have t1 : ((#[y] ++ cs) ++ Array.replicate (fn.ntmps - (#[y] ++ cs).size) undef)[1]? = some up := by
   rw [Array.getElem?_append_left (by simp; omega), Array.getElem?_append_right (by simp)]
   exact hc0
  have t2 : ∀ t, t < 6 → ((#[y] ++ cs) ++ Array.replicate (fn.ntmps - (#[y] ++ cs).size) undef)[t + 2]? = some undef := fun t ht => by
   rw [Array.getElem?_append_right (by simp [hcs]), Array.getElem?_replicate, if_pos (by simp [hcs, hnt']; omega)]
  refine ⟨by simp [hcs, hnt'], fun t v ht => ?_, ⟨rfl, fun q hq => by cases hq⟩, hgl⟩
  rcases t with _ | _ | _ | _ | _ | _ | _ | _ | t
  ·cases ht; exact ⟨y, t0, rfl, by rw [hy]; rfl⟩
  ·cases ht; exact ⟨up, t1, hc⟩
  ·cases ht; exact ⟨undef, t2 0 (by omega), rfl⟩
  ·cases ht; exact ⟨undef, t2 1 (by omega), rfl⟩
  ·cases ht; exact ⟨undef, t2 2 (by omega), rfl⟩
  ·cases ht; exact ⟨undef, t2 3 (by omega), rfl⟩
  ·cases ht; exact ⟨undef, t2 4 (by omega), rfl⟩
  ·cases ht; exact ⟨undef, t2 5 (by omega), rfl⟩
  ·simp at ht
 have yb : YI okI J 0 (fun _ => none) okI W1 := ⟨hJ.less h0 fun g hg => by
  rcases hg.1 with ⟨b, q⟩ | q
  ·cases q
  ·exact hg.2 q, fun g hg => hg, fun g _ ⟨b, q⟩ => by cases q⟩
 obtain ⟨μ1, hm1, E1⟩ := hm0.reserve 1
 refine wpIn_seq (region_sound (C := itO) (hb := 0) (st := ⟨_, [.rsv]⟩) (k := some) hC hr0 (fun f hf q hq => by cases hq) hm1 (he0.ext E1) (fun μ ok st a w hm he hk => ?_) rfl)
 cases hk
 clear hm1 E1
 obtain ⟨μ1, hm1, E1⟩ := hm.reserve 1
 refine wpIn_seq (region_sound (C := itO) (hb := 1) (st := ⟨_, [.box [.c (.lit y)], .rsv]⟩) (k := some) hC hr1 (fun f hf q hq => by cases hq) hm1 (he.ext E1) (fun μ ok st a w hm he hk => ?_) rfl)
 cases hk
 refine wpIn_seq (region_sound (C := itO) (hb := 2) (st := ⟨_, [.box [.c (.lit y)], .box [.u]]⟩) (k := some) hC hr2 (fun f hf q hq => by cases hq) hm he (fun μ ok st a w hm he hk => ?_) rfl)
 cases hk
 refine region_pre (C := itO) (hb := 2) (df := ([], [])) (pre := [o1 5 (lo 93 3), o1 6 (lo 75 1)]) (st := ⟨_, [.box [.c (.lit y)], .box [.fn 37 [.ptr 0 0, .ptr 1 0]]]⟩) (K := some) hC hr3 (fun f hf q hq => by cases hq) hm he (fun μ ok st a w hm he hk o ho hof => ?_) rfl
 cases hk
 have hyw := yb.run hJ hm
 obtain ⟨u5, h5, hr5⟩ := he.env 5 (.x (.fn 37 [.ptr 0 0, .ptr 1 0])) rfl
 have clos : ∀ {u : Value}, V0R μ ok w [.box [.c (.lit y)], .box [.fn 37 [.ptr 0 0, .ptr 1 0]]] (.fn 37 [.ptr 0 0, .ptr 1 0]) u → ∃ g2 g3, μ 0 = some g2 ∧ μ 1 = some g3 ∧ u = cloV (.pointer (some ⟨g2, 0, none⟩)) (.pointer (some ⟨g3, 0, none⟩)) := by
  rintro u ⟨cs, rfl, hs, hcap⟩
  obtain ⟨u0, q0, _, g2, q1, rfl⟩ := hcap 0 (.ptr 0 0) rfl
  obtain ⟨u1, q2, _, g3, q3, rfl⟩ := hcap 1 (.ptr 1 0) rfl
  refine ⟨g2, g3, q1, q3, ?_⟩
  have : cs = #[.pointer (some ⟨g2, 0, none⟩), .pointer (some ⟨g3, 0, none⟩)] := by
   apply Array.ext_getElem?
   intro k
   match k with
   | 0 => exact q0
   | 1 => exact q2
   | k + 2 =>
    have hs : cs.size = 2 := hs
    rw [Array.getElem?_eq_none (by omega)]; rfl
  rw [this]; rfl
 obtain ⟨g2, g3, hg2, hg3, hu5⟩ := clos hr5
 have hp2 : CR (fun g => ok g ∨ rg μ g) w (boxY y) (.pointer (some ⟨g2, 0, none⟩)) := by
  obtain ⟨g, cur, e, q1, q2, q3, q4⟩ := hm.blk 0 _ rfl
  rw [hg2] at q1; cases q1
  refine ⟨g2, 0, rfl, .inr ⟨0, hg2⟩, fun j hj => ?_⟩
  have hj0 : j = 0 := by simp [Kd.len] at hj; omega
  subst hj0
  obtain ⟨u, r1, r2⟩ := q4 0 _ rfl
  exact ⟨trivial, u, by rw [cell_of_row w g2 _ cur e (0, 0) q2]; exact r1, r2⟩
 have hp3 : CR (fun g => ok g ∨ rg μ g) w (boxY (cloV (.pointer (some ⟨g2, 0, none⟩)) (.pointer (some ⟨g3, 0, none⟩)))) (.pointer (some ⟨g3, 0, none⟩)) := by
  obtain ⟨g, cur, e, q1, q2, q3, q4⟩ := hm.blk 1 _ rfl
  rw [hg3] at q1; cases q1
  refine ⟨g3, 0, rfl, .inr ⟨1, hg3⟩, fun j hj => ?_⟩
  have hj0 : j = 0 := by simp [Kd.len] at hj; omega
  subst hj0
  obtain ⟨u, r1, r2⟩ := q4 0 _ rfl
  obtain ⟨g2', g3', s1, s2, s3⟩ := clos r2
  rw [hg2] at s1; cases s1
  rw [hg3] at s2; cases s2
  exact ⟨trivial, u, by rw [cell_of_row w g3 _ cur e (0, 0) q2]; exact r1, s3, rfl⟩
 obtain ⟨u6, h6, hr6⟩ := he.env 6 (.x (.c (.ro false intR n g))) rfl
 have hr6 : CR ok w (.ro false intR n g) u6 := hr6
 have hlen : (liL n g).length = n := by simp [liL]
 have hw : ∀ g, (ok g ∨ rg μ g) → g < w.heap.size := fun g hg => by
  rcases hg with q | ⟨b, q⟩
  ·exact (hm.okd g q).1
  ·exact (hm.fresh b g q).2.1
 have hcall := next_all (l := l) (p2 := .pointer (some ⟨g2, 0, none⟩)) (p3 := .pointer (some ⟨g3, 0, none⟩)) hmix hN hL hJ hy hY n [] (liL n g) 0 (fun g => ok g ∨ rg μ g) w (.slice none 0 0) u6 true false hlen (by simpa using hn) (fun i hi => by
   have e : permL n (liL n g) = permsL (liL n g) := by unfold permsL; rw [hlen]
   rw [e] at hi ⊢
   refine ⟨by omega, ?_⟩
   rw [Nat.zero_add]; rfl) (fun g hg => .inl (hyw.sub g hg)) hw (he.glob.mono fun g hg => ⟨.inl hg, rfl⟩) (hJ.less hyw.j fun g hg => ⟨hg.1.symm, hg.2⟩) ⟨none, 0, rfl, Nat.le_refl _, Nat.zero_le _, fun _ => rfl, .inl rfl⟩ (CR.mono (fun g hg => ⟨.inl hg, rfl⟩) hr6).listed hp2 hp3 (d - 1)
 rw [hu5] at h5
 refine call_op0 (o := o) ho hof (gf := 37) (cs := #[.pointer (some ⟨g2, 0, none⟩), .pointer (some ⟨g3, 0, none⟩)]) h5 h6 hN.ok hcall (fun e w' hh => ⟨hh.1, ?_⟩)
 obtain ⟨_, I', hI', hj', hsame⟩ := hh
 refine ⟨he.defers.1, _, hres0 _ _, ⟨_, rfl⟩, I', ?_⟩
 have e : permL n (liL n g) = permsL (liL n g) := by unfold permsL; rw [hlen]
 rw [e, Nat.zero_add] at hj'
 exact hj'
theorem wk_box {gf : FuncId} {r : Kd} {cv : CV} (hr : rowOf [cv] = r) (hl : r.len = 1) : Wk (.fn gf 1 (listF [.rp (rowOf [cv]) (listF [cv])])) (.fn gf 1 (fun _ => .rp r (fun _ => cv))) := by
 rintro ok w v ⟨cs, rfl, h1, h2⟩
 refine ⟨cs, rfl, h1, fun j hj => ?_⟩
 obtain ⟨u, hu, hr'⟩ := h2 j hj
 have e : j = 0 := by omega
 subst e
 refine ⟨u, hu, ?_⟩
 obtain ⟨g', off, h3, h4, h5⟩ := hr'
 rw [hr] at h5
 refine ⟨g', off, h3, h4, fun j hj => ?_⟩
 have e : j = 0 := by omega
 subst e
 exact h5 0 hj
theorem itT_ok {P : Program} (hmix : P.follows .mixedOrders = true) (h0 : FFits P 23 tgF) (h1 : FFits P 34 tuF) (hL : ItLib P) : ItOk P 23 itT := by
 refine ⟨fun cv n el h => ?_⟩
 unfold itT at h
 split at h
 ·rename_i k
  injection h with h
  obtain ⟨hc, h⟩ := Prod.mk.inj h
  simp only [Bool.and_eq_true, decide_eq_true_eq] at hc
  cases h
  refine ⟨34, 1, fun _ => .rp (.pr (.int .i64) .nil) (fun _ => vi k), Den.results (.cons (WkA.v (wk_box (cv := vi k) rfl rfl)) .nil) (evalF_sound (fuel := 0) (C := itO) hmix (itO_sound hL) h0 rfl), h1.ok, fun okI W1 cs hok hgl hcs hcap => ?_⟩
  obtain ⟨up, q1, q2⟩ := hcap 0 (by omega)
  have hk : vi k = vi (Int.ofNat k.toNat) := congrArg vi (by show k = (k.toNat : Int); omega)
  rw [hk] at q2
  exact tu_calls hmix h1 hL (by omega) hok hgl hcs q1 q2
 ·cases h
theorem itP_ok {P : Program} (hmix : P.follows .mixedOrders = true) (h0 : FFits P 24 ogF) (h1 : FFits P 36 odF) (h2 : FFits P 37 nxF) (hL : ItLib P) : ItOk P 24 itP := by
 refine ⟨fun cv n el h => ?_⟩
 unfold itP at h
 split at h
 ·rename_i fl m g
  injection h with h
  obtain ⟨hc, h⟩ := Prod.mk.inj h
  cases h
  refine ⟨36, 1, fun _ => .rp (.pr (.sl intR) .nil) (fun _ => .ro fl intR m g), Den.results (.cons (WkA.v (wk_box (cv := .ro fl intR m g) rfl rfl)) .nil) (evalF_sound (fuel := 0) (C := itO) hmix (itO_sound hL) h0 rfl), h1.ok, fun okI W1 cs hok hgl hcs hcap => ?_⟩
  obtain ⟨up, q1, q2⟩ := hcap 0 (by omega)
  exact od_calls hmix h1 h2 hL (Nat.le_of_ble_eq_true hc) hok hgl hcs q1 q2
 ·cases h
end Go.Eng
