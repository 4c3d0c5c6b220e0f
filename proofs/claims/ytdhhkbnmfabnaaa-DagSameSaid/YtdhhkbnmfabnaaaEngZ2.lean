/-
 The iterator of slices.Backward: what it does with its loop's body.
-/
import Derived.Test.YtdhhkbnmfabnaaaEngZ1
import Derived.Test.YtdhhkbnmfabnaaaEngU
set_option linter.all false
namespace Go.Eng
open Go Go.RowKit
def bwR0 (tS tI : TypeId) : List FOp := [o1 4 (.load tS none (tm 1)), o1 5 (.len tS false (tm 4)), o1 6 (.binOp .sub tI (tm 5) (.const (.int .i64 1)) tI), o1 3 (.assign (tm 6))]
def bwR1 (tI : TypeId) : List FOp := [mv 7 3, o1 8 (.binOp .geq tI (tm 7) (.const (.int .i64 0)) tI)]
def bwR2 (tI : TypeId) : List FOp := [mv 9 3, o1 10 (.binOp .sub tI (tm 9) (.const (.int .i64 1)) tI), o1 3 (.assign (tm 10))]
def bwR3 (tS tE tI tB : TypeId) : List FOp := [mv 11 0, mv 12 3, o1 13 (.load tS none (tm 1)), mv 14 3, o1 15 (.indexAddr tS tE 1 (tm 13) (tm 14)), o1 16 (.load tE none (tm 15)), o1 17 (.callv (tm 11) [tm 12, tm 16] [tI, tE] .snap), o1 18 (.unOp .not tB (tm 17))]
def bwA (tS tE tI tB : TypeId) : AC :=
 .seq (.region 0 (bwR0 tS tI) 0 none) []
  (.block 0 (.loop [] [] (.seq (.seq (.region 1 (bwR1 tI) 0 none) [] (.cond (tm 8) .skip (.exit 0 []))) []
   (.seq (.block 1 (.seq (.region 3 (bwR3 tS tE tI tB) 0 none) [] (.cond (tm 18) (.ret []) .skip))) [] (.region 2 (bwR2 tI) 0 none)))))
def bwF (tS tE tI tB : TypeId) : AF := ⟨19, [], bwA tS tE tI tB⟩
def bwE (p : V) (c : Int) : List V := [.u, p, .u, i64 c, .u, .u, .u, .u, .u, .u, .u, .u, .u, .u, .u, .u, .u, .u, .u]
def noO : Oracle := ⟨fun _ _ {_} _ => none, fun _ _ {_} _ => rfl, fun _ _ _ _ _ => none, fun _ _ _ => none, fun _ _ _ _ _ => none⟩
theorem noO_sound {P : Program} : Sound P noO := ⟨(fun _ _ _ h => by cases h), (fun _ _ _ _ _ _ h => by cases h), (fun _ _ _ _ _ h => by cases h), (fun _ _ _ _ _ _ _ h => by cases h)⟩
theorem sameOpd_tmp {t : Nat} {o : Operand} (h : sameOpd (.tmp t) o = true) : o = .tmp t := by
 unfold sameOpd at h
 split at h
 ·rename_i h1; cases h1; rw [Nat.eq_of_beq_eq_true h]
 ·rename_i h1; cases h1
 ·cases h
theorem Below.of_base {w w' : World} (h : BelowB ⟨w, fun _ => False⟩ w') : Below w.heap.size w w' :=
 ⟨⟨h.os, h.tape, h.output, h.size, fun k hk => h.block k hk (fun q => q)⟩, h.drawn⟩
theorem ER.weak {df : DF} {μ : Nat → Option Nat} {ok : Nat → Prop} {H : List Blk} {w : World} {env env' : List V} {a : Act} (h : ER df μ ok H w env a) (hl : env'.length = env.length)
  (hv : ∀ (t : Nat) (v : V), env'[t]? = some v → v = V.u ∨ env[t]? = some v) : ER df μ ok H w env' a := by
 refine ⟨by rw [hl]; exact h.size, fun t v ht => ?_, h.defers, h.glob⟩
 rcases hv t v ht with rfl | h1
 ·have hlt : t < a.tmps.size := by
   have := (List.getElem?_eq_some_iff.1 ht).1
   rw [hl] at this; rw [h.size]; exact this
  exact ⟨a.tmps[t], by simp [hlt], trivial⟩
 ·exact h.env t v h1
def bwX (p : V) (c : Int) : List V := [.u, p, .u, i64 c, .u, .u, .u, .u, .u, .u, .u, .u, .u, .u, .u, .u, .u, bl true, .u]
theorem bw_er {okI : Nat → Prop} {kk : IntKind} {fl : Bool} {n : Nat} {g : Nat → Nat → CV} {W1 W' : World} {tmps : Array Value} {ds : List Deferred} {m : Nat} {y up : Value} (hgl : GlobR okI W1)
  (hc : CR okI W1 (.rp (.pr (.sl (.pr (.int kk) .nil)) .nil) (fun _ => .ro fl (.pr (.int kk) .nil) n g)) up) (hh : ∀ g, okI g → W'.heap[g]? = W1.heap[g]?) (hsz : tmps.size = 19)
  (h0 : tmps[0]? = some y) (h1 : tmps[1]? = some up) (h3 : tmps[3]? = some (.int .i64 (m : Int))) (hd : ds = []) :
  ER ([], [(0, y), (1, up)]) (fun _ => none) okI ([] : List Blk) W' (bwX (.x (.c (.rp (.pr (.sl (.pr (.int kk) .nil)) .nil) (fun _ => .ro fl (.pr (.int kk) .nil) n g)))) (m : Int)) (Act.put { tmps := tmps, defers := ds } (some 17) (.bool true)) := by
 have e17 : ∀ t, t ≠ 17 → (tmps.setIfInBounds 17 (.bool true))[t]? = tmps[t]? := fun t ht => Array.getElem?_setIfInBounds_ne (Ne.symm ht)
 refine ⟨by simp [Act.put, hsz, bwX], fun t v ht => ?_, ⟨hd, fun q hq => ?_⟩, hgl.mono (fun g hg => ⟨hg, hh g hg⟩)⟩
 ·by_cases q : t = 17
  ·subst q; cases ht
   exact ⟨.bool true, by simp only [Act.put]; rw [Array.getElem?_setIfInBounds_self_of_lt (by omega)], rfl⟩
  ·simp only [Act.put]
   rw [e17 t q]
   rcases t with _ | _ | _ | _ | t
   ·cases ht; exact ⟨y, h0, trivial⟩
   ·cases ht
    exact ⟨up, h1, CR.mono (fun g hg => ⟨hg, hh g hg⟩) hc⟩
   ·cases ht; exact ⟨tmps[2], by simp [hsz], trivial⟩
   ·cases ht; exact ⟨_, h3, rfl⟩
   ·have hlt : t + 4 < 19 := by
     have := (List.getElem?_eq_some_iff.1 ht).1
     simpa [bwX] using this
    refine ⟨tmps[t + 4], by simp [hsz, hlt], ?_⟩
    have : v = .u := by
     rcases t with _ | _ | _ | _ | _ | _ | _ | _ | _ | _ | _ | _ | _ | _ | _ | t <;> first | (cases ht; rfl) | (exact (q rfl).elim) | omega
    rw [this]; trivial
 ·simp only [List.mem_cons, List.not_mem_nil, or_false] at hq
  simp only [Act.put]
  rcases hq with e | e <;> (subst e; rw [e17 _ (by simp)]; assumption)
section
variable {P : Program} {gf : FuncId} {tS tE tI tB : TypeId} {okI : Nat → Prop} {kk : IntKind} {fl : Bool} {n : Nat} {g : Nat → Nat → CV} {l : Nat}
theorem bw_calls {W1 : World} {d : Nat} (hF : FFits P gf (bwF tS tE tI tB)) (hok : ∀ g, okI g → g < W1.heap.size) (hgl : GlobR okI W1) {cs : Array Value} (hcs : cs.size = 1)
  {up : Value} (hc0 : cs[0]? = some up) (hc : CR okI W1 (.rp (.pr (.sl (.pr (.int kk) .nil)) .nil) (fun _ => .ro fl (.pr (.int kk) .nil) n g)) up)
  (J : Nat → World → Prop) (hJ : ∀ k W, J k W → W1.heap.size ≤ W.heap.size ∧ ∀ g, okI g → W.heap[g]? = W1.heap[g]?) (hJ2 : ∀ k W W', J k W → Below W.heap.size W W' → J k W')
  (hY : ∀ k W, k < n → J (k + 1) W → ∃ fn tmps assign body, (Instr.yield l #[.int .i64 (k : Int), .int kk (CV.int (g k 0))]).run P W = .ok (.round l fn tmps assign body) W ∧ ∀ d, RoundIn (wd none) d P l fn tmps assign body W (fun e W' => e = .returned (.bool true) ∧ J k W'))
  (h0 : J n W1) : CallsIn (wd none) d P gf (#[.func (.yield l) #[] #[]] ++ cs) W1 (fun e W' => (∃ v, e = .returned v) ∧ J 0 W') := by
 have hn63 : (n : Int) ≤ 9223372036854775807 := by
  obtain ⟨gb, off, _, _, hh⟩ := hc
  obtain ⟨_, u, _, a, cap, _, h1, h2, _⟩ := hh 0 (by simp [Kd.len])
  simp [maxLen] at h2
  omega
 obtain ⟨fn, c, hfn, hbody, hnt, hres, hfit⟩ := hF.fn
 refine callsIn_of_wp hfn hbody trivial ?_ rfl
 obtain ⟨c0, cL, rfl, ⟨id0, ops0, rfl, hr0, _⟩, cl, rfl, cb, rfl, ca, cc, rfl, ⟨c1, cco, rfl, ⟨id1, ops1, rfl, hr1, _⟩, o1', cx, cy, rfl, hso, hcx, hcy⟩, c3b, c2, rfl, ⟨c3s, rfl, c3, cco2, rfl, ⟨id3, ops3, rfl, hr3, _⟩, o3', cx2, cy2, rfl, hso2, hcx2, hcy2⟩, id2, ops2, rfl, hr2, _⟩ := hfit
 cases hcx; cases hcy; cases hcx2; cases hcy2
 have := sameOpd_tmp hso
 subst this
 have := sameOpd_tmp hso2
 subst this
 have hresE : fn.results.toList = [] := by
  cases hq : fn.results.toList with
  | nil => rfl
  | cons a b => rw [hq] at hres; cases hres
 obtain ⟨y, hy⟩ : ∃ y : Value, y = .func (.yield l) #[] #[] := ⟨_, rfl⟩
 rw [← hy]
 have hnt' : fn.ntmps = 19 := hnt
 obtain ⟨pv, hpv⟩ : ∃ p : V, p = .x (.c (.rp (.pr (.sl (.pr (.int kk) .nil)) .nil) (fun _ => .ro fl (.pr (.int kk) .nil) n g))) := ⟨_, rfl⟩
 obtain ⟨dd, hdd⟩ : ∃ dd : DF, dd = ([], [(0, y), (1, up)]) := ⟨_, rfl⟩
 have off : ∀ {f : FOp} {ls : List FOp}, (ls.all fun f => match f.dst with | some d => !Nat.beq d 0 && !Nat.beq d 1 | none => true) = true → f ∈ ls → ∀ q, q ∈ dd.2 → f.dst ≠ some q.1 := by
  intro f ls h hf q hq k
  have h1 := List.all_eq_true.1 h f hf
  rw [k] at h1
  rw [hdd] at hq
  simp only [List.mem_cons, List.not_mem_nil, or_false] at hq
  rcases hq with e | e <;> (subst e; cases h1)
 -- the beginning
 have hm1 := MR.init (w := W1) hok
 have he1 : ER dd (fun _ => none) okI ([] : List Blk) W1 [.u, pv, .undef, .undef, .undef, .undef, .undef, .undef, .undef, .undef, .undef, .undef, .undef, .undef, .undef, .undef, .undef, .undef, .undef]
   { tmps := (#[y] ++ cs) ++ Array.replicate (fn.ntmps - (#[y] ++ cs).size) undef, defers := [] } := by
  have hs2 : (#[y] ++ cs).size = 2 := by simp [hcs]
  have t0 : ((#[y] ++ cs) ++ Array.replicate (fn.ntmps - (#[y] ++ cs).size) undef)[0]? = some y := by rw [Array.getElem?_append_left (by omega), Array.getElem?_append_left (by simp)]; rfl
  have t1 : ((#[y] ++ cs) ++ Array.replicate (fn.ntmps - (#[y] ++ cs).size) undef)[1]? = some up := by
   rw [Array.getElem?_append_left (by omega), Array.getElem?_append_right (by simp)]
   exact hc0
  refine ⟨by simp [hcs, hnt'], fun t v ht => ?_, ⟨by rw [hdd], fun q hq => ?_⟩, hgl⟩
  ·rcases t with _ | _ | t
   ·cases ht; exact ⟨y, t0, trivial⟩
   ·cases ht
    exact ⟨up, t1, by rw [hpv]; exact hc⟩
   ·have hlt : t < 17 := by
     have := (List.getElem?_eq_some_iff.1 ht).1
     simp at this; omega
    have hv : v = .undef := by
     have : ∀ t, t < 17 → ([.u, pv, .undef, .undef, .undef, .undef, .undef, .undef, .undef, .undef, .undef, .undef, .undef, .undef, .undef, .undef, .undef, .undef, .undef] : List V)[t + 2]? = some .undef := by
      intro t ht
      rcases t with _ | _ | _ | _ | _ | _ | _ | _ | _ | _ | _ | _ | _ | _ | _ | _ | _ | t <;> first | rfl | omega
     rw [this t hlt] at ht; cases ht; rfl
    subst hv
    refine ⟨undef, ?_, rfl⟩
    rw [Array.getElem?_append_right (by omega), Array.getElem?_replicate, if_pos (by omega)]
  ·rw [hdd] at hq
   simp only [List.mem_cons, List.not_mem_nil, or_false] at hq
   rcases hq with e | e <;> (subst e; assumption)
 -- the head of a round
 have hw : ∀ c : Int, -9223372036854775808 ≤ c → c ≤ 9223372036854775807 → IntKind.wrap .i64 c = c := fun c h1 h2 => by simp [IntKind.wrap, IntKind.signed, IntKind.bits]; omega
 have head : ∀ (m : Nat) (Wj w : World) (μ : Nat → Option Nat) (ok : Nat → Prop) (a : Act) (Q : Exit → Act → World → Prop), m ≤ n → J m Wj → MR ⟨Wj, fun _ => False⟩ okI μ ok ([] : List Blk) w → ER dd μ ok ([] : List Blk) w (bwE pv ((m : Int) - 1)) a →
   (∀ a w, a.defers = [] → J 0 w → Q (.exit 0) a w) →
   Code.roundsIn (wd none) d P (.seq (.seq (.region id1 ops1 false) (.cond (.tmp 8) .skip (.exit 0))) (.seq (.block 1 (.seq (.region id3 ops3 false) (.cond (.tmp 18) .ret .skip))) (.region id2 ops2 false))) Q (m + 1) a w := by
  intro m
  induction m with
  | zero =>
   intro Wj w μ ok a Q hmn hj hm he hQ
   rw [roundsIn_succ]
   refine wpIn_seq (wpIn_seq (region_sound (C := noO) (hb := 0) (st := ⟨bwE pv (((0 : Nat) : Int) - 1), []⟩) (k := some) noO_sound hr1 (fun f hf => off (by rfl) hf) hm he (fun μ ok st a w hm he hk => ?_) rfl))
   cases hk
   have h8 := eval_tmp (env_bool he (t := 8) (x := false) rfl)
   refine wpIn_cond (t := false) h8 (wpIn_exit ?_)
   refine hQ a w ?_ (hJ2 0 Wj w hj (Below.of_base hm.below))
   have := he.defers.1
   rw [hdd] at this; exact this
  | succ m ih =>
   intro Wj w μ ok a Q hmn hj hm he hQ
   have e0 : ((m + 1 : Nat) : Int) - 1 = (m : Int) := by omega
   rw [e0] at he
   rw [roundsIn_succ]
   refine wpIn_seq (wpIn_seq (region_sound (C := noO) (hb := 0) (st := ⟨bwE pv (m : Int), []⟩) (k := some) noO_sound hr1 (fun f hf => off (by rfl) hf) hm he (fun μ ok st a w hm he hk => ?_) rfl))
   cases hk
   have h8 : a.eval (.tmp 8) = .bool (decide ((m : Int) ≥ 0)) := eval_tmp (env_bool he (t := 8) rfl)
   rw [decide_eq_true (by omega)] at h8
   refine wpIn_cond (t := true) h8 (wpIn_skip ?_)
   refine wpIn_seq (wpIn_block (wpIn_seq (wpIn_region ?_)))
   have hl3 : ops3.size = 8 := hr3.len.symm
   rw [hl3]
   show wpOpsIn (wd none) d P ops3 _ [0, 1, 2, 3, 4, 5, 6, 7] a w
   obtain ⟨x0, ho0, hf0⟩ := hr3.at_ 0 (mv 11 0) rfl
   obtain ⟨x1, ho1, hf1⟩ := hr3.at_ 1 (mv 12 3) rfl
   obtain ⟨x2, ho2, hf2⟩ := hr3.at_ 2 (o1 13 (.load tS none (tm 1))) rfl
   obtain ⟨x3, ho3, hf3⟩ := hr3.at_ 3 (mv 14 3) rfl
   obtain ⟨x4, ho4, hf4⟩ := hr3.at_ 4 (o1 15 (.indexAddr tS tE 1 (tm 13) (tm 14))) rfl
   obtain ⟨x5, ho5, hf5⟩ := hr3.at_ 5 (o1 16 (.load tE none (tm 15))) rfl
   obtain ⟨x6, ho6, hf6⟩ := hr3.at_ 6 (o1 17 (.callv (tm 11) [tm 12, tm 16] [tI, tE] .snap)) rfl
   obtain ⟨x7, ho7, hf7⟩ := hr3.at_ 7 (o1 18 (.unOp .not tB (tm 17))) rfl
   have want : ∀ {f : FOp} {o : Oper}, guardOk ops3 f o = true → f.guard = none → o.guard = none := by
    intro f o h1 h2
    unfold guardOk at h1
    rw [h2] at h1
    cases ho : o.guard with
    | none => rfl
    | some p => rw [ho] at h1; cases h1
   -- the first by hand: what yield is stays known
   rw [wpOpsIn_cons]
   unfold wpOpIn
   rw [ho0]
   dsimp only
   rw [if_pos (by simp [Region.wanted, want hf0.guard rfl])]
   have hp0 : a.tmps[0]? = some y := he.defers.2 (0, y) (by rw [hdd]; exact List.mem_cons_self ..)
   have hp1 : a.tmps[1]? = some up := he.defers.2 (1, up) (by rw [hdd]; exact List.mem_cons_of_mem _ (List.mem_cons_self ..))
   refine wp_round (fun c => by rw [hf0.op]; exact erase_defer _ c) (wp_value (u := y) (w' := w) ?_ ?_)
   ·have hop : x0.op = .move (.tmp 0) := hf0.op
    have hev : a.eval (.tmp 0) = y := eval_tmp hp0
    simp [execOp, hop, hev]
   have hd0 : x0.dst = some 11 := hf0.dst
   rw [hd0]
   have he11 := he.put (d := 11) (v := .u) (u := y) (fun q hq => by
    rw [hdd] at hq
    simp only [List.mem_cons, List.not_mem_nil, or_false] at hq
    rcases hq with e | e <;> (subst e; simp)) trivial
   have hlt11 : 11 < a.tmps.size := by rw [he.size]; exact (by decide : 11 < 19)
   obtain ⟨d2, hd2⟩ : ∃ d2 : DF, d2 = ([], [(0, y), (1, up), (11, y)]) := ⟨_, rfl⟩
   have he' : ER d2 μ ok ([] : List Blk) w _ (a.put (some 11) y) := ⟨he11.size, he11.env, ⟨by
    have := he.defers.1
    rw [hdd] at this
    rw [hd2]; exact this, fun q hq => by
    rw [hd2] at hq
    simp only [List.mem_cons, List.not_mem_nil, or_false] at hq
    rcases hq with e | e | e
    ·subst e; simp only [Act.put]; rw [Array.getElem?_setIfInBounds_ne (by decide)]; exact hp0
    ·subst e; simp only [Act.put]; rw [Array.getElem?_setIfInBounds_ne (by decide)]; exact hp1
    ·subst e; simp only [Act.put]; rw [Array.getElem?_setIfInBounds_self_of_lt hlt11]⟩, he11.glob⟩
   have off2 : ∀ {f : FOp} {t : Nat}, f.dst = some t → (Nat.beq t 0 || Nat.beq t 1 || Nat.beq t 11) = false → ∀ q, q ∈ d2.2 → f.dst ≠ some q.1 := by
    intro f t h1 h2 q hq k
    rw [h1] at k
    cases k
    rw [hd2] at hq
    simp only [List.mem_cons, List.not_mem_nil, or_false] at hq
    rcases hq with e | e | e <;> (subst e; cases h2)
   clear he he11
   rw [wpOpsIn_cons]
   refine fop_step (hb := 0) (st := ⟨_, []⟩) (k := some) noO_sound hm he' ho1 hf1 (off2 rfl rfl) (fun μ ok st a w hm he hk => ?_) rfl
   cases hk
   rw [wpOpsIn_cons]
   refine fop_step (hb := 0) (st := ⟨_, []⟩) (k := some) noO_sound hm he ho2 hf2 (off2 rfl rfl) (fun μ ok st a w hm he hk => ?_) (by rw [hpv]; rfl)
   cases hk
   rw [wpOpsIn_cons]
   refine fop_step (hb := 0) (st := ⟨_, []⟩) (k := some) noO_sound hm he ho3 hf3 (off2 rfl rfl) (fun μ ok st a w hm he hk => ?_) rfl
   cases hk
   rw [wpOpsIn_cons]
   have hin : inb (m : Int) n = true := inb_true (by omega) (by omega)
   refine fop_step (hb := 0) (st := ⟨_, []⟩) (r := ⟨_, []⟩) (k := some) noO_sound hm he ho4 hf4 (off2 rfl rfl) (fun μ ok st a w hm he hk => ?_) ((show _ = (bif inb (m : Int) n then _ else none) from rfl).trans (by rw [hin]; rfl))
   cases hk
   rw [wpOpsIn_cons]
   refine fop_step (hb := 0) (st := ⟨_, []⟩) (k := some) noO_sound hm he ho5 hf5 (off2 rfl rfl) (fun μ ok st a w hm he hk => ?_) rfl
   cases hk
   -- yield
   have h11 : a.tmps[11]? = some y := he.defers.2 (11, y) (by rw [hd2]; simp)
   have h12 : a.tmps[12]? = some (.int .i64 (m : Int)) := by
    obtain ⟨u, hu, hr⟩ := he.env 12 (i64 (m : Int)) rfl
    have hr : u = .int .i64 (m : Int) := hr
    rw [hr] at hu
    exact hu
   have h16 : a.tmps[16]? = some (.int kk (CV.int (g m 0))) := by
    obtain ⟨u, hu, hr⟩ := he.env 16 (.x (.c (.i kk (CV.int (g m 0))))) rfl
    have hr : u = .int kk (CV.int (g m 0)) := hr
    rw [hr] at hu
    exact hu
   have hjw := hJ2 (m + 1) Wj w hj (Below.of_base hm.below)
   obtain ⟨rf, rt, ra, rb, hy1, hy2⟩ := hY m w (by omega) hjw
   rw [wpOpsIn_cons]
   unfold wpOpIn
   rw [ho6]
   dsimp only
   rw [if_pos (by simp [Region.wanted, want hf6.guard rfl])]
   have hd6 : x6.dst = some 17 := hf6.dst
   refine ⟨fun _ _ => trivial, ?_⟩
   have hrun : (x6.semAt (wd none).round a.eval).run P w = .ok (.round l rf rt ra rb) w := by
    have hop : x6.op = .call { callee := .value (tm 11), args := #[tm 12, tm 16], argTypes := #[tI, tE] } := hf6.op
    have e : (x6.semAt (wd none).round a.eval) = execOp a.eval x6 := rfl
    rw [e]
    simp [execOp, hop, resolve, h11, h12, h16, hy, invoke, Deferred.ofValue, go_sem, hy1]
   rw [hrun, Oper.uponIn_round]
   refine ⟨(fun k => by cases k), (hy2 _).mono ?_⟩
   rintro e W' ⟨rfl, hjm⟩
   dsimp only
   rw [hd6]
   have hp0' : a.tmps[0]? = some y := he.defers.2 (0, y) (by rw [hd2]; simp)
   have hp1' : a.tmps[1]? = some up := he.defers.2 (1, up) (by rw [hd2]; simp)
   have h3' : a.tmps[3]? = some (.int .i64 (m : Int)) := by
    obtain ⟨u, hu, hr⟩ := he.env 3 (i64 (m : Int)) rfl
    have hr : u = .int .i64 (m : Int) := hr
    rw [hr] at hu
    exact hu
   have hsz : a.tmps.size = 19 := he.size
   have hdf : a.defers = [] := by have := he.defers.1; rw [hd2] at this; exact this
   obtain ⟨hs, hh⟩ := hJ m W' hjm
   have heN := bw_er (tmps := a.tmps) (kk := kk) (fl := fl) (n := n) (g := g) hgl hc hh hsz hp0' hp1' h3' hdf
   rw [← hpv, ← hdd] at heN
   have hmN := MR.init (w := W') (okA := okI) (fun g hg => Nat.lt_of_lt_of_le (hok g hg) hs)
   rw [wpOpsIn_cons]
   refine fop_step (hb := 0) (st := ⟨bwX pv (m : Int), []⟩) (k := some) noO_sound hmN heN ho7 hf7 (by rw [hdd]; simp [o1]) (fun μ ok st a w hm he hk => ?_) rfl
   cases hk
   rw [wpOpsIn]
   have h18 := eval_tmp (env_bool he (t := 18) (x := false) rfl)
   refine wpIn_cond (t := false) h18 (wpIn_skip ?_)
   refine region_sound (C := noO) (hb := 0) (st := ⟨_, []⟩) (k := some) noO_sound hr2 (fun f hf => off (by rfl) hf) hm he (fun μ ok st a w hm he hk => ?_) rfl
   cases hk
   refine ih W' w μ ok a Q (by omega) hjm hm (he.weak rfl (fun t v ht => ?_)) hQ
   rcases t with _ | _ | _ | _ | _ | _ | _ | _ | _ | _ | _ | _ | _ | _ | _ | _ | _ | _ | _ | t <;> first | (cases ht; exact .inl rfl) | (cases ht; exact .inr rfl) | (cases ht; exact .inr (congrArg (fun x => some (i64 x)) (w64_of (n := (m : Int) - 1) (by omega) (by omega)))) | (simp [bwE] at ht)
 subst hpv
 have hres0 : ∀ (a : Act) (w : World), (results fn a.tmps).run P w = .ok (.tuple #[]) w := fun a w => by
  have : fn.results = #[] := by rw [← Array.toArray_toList (xs := fn.results), hresE]
  simp [results, this]
 refine wpIn_seq (region_sound (C := noO) (hb := 0) (st := ⟨_, []⟩) (k := some) noO_sound hr0 (fun f hf => off (by rfl) hf) hm1 he1 (fun μ ok st a w hm he hk => ?_) rfl)
 cases hk
 refine wpIn_block (wpIn_loop_rounds (n + 1) (head n W1 w μ ok a _ (Nat.le_refl _) h0 hm (he.weak rfl (fun t v ht => ?_)) (fun a w hd hj => ?_)))
 ·rcases t with _ | _ | _ | _ | _ | _ | _ | _ | _ | _ | _ | _ | _ | _ | _ | _ | _ | _ | _ | t <;> first | (cases ht; exact .inl rfl) | (cases ht; exact .inr rfl) | (cases ht; exact .inr (congrArg (fun x => some (i64 x)) (w64_of (n := (n : Int) - 1) (by omega) (by omega)))) | (simp [bwE] at ht)
 ·exact ⟨hd, _, hres0 a w, ⟨_, rfl⟩, hj⟩
end
end Go.Eng
