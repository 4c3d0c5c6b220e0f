/-
 A loop over slices.Backward: the loop's theorem.
-/
import Derived.Test.YtdhhkbnmfabnaaaEngZ4
set_option linter.all false
namespace Go.Eng
open Go Go.RowKit
section
variable {ρ : Type} {P : Program} {C : Oracle} {w0 : Base} {okA ok0 : Nat → Prop} {W1 : World} {l D : Nat} {r : ρ} {fuel : Nat} {keep : List (Nat × Nat × Nat)} {tx p0 p1 : Nat} {X : AC} {kill : List Nat} {h0 : Nat} {kB : Ex → St → Option ρ} {T : Array Value}
def RJ (C : Oracle) (fuel : Nat) (w0 : Base) (okA ok0 : Nat → Prop) (W1 : World) (l D : Nat) (keep : List (Nat × Nat × Nat)) (tx p0 p1 : Nat) (X : AC) (kill : List Nat) (h0 : Nat) (kB : Ex → St → Option ρ) (T : Array Value) (rec : Loop) (cv : CV) (r : ρ) (k : Nat) (W : World) : Prop :=
 ∃ j st μ ok, Out w0 okA ok0 W1 l D μ ok W ∧ W.heap[l]? = some (.loop rec) ∧ MR ⟨W, rg μ⟩ ok μ ok st.heap W ∧ ER ([], []) μ ok st.heap W (killE st.env [p0, p1]) { tmps := T, defers := [] } ∧
  st.env.getD tx .u = .x (.c cv) ∧ st.env.getD p0 .u = i64 (k : Int) ∧ evalC C fuel (.round keep tx p0 p1 X) st (rk C fuel keep tx p0 p1 X kill h0 kB j) = some r
theorem RJ.world {rec : Loop} {cv : CV} {k : Nat} {W : World} (h : RJ C fuel w0 okA ok0 W1 l D keep tx p0 p1 X kill h0 kB T rec cv r k W) : W1.heap.size ≤ W.heap.size ∧ ∀ g, ok0 g → W.heap[g]? = W1.heap[g]? := by
 obtain ⟨j, st, μ, ok, ho, _⟩ := h
 exact ⟨ho.size, ho.same⟩
theorem RJ.mono {rec : Loop} {cv : CV} {k : Nat} {W W' : World} (h : RJ C fuel w0 okA ok0 W1 l D keep tx p0 p1 X kill h0 kB T rec cv r k W) (hb : Below W.heap.size W W') : RJ C fuel w0 okA ok0 W1 l D keep tx p0 p1 X kill h0 kB T rec cv r k W' := by
 obtain ⟨j, st, μ, ok, ho, hl, hm, he, h1⟩ := h
 obtain ⟨ho', hl', hs⟩ := ho.mono hb
 obtain ⟨hm', E⟩ := hm.rebase hs hb.size
 exact ⟨j, st, μ, ok, ho', hl'.trans hl, hm', he.ext E, h1⟩
theorem bw_eval {f : FuncId} {ty : TypeId} {ts tf hb : Nat} {st : St} {cv cl : CV} (hx : st.env.getD tx .u = .x (.c cv)) (hts : ts < st.env.length) :
  evalL (oneO f [.v cv] [.v cl]) hb st (bwOps ts tx tf f ty) some = some ((st.put ts (.x (.c cv))).put tf (.x (.c cl))) := by
 have h1 : (st.env.set ts (.x (.c cv)))[ts]? = some (.x (.c cv)) := by rw [List.getElem?_set_self hts]
 have h2 : (st.env.set ts (.x (.c cv))).getD ts .u = .x (.c cv) := by rw [List.getD_eq_getElem?_getD, h1]; rfl
 have e1 : st.ev (.tmp tx) = .x (.c cv) := hx
 have e2 : (st.put ts (.x (.c cv))).ev (.tmp ts) = .x (.c cv) := h2
 unfold bwOps
 show (evalOp (oneO f [.v cv] [.v cl]) hb st (.move (.tmp tx)) fun v st => evalL (oneO f [.v cv] [.v cl]) hb (st.putO (some ts) v) [⟨some tf, .call f [.tmp ts] [ty] .freeze, none⟩] some) = _
 show evalL (oneO f [.v cv] [.v cl]) hb (st.putO (some ts) (st.ev (.tmp tx))) [⟨some tf, .call f [.tmp ts] [ty] .freeze, none⟩] some = _
 rw [e1]
 show callF (oneO f [.v cv] [.v cl]) f [(st.put ts (.x (.c cv))).ev (.tmp ts)] .freeze (st.put ts (.x (.c cv))) (fun v st => some (st.putO (some tf) v)) = _
 rw [e2]
 show (oneO f [.v cv] [.v cl]).call f [.v cv] _ = _
 have : ∀ {K : List A → Option St}, (oneO f [.v cv] [.v cl]).call f [.v cv] K = K [.v cl] := fun {K} => if_pos ⟨rfl, rfl⟩
 rw [this]
 rfl
theorem back_sound {oth : List Nat} {ts tf : Nat} {f : FuncId} {ty : TypeId} {x6 xb : AC} {id1 : Nat} {c : Code} {gf : FuncId} {tS tE tI tB : TypeId} (hmix : P.follows .mixedOrders = true) (hC : Sound P C)
  (hB : BackFits P oth ts tx tf p0 f ty kill keep p1 x6 id1 xb c) (hI : FFits P gf (bwF tS tE tI tB)) (hden : ∀ kk fl n g, Den P f [.v (sliV fl kk n g)] [.v (closV gf fl kk n g)])
  {μ : Nat → Option Nat} {ok : Nat → Prop} {st : St} {a : Act} {w : World} {k : Ex → St → Option ρ} {Q : Exit → Act → World → Prop} {d : Nat}
  (hm : MR w0 okA μ ok st.heap w) (he : ER ([], []) μ ok st.heap w st.env a)
  (hQ : ∀ D l W1 ok0 μ ok st a W, (∀ g, okA g → ok0 g) → Out w0 okA ok0 W1 l D μ ok W → MR ⟨W, rg μ⟩ ok μ ok st.heap W → ER ([{ target := .collected D, args := #[] }], []) μ ok st.heap W st.env a → k .normal st = some r → Q .normal a W)
  (h : evalC C fuel (.back oth ts tx tf p0 f ty (.loop [] kill (.round keep tx p0 p1 (.seq x6 [] (.block id1 xb))))) st k = some r) : c.wpIn (wd none) d P Q a w := by
 obtain ⟨⟨id5, ops5, id0, c6, cb, rfl, hr5, hf6, hfb⟩, hfl6, hflb, hkeep, hne, hoth⟩ := hB
 have hk : ∀ q, q ∈ keep → q.1 ≠ p0 ∧ q.1 ≠ p1 ∧ q.1 ≠ tx ∧ q.1 ≠ ts ∧ q.1 ≠ tf ∧ offB q.1 x6 = true ∧ offB q.1 xb = true := fun q hq => by
  have := hkeep q hq
  unfold keepOk at this
  simp only [Bool.and_eq_true, Bool.not_eq_true'] at this
  obtain ⟨⟨⟨⟨⟨⟨h1, h2⟩, h3⟩, h4⟩, h5⟩, h6⟩, h7⟩ := this
  have nb : ∀ {x y : Nat}, Nat.beq x y = false → x ≠ y := fun hh e => by rw [e, Nat.beq_refl] at hh; cases hh
  exact ⟨nb h3, nb h4, nb h5, nb h1, nb h2, h6, h7⟩
 -- the evaluation
 obtain ⟨kk0, hkk0⟩ : ∃ kk0, kk0 = k := ⟨_, rfl⟩
 rw [← hkk0] at h
 unfold evalC at h
 obtain ⟨hlen, h⟩ := bif_some h
 rw [Bool.and_eq_true] at hlen
 have hts : ts < st.env.length := by have := hlen.1; rwa [Nat.blt_eq] at this
 have htf : tf < st.env.length := by have := hlen.2; rwa [Nat.blt_eq] at this
 obtain ⟨fl, kk, n, g, hx, h⟩ : ∃ fl kk n g, st.env.getD tx .u = .x (.c (sliV fl kk n g)) ∧ loopN (fun st k => evalC C fuel (.round keep tx p0 p1 (.seq x6 [] (.block id1 xb))) st k) (fun s => s.norm kill st.heap.length) fuel ((st.kill oth).put p0 (i64 (n : Int))) (kBack tx p0 kk0) = some r := by
  split at h
  ·rename_i fl kk n g hx
   exact ⟨fl, kk, n, g, hx, by unfold evalC at h; exact h⟩
  ·cases h
 have hxs : st.env[tx]? = some (.x (.c (sliV fl kk n g))) := by
  rw [List.getD_eq_getElem?_getD] at hx
  cases hq : st.env[tx]? with
  | none => rw [hq] at hx; cases hx
  | some v => rw [hq] at hx; simp only [Option.getD_some] at hx; rw [hx]
 -- the two operations ahead of it
 refine wpIn_seq (region_sound (C := oneO f [.v (sliV fl kk n g)] [.v (closV gf fl kk n g)]) (hb := 0) (k := some) (oneO_sound (hden kk fl n g)) hr5 (fun f hf q hq => by cases hq) hm he (fun μ5 ok5 st5 a5 w5 hm5 he5 hk5 => ?_) (bw_eval hx hts))
 cases hk5
 clear hm he
 have hm5 : MR w0 okA μ5 ok5 st.heap w5 := hm5
 have he5 : ER ([], []) μ5 ok5 st.heap w5 ((st.env.set ts (.x (.c (sliV fl kk n g)))).set tf (.x (.c (closV gf fl kk n g)))) a5 := he5
 refine wpIn_block (wpIn_rangeFunc fun fn hfn => ?_)
 -- what lies in the temporaries
 obtain ⟨uf, huf, hruf⟩ := he5.env tf (.x (.c (closV gf fl kk n g))) (by rw [List.getElem?_set_self (by simpa using htf)])
 obtain ⟨cs, rfl, hcs1, hcs⟩ : ∃ cs : Array Value, uf = .func (.func gf) #[] cs ∧ cs.size = 1 ∧ ∀ j, j < 1 → ∃ u, cs[j]? = some u ∧ CR ok5 w5 (.rp (.pr (.sl (.pr (.int kk) .nil)) .nil) (fun _ => .ro fl (.pr (.int kk) .nil) n g)) u := hruf
 obtain ⟨up, hup, hcup⟩ := hcs 0 (by omega)
 obtain ⟨ux, hux, hrux⟩ := he5.env tx (.x (.c (sliV fl kk n g))) (by rw [List.getElem?_set_ne hne.2.2.2.2, List.getElem?_set_ne hne.2.2.2.1]; exact hxs)
 have hrux : CR ok5 w5 (sliV fl kk n g) ux := hrux
 have hdf : a5.defers = [] := he5.defers.1
 obtain ⟨rec, hrec⟩ : ∃ rec : Loop, rec = { state := .ready, pending := none, fn, tmps := a5.tmps, params := #[p0, p1], assign := c6, body := .block id1 cb, defers := w5.heap.size } := ⟨_, rfl⟩
 obtain ⟨W1, hW1⟩ : ∃ W1, W1 = (w5.alloc (.deferred (some []))).alloc (.loop rec) := ⟨_, rfl⟩
 have hs1 : W1.heap.size = w5.heap.size + 2 := by rw [hW1]; simp
 have hold : ∀ g, g < w5.heap.size → W1.heap[g]? = w5.heap[g]? := fun g hg => by
  rw [hW1]
  show ((w5.heap.push _).push _)[g]? = _
  rw [Array.getElem?_push_lt (by simp; omega), Array.getElem_push_lt hg]
  simp [hg]
 have hout : Out w0 okA ok5 W1 (w5.heap.size + 1) w5.heap.size μ5 ok5 W1 := by
  have hsz := hm5.below.size
  refine ⟨hm5.below.trans (by
   rw [hW1]
   exact Below.alloc (Below.alloc (Below.refl _ _) hsz _) (by simp; omega) _), fun g ⟨b, hb⟩ => (hm5.fresh b g hb).1, fun g hg => (hm5.okd g hg).2, fun g hg => hg, fun g hg ⟨b, hb⟩ => (hm5.fresh b g hb).2.2 hg, fun g hg => ?_, fun g ⟨b, hb⟩ => ?_, Nat.le_refl _, fun g _ => rfl, ⟨fun k => ?_, fun ⟨b, k⟩ => ?_, by omega, by omega⟩, ⟨fun k => ?_, fun ⟨b, k⟩ => ?_, by omega, by omega⟩, ?_, by omega⟩
  ·have := (hm5.okd g hg).1; omega
  ·have := (hm5.fresh b g hb).2.1; omega
  ·have := (hm5.okd _ k).1; omega
  ·have := (hm5.fresh b _ k).2.1; omega
  ·have := (hm5.okd _ k).1; omega
  ·have := (hm5.fresh b _ k).2.1; omega
  ·rw [hW1]
   show ((w5.heap.push _).push _)[w5.heap.size]? = _
   rw [Array.getElem?_push_lt (by simp), Array.getElem_push_eq]
 have hl1 : W1.heap[w5.heap.size + 1]? = some (.loop rec) := by
  rw [hW1]
  have := World.alloc_heap_new (w5.alloc (.deferred (some []))) (.loop rec)
  rwa [World.size_alloc] at this
 obtain ⟨hm1, E1⟩ := hm5.rebase (w' := W1) (fun g hg => hold g (by
  rcases hg with q | ⟨b, q⟩
  ·exact (hm5.okd g q).1
  ·exact (hm5.fresh b g q).2.1)) (by omega)
 have he1 := he5.ext E1
 have hcup1 : CR ok5 W1 _ up := CR.mono (fun g hg => ⟨hg, hold g (hm5.okd g hg).1⟩) hcup
 have hrux1 : CR ok5 W1 (sliV fl kk n g) ux := CR.mono (fun g hg => ⟨hg, hold g (hm5.okd g hg).1⟩) hrux
 -- the first round's head
 have hpn : n ≤ n := Nat.le_refl n
 have hstart : RJ C fuel w0 okA ok5 W1 (w5.heap.size + 1) w5.heap.size keep tx p0 p1 (.seq x6 [] (.block id1 xb)) kill st.heap.length (kBack tx p0 kk0) a5.tmps rec (sliV fl kk n g) r n W1 := by
  have heo : ER ([], []) μ5 ok5 st.heap W1 (killE st.env oth) a5 := he1.weak (by simp [killE_len]) fun t v ht => by
   by_cases q : t ∈ oth
   ·exact .inl (killE_mem _ _ _ _ q ht)
   ·rcases killE_at _ _ _ _ ht with q1 | q1
    ·exact .inl q1
    ·refine .inr ?_
     rw [List.getElem?_set_ne (fun (e : tf = t) => q (e ▸ hoth.2)), List.getElem?_set_ne (fun (e : ts = t) => q (e ▸ hoth.1))]
     exact q1
  have hep : ER ([], pinsOf keep a5.tmps) μ5 ok5 st.heap W1 (killE st.env oth) a5 := ⟨heo.size, heo.env, ⟨hdf, fun q hq => (pinsOf_mem hq).2⟩, heo.glob⟩
  have hep2 := hep.put (d := p0) (v := i64 (n : Int)) (u := .int .i64 (n : Int)) (fun q hq => by
   obtain ⟨⟨b, j, hq'⟩, _⟩ := pinsOf_mem hq
   exact fun e => (hk _ hq').1 e.symm) rfl
  have q1 : ∀ y, ((killE st.env oth).set p0 (i64 (n : Int)))[tx]? = some (.x y) → y = .c (sliV fl kk n g) := fun y hy => by
   rw [List.getElem?_set_ne hne.2.1] at hy
   rcases killE_at _ _ _ _ hy with q | q
   ·cases q
   ·rw [hxs] at q; cases q; rfl
  have q2 : ∀ y, ((killE st.env oth).set p0 (i64 (n : Int)))[p0]? = some (.x y) → V.x y = i64 (n : Int) := fun y hy => by
   rw [List.getElem?_set] at hy
   simp only [if_true] at hy
   split at hy
   ·cases hy; rfl
   ·cases hy
  obtain ⟨j, s', hm', he', e1, e2, hround⟩ := next_start (s := (st.kill oth).put p0 (i64 (n : Int))) (cv := sliV fl kk n g) (c := (n : Int)) (fun q hq => ⟨(hk q hq).1, (hk q hq).2.1, (hk q hq).2.2.1⟩) ⟨hne.1, hne.2.1, hne.2.2.1⟩ hm1 hep2 (by simp [Act.put]) ⟨ux, hux, hrux1⟩ q1 q2 h
  exact ⟨j, s', μ5, ok5, hout, hl1, hm', he', e1, e2, hround⟩
 have hwf : ∀ fl f, (wd fl).fn f := fun _ _ => trivial
 refine ⟨w5.heap.size + 1, [{ target := .collected w5.heap.size, args := #[] }], W1, { target := .fn (.func gf) cs, args := #[.func (.yield (w5.heap.size + 1)) #[] #[]] }, W1, gf, #[.func (.yield (w5.heap.size + 1)) #[] #[]] ++ cs, W1, ?_, ?_, fun _ _ => hwf _ _, (show (callFunc gf _).run P W1 = _ from callFunc_run hI.ok), (fun h => by cases h), ?_⟩
 ·rw [hW1, hrec]; exact run_enterLoop_outer fn a5.tmps #[p0, p1] c6 (.block id1 cb)
 ·simp [resolve, Deferred.ofValue, Act.eval, huf]
 refine (bw_calls (l := w5.heap.size + 1) (J := fun k W => RJ C fuel w0 okA ok5 W1 (w5.heap.size + 1) w5.heap.size keep tx p0 p1 (.seq x6 [] (.block id1 xb)) kill st.heap.length (kBack tx p0 kk0) a5.tmps rec (sliV fl kk n g) r k W) hI hout.lt he1.glob hcs1 hup hcup1 (fun _ _ h => h.world) (fun _ _ _ h hb => h.mono hb) (fun m W hmn hj => ?_) hstart).mono ?_
 ·obtain ⟨j, st1, μ1, ok1, ho1, hl1', hm1', he1', e1, e2, hround⟩ := hj
  have hgo : evalC C fuel x6 ((st1.put p0 (i64 (m : Int))).put p1 (.x (.c (.i kk (CV.int (g m 0)))))) (fun e s9 => match e with
    | .normal => evalC C fuel (.block id1 xb) (s9.kill []) (kRnd st1.env.length tx p0 (.x (.c (sliV fl kk n g))) (i64 (m : Int)) (rk C fuel keep tx p0 p1 (.seq x6 [] (.block id1 xb)) kill st.heap.length (kBack tx p0 kk0) j))
    | e => kRnd st1.env.length tx p0 (.x (.c (sliV fl kk n g))) (i64 (m : Int)) (rk C fuel keep tx p0 p1 (.seq x6 [] (.block id1 xb)) kill st.heap.length (kBack tx p0 kk0) j) e s9) = some r := by
   have := round_go e1 e2 hround
   unfold evalC at this
   exact this
  have hln : st1.env.length = a5.tmps.size := by have := he1'.size; rw [killE_len] at this; exact this.symm
  have pn : ∀ q, q ∈ pinsOf keep a5.tmps → p0 ≠ q.1 ∧ p1 ≠ q.1 ∧ tx ≠ q.1 ∧ offB q.1 x6 = true ∧ offB q.1 xb = true := fun q hq => by
   obtain ⟨⟨b, j, hq'⟩, _⟩ := pinsOf_mem hq
   have := hk _ hq'
   exact ⟨this.1.symm, this.2.1.symm, this.2.2.1.symm, this.2.2.2.2.2.1, this.2.2.2.2.2.2⟩
  refine ⟨fn, (a5.tmps.setIfInBounds p0 (.int .i64 (m : Int))).setIfInBounds p1 (.int kk (CV.int (g m 0))), c6, .block id1 cb, ?_, fun d' => ?_⟩
  ·have := run_yield (P := P) (args := #[.int .i64 (m : Int), .int kk (CV.int (g m 0))]) hl1' (by rw [hrec]; rfl)
   have hz : (#[p0, p1] : Array Tmp).zip #[Value.int .i64 (m : Int), .int kk (CV.int (g m 0))] = #[(p0, .int .i64 (m : Int)), (p1, .int kk (CV.int (g m 0)))] := by simp
   rw [this, hrec]
   dsimp only
   rw [hz]
   rfl
  ·have hea : ER ([], pinsOf keep a5.tmps) μ1 ok1 st1.heap W (killE st1.env [p0, p1]) { tmps := a5.tmps, defers := [] } := ⟨he1'.size, he1'.env, ⟨rfl, fun q hq => (pinsOf_mem hq).2⟩, he1'.glob⟩
   have heb := (hea.put (d := p0) (v := i64 (m : Int)) (u := .int .i64 (m : Int)) (fun q hq => (pn q hq).1) rfl).put (d := p1) (v := .x (.c (.i kk (CV.int (g m 0))))) (u := .int kk (CV.int (g m 0))) (fun q hq => (pn q hq).2.1) rfl
   have hsets : ∀ A B : V, (((st1.env.set p0 V.u).set p1 V.u).set p0 A).set p1 B = (st1.env.set p0 A).set p1 B := fun A B => by
    rw [List.set_comm (i := p1) (j := p0) _ _ (Ne.symm hne.1), List.set_set, List.set_set]
   have hec : ER ([], pinsOf keep a5.tmps) μ1 ok1 st1.heap W ((st1.env.set p0 (i64 (m : Int))).set p1 (.x (.c (.i kk (CV.int (g m 0)))))) _ := hsets _ _ ▸ heb
   refine roundIn_of_wpIn (F := wd none) (hwf _ _) ?_
   refine evalC_round (fl := some (w5.heap.size + 1)) (st := (st1.put p0 (i64 (m : Int))).put p1 (.x (.c (.i kk (CV.int (g m 0)))))) hmix hC fuel x6 c6 hf6 hm1' hec (fun e μ2 ok2 st2 a2 w2 hm2 he2 hk2 => ?_) (.inr hfl6) (offP_of fun q hq => (pn q hq).2.2.2.1) hgo
   cases e with
   | exit i => cases hk2
   | ret => cases hk2
   | normal =>
    obtain ⟨ho2, hl2⟩ := ho1.run hm2
    have hl2' := hl2.trans hl1'
    refine ⟨_, run_beginRound hl2' (by rw [hrec]), ?_⟩
    obtain ⟨ho3, hl3⟩ := ho2.put (.loop { rec with state := .busy })
    obtain ⟨hm3, E3⟩ := hm2.rebase (ho2.putS (.loop { rec with state := .busy })) (by rw [World.putObj_size]; exact Nat.le_refl _)
    have he3 := he2.ext E3
    refine evalC_round (fl := some (w5.heap.size + 1)) (st := st2.kill []) hmix hC fuel (.block id1 xb) (.block id1 cb) ⟨cb, rfl, hfb⟩ hm3 he3 (fun e μ4 ok4 st4 a4 w4 hm4 he4 hk4 => ?_) (.inr hflb) (offP_of fun q hq => (pn q hq).2.2.2.2) hk2
    cases e with
    | exit i => cases hk4
    | ret => cases hk4
    | normal =>
     obtain ⟨hlq, hk4⟩ := bif_some hk4
     have hlq := Nat.eq_of_beq_eq_true hlq
     obtain ⟨ho4, hl4⟩ := ho3.run hm4
     have hl4' := hl4.trans hl3
     have hrunR : (Instr.endRound (w5.heap.size + 1) none).run P w4 = .ok (.bool true) (w4.putObj (w5.heap.size + 1) (.loop rec)) := by
      have := run_endRound (P := P) none hl4'
      rw [this, hrec]; rfl
     refine ⟨_, _, hrunR, rfl, ?_⟩
     obtain ⟨ho5, hl5⟩ := ho4.put (.loop rec)
     obtain ⟨hm6, E6⟩ := hm4.rebase (ho4.putS (.loop rec)) (by rw [World.putObj_size]; exact Nat.le_refl _)
     have he6 := he4.ext E6
     have hux6 : CR ok4 (w4.putObj (w5.heap.size + 1) (.loop rec)) (sliV fl kk n g) ux := CR.mono (fun g hg => ⟨ho5.okk g hg, ho5.same g hg⟩) hrux1
     have hep := (he6.put (d := tx) (v := .x (.c (sliV fl kk n g))) (u := ux) (fun q hq => (pn q hq).2.2.1) hux6).put (d := p0) (v := i64 (m : Int)) (u := .int .i64 (m : Int)) (fun q hq => (pn q hq).1) rfl
     have q1 : ∀ y, ((st4.env.set tx (.x (.c (sliV fl kk n g)))).set p0 (i64 (m : Int)))[tx]? = some (.x y) → y = .c (sliV fl kk n g) := fun y hy => by
      rw [List.getElem?_set_ne hne.2.1, List.getElem?_set] at hy
      simp only [if_true] at hy
      split at hy
      ·cases hy; rfl
      ·cases hy
     have q2 : ∀ y, ((st4.env.set tx (.x (.c (sliV fl kk n g)))).set p0 (i64 (m : Int)))[p0]? = some (.x y) → V.x y = i64 (m : Int) := fun y hy => by
      rw [List.getElem?_set] at hy
      simp only [if_true] at hy
      split at hy
      ·cases hy; rfl
      ·cases hy
     have hsz4 : a4.tmps.size = a5.tmps.size := by rw [he4.size, hlq, hln]
     obtain ⟨j', s', hm', he', e1', e2', hr'⟩ := next_start (s := (st4.put tx (.x (.c (sliV fl kk n g)))).put p0 (i64 (m : Int))) (T := a5.tmps) (cv := sliV fl kk n g) (c := (m : Int)) (fun q hq => ⟨(hk q hq).1, (hk q hq).2.1, (hk q hq).2.2.1⟩) ⟨hne.1, hne.2.1, hne.2.2.1⟩ hm6 hep (by simp [Act.put, hsz4]) ⟨ux, hux, hux6⟩ q1 q2 hk4
     exact ⟨j', s', μ4, ok4, ho5, hl5, hm', he', e1', e2', hr'⟩
 ·rintro e W' ⟨⟨v, rfl⟩, hj⟩
  obtain ⟨j, st1, μ1, ok1, ho1, hl1', hm1', he1', e1, e2, hround⟩ := hj
  have hend : k .normal (st1.kill [tx, p0]) = some r := by
   have := round_end e1 e2 hround
   rw [hkk0] at this
   exact this
  have hchk := round_chk hround
  have hrunE : (Instr.endLoop (w5.heap.size + 1)).run P W' = .ok none (W'.putObj (w5.heap.size + 1) (.loop { rec with state := .exhausted })) := by
   have := run_endLoop (P := P) hl1' (by simp [hrec])
   rw [this, hrec]
  refine ⟨none, _, hrunE, ?_⟩
  obtain ⟨hm7, E7⟩ := hm1'.rebase (ho1.putS (.loop { rec with state := .exhausted })) (by rw [World.putObj_size]; exact Nat.le_refl _)
  have he7 := he1'.ext E7
  refine hQ w5.heap.size (w5.heap.size + 1) W1 ok5 μ1 ok1 (st1.kill [tx, p0]) _ _ hm5.keep (ho1.put _).1 hm7 ?_ hend
  have he8 : ER ([], []) μ1 ok1 st1.heap (W'.putObj (w5.heap.size + 1) (.loop { rec with state := .exhausted })) (killE st1.env [tx, p0]) { tmps := a5.tmps, defers := [] } := he7.weak (by simp [killE_len]) fun t v ht => by
   by_cases q : t ∈ [tx, p0]
   ·exact .inl (killE_mem _ _ _ _ q ht)
   ·have n0 : t ≠ p0 := fun e => q (by simp [e])
    have nx : t ≠ tx := fun e => q (by simp [e])
    rcases killE_at _ _ _ _ ht with q1 | q1
    ·exact .inl q1
    ·by_cases n1 : t = p1
     ·left
      have hv := chkE_at hchk t v q1
      rw [Nat.zero_add] at hv
      unfold chkV at hv
      split at hv
      ·rename_i b j hka
       exact ((hk _ (keepAt_mem hka)).2.1 n1).elim
      ·split at hv
       ·rfl
       ·rw [Bool.or_eq_true] at hv
        rcases hv with hv | hv
        ·exact (nx (Nat.eq_of_beq_eq_true hv)).elim
        ·exact (n0 (Nat.eq_of_beq_eq_true hv)).elim
     ·right
      show ((st1.env.set p0 V.u).set p1 V.u)[t]? = some v
      rw [List.getElem?_set_ne (Ne.symm n1), List.getElem?_set_ne (Ne.symm n0)]
      exact q1
  exact ⟨he8.size, he8.env, ⟨by simp [hdf], fun q hq => by cases hq⟩, he8.glob⟩
end
end Go.Eng
