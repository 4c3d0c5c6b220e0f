/-
 What a decompiled function is made of; arguments by their kinds; oracles, one function after another.
-/
import Derived.Test.YtbjfmobjdipehaaGreatDoorEngP
set_option linter.all false
namespace Go.Eng
open Go Go.RowKit
def ob {α ρ : Type} (x : Option α) (K : α → Option ρ) : Option ρ :=
 match x with
 | some a => K a
 | none => none
def w64 (n : Int) : Int := IntKind.i64.wrap n
def rowsF (w : Nat) (l : List CV) : Nat → Nat → CV := fun i j => listF l (i * w + j)
section
variable {ρ : Type}
def kSeq (C : Oracle) (fuel : Nat) (ks : List Nat) (b : AC) (k : Ex → St → Option ρ) : Ex → St → Option ρ :=
 fun e st => match e with
  | .normal => evalC C fuel b (st.kill ks) k
  | e => k e st
def kBlk (id : Nat) (k : Ex → St → Option ρ) : Ex → St → Option ρ :=
 fun e st => match e with
  | .exit i => bif Nat.beq i id then k .normal st else k (.exit i) st
  | e => k e st
def loopH (f : St → (Ex → St → Option ρ) → Option ρ) (nrm : St → Option St) : Nat → St → (Ex → St → Option ρ) → Option ρ
 | 0, _, _ => none
 | n + 1, st, k => f st fun e st => match e with
   | .normal => match nrm st with
    | none => none
    | some st => loopH f nrm n st k
   | e => k e st
theorem loopN_head (f : St → (Ex → St → Option ρ) → Option ρ) (nrm : St → Option St) (k : Ex → St → Option ρ) : ∀ (n : Nat) (st : St), loopN f nrm n st k = match nrm st with | none => none | some st => loopH f nrm n st k
 | 0, st => by
  unfold loopN
  cases nrm st <;> rfl
 | n + 1, st => by
  unfold loopN
  cases hq : nrm st with
  | none => rfl
  | some s =>
   dsimp only
   unfold loopH
   congr 1
   funext e st
   cases e with
   | normal => exact loopN_head f nrm k n st
   | exit id => rfl
   | ret => rfl
theorem loopN_at {f : St → (Ex → St → Option ρ) → Option ρ} {nrm : St → Option St} {k : Ex → St → Option ρ} {n : Nat} {st st' : St} (h : nrm st = some st') : loopN f nrm n st k = loopH f nrm n st' k := by
 rw [loopN_head, h]
theorem ob_bif {α : Type} (c : Bool) (x y : Option α) (K : α → Option ρ) : ob (bif c then x else y) K = bif c then ob x K else ob y K := by cases c <;> rfl
theorem ob_some {α : Type} (a : α) (K : α → Option ρ) : ob (some a) K = K a := rfl
theorem ob_none {α : Type} (K : α → Option ρ) : ob (none : Option α) K = none := rfl
theorem ob_ob {α β : Type} (x : Option α) (f : α → Option β) (g : β → Option ρ) : ob (ob x f) g = ob x fun a => ob (f a) g := by cases x <;> rfl
theorem bind_ob {α β : Type} (x : Option α) (f : α → Option β) (g : β → Option ρ) : (ob x f).bind g = ob x fun a => (f a).bind g := by cases x <;> rfl
def wI (k : IntKind) (c : CV) (K : Int → Option ρ) : Option ρ :=
 match c with
 | .i k' n => bif kindEq k k' then K n else none
 | _ => none
def wS (c : CV) (K : ByteArray → Option ρ) : Option ρ :=
 match c with
 | .s x => K x
 | _ => none
def wL (r : Kd) (c : CV) (K : Nat → (Nat → Nat → CV) → Option ρ) : Option ρ :=
 match c with
 | .ro _ r' n f => bif r.beq r' || Nat.beq n 0 then K n f else none
 | _ => none
def wP (r : Kd) (c : CV) (K : (Nat → CV) → Option ρ) : Option ρ :=
 match c with
 | .rp r' g => bif r.beq r' then K g else none
 | _ => none
def wFn (f nc : Nat) (c : CV) (K : (Nat → CV) → Option ρ) : Option ρ :=
 match c with
 | .fn f' nc' caps => bif Nat.beq f f' && Nat.beq nc nc' then K caps else none
 | _ => none
def wv (a : A) (K : CV → Option ρ) : Option ρ :=
 match a with
 | .v c => K c
 | _ => none
def wagg (a : A) (K : List CV → Option ρ) : Option ρ :=
 match a with
 | .agg l => K l
 | _ => none
def pjFrom : Kd → (Nat → CV) → Nat → List CV
 | .pr a r, g, j => a.proj (g j) :: pjFrom r g (j + 1)
 | _, _, _ => []
def pj (R : Kd) (g : Nat → CV) : List CV := pjFrom R g 0
def pjc (R : Kd) (g : Nat → CV) : List V0 := (pj R g).map .c
def fitsC (κ : Kd) (c : CV) : Bool :=
 match κ, c with
 | .sl r, .ro _ r' n _ => r.beq r' || Nat.beq n 0
 | .sl _, _ => false
 | κ, c => κ.fits c
def fitsL : Kd → List CV → Bool
 | .pr a r, c :: l => fitsC a c && fitsL r l
 | .nil, [] => true
 | _, _ => false
def wrow (R : Kd) (a : A) (K : (Nat → CV) → Option ρ) : Option ρ :=
 match a with
 | .agg l => bif fitsL R l then K (listF l) else none
 | _ => none
def wc {α : Type} (l : List α) (K : α → List α → Option ρ) : Option ρ :=
 match l with
 | a :: l => K a l
 | [] => none
def wn {α : Type} (l : List α) (K : Option ρ) : Option ρ :=
 match l with
 | [] => K
 | _ => none
def isFn (f : Nat) (l : List A) (t : Nat) : Bool :=
 match l[t]? with
 | some (.v (.fn f' _ _)) => Nat.beq f f'
 | _ => false
end
section
variable {ρ σ : Type}
theorem bind_wI (k : IntKind) (c : CV) (K : Int → Option ρ) (g : ρ → Option σ) : (wI k c K).bind g = wI k c fun x => (K x).bind g := by
 unfold wI; split
 ·rw [bif_bind]; rfl
 ·rfl
theorem bind_wS (c : CV) (K : ByteArray → Option ρ) (g : ρ → Option σ) : (wS c K).bind g = wS c fun x => (K x).bind g := by
 unfold wS; split <;> rfl
theorem bind_wL (r : Kd) (c : CV) (K : Nat → (Nat → Nat → CV) → Option ρ) (g : ρ → Option σ) : (wL r c K).bind g = wL r c fun x y => (K x y).bind g := by
 unfold wL; split
 ·rw [bif_bind]; rfl
 ·rfl
theorem bind_wP (r : Kd) (c : CV) (K : (Nat → CV) → Option ρ) (g : ρ → Option σ) : (wP r c K).bind g = wP r c fun x => (K x).bind g := by
 unfold wP; split
 ·rw [bif_bind]; rfl
 ·rfl
theorem bind_wrow (R : Kd) (a : A) (K : (Nat → CV) → Option ρ) (g : ρ → Option σ) : (wrow R a K).bind g = wrow R a fun x => (K x).bind g := by
 unfold wrow; split
 ·rw [bif_bind]; rfl
 ·rfl
theorem bind_wFn (f nc : Nat) (c : CV) (K : (Nat → CV) → Option ρ) (g : ρ → Option σ) : (wFn f nc c K).bind g = wFn f nc c fun x => (K x).bind g := by
 unfold wFn; split
 ·rw [bif_bind]; rfl
 ·rfl
theorem bind_wv (a : A) (K : CV → Option ρ) (g : ρ → Option σ) : (wv a K).bind g = wv a fun x => (K x).bind g := by
 unfold wv; split <;> rfl
theorem bind_wagg (a : A) (K : List CV → Option ρ) (g : ρ → Option σ) : (wagg a K).bind g = wagg a fun x => (K x).bind g := by
 unfold wagg; split <;> rfl
theorem bind_wc {α : Type} (l : List α) (K : α → List α → Option ρ) (g : ρ → Option σ) : (wc l K).bind g = wc l fun x y => (K x y).bind g := by
 unfold wc; split <;> rfl
theorem bind_wn {α : Type} (l : List α) (K : Option ρ) (g : ρ → Option σ) : (wn l K).bind g = wn l (K.bind g) := by
 unfold wn; split <;> rfl
variable {r : ρ}
theorem inv_wI {k : IntKind} {c : CV} {K : Int → Option ρ} (h : wI k c K = some r) : ∃ n, c = .i k n ∧ K n = some r := by
 unfold wI at h
 split at h
 ·obtain ⟨h1, h2⟩ := bif_some h
  have := kindEq_eq h1
  subst this
  exact ⟨_, rfl, h2⟩
 ·cases h
theorem inv_wS {c : CV} {K : ByteArray → Option ρ} (h : wS c K = some r) : ∃ n, c = .s n ∧ K n = some r := by
 unfold wS at h
 split at h
 ·exact ⟨_, rfl, h⟩
 ·cases h
theorem inv_wv {a : A} {K : CV → Option ρ} (h : wv a K = some r) : ∃ c, a = .v c ∧ K c = some r := by
 unfold wv at h
 split at h
 ·exact ⟨_, rfl, h⟩
 ·cases h
theorem inv_wagg {a : A} {K : List CV → Option ρ} (h : wagg a K = some r) : ∃ l, a = .agg l ∧ K l = some r := by
 unfold wagg at h
 split at h
 ·exact ⟨_, rfl, h⟩
 ·cases h
theorem inv_wc {α : Type} {l : List α} {K : α → List α → Option ρ} (h : wc l K = some r) : ∃ a l', l = a :: l' ∧ K a l' = some r := by
 unfold wc at h
 split at h
 ·exact ⟨_, _, rfl, h⟩
 ·cases h
theorem inv_wn {α : Type} {l : List α} {K : Option ρ} (h : wn l K = some r) : l = [] ∧ K = some r := by
 unfold wn at h
 split at h
 ·exact ⟨rfl, h⟩
 ·cases h
def Wk (c c' : CV) : Prop := ∀ (ok : Nat → Prop) (w : World) (v : Value), CR ok w c v → CR ok w c' v
def WkA (a a' : A) : Prop := ∀ (ok : Nat → Prop) (w : World) (v : Value), AR ok w a v → AR ok w a' v
inductive WkL : List A → List A → Prop
 | nil : WkL [] []
 | cons {a a' : A} {l l' : List A} (h : WkA a a') (hl : WkL l l') : WkL (a :: l) (a' :: l')
inductive WkC : List CV → List CV → Prop
 | nil : WkC [] []
 | cons {a a' : CV} {l l' : List CV} (h : Wk a a') (hl : WkC l l') : WkC (a :: l) (a' :: l')
theorem Wk.refl (c : CV) : Wk c c := fun _ _ _ h => h
theorem WkA.v {c c' : CV} (h : Wk c c') : WkA (.v c) (.v c') := fun ok w v hv => h ok w v hv
theorem WkC.at_ : ∀ {l l' : List CV}, WkC l l' → l.length = l'.length ∧ ∀ (t : Nat) (c' : CV), l'[t]? = some c' → ∃ c, l[t]? = some c ∧ Wk c c'
 | _, _, .nil => ⟨rfl, fun t c' h => by simp at h⟩
 | _, _, .cons h hl => by
  obtain ⟨h1, h2⟩ := hl.at_
  refine ⟨by simp [h1], fun t c' ht => ?_⟩
  cases t with
  | zero => simp at ht; subst ht; exact ⟨_, rfl, h⟩
  | succ t => simpa using h2 t c' (by simpa using ht)
theorem WkA.agg {l l' : List CV} (h : WkC l l') : WkA (.agg l) (.agg l') := by
 intro ok w v hv
 obtain ⟨h1, h2⟩ := h.at_
 obtain ⟨cs, hp, hs, hc⟩ := hv
 refine ⟨cs, hp, by omega, fun t c' ht => ?_⟩
 obtain ⟨c, hc', hw⟩ := h2 t c' ht
 obtain ⟨u, hu, hr⟩ := hc t c hc'
 exact ⟨u, hu, hw ok w u hr⟩
theorem WkL.at_ : ∀ {l l' : List A}, WkL l l' → l.length = l'.length ∧ ∀ (t : Nat) (c' : A), l'[t]? = some c' → ∃ c, l[t]? = some c ∧ WkA c c'
 | _, _, .nil => ⟨rfl, fun t c' h => by simp at h⟩
 | _, _, .cons h hl => by
  obtain ⟨h1, h2⟩ := hl.at_
  refine ⟨by simp [h1], fun t c' ht => ?_⟩
  cases t with
  | zero => simp at ht; subst ht; exact ⟨_, rfl, h⟩
  | succ t => simpa using h2 t c' (by simpa using ht)
theorem WkL.ars {l l' : List A} (h : WkL l l') {ok : Nat → Prop} {w : World} {vs : Array Value} (hv : ARs ok w l vs) : ARs ok w l' vs := by
 obtain ⟨h1, h2⟩ := h.at_
 refine ⟨by rw [hv.1, h1], fun t x ht => ?_⟩
 obtain ⟨c, hc', hw⟩ := h2 t x ht
 obtain ⟨u, hu, hr⟩ := hv.2 t c hc'
 exact ⟨u, hu, hw ok w u hr⟩
theorem Den.weaken {P : Program} {f : FuncId} {args args' res : List A} (h : WkL args args') (hd : Den P f args' res) : Den P f args res :=
 ⟨hd.1, fun w okA vs hok hg hv => hd.2 w okA vs hok hg (h.ars hv)⟩
theorem Wk.ro {fl : Bool} {r r' : Kd} {n : Nat} {f : Nat → Nat → CV} (h : (r.beq r' || Nat.beq n 0) = true) : Wk (.ro fl r' n f) (.ro false r n f) := by
 intro ok w v hv
 obtain ⟨a, cap, h1, h2, h3, h4, h5⟩ := hv
 refine ⟨a, cap, h1, h2, h3, (fun hh => by cases hh), ?_⟩
 rw [Bool.or_eq_true] at h
 rcases h with h | h
 ·have := Kd.eq_of_beq h
  subst this
  exact h5
 ·exact .inl (Nat.eq_of_beq_eq_true h)
theorem fitsC_wk {κ : Kd} {c : CV} (h : fitsC κ c = true) : Wk c (κ.proj c) := by
 cases κ with
 | sl r =>
  cases c <;> simp only [fitsC] at h
  all_goals first | exact Wk.ro h | cases h
 | int k =>
  obtain ⟨n, rfl⟩ : (Kd.int k).okP c := Kd.fits_ok h
  exact Wk.refl _
 | bool =>
  obtain ⟨n, rfl⟩ : Kd.bool.okP c := Kd.fits_ok h
  exact Wk.refl _
 | str =>
  obtain ⟨n, rfl⟩ : Kd.str.okP c := Kd.fits_ok h
  exact Wk.refl _
 | oth => exact Wk.refl _
 | nil => exact Wk.refl _
 | pr a r => exact Wk.refl _
theorem fitsL_wk : ∀ {R : Kd} {l : List CV} (g : Nat → CV) (j : Nat), fitsL R l = true → (∀ t c, l[t]? = some c → g (j + t) = c) → WkC l (pjFrom R g j)
 | .nil, [], _, _, _, _ => .nil
 | .pr a r, c :: l, g, j, h, hg => by
  simp only [fitsL, Bool.and_eq_true] at h
  have e : g j = c := hg 0 c rfl
  refine .cons ?_ (fitsL_wk g (j + 1) h.2 fun t d ht => by rw [Nat.add_right_comm]; exact hg (t + 1) d ht)
  rw [e]; exact fitsC_wk h.1
 | .nil, _ :: _, _, _, h, _ => by cases h
 | .pr _ _, [], _, _, h, _ => by cases h
 | .int _, l, _, _, h, _ => by cases l <;> cases h
 | .bool, l, _, _, h, _ => by cases l <;> cases h
 | .str, l, _, _, h, _ => by cases l <;> cases h
 | .oth, l, _, _, h, _ => by cases l <;> cases h
 | .sl _, l, _, _, h, _ => by cases l <;> cases h
theorem inv_wrow {R : Kd} {a : A} {K : (Nat → CV) → Option ρ} (h : wrow R a K = some r) : ∃ g, WkA a (.agg (pj R g)) ∧ K g = some r := by
 unfold wrow at h
 split at h
 ·rename_i l
  obtain ⟨h1, h2⟩ := bif_some h
  exact ⟨_, WkA.agg (fitsL_wk (listF l) 0 h1 fun t c ht => by unfold listF; rw [Nat.zero_add, List.getD_eq_getElem?_getD, ht]; rfl), h2⟩
 ·cases h
theorem inv_wL {rr : Kd} {c : CV} {K : Nat → (Nat → Nat → CV) → Option ρ} (h : wL rr c K = some r) : ∃ n f, Wk c (.ro false rr n f) ∧ K n f = some r := by
 unfold wL at h
 split at h
 ·obtain ⟨h1, h2⟩ := bif_some h
  exact ⟨_, _, Wk.ro h1, h2⟩
 ·cases h
theorem Wk.i {k : IntKind} {n : Int} {c : CV} (h : c = .i k n) : Wk c (.i k n) := h ▸ Wk.refl _
theorem Wk.b {x : Bool} {c : CV} (h : c = .b x) : Wk c (.b x) := h ▸ Wk.refl _
theorem Wk.s {x : ByteArray} {c : CV} (h : c = .s x) : Wk c (.s x) := h ▸ Wk.refl _
theorem Wk.rp {rr : Kd} {g : Nat → CV} {g' : Nat → CV} (h : ∀ j, j < rr.len → (rr.nth j).okP (g j) → Wk (g j) (g' j) ∧ (rr.nth j).okP (g' j)) : Wk (.rp rr g) (.rp rr g') := by
 intro ok w v hv
 obtain ⟨gg, off, h1, h2, h3⟩ := hv
 refine ⟨gg, off, h1, h2, fun j hj => ?_⟩
 obtain ⟨hk, u, hu, hr⟩ := h3 j hj
 obtain ⟨h4, h5⟩ := h j hj hk
 exact ⟨h5, u, hu, h4 ok w u hr⟩
theorem inv_wP {rr : Kd} {c : CV} {K : (Nat → CV) → Option ρ} (h : wP rr c K = some r) : ∃ g, c = .rp rr g ∧ K g = some r := by
 unfold wP at h
 split at h
 ·obtain ⟨h1, h2⟩ := bif_some h
  have := Kd.eq_of_beq h1
  subst this
  exact ⟨_, rfl, h2⟩
 ·cases h
theorem inv_wFn {f nc : Nat} {c : CV} {K : (Nat → CV) → Option ρ} (h : wFn f nc c K = some r) : ∃ caps, c = .fn f nc caps ∧ K caps = some r := by
 unfold wFn at h
 split at h
 ·obtain ⟨h1, h2⟩ := bif_some h
  rw [Bool.and_eq_true] at h1
  have e1 := Nat.eq_of_beq_eq_true h1.1
  have e2 := Nat.eq_of_beq_eq_true h1.2
  subst e1; subst e2
  exact ⟨_, rfl, h2⟩
 ·cases h
theorem Wk.fn {f nc : Nat} {caps caps' : Nat → CV} (h : ∀ j, j < nc → Wk (caps j) (caps' j)) : Wk (.fn f nc caps) (.fn f nc caps') := by
 intro ok w v hv
 obtain ⟨cs, h1, h2, h3⟩ := hv
 refine ⟨cs, h1, h2, fun j hj => ?_⟩
 obtain ⟨u, hu, hr⟩ := h3 j hj
 exact ⟨u, hu, h j hj ok w u hr⟩
end
structure Ora where
 o : List A → {ρ : Type} → (List A → Option ρ) → Option ρ
 nat : ∀ (args : List A) {ρ : Type} (K : List A → Option ρ), o args K = (o args some).bind K
def Oracle.add (C : Oracle) (f : FuncId) (sel : List A → Bool) (o : Ora) : Oracle where
 call := fun g args {_} K => bif Nat.beq f g && sel args then o.o args K else C.call g args K
 nat := fun g args {_} K => by
  cases Nat.beq f g && sel args with
  | false => exact C.nat g args K
  | true => exact o.nat args K
 turn := C.turn
 fresh := C.fresh
theorem Sound.add {P : Program} {C : Oracle} (hC : Sound P C) {f : FuncId} {sel : List A → Bool} {o : Ora} (h : ∀ args res, o.o args some = some res → Den P f args res) : Sound P (C.add f sel o) where
 call := fun g args res hh => by
  have hh : (bif Nat.beq f g && sel args then o.o args some else C.call g args some) = some res := hh
  cases hq : Nat.beq f g && sel args with
  | false => rw [hq] at hh; exact hC.call g args res hh
  | true =>
   rw [hq] at hh
   rw [Bool.and_eq_true] at hq
   have := Nat.eq_of_beq_eq_true hq.1
   subst this
   exact h args res hh
 turn := hC.turn
 fresh := hC.fresh
end Go.Eng
namespace Go.Eng
open Go Go.RowKit
abbrev vi (n : Int) : CV := .i .i64 n
abbrev vci (n : Int) : V0 := .c (.i .i64 n)
abbrev vcs (s : ByteArray) : V0 := .c (.s s)
abbrev vxi (n : Int) : V := .x (.c (.i .i64 n))
abbrev vxb (b : Bool) : V := .x (.c (.b b))
abbrev nilF : Nat → Nat → CV := fun _ _ => .any
abbrev vcn : V0 := .c (.ro true .nil 0 nilF)
abbrev kP : Kd := .pr (.int .i64) (.pr (.int .i64) .nil)
abbrev kV : Kd := .pr (.int .i64) (.pr (.int .i64) (.pr (.int .i64) .nil))
abbrev FF := Nat → Nat → CV
def revF (n : Nat) (g : Nat → Nat → CV) : Nat → Nat → CV := fun i j => g (n - 1 - i) j
def kLoop {ρ : Type} (f : St → (Ex → St → Option ρ) → Option ρ) (nrm : St → Option St) (n : Nat) (k : Ex → St → Option ρ) : Ex → St → Option ρ :=
 fun e st => match e with
  | .normal => match nrm st with
   | none => none
   | some st => loopH f nrm n st k
  | e => k e st
theorem wk_rp {r : Kd} {c : CV} {g : Nat → CV} (h : c = .rp r g) : Wk c (.rp r g) := h ▸ Wk.refl _
theorem wk_fn0 {f : Nat} {c : CV} {caps caps' : Nat → CV} (h : c = .fn f 0 caps) : Wk c (.fn f 0 caps') := h ▸ Wk.fn (fun j hj => absurd hj (Nat.not_lt_zero j))
theorem wk_fn1 {f : Nat} {c : CV} {caps : Nat → CV} {a : CV} (h : c = .fn f 1 caps) (h0 : Wk (caps 0) a) : Wk c (.fn f 1 (listF [a])) := h ▸ Wk.fn (fun j hj => by
 cases j with
 | zero => exact h0
 | succ j => omega)
theorem AR.resTransfer {res res' : List A} (h : WkL res res') {ok : Nat → Prop} {w : World} {v : Value} (hv : ResR ok w res v) : ResR ok w res' v := by
 cases h with
 | nil => exact hv
 | cons h hl =>
  cases hl with
  | nil => exact h ok w v hv
  | cons h2 hl2 =>
   obtain ⟨vs, h1, h3⟩ := hv
   exact ⟨vs, h1, (WkL.cons h (WkL.cons h2 hl2)).ars h3⟩
theorem Den.results {P : Program} {f : FuncId} {args res res' : List A} (h : WkL res res') (hd : Den P f args res) : Den P f args res' :=
 ⟨hd.1, fun w okA vs hok hg hv => (hd.2 w okA vs hok hg hv).mono fun e w' he => by
  obtain ⟨v, ok', h1, h2, h3, h4, h5⟩ := he
  exact ⟨v, ok', h1, h2, h3, h4, AR.resTransfer h h5⟩⟩
end Go.Eng
namespace Go.Eng
theorem ob_inv {α ρ : Type} {x : Option α} {K : α → Option ρ} {r : ρ} (h : ob x K = some r) : ∃ t, x = some t ∧ K t = some r := by
 cases x with
 | none => cases h
 | some t => exact ⟨t, rfl, h⟩
end Go.Eng
namespace Go.Eng
open Go
abbrev tm (n : Nat) : Operand := .tmp n
abbrev ic (n : Int) : Operand := .const (.int .i64 n)
abbrev mv (d t : Nat) : FOp := ⟨some d, .move (.tmp t), none⟩
abbrev o1 (d : Nat) (o : AOp) : FOp := ⟨some d, o, none⟩
abbrev o0 (o : AOp) : FOp := ⟨none, o, none⟩
abbrev og (d : Nat) (o : AOp) (g : Nat) (w : Bool) : FOp := ⟨some d, o, some (g, w)⟩
def rl (a : Nat) : Nat → List Nat → List Nat
 | 0, l => l
 | n + 1, l => a :: rl (a + 1) n l
def us : Nat → List V → List V
 | 0, l => l
 | n + 1, l => .u :: us n l
abbrev lo (t x : Nat) : AOp := .load t none (tm x)
abbrev ln (t n x : Nat) : AOp := .load t (some n) (tm x)
abbrev fa (t x i o : Nat) : AOp := .fieldAddr t (tm x) i o
abbrev bt (op : BinOp) (t x y : Nat) : AOp := .binOp op t (tm x) (tm y) t
abbrev bk (op : BinOp) (t x : Nat) (n : Int) : AOp := .binOp op t (tm x) (ic n) t
abbrev sg (x : Nat) : AOp := .assign (tm x)
abbrev sk (n : Int) : AOp := .assign (ic n)
abbrev sb (b : Bool) : AOp := .assign (.const (.bool b))
abbrev bx (q t x : Nat) : AOp := .box q t (tm x)
abbrev cs (f : Nat) (l ts : List Nat) : AOp := .call f (l.map tm) ts .snap
abbrev cf (f : Nat) (l ts : List Nat) : AOp := .call f (l.map tm) ts .freeze
abbrev pa (x z : Nat) : AOp := .pick (tm x) (.const (.bool true)) (tm z)
abbrev po (x y : Nat) : AOp := .pick (tm x) (tm y) (.const (.bool false))
end Go.Eng
namespace Go.Eng
open Go
section
variable {ρ σ : Type} {r : ρ}
def wcI (k : IntKind) (l : List A) (K : Int → List A → Option ρ) : Option ρ := wc l fun a l => wv a fun c => wI k c fun y => K y l
theorem bind_wcI (k : IntKind) (l : List A) (K : Int → List A → Option ρ) (g : ρ → Option σ) : (wcI k l K).bind g = wcI k l fun y l => (K y l).bind g := by
 unfold wcI; simp only [bind_wc, bind_wv, bind_wI]
theorem inv_wcI {k : IntKind} {l : List A} {K : Int → List A → Option ρ} (h : wcI k l K = some r) : ∃ a y l', l = a :: l' ∧ WkA a (.v (.i k y)) ∧ K y l' = some r := by
 obtain ⟨a, l', rfl, h⟩ := inv_wc h
 obtain ⟨c, rfl, h⟩ := inv_wv h
 obtain ⟨y, hy, h⟩ := inv_wI h
 exact ⟨_, y, l', rfl, WkA.v (Wk.i hy), h⟩
def wdI (k : IntKind) (l : List CV) (K : Int → List CV → Option ρ) : Option ρ := wc l fun c l => wI k c fun y => K y l
theorem bind_wdI (k : IntKind) (l : List CV) (K : Int → List CV → Option ρ) (g : ρ → Option σ) : (wdI k l K).bind g = wdI k l fun y l => (K y l).bind g := by
 unfold wdI; simp only [bind_wc, bind_wI]
theorem inv_wdI {k : IntKind} {l : List CV} {K : Int → List CV → Option ρ} (h : wdI k l K = some r) : ∃ c y l', l = c :: l' ∧ Wk c (.i k y) ∧ K y l' = some r := by
 obtain ⟨c, l', rfl, h⟩ := inv_wc h
 obtain ⟨y, hy, h⟩ := inv_wI h
 exact ⟨c, y, l', rfl, Wk.i hy, h⟩
def wdS (l : List CV) (K : ByteArray → List CV → Option ρ) : Option ρ := wc l fun c l => wS c fun y => K y l
theorem bind_wdS (l : List CV) (K : ByteArray → List CV → Option ρ) (g : ρ → Option σ) : (wdS l K).bind g = wdS l fun y l => (K y l).bind g := by
 unfold wdS; simp only [bind_wc, bind_wS]
theorem inv_wdS {l : List CV} {K : ByteArray → List CV → Option ρ} (h : wdS l K = some r) : ∃ c y l', l = c :: l' ∧ Wk c (.s y) ∧ K y l' = some r := by
 obtain ⟨c, l', rfl, h⟩ := inv_wc h
 obtain ⟨y, hy, h⟩ := inv_wS h
 exact ⟨c, y, l', rfl, Wk.s hy, h⟩
def wcL (rr : Kd) (l : List A) (K : Nat → (Nat → Nat → CV) → List A → Option ρ) : Option ρ := wc l fun a l => wv a fun c => wL rr c fun n f => K n f l
theorem bind_wcL (rr : Kd) (l : List A) (K : Nat → (Nat → Nat → CV) → List A → Option ρ) (g : ρ → Option σ) : (wcL rr l K).bind g = wcL rr l fun n f l => (K n f l).bind g := by
 unfold wcL; simp only [bind_wc, bind_wv, bind_wL]
theorem inv_wcL {rr : Kd} {l : List A} {K : Nat → (Nat → Nat → CV) → List A → Option ρ} (h : wcL rr l K = some r) : ∃ a n f l', l = a :: l' ∧ WkA a (.v (.ro false rr n f)) ∧ K n f l' = some r := by
 obtain ⟨a, l', rfl, h⟩ := inv_wc h
 obtain ⟨c, rfl, h⟩ := inv_wv h
 obtain ⟨n, f, hy, h⟩ := inv_wL h
 exact ⟨_, n, f, l', rfl, WkA.v hy, h⟩
def wdL (rr : Kd) (l : List CV) (K : Nat → (Nat → Nat → CV) → List CV → Option ρ) : Option ρ := wc l fun c l => wL rr c fun n f => K n f l
theorem bind_wdL (rr : Kd) (l : List CV) (K : Nat → (Nat → Nat → CV) → List CV → Option ρ) (g : ρ → Option σ) : (wdL rr l K).bind g = wdL rr l fun n f l => (K n f l).bind g := by
 unfold wdL; simp only [bind_wc, bind_wL]
theorem inv_wdL {rr : Kd} {l : List CV} {K : Nat → (Nat → Nat → CV) → List CV → Option ρ} (h : wdL rr l K = some r) : ∃ c n f l', l = c :: l' ∧ Wk c (.ro false rr n f) ∧ K n f l' = some r := by
 obtain ⟨c, l', rfl, h⟩ := inv_wc h
 obtain ⟨n, f, hy, h⟩ := inv_wL h
 exact ⟨c, n, f, l', rfl, hy, h⟩
end
end Go.Eng
