/-
  Words for the plain forms: counters, bounds, 64-bit numbers; what came in.
-/
import Derived.Test.YtbjfmobjdipehaaDoorEngS
import Derived.IntWalk
set_option linter.all false
namespace Go.Eng
open Go Go.RowKit
theorem w64_of {n : Int} (h1 : -9223372036854775808 ≤ n) (h2 : n ≤ 9223372036854775807) : w64 n = n := IntWalk.i64_in n ⟨h1, h2⟩
theorem w64_idem (n : Int) : w64 (w64 n) = w64 n := by
  unfold w64
  rw [IntKind.wrap_i64, IntKind.wrap_i64]; omega
theorem w64_range (n : Int) : -9223372036854775808 ≤ w64 n ∧ w64 n ≤ 9223372036854775807 := by
  unfold w64
  rw [IntKind.wrap_i64]; omega
theorem w64_succ {i : Nat} (h : i < 9223372036854775807) : w64 (Int.ofNat i + 1) = Int.ofNat (i + 1) := by
  rw [w64_of] <;> simp <;> omega
theorem inb_nat (i n : Nat) : inb (Int.ofNat i) n = decide (i < n) := by
  unfold inb
  have : (0 : Int) ≤ Int.ofNat i := Int.natCast_nonneg i
  simp
theorem inb_true {i : Int} {n : Nat} (h1 : 0 ≤ i) (h2 : i < n) : inb i n = true := by
  unfold inb; simp [h1, h2]
theorem inbe_true {i : Int} {n : Nat} (h1 : 0 ≤ i) (h2 : i ≤ n) : inbe i n = true := by
  unfold inbe; simp [h1, h2]
theorem lt_nat (i n : Nat) : decide (Int.ofNat i < Int.ofNat n) = decide (i < n) := by simp
theorem toNat_nat (i : Nat) : Int.toNat (Int.ofNat i) = i := rfl
theorem ofNat_add (i j : Nat) : Int.ofNat i + Int.ofNat j = Int.ofNat (i + j) := rfl
theorem bif_t {α : Type} {c : Bool} (h : c = true) (x y : α) : (bif c then x else y) = x := by rw [h]; rfl
theorem bif_f {α : Type} {c : Bool} (h : c = false) (x y : α) : (bif c then x else y) = y := by rw [h]; rfl
theorem i64_wf {n : Int} (h : (Lit.int .i64 n).wf = true) : -9223372036854775808 ≤ n ∧ n ≤ 9223372036854775807 := by
  have e1 : IntKind.i64.min = -9223372036854775808 := rfl
  have e2 : IntKind.i64.max = 9223372036854775807 := rfl
  simpa [Lit.wf, e1, e2] using h
def I64 (n : Int) : Prop := -9223372036854775808 ≤ n ∧ n ≤ 9223372036854775807
def rowP : Kd := .pr (.int .i64) (.pr (.int .i64) .nil)
def PtsIn (n : Nat) (f : Nat → Nat → CV) : Prop := ∀ i j, i < n → j < 2 → ∃ z, f i j = .i .i64 z ∧ -9223372036854775808 ≤ z ∧ z ≤ 9223372036854775807
theorem ptsIn_of {n : Nat} {f : Nat → Nat → CV} (h : ∀ i j, i < n → j < rowP.len → (rowP.nth j).okP (f i j) ∧ (f i j).wf) : PtsIn n f := by
  intro i j hi hj
  obtain ⟨h1, h2⟩ := h i j hi (by simpa [rowP, Kd.len] using hj)
  have : rowP.nth j = .int .i64 := by
    match j, hj with
    | 0, _ => rfl
    | 1, _ => rfl
  rw [this] at h1
  obtain ⟨z, hz⟩ := h1
  rw [hz] at h2
  exact ⟨z, hz, i64_wf h2⟩
def rowPs : Kd := .pr (.sl rowP) .nil
def rowSh : Kd := .pr (.sl rowP) (.pr (.sl rowPs) .nil)
structure ShapeIn (n1 : Nat) (f1 : Nat → Nat → CV) (n2 : Nat) (f2 : Nat → Nat → CV) : Prop where
  l1 : n1 ≤ maxLen
  l2 : n2 ≤ maxLen
  outer : PtsIn n1 f1
  holes : ∀ i, i < n2 → ∃ fl n f, f2 i 0 = .ro fl rowP n f ∧ n ≤ maxLen ∧ PtsIn n f
theorem shape_open {l : List CV} (hl : l.length = 2) (hk : ∀ (j : Nat) (c : CV), l[j]? = some c → (rowSh.nth j).okP c ∧ c.wf) :
    ∃ fl1 n1 f1 fl2 n2 f2, l = [.ro fl1 rowP n1 f1, .ro fl2 rowPs n2 f2] ∧ ShapeIn n1 f1 n2 f2 := by
  match l, hl with
  | [a, b], _ =>
    obtain ⟨h1, h2⟩ := hk 0 a rfl
    obtain ⟨h3, h4⟩ := hk 1 b rfl
    obtain ⟨fl1, n1, f1, rfl⟩ := (show ∃ fl n f, a = .ro fl rowP n f from h1)
    obtain ⟨fl2, n2, f2, rfl⟩ := (show ∃ fl n f, b = .ro fl rowPs n f from h3)
    refine ⟨fl1, n1, f1, fl2, n2, f2, rfl, h2.1, h4.1, ptsIn_of h2.2, fun i hi => ?_⟩
    obtain ⟨h5, h6⟩ := h4.2 i 0 hi (by decide)
    obtain ⟨fl, n, f, e⟩ := (show ∃ fl n f, f2 i 0 = .ro fl rowP n f from h5)
    rw [e] at h6
    exact ⟨fl, n, f, e, h6.1, ptsIn_of h6.2⟩
theorem okWide_array {P : Program} {w : World} {r : Reach} {base : Nat} {t e : TypeId} {n : Nat} {v : Value} (ht : P.underlying t = some (.array n e)) (h : Value.okWide P w r base t v) : ∃ cs, v = .agg cs ∧ cs.size = P.cellsOf t := by
  simp only [Value.okWide, ht] at h
  obtain ⟨cs, h1, h2, _⟩ := h
  exact ⟨cs, h1, h2⟩
theorem ints_open {r : Kd} {n : Nat} (hr : ∀ j, j < n → r.nth j = .int .i64) {l : List CV} (hl : l.length = n) (hk : ∀ (j : Nat) (c : CV), l[j]? = some c → (r.nth j).okP c ∧ c.wf) :
    ∃ zs : List Int, l = zs.map (.i .i64) ∧ zs.length = n ∧ ∀ z ∈ zs, -9223372036854775808 ≤ z ∧ z ≤ 9223372036854775807 := by
  have one : ∀ c ∈ l, ∃ z, c = .i .i64 z ∧ -9223372036854775808 ≤ z ∧ z ≤ 9223372036854775807 := by
    intro c hc
    obtain ⟨j, hj⟩ := List.getElem?_of_mem hc
    obtain ⟨h1, h2⟩ := hk j c hj
    rw [hr j (by rw [← hl]; exact (List.getElem?_eq_some_iff.1 hj).1)] at h1
    obtain ⟨z, rfl⟩ := h1
    exact ⟨z, rfl, i64_wf h2⟩
  clear hk
  subst hl
  clear hr
  induction l with
  | nil => exact ⟨[], rfl, rfl, fun z h => by cases h⟩
  | cons c l ih =>
    obtain ⟨z, rfl, h1⟩ := one c List.mem_cons_self
    obtain ⟨zs, rfl, h2, h3⟩ := ih (fun c hc => one c (List.mem_cons_of_mem _ hc))
    refine ⟨z :: zs, rfl, by simp, fun y hy => ?_⟩
    rcases List.mem_cons.1 hy with rfl | hy
    · exact h1
    · exact h3 y hy
theorem point_open {l : List CV} (hl : l.length = rowP.len) (hk : ∀ (j : Nat) (c : CV), l[j]? = some c → (rowP.nth j).okP c ∧ c.wf) : ∃ a b, l = [.i .i64 a, .i .i64 b] ∧ I64 a ∧ I64 b := by
  obtain ⟨zs, rfl, hz, hw⟩ := ints_open (n := 2) (fun j hj => by match j, hj with | 0, _ => rfl | 1, _ => rfl) hl hk
  match zs, hz with
  | [a, b], _ => exact ⟨a, b, rfl, hw a (by simp), hw b (by simp)⟩
theorem ints3 {zs : List Int} (hz : zs.length = 3) (hw : ∀ z ∈ zs, -9223372036854775808 ≤ z ∧ z ≤ 9223372036854775807) : ∃ a b c, zs = [a, b, c] ∧ I64 a ∧ I64 b ∧ I64 c := by
  match zs, hz with
  | [a, b, c], _ => exact ⟨a, b, c, rfl, hw a (by simp), hw b (by simp), hw c (by simp)⟩
theorem ints4 {zs : List Int} (hz : zs.length = 4) (hw : ∀ z ∈ zs, -9223372036854775808 ≤ z ∧ z ≤ 9223372036854775807) : ∃ a b c d, zs = [a, b, c, d] ∧ I64 a ∧ I64 b ∧ I64 c ∧ I64 d := by
  match zs, hz with
  | [a, b, c, d], _ => exact ⟨a, b, c, d, rfl, hw a (by simp), hw b (by simp), hw c (by simp), hw d (by simp)⟩
def rowSpot : Kd := .pr .str (.pr (.int .i64) (.pr (.int .i64) (.pr (.int .i64) (.pr .bool .nil))))
theorem spot_open {l : List CV} (hl : l.length = rowSpot.len) (hk : ∀ (j : Nat) (c : CV), l[j]? = some c → (rowSpot.nth j).okP c ∧ c.wf) : ∃ s a b c d, l = [.s s, .i .i64 a, .i .i64 b, .i .i64 c, .b d] ∧ I64 a ∧ I64 b ∧ I64 c := by
  match l, hl with
  | [x0, x1, x2, x3, x4], _ =>
    obtain ⟨s, rfl⟩ := (show ∃ s, x0 = .s s from (hk 0 x0 rfl).1)
    obtain ⟨h1, g1⟩ := hk 1 x1 rfl
    obtain ⟨a, rfl⟩ := (show ∃ n, x1 = .i .i64 n from h1)
    obtain ⟨h2, g2⟩ := hk 2 x2 rfl
    obtain ⟨b, rfl⟩ := (show ∃ n, x2 = .i .i64 n from h2)
    obtain ⟨h3, g3⟩ := hk 3 x3 rfl
    obtain ⟨c, rfl⟩ := (show ∃ n, x3 = .i .i64 n from h3)
    obtain ⟨d, rfl⟩ := (show ∃ d, x4 = .b d from (hk 4 x4 rfl).1)
    exact ⟨s, a, b, c, d, rfl, i64_wf g1, i64_wf g2, i64_wf g3⟩
theorem int_open {H : Type} {enc : TypeId × Value → H} {P : Program} {W : World} {sp : Nat → Bool} {held : Bool} {t : TypeId} {ok : Nat → Prop} (ht : P.underlying t = some (.int .i64)) {n : Int} {dd : DataW H} {ps : List MemPlace}
    (h : DataW.Trod enc P W 0 sp held t (.int .i64 n) dd ps) : I64 n ∧ AR ok W (.v (.i .i64 n)) (.int .i64 n) := by
  obtain ⟨fuel, hf⟩ := h
  obtain ⟨m, h1, _, hw⟩ := DataW.trod_int ht hf
  have : Value.int .i64 n = .int .i64 m := by simpa [Value.cells] using h1
  cases this
  exact ⟨i64_wf hw, rfl⟩
theorem int_openK {H : Type} {enc : TypeId × Value → H} {P : Program} {W : World} {sp : Nat → Bool} {held : Bool} {t : TypeId} {k : IntKind} {ok : Nat → Prop} (ht : P.underlying t = some (.int k)) {n : Int} {dd : DataW H} {ps : List MemPlace}
    (h : DataW.Trod enc P W 0 sp held t (.int k n) dd ps) : (Lit.int k n).wf = true ∧ AR ok W (.v (.i k n)) (.int k n) := by
  obtain ⟨fuel, hf⟩ := h
  obtain ⟨m, h1, _, hw⟩ := DataW.trod_int ht hf
  have : Value.int k n = .int k m := by simpa [Value.cells] using h1
  cases this
  exact ⟨hw, rfl⟩
def SlIn (r : Kd) (n : Nat) (f : Nat → Nat → CV) : Prop := n ≤ maxLen ∧ ∀ i j, i < n → j < r.len → (r.nth j).okP (f i j) ∧ (f i j).wf
theorem SlIn.pts {n : Nat} {f : Nat → Nat → CV} (h : SlIn rowP n f) : PtsIn n f := ptsIn_of h.2
theorem SlIn.shape {n1 n2 : Nat} {f1 f2 : Nat → Nat → CV} (h1 : SlIn rowP n1 f1) (h2 : SlIn rowPs n2 f2) : ShapeIn n1 f1 n2 f2 := by
  refine ⟨h1.1, h2.1, h1.pts, fun i hi => ?_⟩
  obtain ⟨h5, h6⟩ := h2.2 i 0 hi (by decide)
  obtain ⟨fl, n, f, e⟩ := (show ∃ fl n f, f2 i 0 = .ro fl rowP n f from h5)
  rw [e] at h6
  exact ⟨fl, n, f, e, h6.1, ptsIn_of h6.2⟩
end Go.Eng
