/-
 NeedReady: Ready and Open return what is specified.
-/
import Derived.Test.YtajhkinnmdlokaaNdOrders
import Derived.Test.YtajhkinnmdlokaaEngV
set_option linter.all false
namespace Go.Eng.R13
open Go Go.RowKit Go.Eng
def metB (K : Int) (on : ByteArray) (R D : List ByteArray) : Bool :=
 bif decide (K = 1) then decide (on = ByteArray.empty) || hasB on R else bif decide (K = 2) then !hasB on R else bif decide (K = 3) then hasB on D else true
theorem met258 (u : Nat) (K : Int) (b on : ByteArray) (r : Nat) (rf : FF) (d : Nat) (df : FF) (hr : r ≤ 1000000) (hd : d ≤ 1000000) (hur : r < u) (hud : d < u) : F258 u K b on r rf d df = some (metB K on (strs r rf) (strs d df)) := by
 unfold F258 metB
 rw [int_beq, int_beq, int_beq, tl_eq, has257 u r rf on hr hur, has257 u d df on hd hud, ob_some, ob_some, ob_some]
 cases decide (K = 1) <;> cases decide (K = 2) <;> cases decide (K = 3) <;> cases decide (on = ByteArray.empty) <;> rfl
theorem met265 (u : Nat) (K : Int) (b on : ByteArray) (r : Nat) (rf : FF) (d : Nat) (df : FF) (hr : r ≤ 1000000) (hd : d ≤ 1000000) (hur : r < u) (hud : d < u) : F265 u K b on r rf d df = some (metB K on (strs r rf) (strs d df)) := by
 unfold F265 metB
 rw [int_beq, int_beq, int_beq, tl_eq, has264 u r rf on hr hur, has264 u d df on hd hud, ob_some, ob_some, ob_some]
 cases decide (K = 1) <;> cases decide (K = 2) <;> cases decide (K = 3) <;> cases decide (on = ByteArray.empty) <;> rfl
abbrev nd (g : FF) (i : Nat) : Int × ByteArray × ByteArray := (CV.int (g i 0), CV.str (g i 1), CV.str (g i 2))
def nds (k : Nat) (g : FF) : List (Int × ByteArray × ByteArray) := (List.range k).map (nd g)
theorem nds_join (k : Nat) (g : FF) (a : Int) (b c : ByteArray) : nds (k + 1) (joinF k g (rowsF 3 [.i .i64 a, .s b, .s c])) = nds k g ++ [(a, b, c)] := by
 unfold nds nd
 rw [List.range_succ, List.map_append]
 congr 1
 ·exact List.map_congr_left fun i hi => by rw [joinF_lt (List.mem_range.1 hi)]
 ·simp [joinF_at, rowsF, listF, CV.int, CV.str]
def opB (block : ByteArray) (R D : List ByteArray) (x : Int × ByteArray × ByteArray) : Bool := decide (x.2.1 = block) && !metB x.1 x.2.2 R D
def opens (block : ByteArray) (R D : List ByteArray) (m : Nat) (f : FF) : List (Int × ByteArray × ByteArray) := (nds m f).filter (opB block R D)
section
variable {ρ : Type}
theorem l259 (u r : Nat) (rf : FF) (d0 : Nat) (df : FF) (block : ByteArray) (m : Nat) (f : FF) (s : ByteArray) (a1 : Nat) (f1 : FF) (a2 : Nat) (f2 : FF) (a3 : Nat) (f3 : FF) (a4 : Nat) (f4 : FF) (hm : m ≤ 1000000) (hr : r ≤ 1000000) (hd : d0 ≤ 1000000) (hur : r < u) (hud : d0 < u) (k0 k1 : Nat → FF → Option ρ) :
  ∀ (d i t : Nat) (x : Int) (k : Nat) (g : FF), x = (i : Int) → i + d = m → d < t → k ≤ i →
  ∃ k' g', k' ≤ m ∧ nds k' g' = nds k g ++ (((List.range' i d).map (nd f)).filter (opB block (strs r rf) (strs d0 df))) ∧
   L259v1 u r rf d0 df block m f (Int.ofNat m) s a1 f1 a2 f2 a3 f3 a4 f4 t k x g k0 = k0 k' g' ∧ L266v1 u r rf d0 df block s a1 f1 a2 f2 a3 f3 a4 f4 m f t k x g k1 = k1 k' g'
 | 0, i, t + 1, x, k, g, hx, hi, ht, hk => by
  have h1 : decide (x < Int.ofNat m) = false := decide_eq_false (by simp only [Int.ofNat_eq_natCast]; omega)
  refine ⟨k, g, by omega, by simp, ?_, ?_⟩
  ·unfold L259v1; rw [h1, cond_false]
  ·unfold L266v1; rw [h1, cond_false]
 | d + 1, i, t + 1, x, k, g, hx, hi, ht, hk => by
  have h1 : decide (x < Int.ofNat m) = true := decide_eq_true (by simp only [Int.ofNat_eq_natCast]; omega)
  have h2 : inb x m = true := inb_true (by omega) (by omega)
  have h3 : Int.toNat x = i := by omega
  have hx1 : w64 (x + 1) = ((i + 1 : Nat) : Int) := by rw [w64_of (by omega) (by omega)]; omega
  have h4 : Nat.ble (k + 1) 1073741824 = true := by simp; omega
  have hq : opB block (strs r rf) (strs d0 df) (nd f i) = (decide (CV.str (f i 1) = block) && !metB (CV.int (f i 0)) (CV.str (f i 2)) (strs r rf) (strs d0 df)) := rfl
  cases q1 : decide (CV.str (f i 1) = block) with
  | false =>
   rw [q1, Bool.false_and] at hq
   obtain ⟨k', g', b1, b2, b3, b4⟩ := l259 u r rf d0 df block m f s a1 f1 a2 f2 a3 f3 a4 f4 hm hr hd hur hud k0 k1 d (i + 1) t (w64 (x + 1)) k g hx1 (by omega) (by omega) (by omega)
   refine ⟨k', g', b1, ?_, ?_, ?_⟩
   ·rw [b2, List.range'_succ, List.map_cons, List.filter_cons_of_neg (by rw [hq]; exact Bool.false_ne_true)]
   ·unfold L259v1
    rw [h1, cond_true, h2, cond_true, h3, tl_eq, q1]
    exact b3
   ·unfold L266v1
    rw [h1, cond_true, h2, cond_true, h3, tl_eq, q1]
    exact b4
  | true =>
   rw [q1, Bool.true_and] at hq
   cases q2 : metB (CV.int (f i 0)) (CV.str (f i 2)) (strs r rf) (strs d0 df) with
   | true =>
    rw [q2] at hq
    obtain ⟨k', g', b1, b2, b3, b4⟩ := l259 u r rf d0 df block m f s a1 f1 a2 f2 a3 f3 a4 f4 hm hr hd hur hud k0 k1 d (i + 1) t (w64 (x + 1)) k g hx1 (by omega) (by omega) (by omega)
    refine ⟨k', g', b1, ?_, ?_, ?_⟩
    ·rw [b2, List.range'_succ, List.map_cons, List.filter_cons_of_neg (by rw [hq]; exact Bool.false_ne_true)]
    ·unfold L259v1
     rw [h1, cond_true, h2, cond_true, h3, tl_eq, q1, met258 u _ _ _ r rf d0 df hr hd hur hud, q2]
     exact b3
    ·unfold L266v1
     rw [h1, cond_true, h2, cond_true, h3, tl_eq, q1, met265 u _ _ _ r rf d0 df hr hd hur hud, q2]
     exact b4
   | false =>
    rw [q2] at hq
    obtain ⟨k', g', b1, b2, b3, b4⟩ := l259 u r rf d0 df block m f s a1 f1 a2 f2 a3 f3 a4 f4 hm hr hd hur hud k0 k1 d (i + 1) t (w64 (x + 1)) (k + 1) (joinF k g (rowsF 3 [.i .i64 (CV.int (f i 0)), .s (CV.str (f i 1)), .s (CV.str (f i 2))])) hx1 (by omega) (by omega) (by omega)
    refine ⟨k', g', b1, ?_, ?_, ?_⟩
    ·rw [b2, nds_join, List.range'_succ, List.map_cons, List.filter_cons_of_pos hq, List.append_assoc]; rfl
    ·unfold L259v1
     rw [h1, cond_true, h2, cond_true, h3, tl_eq, q1, met258 u _ _ _ r rf d0 df hr hd hur hud, q2, h4]
     exact b3
    ·unfold L266v1
     rw [h1, cond_true, h2, cond_true, h3, tl_eq, q1, met265 u _ _ _ r rf d0 df hr hd hur hud, q2, h4]
     exact b4
end
theorem open259 (u : Nat) (s : ByteArray) (a1 : Nat) (f1 : FF) (a2 : Nat) (f2 : FF) (a3 : Nat) (f3 : FF) (a4 : Nat) (f4 : FF) (m : Nat) (f : FF) (r : Nat) (rf : FF) (d : Nat) (df : FF) (block : ByteArray) (hm : m ≤ 1000000) (hr : r ≤ 1000000) (hd : d ≤ 1000000) (hum : m < u) (hur : r < u) (hud : d < u) :
  ∃ k g, k ≤ m ∧ nds k g = opens block (strs r rf) (strs d df) m f ∧ F259 u s a1 f1 a2 f2 a3 f3 a4 f4 m f r rf d df block = some (k, g) ∧ F266 u s a1 f1 a2 f2 a3 f3 a4 f4 m f r rf d df block = some (k, g) := by
 obtain ⟨k, g, b1, b2, b3, b4⟩ := l259 (ρ := Nat × FF) u r rf d df block m f s a1 f1 a2 f2 a3 f3 a4 f4 hm hr hd hur hud (fun x58 x59 => (some (x58, x59))) (fun x56 x57 => (some (x56, x57))) m 0 u 0 0 (fun _ _ => .any) rfl (by omega) hum (Nat.le_refl _)
 refine ⟨k, g, b1, ?_, by unfold F259; exact b3, by unfold F266; exact b4⟩
 rw [b2, ← List.range_eq_range']; rfl
def anyK (l : List (Int × ByteArray × ByteArray)) (z : Int) : Bool := l.any fun x => decide (x.1 = z)
def rdE (l : List (Int × ByteArray × ByteArray)) : Int := bif anyK l 1 then 26 else bif anyK l 2 then 27 else bif anyK l 3 then 28 else 0
def readyE (block : ByteArray) (B R D : List ByteArray) (m : Nat) (f : FF) : Int := bif !hasB block B then 8 else bif hasB block R then 14 else rdE (opens block R D m f)
section
variable {ρ : Type}
theorem l261 (u k : Nat) (g : FF) (j : Nat) (hj : j < 3) (hk : k ≤ 1000000) : ∀ (d i t : Nat) (x : Int), x = (i : Int) → i + d = k → d < t →
  ∃ z, L261v1 u k g (listF [(.i .i64 1), (.i .i64 2), (.i .i64 3)]) (listF [(.i .i64 (j : Int))]) (Int.ofNat k) t x (fun x19 => (some x19)) (some (-1)) = some z ∧ (decide (z ≥ 0) = (List.range' i d).any fun i => decide (CV.int (g i 0) = (j : Int) + 1))
 | 0, i, t + 1, x, hx, hi, ht => by
  refine ⟨-1, ?_, rfl⟩
  unfold L261v1
  rw [show decide (x < Int.ofNat k) = false from decide_eq_false (by simp only [Int.ofNat_eq_natCast]; omega), cond_false]
 | d + 1, i, t + 1, x, hx, hi, ht => by
  have h1 : decide (x < Int.ofNat k) = true := decide_eq_true (by simp only [Int.ofNat_eq_natCast]; omega)
  have h2 : inb x k = true := inb_true (by omega) (by omega)
  have h3 : Int.toNat x = i := by omega
  have hx1 : w64 (x + 1) = ((i + 1 : Nat) : Int) := by rw [w64_of (by omega) (by omega)]; omega
  have h4 : F260 u (CV.int (g i 0)) (CV.str (g i 1)) (CV.str (g i 2)) (listF [(.i .i64 1), (.i .i64 2), (.i .i64 3)]) (listF [(.i .i64 (j : Int))]) = some (decide (CV.int (g i 0) = (j : Int) + 1)) := by
   unfold F260
   match j, hj with
   | 0, _ => rw [← int_beq]; rfl
   | 1, _ => rw [← int_beq]; rfl
   | 2, _ => rw [← int_beq]; rfl
  unfold L261v1
  rw [h1, cond_true, h2, cond_true, h3, h4, ob_some, List.range'_succ, List.any_cons]
  cases decide (CV.int (g i 0) = (j : Int) + 1) with
  | true => exact ⟨x, rfl, by rw [decide_eq_true (show x ≥ 0 by omega)]; rfl⟩
  | false =>
   obtain ⟨z, e1, e2⟩ := l261 u k g j hj hk d (i + 1) t (w64 (x + 1)) hx1 (by omega) (by omega)
   exact ⟨z, e1, by rw [e2]; rfl⟩
theorem anyK_range (k : Nat) (g : FF) (z : Int) : ((List.range' 0 k).any fun i => decide (CV.int (g i 0) = z)) = anyK (nds k g) z := by
 unfold anyK nds
 rw [List.any_map, List.range_eq_range']; rfl
theorem kinds262 (u k : Nat) (g : FF) (j : Nat) (hj : j < 3) (hk : k ≤ 1000000) (hu : k < u) : F262 u k g (listF [(.i .i64 1), (.i .i64 2), (.i .i64 3)]) (listF [(.i .i64 (j : Int))]) = some (anyK (nds k g) ((j : Int) + 1)) := by
 obtain ⟨z, e1, e2⟩ := l261 u k g j hj hk k 0 u 0 rfl (by omega) hu
 unfold F262 F261
 rw [e1, ob_some, e2, anyK_range]
theorem l263 (u k : Nat) (g : FF) (s : ByteArray) (a1 : Nat) (f1 : FF) (a2 : Nat) (f2 : FF) (a3 : Nat) (f3 : FF) (a4 : Nat) (f4 : FF) (m : Nat) (f : FF) (hk : k ≤ 1000000) (hu : k < u) (t : Nat) (k0 : Int → Int → Option ρ) (k1 : Option ρ) :
  L263v1 u k g s a1 f1 a2 f2 a3 f3 a4 f4 m f (t + 4) 0 k0 k1 = bif anyK (nds k g) 1 then k0 26 0 else bif anyK (nds k g) 2 then k0 27 1 else bif anyK (nds k g) 3 then k0 28 2 else k1 := by
 have e0 := kinds262 u k g 0 (by omega) hk hu
 have e1 := kinds262 u k g 1 (by omega) hk hu
 have e2 := kinds262 u k g 2 (by omega) hk hu
 have e0 : F262 u k g (listF [(.i .i64 1), (.i .i64 2), (.i .i64 3)]) (listF [(.i .i64 0)]) = some (anyK (nds k g) 1) := e0
 have e1 : F262 u k g (listF [(.i .i64 1), (.i .i64 2), (.i .i64 3)]) (listF [(.i .i64 1)]) = some (anyK (nds k g) 2) := e1
 have e2 : F262 u k g (listF [(.i .i64 1), (.i .i64 2), (.i .i64 3)]) (listF [(.i .i64 2)]) = some (anyK (nds k g) 3) := e2
 have w1 : w64 (0 + 1) = 1 := rfl
 have w2 : w64 (1 + 1) = 2 := rfl
 have w3 : w64 (2 + 1) = 3 := rfl
 unfold L263v1
 rw [bif_t (by rfl), bif_t (by rfl), e0, ob_some, w1]
 cases anyK (nds k g) 1 with
 | true => rfl
 | false =>
  rw [cond_false, cond_false]
  unfold L263v1
  rw [bif_t (by rfl), bif_f (by rfl), bif_t (by rfl), e1, ob_some, w2]
  cases anyK (nds k g) 2 with
  | true => rfl
  | false =>
   rw [cond_false, cond_false]
   unfold L263v1
   rw [bif_t (by rfl), bif_f (by rfl), bif_f (by rfl), bif_t (by rfl), e2, ob_some, w3]
   cases anyK (nds k g) 3 with
   | true => rfl
   | false =>
    rw [cond_false, cond_false]
    unfold L263v1
    rw [bif_f (by rfl)]
theorem l267v2 (u k : Nat) (g : FF) (z : Int) (hz : 1 ≤ z ∧ z ≤ 3) (s : ByteArray) (a1 : Nat) (f1 : FF) (a2 : Nat) (f2 : FF) (a3 : Nat) (f3 : FF) (a4 : Nat) (f4 : FF) (m : Nat) (f : FF) (hk : k ≤ 1000000) (k0 k1 : Option ρ) : ∀ (d i t : Nat) (x : Int), x = (i : Int) → i + d = k → d < t →
  L267v2 u k g z s a1 f1 a2 f2 a3 f3 a4 f4 m f t x k0 k1 = bif (List.range' i d).any fun i => decide (CV.int (g i 0) = z) then k0 else k1
 | 0, i, t + 1, x, hx, hi, ht => by
  unfold L267v2
  rw [show decide (x < Int.ofNat k) = false from decide_eq_false (by simp only [Int.ofNat_eq_natCast]; omega), cond_false]; rfl
 | d + 1, i, t + 1, x, hx, hi, ht => by
  have h1 : decide (x < Int.ofNat k) = true := decide_eq_true (by simp only [Int.ofNat_eq_natCast]; omega)
  have h2 : inb x k = true := inb_true (by omega) (by omega)
  have h3 : Int.toNat x = i := by omega
  have hx1 : w64 (x + 1) = ((i + 1 : Nat) : Int) := by rw [w64_of (by omega) (by omega)]; omega
  have h4 : inb z 4 = true := inb_true (by omega) (by omega)
  unfold L267v2
  rw [h1, cond_true, h2, cond_true, h3, int_beq, h4, cond_true, List.range'_succ, List.any_cons]
  cases decide (CV.int (g i 0) = z) with
  | true => rfl
  | false => rw [cond_false, Bool.false_or]; exact l267v2 u k g z hz s a1 f1 a2 f2 a3 f3 a4 f4 m f hk k0 k1 d (i + 1) t _ hx1 (by omega) (by omega)
theorem l267v3 (u k : Nat) (g : FF) (s : ByteArray) (a1 : Nat) (f1 : FF) (a2 : Nat) (f2 : FF) (a3 : Nat) (f3 : FF) (a4 : Nat) (f4 : FF) (m : Nat) (f : FF) (hk : k ≤ 1000000) (hu : k < u) (t : Nat) (k0 : Int → Option ρ) (k1 : Option ρ) :
  L267v3 u k g s a1 f1 a2 f2 a3 f3 a4 f4 m f (t + 4) 1 k0 k1 = bif anyK (nds k g) 1 then k0 26 else bif anyK (nds k g) 2 then k0 27 else bif anyK (nds k g) 3 then k0 28 else k1 := by
 have w1 : w64 (1 + 1) = 2 := rfl
 have w2 : w64 (2 + 1) = 3 := rfl
 have w3 : w64 (3 + 1) = 4 := rfl
 have c1 : CV.int ((rowsF 1 [(.i .i64 0), (.i .i64 26), (.i .i64 27), (.i .i64 28)]) (0 + Int.toNat 1) 0) = 26 := rfl
 have c2 : CV.int ((rowsF 1 [(.i .i64 0), (.i .i64 26), (.i .i64 27), (.i .i64 28)]) (0 + Int.toNat 2) 0) = 27 := rfl
 have c3 : CV.int ((rowsF 1 [(.i .i64 0), (.i .i64 26), (.i .i64 27), (.i .i64 28)]) (0 + Int.toNat 3) 0) = 28 := rfl
 have st : ∀ (z : Int), 1 ≤ z ∧ z ≤ 3 → ∀ (q0 q1 : Option ρ), L267v2 u k g z s a1 f1 a2 f2 a3 f3 a4 f4 m f u 0 q0 q1 = bif anyK (nds k g) z then q0 else q1 := fun z hz q0 q1 => by
  rw [l267v2 u k g z hz s a1 f1 a2 f2 a3 f3 a4 f4 m f hk q0 q1 k 0 u 0 rfl (by omega) hu, anyK_range]
 unfold L267v3
 rw [bif_t (by rfl), st 1 (by omega), w1, c1]
 cases anyK (nds k g) 1 with
 | true => rfl
 | false =>
  rw [cond_false, cond_false]
  unfold L267v3
  rw [bif_t (by rfl), st 2 (by omega), w2, c2]
  cases anyK (nds k g) 2 with
  | true => rfl
  | false =>
   rw [cond_false, cond_false]
   unfold L267v3
   rw [bif_t (by rfl), st 3 (by omega), w3, c3]
   cases anyK (nds k g) 3 with
   | true => rfl
   | false =>
    rw [cond_false, cond_false]
    unfold L267v3
    rw [bif_f (by rfl)]
end
theorem ready263 (u : Nat) (s : ByteArray) (a1 : Nat) (f1 : FF) (a2 : Nat) (f2 : FF) (a3 : Nat) (f3 : FF) (a4 : Nat) (f4 : FF) (m : Nat) (f : FF) (r : Nat) (rf : FF) (d : Nat) (df : FF) (block : ByteArray) (ha : a1 ≤ 1000) (hm : m ≤ 1000) (hr : r ≤ 1000) (hd : d ≤ 1000) (hu : 4000 ≤ u) :
  F263 u s a1 f1 a2 f2 a3 f3 a4 f4 m f r rf d df block = some (readyE block (bls a1 f1) (strs r rf) (strs d df) m f) ∧ F267 u s a1 f1 a2 f2 a3 f3 a4 f4 m f r rf d df block = some (readyE block (bls a1 f1) (strs r rf) (strs d df) m f) := by
 obtain ⟨nb, bg, e1, e2, e3⟩ := blocks252 u s a1 f1 a2 f2 a3 f3 a4 f4 m f (by omega) (by omega)
 obtain ⟨k, g, b1, b2, b3, b4⟩ := open259 u s a1 f1 a2 f2 a3 f3 a4 f4 m f r rf d df block (by omega) (by omega) (by omega) (by omega) (by omega) (by omega)
 obtain ⟨t, rfl⟩ : ∃ t, u = t + 4 := ⟨u - 4, by omega⟩
 constructor
 ·unfold F263 readyE
  rw [blocks251, e1, ob_some]
  dsimp only
  rw [has257 _ nb bg block (by omega) (by omega), ob_some, e3, has257 _ r rf block (by omega) (by omega), ob_some, b3, ob_some]
  dsimp only
  rw [l263 _ k g s a1 f1 a2 f2 a3 f3 a4 f4 m f (by omega) (by omega), b2]
  unfold rdE
  cases hasB block (bls a1 f1) <;> cases hasB block (strs r rf) <;> cases anyK (opens block (strs r rf) (strs d df) m f) 1 <;> cases anyK (opens block (strs r rf) (strs d df) m f) 2 <;> cases anyK (opens block (strs r rf) (strs d df) m f) 3 <;> rfl
 ·unfold F267 readyE
  rw [e1, ob_some]
  dsimp only
  rw [has264 _ nb bg block (by omega) (by omega), ob_some, e3, has264 _ r rf block (by omega) (by omega), ob_some, b4, ob_some]
  dsimp only
  rw [l267v3 _ k g s a1 f1 a2 f2 a3 f3 a4 f4 m f (by omega) (by omega), b2]
  unfold rdE
  cases hasB block (bls a1 f1) <;> cases hasB block (strs r rf) <;> cases anyK (opens block (strs r rf) (strs d df) m f) 1 <;> cases anyK (opens block (strs r rf) (strs d df) m f) 2 <;> cases anyK (opens block (strs r rf) (strs d df) m f) 3 <;> rfl
section
variable {ρ : Type}
end
end Go.Eng.R13
