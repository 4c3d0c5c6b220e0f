/-
  The functions of the program, run on symbols; printed by decomp.py.
-/
import Derived.Test.YtbjfmobjdipehaaDoorDecT1
set_option linter.all false
set_option maxRecDepth 1000000
set_option maxHeartbeats 4000000
namespace Go.Eng.R13
open Go Go.RowKit Go.Eng
def A16v1 : AC := (.region 9 [o1 35 (bk .add 3 23 1), mv 23 35] 0 none)
def A16v2 : AC := (.seq (.block 3
  (.seq (.region 6 [o1 25 (.indexAddr 36 42 4 (tm 21) (tm 23)), o1 26 (ln 42 4 25), o1 10 (.alloc 0 42 [vcs ByteArray.empty, vci 0, vci 0, vci 0]), o0 (.store 42 4 (tm 10) (tm 26))] 1 none) []
    (.seq (.region 7 [o1 27 (ln 31 18 8), o1 28 (ln 42 4 10), o1 29 (cs 14 [27, 28] [31, 42]), o1 30 (.unOp .not 4 (tm 29))] 0 none) []
    (.cond (tm 30)
    (.region 8 [mv 31 6, o1 32 (ln 42 4 10), o1 33 (.buildSlice 0 36 42 (.pr .str kV) 1 [vcs ByteArray.empty, vci 0, vci 0, vci 0] [(0, (tm 32))]), o1 34 (.append 1 36 42 (.pr .str kV) 40 (tm 31) (tm 33)), o1 6 (sg 34)] 2 none)
    .skip)))) (10 :: (rl 25 10 []))
  A16v1)
def A16v3 : AC := (.seq (.region 5 [o1 24 (bt .lss 3 23 22)] 0 none) []
  (.seq (.cond (tm 24)
  .skip
  (.exit 2 (0 :: 3 :: 4 :: 5 :: (rl 7 5 (rl 15 23 []))))) []
  A16v2))
def A16v4 : AC := (.region 10 [o1 36 (bk .add 3 14 1), mv 14 36] 0 none)
def A16v5 : AC := (.seq (.block 1
  (.seq (.region 3 [o1 16 (.indexAddr 44 31 18 (tm 12) (tm 14)), o1 17 (ln 31 18 16), o1 8 (.alloc 0 31 [vcs ByteArray.empty, vci 0, vci 0, vcs ByteArray.empty, vcs ByteArray.empty, vci 0, vcn, vcn, vcs ByteArray.empty, vci 0, vci 0, vci 0, vci 0, vci 0, vci 0, vci 0, vci 0, vci 0]), o0 (.store 31 18 (tm 8) (tm 17))] 1 none) []
    (.seq (.region 4 [o1 18 (ln 31 18 8), mv 19 1, mv 20 2, o1 21 (cf 12 [18, 19, 20] [31, 32, 3]), o1 22 (.len 36 false (tm 21)), o1 23 (.move (ic 0))] 0 none) []
    (.block 2
    (.loop [.slot 6 (.pr .str kV)] (0 :: 3 :: 4 :: 5 :: 7 :: 9 :: 10 :: 11 :: (rl 15 6 (rl 24 14 [])))
      A16v3))))) (8 :: 10 :: (rl 16 20 []))
  A16v4)
def A16v6 : AC := (.seq (.region 2 [o1 15 (bt .lss 3 14 13)] 0 none) []
  (.seq (.cond (tm 15)
  .skip
  (.exit 0 (rl 0 6 (rl 7 31 [])))) []
  A16v5))
def A16v7 : AC := (.seq (.region 11 [mv 37 6, o1 6 (sg 37)] 0 none) []
  (.ret (rl 0 6 (rl 7 31 []))))
def A16 : AF := ⟨38, [.tmp 6],
  (.seq (.region 0 [o1 3 (bx 0 50 0), o1 6 (.assign (.const (.slice none 0 0)))] 1 none) []
  (.seq (.seq (.region 1 [o1 11 (fa 50 3 2 2), o1 12 (lo 44 11), o1 13 (.len 44 false (tm 12)), o1 14 (.move (ic 0))] 0 none) []
  (.block 0
  (.loop [.slot 6 (.pr .str kV)] (0 :: 3 :: 4 :: 5 :: (rl 7 5 (rl 15 23 [])))
    A16v6))) (8 :: (rl 10 27 []))
  A16v7))⟩
def B130v2 (C : Oracle) (fuel : Nat) {ρ : Type} : St → (Ex → St → Option ρ) → Option ρ := fun st k => evalC C fuel A16v3 st k
def N130v2 : St → Option St := fun s => s.norm (0 :: 3 :: 4 :: 5 :: 7 :: 9 :: 10 :: 11 :: (rl 15 6 (rl 24 14 []))) 3
def s130v0 (x177 : Nat) (x178 : FF) (x179 : Int) (x180 x181 : Nat) (x182 : FF) (x183 x184 : Int) (x185 : Nat) (x186 : FF) (x187 x188 : Int) (x189 : ByteArray) (x190 : Nat) (x191 : FF) (x192 : Nat) (x193 : FF) (x194 : Nat) (x195 : FF) (x196 : Nat) (x197 x198 : FF) (x199 : ByteArray) (x200 x201 : Int) (x202 x203 : ByteArray) (x204 : Int) (x205 : Nat) (x206 : FF) (x207 : Nat) (x208 : FF) (x209 : ByteArray) (x210 x211 x212 x213 x214 x215 x216 x217 x218 : Int) : St := ⟨(.u :: .x (.c (.ro false kV x177 x178)) :: vxi x179 :: (us 3 (.x (.own 1 0 x180) :: .u :: .x (.ptr 2 0) :: (us 3 (.x (.c (.ro false (.pr .str (.pr (.int .i64) (.pr (.int .i64) (.pr .str (.pr .str (.pr (.int .i64) (.pr (.sl kP) (.pr (.sl (.pr (.sl kP) .nil)) (.pr .str (.pr (.int .i64) (.pr (.int .i64) (.pr (.int .i64) (.pr (.int .i64) (.pr (.int .i64) (.pr (.int .i64) kV))))))))))))))) x181 x182)) :: vxi x183 :: vxi x184 :: (us 6 (.x (.c (.ro false (.pr .str kV) x185 x186)) :: vxi x187 :: vxi x188 :: (us 14 [])))))))), [.box [(vcs x189), (.c (.ro false (.pr .str (.pr (.int .i64) (.pr .str .nil))) x190 x191)), (.c (.ro false (.pr .str (.pr (.int .i64) (.pr (.int .i64) (.pr .str (.pr .str (.pr (.int .i64) (.pr (.sl kP) (.pr (.sl (.pr (.sl kP) .nil)) (.pr .str (.pr (.int .i64) (.pr (.int .i64) (.pr (.int .i64) (.pr (.int .i64) (.pr (.int .i64) (.pr (.int .i64) kV))))))))))))))) x181 x182)), (.c (.ro false (.pr .str (.pr .str (.pr .str kV))) x192 x193)), (.c (.ro false (.pr .str (.pr .str (.pr (.sl (.pr .str .nil)) (.pr (.int .i64) (.pr (.sl (.pr .str .nil)) .nil))))) x194 x195)), (.c (.ro false (.pr (.int .i64) (.pr .str (.pr .str .nil))) x196 x197))], .arr (.pr .str kV) x180 x198, .box [(vcs x199), (vci x200), (vci x201), (vcs x202), (vcs x203), (vci x204), (.c (.ro false kP x205 x206)), (.c (.ro false (.pr (.sl kP) .nil) x207 x208)), (vcs x209), (vci x210), (vci x211), (vci x212), (vci x213), (vci x214), (vci x215), (vci x216), (vci x217), (vci x218)]]⟩
def s130v1 (x177 : Nat) (x178 : FF) (x179 : Int) (x220 x181 : Nat) (x182 : FF) (x183 x184 : Int) (x189 : ByteArray) (x190 : Nat) (x191 : FF) (x192 : Nat) (x193 : FF) (x194 : Nat) (x195 : FF) (x196 : Nat) (x197 x221 : FF) (x199 : ByteArray) (x200 x201 : Int) (x202 x203 : ByteArray) (x204 : Int) (x205 : Nat) (x206 : FF) (x207 : Nat) (x208 : FF) (x209 : ByteArray) (x210 x211 x212 x213 x214 x215 x216 x217 x218 : Int) : St := ⟨(.u :: .x (.c (.ro false kV x177 x178)) :: vxi x179 :: (us 3 (.x (.own 1 0 x220) :: (us 5 (.x (.c (.ro false (.pr .str (.pr (.int .i64) (.pr (.int .i64) (.pr .str (.pr .str (.pr (.int .i64) (.pr (.sl kP) (.pr (.sl (.pr (.sl kP) .nil)) (.pr .str (.pr (.int .i64) (.pr (.int .i64) (.pr (.int .i64) (.pr (.int .i64) (.pr (.int .i64) (.pr (.int .i64) kV))))))))))))))) x181 x182)) :: vxi x183 :: vxi x184 :: (us 23 [])))))), [.box [(vcs x189), (.c (.ro false (.pr .str (.pr (.int .i64) (.pr .str .nil))) x190 x191)), (.c (.ro false (.pr .str (.pr (.int .i64) (.pr (.int .i64) (.pr .str (.pr .str (.pr (.int .i64) (.pr (.sl kP) (.pr (.sl (.pr (.sl kP) .nil)) (.pr .str (.pr (.int .i64) (.pr (.int .i64) (.pr (.int .i64) (.pr (.int .i64) (.pr (.int .i64) (.pr (.int .i64) kV))))))))))))))) x181 x182)), (.c (.ro false (.pr .str (.pr .str (.pr .str kV))) x192 x193)), (.c (.ro false (.pr .str (.pr .str (.pr (.sl (.pr .str .nil)) (.pr (.int .i64) (.pr (.sl (.pr .str .nil)) .nil))))) x194 x195)), (.c (.ro false (.pr (.int .i64) (.pr .str (.pr .str .nil))) x196 x197))], .arr (.pr .str kV) x220 x221, .box [(vcs x199), (vci x200), (vci x201), (vcs x202), (vcs x203), (vci x204), (.c (.ro false kP x205 x206)), (.c (.ro false (.pr (.sl kP) .nil) x207 x208)), (vcs x209), (vci x210), (vci x211), (vci x212), (vci x213), (vci x214), (vci x215), (vci x216), (vci x217), (vci x218)]]⟩
def L130v2 {ρ : Type} (fuel : Nat) (x177 : Nat) (x178 : FF) (x179 : Int) (x181 : Nat) (x182 : FF) (x183 x184 : Int) (x185 : Nat) (x186 : FF) (x187 : Int) (x189 : ByteArray) (x190 : Nat) (x191 : FF) (x192 : Nat) (x193 : FF) (x194 : Nat) (x195 : FF) (x196 : Nat) (x197 : FF) (x199 : ByteArray) (x200 x201 : Int) (x202 x203 : ByteArray) (x204 : Int) (x205 : Nat) (x206 : FF) (x207 : Nat) (x208 : FF) (x209 : ByteArray) (x210 x211 x212 x213 x214 x215 x216 x217 x218 : Int) : Nat → Nat → Int → FF → (Nat → FF → Option ρ) → Option ρ
  | 0, _, _, _, _ => none
  | m + 1, x180, x188, x198, k0 =>
    (bif (decide (x188 < x187)) then (bif (inb x188 x185) then (ob (F129 fuel (listF [(.s x199), (.i .i64 x200), (.i .i64 x201), (.s x202), (.s x203), (.i .i64 x204), (.ro false (.pr (.int .i64) (.pr (.int .i64) .nil)) x205 x206), (.ro false (.pr (.sl (.pr (.int .i64) (.pr (.int .i64) .nil))) .nil) x207 x208), (.s x209), (.i .i64 x210), (.i .i64 x211), (.i .i64 x212), (.i .i64 x213), (.i .i64 x214), (.i .i64 x215), (.i .i64 x216), (.i .i64 x217), (.i .i64 x218)]) (CV.str (x186 (Int.toNat x188) 0)) (CV.int (x186 (Int.toNat x188) 1)) (CV.int (x186 (Int.toNat x188) 2)) (CV.int (x186 (Int.toNat x188) 3))) fun x219 => (bif (!x219) then (bif (Nat.ble (x180 + 1) 1073741824) then (L130v2 fuel x177 x178 x179 x181 x182 x183 x184 x185 x186 x187 x189 x190 x191 x192 x193 x194 x195 x196 x197 x199 x200 x201 x202 x203 x204 x205 x206 x207 x208 x209 x210 x211 x212 x213 x214 x215 x216 x217 x218 m (x180 + 1) (w64 (x188 + 1)) (joinF x180 x198 (rowsF 4 [(.s (CV.str (x186 (Int.toNat x188) 0))), (.i .i64 (CV.int (x186 (Int.toNat x188) 1))), (.i .i64 (CV.int (x186 (Int.toNat x188) 2))), (.i .i64 (CV.int (x186 (Int.toNat x188) 3)))])) k0) else none) else (L130v2 fuel x177 x178 x179 x181 x182 x183 x184 x185 x186 x187 x189 x190 x191 x192 x193 x194 x195 x196 x197 x199 x200 x201 x202 x203 x204 x205 x206 x207 x208 x209 x210 x211 x212 x213 x214 x215 x216 x217 x218 m x180 (w64 (x188 + 1)) x198 k0))) else none) else (k0 x180 x198))
theorem nl130v2 {ρ σ : Type} (fuel : Nat) (x177 : Nat) (x178 : FF) (x179 : Int) (x181 : Nat) (x182 : FF) (x183 x184 : Int) (x185 : Nat) (x186 : FF) (x187 : Int) (x189 : ByteArray) (x190 : Nat) (x191 : FF) (x192 : Nat) (x193 : FF) (x194 : Nat) (x195 : FF) (x196 : Nat) (x197 : FF) (x199 : ByteArray) (x200 x201 : Int) (x202 x203 : ByteArray) (x204 : Int) (x205 : Nat) (x206 : FF) (x207 : Nat) (x208 : FF) (x209 : ByteArray) (x210 x211 x212 x213 x214 x215 x216 x217 x218 : Int) (g : ρ → Option σ) : ∀ (m : Nat) (x180 : Nat) (x188 : Int) (x198 : FF) (k0 : Nat → FF → Option ρ), ob (L130v2 fuel x177 x178 x179 x181 x182 x183 x184 x185 x186 x187 x189 x190 x191 x192 x193 x194 x195 x196 x197 x199 x200 x201 x202 x203 x204 x205 x206 x207 x208 x209 x210 x211 x212 x213 x214 x215 x216 x217 x218 m x180 x188 x198 k0) g = L130v2 fuel x177 x178 x179 x181 x182 x183 x184 x185 x186 x187 x189 x190 x191 x192 x193 x194 x195 x196 x197 x199 x200 x201 x202 x203 x204 x205 x206 x207 x208 x209 x210 x211 x212 x213 x214 x215 x216 x217 x218 m x180 x188 x198 (fun x220 x221 => ob (k0 x220 x221) g)
  | 0, _, _, _, _ => rfl
  | m + 1, x180, x188, x198, k0 => by
    simp only [L130v2, ob_bif, ob_ob, ob_none, nl130v2 fuel x177 x178 x179 x181 x182 x183 x184 x185 x186 x187 x189 x190 x191 x192 x193 x194 x195 x196 x197 x199 x200 x201 x202 x203 x204 x205 x206 x207 x208 x209 x210 x211 x212 x213 x214 x215 x216 x217 x218 g m]
theorem r130v2 (fuel : Nat) (m : Nat) {ρ : Type} (k : Ex → St → Option ρ) (x177 : Nat) (x178 : FF) (x179 : Int) (x181 : Nat) (x182 : FF) (x183 x184 : Int) (x185 : Nat) (x186 : FF) (x187 : Int) (x189 : ByteArray) (x190 : Nat) (x191 : FF) (x192 : Nat) (x193 : FF) (x194 : Nat) (x195 : FF) (x196 : Nat) (x197 : FF) (x199 : ByteArray) (x200 x201 : Int) (x202 x203 : ByteArray) (x204 : Int) (x205 : Nat) (x206 : FF) (x207 : Nat) (x208 : FF) (x209 : ByteArray) (x210 x211 x212 x213 x214 x215 x216 x217 x218 : Int) (x180 : Nat) (x188 : Int) (x198 : FF) :
    loopH (B130v2 (C58 fuel) fuel) N130v2 (m + 1) (s130v0 x177 x178 x179 x180 x181 x182 x183 x184 x185 x186 x187 x188 x189 x190 x191 x192 x193 x194 x195 x196 x197 x198 x199 x200 x201 x202 x203 x204 x205 x206 x207 x208 x209 x210 x211 x212 x213 x214 x215 x216 x217 x218) k =
    (bif (decide (x188 < x187)) then (bif (inb x188 x185) then (ob (F129 fuel (listF [(.s x199), (vi x200), (vi x201), (.s x202), (.s x203), (vi x204), (.ro false kP x205 x206), (.ro false (.pr (.sl kP) .nil) x207 x208), (.s x209), (vi x210), (vi x211), (vi x212), (vi x213), (vi x214), (vi x215), (vi x216), (vi x217), (vi x218)]) (CV.str (x186 (Int.toNat x188) 0)) (CV.int (x186 (Int.toNat x188) 1)) (CV.int (x186 (Int.toNat x188) 2)) (CV.int (x186 (Int.toNat x188) 3))) fun x219 => (bif (!x219) then (bif (Nat.ble (x180 + 1) 1073741824) then (loopH (B130v2 (C58 fuel) fuel) N130v2 m (s130v0 x177 x178 x179 (x180 + 1) x181 x182 x183 x184 x185 x186 x187 (w64 (x188 + 1)) x189 x190 x191 x192 x193 x194 x195 x196 x197 (joinF x180 x198 (rowsF 4 [(.s (CV.str (x186 (Int.toNat x188) 0))), (vi (CV.int (x186 (Int.toNat x188) 1))), (vi (CV.int (x186 (Int.toNat x188) 2))), (vi (CV.int (x186 (Int.toNat x188) 3)))])) x199 x200 x201 x202 x203 x204 x205 x206 x207 x208 x209 x210 x211 x212 x213 x214 x215 x216 x217 x218) k) else none) else (loopH (B130v2 (C58 fuel) fuel) N130v2 m (s130v0 x177 x178 x179 x180 x181 x182 x183 x184 x185 x186 x187 (w64 (x188 + 1)) x189 x190 x191 x192 x193 x194 x195 x196 x197 x198 x199 x200 x201 x202 x203 x204 x205 x206 x207 x208 x209 x210 x211 x212 x213 x214 x215 x216 x217 x218) k))) else none) else (k (.exit 2) (s130v1 x177 x178 x179 x180 x181 x182 x183 x184 x189 x190 x191 x192 x193 x194 x195 x196 x197 x198 x199 x200 x201 x202 x203 x204 x205 x206 x207 x208 x209 x210 x211 x212 x213 x214 x215 x216 x217 x218))) := by kernel_rfl
theorem q130v2 (fuel : Nat) (x177 : Nat) (x178 : FF) (x179 : Int) (x181 : Nat) (x182 : FF) (x183 x184 : Int) (x185 : Nat) (x186 : FF) (x187 : Int) (x189 : ByteArray) (x190 : Nat) (x191 : FF) (x192 : Nat) (x193 : FF) (x194 : Nat) (x195 : FF) (x196 : Nat) (x197 : FF) (x199 : ByteArray) (x200 x201 : Int) (x202 x203 : ByteArray) (x204 : Int) (x205 : Nat) (x206 : FF) (x207 : Nat) (x208 : FF) (x209 : ByteArray) (x210 x211 x212 x213 x214 x215 x216 x217 x218 : Int) {ρ : Type} (k : Ex → St → Option ρ) : ∀ (m : Nat) (x180 : Nat) (x188 : Int) (x198 : FF),
    loopH (B130v2 (C58 fuel) fuel) N130v2 m (s130v0 x177 x178 x179 x180 x181 x182 x183 x184 x185 x186 x187 x188 x189 x190 x191 x192 x193 x194 x195 x196 x197 x198 x199 x200 x201 x202 x203 x204 x205 x206 x207 x208 x209 x210 x211 x212 x213 x214 x215 x216 x217 x218) k = L130v2 fuel x177 x178 x179 x181 x182 x183 x184 x185 x186 x187 x189 x190 x191 x192 x193 x194 x195 x196 x197 x199 x200 x201 x202 x203 x204 x205 x206 x207 x208 x209 x210 x211 x212 x213 x214 x215 x216 x217 x218 m x180 x188 x198 (fun x220 x221 => k (.exit 2) (s130v1 x177 x178 x179 x220 x181 x182 x183 x184 x189 x190 x191 x192 x193 x194 x195 x196 x197 x221 x199 x200 x201 x202 x203 x204 x205 x206 x207 x208 x209 x210 x211 x212 x213 x214 x215 x216 x217 x218))
  | 0, _, _, _ => rfl
  | m + 1, x180, x188, x198 => by
    rw [r130v2]
    simp only [L130v2, q130v2 fuel x177 x178 x179 x181 x182 x183 x184 x185 x186 x187 x189 x190 x191 x192 x193 x194 x195 x196 x197 x199 x200 x201 x202 x203 x204 x205 x206 x207 x208 x209 x210 x211 x212 x213 x214 x215 x216 x217 x218 k m]
def B130v3 (C : Oracle) (fuel : Nat) {ρ : Type} : St → (Ex → St → Option ρ) → Option ρ := fun st k => evalC C fuel A16v6 st k
def N130v3 : St → Option St := fun s => s.norm (0 :: 3 :: 4 :: 5 :: (rl 7 5 (rl 15 23 []))) 2
def s130v2 (x116 : Nat) (x117 : FF) (x118 : Int) (x119 x120 : Nat) (x121 : FF) (x122 x123 : Int) (x124 : ByteArray) (x125 : Nat) (x126 : FF) (x127 : Nat) (x128 : FF) (x129 : Nat) (x130 : FF) (x131 : Nat) (x132 x133 : FF) : St := ⟨(.u :: .x (.c (.ro false kV x116 x117)) :: vxi x118 :: (us 3 (.x (.own 1 0 x119) :: (us 5 (.x (.c (.ro false (.pr .str (.pr (.int .i64) (.pr (.int .i64) (.pr .str (.pr .str (.pr (.int .i64) (.pr (.sl kP) (.pr (.sl (.pr (.sl kP) .nil)) (.pr .str (.pr (.int .i64) (.pr (.int .i64) (.pr (.int .i64) (.pr (.int .i64) (.pr (.int .i64) (.pr (.int .i64) kV))))))))))))))) x120 x121)) :: vxi x122 :: vxi x123 :: (us 23 [])))))), [.box [(vcs x124), (.c (.ro false (.pr .str (.pr (.int .i64) (.pr .str .nil))) x125 x126)), (.c (.ro false (.pr .str (.pr (.int .i64) (.pr (.int .i64) (.pr .str (.pr .str (.pr (.int .i64) (.pr (.sl kP) (.pr (.sl (.pr (.sl kP) .nil)) (.pr .str (.pr (.int .i64) (.pr (.int .i64) (.pr (.int .i64) (.pr (.int .i64) (.pr (.int .i64) (.pr (.int .i64) kV))))))))))))))) x120 x121)), (.c (.ro false (.pr .str (.pr .str (.pr .str kV))) x127 x128)), (.c (.ro false (.pr .str (.pr .str (.pr (.sl (.pr .str .nil)) (.pr (.int .i64) (.pr (.sl (.pr .str .nil)) .nil))))) x129 x130)), (.c (.ro false (.pr (.int .i64) (.pr .str (.pr .str .nil))) x131 x132))], .arr (.pr .str kV) x119 x133]⟩
def s130v3 (x224 : Nat) (x124 : ByteArray) (x125 : Nat) (x126 : FF) (x120 : Nat) (x121 : FF) (x127 : Nat) (x128 : FF) (x129 : Nat) (x130 : FF) (x131 : Nat) (x132 x225 : FF) : St := ⟨(us 6 (.x (.own 1 0 x224) :: (us 31 []))), [.box [(vcs x124), (.c (.ro false (.pr .str (.pr (.int .i64) (.pr .str .nil))) x125 x126)), (.c (.ro false (.pr .str (.pr (.int .i64) (.pr (.int .i64) (.pr .str (.pr .str (.pr (.int .i64) (.pr (.sl kP) (.pr (.sl (.pr (.sl kP) .nil)) (.pr .str (.pr (.int .i64) (.pr (.int .i64) (.pr (.int .i64) (.pr (.int .i64) (.pr (.int .i64) (.pr (.int .i64) kV))))))))))))))) x120 x121)), (.c (.ro false (.pr .str (.pr .str (.pr .str kV))) x127 x128)), (.c (.ro false (.pr .str (.pr .str (.pr (.sl (.pr .str .nil)) (.pr (.int .i64) (.pr (.sl (.pr .str .nil)) .nil))))) x129 x130)), (.c (.ro false (.pr (.int .i64) (.pr .str (.pr .str .nil))) x131 x132))], .arr (.pr .str kV) x224 x225]⟩
def L130v3 {ρ : Type} (fuel : Nat) (x116 : Nat) (x117 : FF) (x118 : Int) (x120 : Nat) (x121 : FF) (x122 : Int) (x124 : ByteArray) (x125 : Nat) (x126 : FF) (x127 : Nat) (x128 : FF) (x129 : Nat) (x130 : FF) (x131 : Nat) (x132 : FF) : Nat → Nat → Int → FF → (Nat → FF → Option ρ) → Option ρ
  | 0, _, _, _, _ => none
  | m + 1, x119, x123, x133, k0 =>
    (bif (decide (x123 < x122)) then (bif (inb x123 x120) then (ob (F121 fuel (listF [(.s (CV.str (x121 (Int.toNat x123) 0))), (.i .i64 (CV.int (x121 (Int.toNat x123) 1))), (.i .i64 (CV.int (x121 (Int.toNat x123) 2))), (.s (CV.str (x121 (Int.toNat x123) 3))), (.s (CV.str (x121 (Int.toNat x123) 4))), (.i .i64 (CV.int (x121 (Int.toNat x123) 5))), (.ro false (.pr (.int .i64) (.pr (.int .i64) .nil)) (CV.len (x121 (Int.toNat x123) 6)) (CV.el (x121 (Int.toNat x123) 6))), (.ro false (.pr (.sl (.pr (.int .i64) (.pr (.int .i64) .nil))) .nil) (CV.len (x121 (Int.toNat x123) 7)) (CV.el (x121 (Int.toNat x123) 7))), (.s (CV.str (x121 (Int.toNat x123) 8))), (.i .i64 (CV.int (x121 (Int.toNat x123) 9))), (.i .i64 (CV.int (x121 (Int.toNat x123) 10))), (.i .i64 (CV.int (x121 (Int.toNat x123) 11))), (.i .i64 (CV.int (x121 (Int.toNat x123) 12))), (.i .i64 (CV.int (x121 (Int.toNat x123) 13))), (.i .i64 (CV.int (x121 (Int.toNat x123) 14))), (.i .i64 (CV.int (x121 (Int.toNat x123) 15))), (.i .i64 (CV.int (x121 (Int.toNat x123) 16))), (.i .i64 (CV.int (x121 (Int.toNat x123) 17)))]) x116 x117 x118) fun x134 => (L130v2 fuel x116 x117 x118 x120 x121 x122 x123 x134.1 x134.2 (Int.ofNat x134.1) x124 x125 x126 x127 x128 x129 x130 x131 x132 (CV.str (x121 (Int.toNat x123) 0)) (CV.int (x121 (Int.toNat x123) 1)) (CV.int (x121 (Int.toNat x123) 2)) (CV.str (x121 (Int.toNat x123) 3)) (CV.str (x121 (Int.toNat x123) 4)) (CV.int (x121 (Int.toNat x123) 5)) (CV.len (x121 (Int.toNat x123) 6)) (CV.el (x121 (Int.toNat x123) 6)) (CV.len (x121 (Int.toNat x123) 7)) (CV.el (x121 (Int.toNat x123) 7)) (CV.str (x121 (Int.toNat x123) 8)) (CV.int (x121 (Int.toNat x123) 9)) (CV.int (x121 (Int.toNat x123) 10)) (CV.int (x121 (Int.toNat x123) 11)) (CV.int (x121 (Int.toNat x123) 12)) (CV.int (x121 (Int.toNat x123) 13)) (CV.int (x121 (Int.toNat x123) 14)) (CV.int (x121 (Int.toNat x123) 15)) (CV.int (x121 (Int.toNat x123) 16)) (CV.int (x121 (Int.toNat x123) 17)) fuel x119 0 x133
    (fun x222 x223 => (L130v3 fuel x116 x117 x118 x120 x121 x122 x124 x125 x126 x127 x128 x129 x130 x131 x132 m x222 (w64 (x123 + 1)) x223 k0)))) else none) else (k0 x119 x133))
theorem nl130v3 {ρ σ : Type} (fuel : Nat) (x116 : Nat) (x117 : FF) (x118 : Int) (x120 : Nat) (x121 : FF) (x122 : Int) (x124 : ByteArray) (x125 : Nat) (x126 : FF) (x127 : Nat) (x128 : FF) (x129 : Nat) (x130 : FF) (x131 : Nat) (x132 : FF) (g : ρ → Option σ) : ∀ (m : Nat) (x119 : Nat) (x123 : Int) (x133 : FF) (k0 : Nat → FF → Option ρ), ob (L130v3 fuel x116 x117 x118 x120 x121 x122 x124 x125 x126 x127 x128 x129 x130 x131 x132 m x119 x123 x133 k0) g = L130v3 fuel x116 x117 x118 x120 x121 x122 x124 x125 x126 x127 x128 x129 x130 x131 x132 m x119 x123 x133 (fun x224 x225 => ob (k0 x224 x225) g)
  | 0, _, _, _, _ => rfl
  | m + 1, x119, x123, x133, k0 => by
    simp only [L130v3, ob_bif, ob_ob, ob_none, nl130v3 fuel x116 x117 x118 x120 x121 x122 x124 x125 x126 x127 x128 x129 x130 x131 x132 g m, nl130v2]
def s130v4 (x116 : Nat) (x117 : FF) (x118 : Int) (x119 x120 : Nat) (x121 : FF) (x122 x123 : Int) (x134 : Nat × FF) (x124 : ByteArray) (x125 : Nat) (x126 : FF) (x127 : Nat) (x128 : FF) (x129 : Nat) (x130 : FF) (x131 : Nat) (x132 x133 : FF) : St := ⟨(.u :: .x (.c (.ro false kV x116 x117)) :: vxi x118 :: (us 3 (.x (.own 1 0 x119) :: .u :: .x (.ptr 2 0) :: (us 3 (.x (.c (.ro false (.pr .str (.pr (.int .i64) (.pr (.int .i64) (.pr .str (.pr .str (.pr (.int .i64) (.pr (.sl kP) (.pr (.sl (.pr (.sl kP) .nil)) (.pr .str (.pr (.int .i64) (.pr (.int .i64) (.pr (.int .i64) (.pr (.int .i64) (.pr (.int .i64) (.pr (.int .i64) kV))))))))))))))) x120 x121)) :: vxi x122 :: vxi x123 :: vxb true :: .x (.c (.rp (.pr .str (.pr (.int .i64) (.pr (.int .i64) (.pr .str (.pr .str (.pr (.int .i64) (.pr (.sl kP) (.pr (.sl (.pr (.sl kP) .nil)) (.pr .str (.pr (.int .i64) (.pr (.int .i64) (.pr (.int .i64) (.pr (.int .i64) (.pr (.int .i64) (.pr (.int .i64) kV))))))))))))))) (x121 (Int.toNat x123)))) :: .agg [(vcs (CV.str (x121 (Int.toNat x123) 0))), (vci (CV.int (x121 (Int.toNat x123) 1))), (vci (CV.int (x121 (Int.toNat x123) 2))), (vcs (CV.str (x121 (Int.toNat x123) 3))), (vcs (CV.str (x121 (Int.toNat x123) 4))), (vci (CV.int (x121 (Int.toNat x123) 5))), (.c (.ro false kP (CV.len (x121 (Int.toNat x123) 6)) (CV.el (x121 (Int.toNat x123) 6)))), (.c (.ro false (.pr (.sl kP) .nil) (CV.len (x121 (Int.toNat x123) 7)) (CV.el (x121 (Int.toNat x123) 7)))), (vcs (CV.str (x121 (Int.toNat x123) 8))), (vci (CV.int (x121 (Int.toNat x123) 9))), (vci (CV.int (x121 (Int.toNat x123) 10))), (vci (CV.int (x121 (Int.toNat x123) 11))), (vci (CV.int (x121 (Int.toNat x123) 12))), (vci (CV.int (x121 (Int.toNat x123) 13))), (vci (CV.int (x121 (Int.toNat x123) 14))), (vci (CV.int (x121 (Int.toNat x123) 15))), (vci (CV.int (x121 (Int.toNat x123) 16))), (vci (CV.int (x121 (Int.toNat x123) 17)))] :: .agg [(vcs (CV.str (x121 (Int.toNat x123) 0))), (vci (CV.int (x121 (Int.toNat x123) 1))), (vci (CV.int (x121 (Int.toNat x123) 2))), (vcs (CV.str (x121 (Int.toNat x123) 3))), (vcs (CV.str (x121 (Int.toNat x123) 4))), (vci (CV.int (x121 (Int.toNat x123) 5))), (.c (.ro false kP (CV.len (x121 (Int.toNat x123) 6)) (CV.el (x121 (Int.toNat x123) 6)))), (.c (.ro false (.pr (.sl kP) .nil) (CV.len (x121 (Int.toNat x123) 7)) (CV.el (x121 (Int.toNat x123) 7)))), (vcs (CV.str (x121 (Int.toNat x123) 8))), (vci (CV.int (x121 (Int.toNat x123) 9))), (vci (CV.int (x121 (Int.toNat x123) 10))), (vci (CV.int (x121 (Int.toNat x123) 11))), (vci (CV.int (x121 (Int.toNat x123) 12))), (vci (CV.int (x121 (Int.toNat x123) 13))), (vci (CV.int (x121 (Int.toNat x123) 14))), (vci (CV.int (x121 (Int.toNat x123) 15))), (vci (CV.int (x121 (Int.toNat x123) 16))), (vci (CV.int (x121 (Int.toNat x123) 17)))] :: .x (.c (.ro false kV x116 x117)) :: vxi x118 :: .x (.c (.ro false (.pr .str kV) x134.1 x134.2)) :: vxi (Int.ofNat x134.1) :: vxi 0 :: (us 14 [])))))), [.box [(vcs x124), (.c (.ro false (.pr .str (.pr (.int .i64) (.pr .str .nil))) x125 x126)), (.c (.ro false (.pr .str (.pr (.int .i64) (.pr (.int .i64) (.pr .str (.pr .str (.pr (.int .i64) (.pr (.sl kP) (.pr (.sl (.pr (.sl kP) .nil)) (.pr .str (.pr (.int .i64) (.pr (.int .i64) (.pr (.int .i64) (.pr (.int .i64) (.pr (.int .i64) (.pr (.int .i64) kV))))))))))))))) x120 x121)), (.c (.ro false (.pr .str (.pr .str (.pr .str kV))) x127 x128)), (.c (.ro false (.pr .str (.pr .str (.pr (.sl (.pr .str .nil)) (.pr (.int .i64) (.pr (.sl (.pr .str .nil)) .nil))))) x129 x130)), (.c (.ro false (.pr (.int .i64) (.pr .str (.pr .str .nil))) x131 x132))], .arr (.pr .str kV) x119 x133, .box [(vcs (CV.str (x121 (Int.toNat x123) 0))), (vci (CV.int (x121 (Int.toNat x123) 1))), (vci (CV.int (x121 (Int.toNat x123) 2))), (vcs (CV.str (x121 (Int.toNat x123) 3))), (vcs (CV.str (x121 (Int.toNat x123) 4))), (vci (CV.int (x121 (Int.toNat x123) 5))), (.c (.ro false kP (CV.len (x121 (Int.toNat x123) 6)) (CV.el (x121 (Int.toNat x123) 6)))), (.c (.ro false (.pr (.sl kP) .nil) (CV.len (x121 (Int.toNat x123) 7)) (CV.el (x121 (Int.toNat x123) 7)))), (vcs (CV.str (x121 (Int.toNat x123) 8))), (vci (CV.int (x121 (Int.toNat x123) 9))), (vci (CV.int (x121 (Int.toNat x123) 10))), (vci (CV.int (x121 (Int.toNat x123) 11))), (vci (CV.int (x121 (Int.toNat x123) 12))), (vci (CV.int (x121 (Int.toNat x123) 13))), (vci (CV.int (x121 (Int.toNat x123) 14))), (vci (CV.int (x121 (Int.toNat x123) 15))), (vci (CV.int (x121 (Int.toNat x123) 16))), (vci (CV.int (x121 (Int.toNat x123) 17)))]]⟩
theorem r130v3 (fuel : Nat) (m : Nat) {ρ : Type} (k : Ex → St → Option ρ) (x116 : Nat) (x117 : FF) (x118 : Int) (x120 : Nat) (x121 : FF) (x122 : Int) (x124 : ByteArray) (x125 : Nat) (x126 : FF) (x127 : Nat) (x128 : FF) (x129 : Nat) (x130 : FF) (x131 : Nat) (x132 : FF) (x119 : Nat) (x123 : Int) (x133 : FF) :
    loopH (B130v3 (C58 fuel) fuel) N130v3 (m + 1) (s130v2 x116 x117 x118 x119 x120 x121 x122 x123 x124 x125 x126 x127 x128 x129 x130 x131 x132 x133) k =
    (bif (decide (x123 < x122)) then (bif (inb x123 x120) then (ob (F121 fuel (listF [(.s (CV.str (x121 (Int.toNat x123) 0))), (vi (CV.int (x121 (Int.toNat x123) 1))), (vi (CV.int (x121 (Int.toNat x123) 2))), (.s (CV.str (x121 (Int.toNat x123) 3))), (.s (CV.str (x121 (Int.toNat x123) 4))), (vi (CV.int (x121 (Int.toNat x123) 5))), (.ro false kP (CV.len (x121 (Int.toNat x123) 6)) (CV.el (x121 (Int.toNat x123) 6))), (.ro false (.pr (.sl kP) .nil) (CV.len (x121 (Int.toNat x123) 7)) (CV.el (x121 (Int.toNat x123) 7))), (.s (CV.str (x121 (Int.toNat x123) 8))), (vi (CV.int (x121 (Int.toNat x123) 9))), (vi (CV.int (x121 (Int.toNat x123) 10))), (vi (CV.int (x121 (Int.toNat x123) 11))), (vi (CV.int (x121 (Int.toNat x123) 12))), (vi (CV.int (x121 (Int.toNat x123) 13))), (vi (CV.int (x121 (Int.toNat x123) 14))), (vi (CV.int (x121 (Int.toNat x123) 15))), (vi (CV.int (x121 (Int.toNat x123) 16))), (vi (CV.int (x121 (Int.toNat x123) 17)))]) x116 x117 x118) fun x134 => (loopN (B130v2 (C58 fuel) fuel) N130v2 fuel (s130v4 x116 x117 x118 x119 x120 x121 x122 x123 x134 x124 x125 x126 x127 x128 x129 x130 x131 x132 x133) (kBlk 2 (kBlk 1 (kSeq (C58 fuel) fuel (8 :: 10 :: (rl 16 20 [])) A16v4 (kLoop (B130v3 (C58 fuel) fuel) N130v3 m k)))))) else none) else (k (.exit 0) (s130v3 x119 x124 x125 x126 x120 x121 x127 x128 x129 x130 x131 x132 x133))) := by kernel_rfl
theorem t130v1 (fuel : Nat) {ρ : Type} (k : Ex → St → Option ρ) (x116 : Nat) (x117 : FF) (x118 : Int) (x119 x120 : Nat) (x121 : FF) (x122 x123 : Int) (x134 : Nat × FF) (x124 : ByteArray) (x125 : Nat) (x126 : FF) (x127 : Nat) (x128 : FF) (x129 : Nat) (x130 : FF) (x131 : Nat) (x132 x133 : FF) :
    loopN (B130v2 (C58 fuel) fuel) N130v2 fuel (s130v4 x116 x117 x118 x119 x120 x121 x122 x123 x134 x124 x125 x126 x127 x128 x129 x130 x131 x132 x133) k =
    L130v2 fuel x116 x117 x118 x120 x121 x122 x123 x134.1 x134.2 (Int.ofNat x134.1) x124 x125 x126 x127 x128 x129 x130 x131 x132 (CV.str (x121 (Int.toNat x123) 0)) (CV.int (x121 (Int.toNat x123) 1)) (CV.int (x121 (Int.toNat x123) 2)) (CV.str (x121 (Int.toNat x123) 3)) (CV.str (x121 (Int.toNat x123) 4)) (CV.int (x121 (Int.toNat x123) 5)) (CV.len (x121 (Int.toNat x123) 6)) (CV.el (x121 (Int.toNat x123) 6)) (CV.len (x121 (Int.toNat x123) 7)) (CV.el (x121 (Int.toNat x123) 7)) (CV.str (x121 (Int.toNat x123) 8)) (CV.int (x121 (Int.toNat x123) 9)) (CV.int (x121 (Int.toNat x123) 10)) (CV.int (x121 (Int.toNat x123) 11)) (CV.int (x121 (Int.toNat x123) 12)) (CV.int (x121 (Int.toNat x123) 13)) (CV.int (x121 (Int.toNat x123) 14)) (CV.int (x121 (Int.toNat x123) 15)) (CV.int (x121 (Int.toNat x123) 16)) (CV.int (x121 (Int.toNat x123) 17)) fuel x119 0 x133 (fun x220 x221 => k (.exit 2) (s130v1 x116 x117 x118 x220 x120 x121 x122 x123 x124 x125 x126 x127 x128 x129 x130 x131 x132 x221 (CV.str (x121 (Int.toNat x123) 0)) (CV.int (x121 (Int.toNat x123) 1)) (CV.int (x121 (Int.toNat x123) 2)) (CV.str (x121 (Int.toNat x123) 3)) (CV.str (x121 (Int.toNat x123) 4)) (CV.int (x121 (Int.toNat x123) 5)) (CV.len (x121 (Int.toNat x123) 6)) (CV.el (x121 (Int.toNat x123) 6)) (CV.len (x121 (Int.toNat x123) 7)) (CV.el (x121 (Int.toNat x123) 7)) (CV.str (x121 (Int.toNat x123) 8)) (CV.int (x121 (Int.toNat x123) 9)) (CV.int (x121 (Int.toNat x123) 10)) (CV.int (x121 (Int.toNat x123) 11)) (CV.int (x121 (Int.toNat x123) 12)) (CV.int (x121 (Int.toNat x123) 13)) (CV.int (x121 (Int.toNat x123) 14)) (CV.int (x121 (Int.toNat x123) 15)) (CV.int (x121 (Int.toNat x123) 16)) (CV.int (x121 (Int.toNat x123) 17)))) :=
  (loopN_at (st' := (s130v0 x116 x117 x118 x119 x120 x121 x122 x123 x134.1 x134.2 (Int.ofNat x134.1) 0 x124 x125 x126 x127 x128 x129 x130 x131 x132 x133 (CV.str (x121 (Int.toNat x123) 0)) (CV.int (x121 (Int.toNat x123) 1)) (CV.int (x121 (Int.toNat x123) 2)) (CV.str (x121 (Int.toNat x123) 3)) (CV.str (x121 (Int.toNat x123) 4)) (CV.int (x121 (Int.toNat x123) 5)) (CV.len (x121 (Int.toNat x123) 6)) (CV.el (x121 (Int.toNat x123) 6)) (CV.len (x121 (Int.toNat x123) 7)) (CV.el (x121 (Int.toNat x123) 7)) (CV.str (x121 (Int.toNat x123) 8)) (CV.int (x121 (Int.toNat x123) 9)) (CV.int (x121 (Int.toNat x123) 10)) (CV.int (x121 (Int.toNat x123) 11)) (CV.int (x121 (Int.toNat x123) 12)) (CV.int (x121 (Int.toNat x123) 13)) (CV.int (x121 (Int.toNat x123) 14)) (CV.int (x121 (Int.toNat x123) 15)) (CV.int (x121 (Int.toNat x123) 16)) (CV.int (x121 (Int.toNat x123) 17)))) (by kernel_rfl)).trans (q130v2 fuel x116 x117 x118 x120 x121 x122 x123 x134.1 x134.2 (Int.ofNat x134.1) x124 x125 x126 x127 x128 x129 x130 x131 x132 (CV.str (x121 (Int.toNat x123) 0)) (CV.int (x121 (Int.toNat x123) 1)) (CV.int (x121 (Int.toNat x123) 2)) (CV.str (x121 (Int.toNat x123) 3)) (CV.str (x121 (Int.toNat x123) 4)) (CV.int (x121 (Int.toNat x123) 5)) (CV.len (x121 (Int.toNat x123) 6)) (CV.el (x121 (Int.toNat x123) 6)) (CV.len (x121 (Int.toNat x123) 7)) (CV.el (x121 (Int.toNat x123) 7)) (CV.str (x121 (Int.toNat x123) 8)) (CV.int (x121 (Int.toNat x123) 9)) (CV.int (x121 (Int.toNat x123) 10)) (CV.int (x121 (Int.toNat x123) 11)) (CV.int (x121 (Int.toNat x123) 12)) (CV.int (x121 (Int.toNat x123) 13)) (CV.int (x121 (Int.toNat x123) 14)) (CV.int (x121 (Int.toNat x123) 15)) (CV.int (x121 (Int.toNat x123) 16)) (CV.int (x121 (Int.toNat x123) 17)) k fuel x119 0 x133)
theorem g130v2 (fuel : Nat) (m : Nat) {ρ : Type} (k : Ex → St → Option ρ) (x116 : Nat) (x117 : FF) (x118 : Int) (x222 x120 : Nat) (x121 : FF) (x122 x123 : Int) (x124 : ByteArray) (x125 : Nat) (x126 : FF) (x127 : Nat) (x128 : FF) (x129 : Nat) (x130 : FF) (x131 : Nat) (x132 x223 : FF) :
    (kBlk 2 (kBlk 1 (kSeq (C58 fuel) fuel (8 :: 10 :: (rl 16 20 [])) A16v4 (kLoop (B130v3 (C58 fuel) fuel) N130v3 m k)))) (.exit 2) (s130v1 x116 x117 x118 x222 x120 x121 x122 x123 x124 x125 x126 x127 x128 x129 x130 x131 x132 x223 (CV.str (x121 (Int.toNat x123) 0)) (CV.int (x121 (Int.toNat x123) 1)) (CV.int (x121 (Int.toNat x123) 2)) (CV.str (x121 (Int.toNat x123) 3)) (CV.str (x121 (Int.toNat x123) 4)) (CV.int (x121 (Int.toNat x123) 5)) (CV.len (x121 (Int.toNat x123) 6)) (CV.el (x121 (Int.toNat x123) 6)) (CV.len (x121 (Int.toNat x123) 7)) (CV.el (x121 (Int.toNat x123) 7)) (CV.str (x121 (Int.toNat x123) 8)) (CV.int (x121 (Int.toNat x123) 9)) (CV.int (x121 (Int.toNat x123) 10)) (CV.int (x121 (Int.toNat x123) 11)) (CV.int (x121 (Int.toNat x123) 12)) (CV.int (x121 (Int.toNat x123) 13)) (CV.int (x121 (Int.toNat x123) 14)) (CV.int (x121 (Int.toNat x123) 15)) (CV.int (x121 (Int.toNat x123) 16)) (CV.int (x121 (Int.toNat x123) 17))) =
    (loopH (B130v3 (C58 fuel) fuel) N130v3 m (s130v2 x116 x117 x118 x222 x120 x121 x122 (w64 (x123 + 1)) x124 x125 x126 x127 x128 x129 x130 x131 x132 x223) k) := by kernel_rfl
theorem q130v3 (fuel : Nat) (x116 : Nat) (x117 : FF) (x118 : Int) (x120 : Nat) (x121 : FF) (x122 : Int) (x124 : ByteArray) (x125 : Nat) (x126 : FF) (x127 : Nat) (x128 : FF) (x129 : Nat) (x130 : FF) (x131 : Nat) (x132 : FF) {ρ : Type} (k : Ex → St → Option ρ) : ∀ (m : Nat) (x119 : Nat) (x123 : Int) (x133 : FF),
    loopH (B130v3 (C58 fuel) fuel) N130v3 m (s130v2 x116 x117 x118 x119 x120 x121 x122 x123 x124 x125 x126 x127 x128 x129 x130 x131 x132 x133) k = L130v3 fuel x116 x117 x118 x120 x121 x122 x124 x125 x126 x127 x128 x129 x130 x131 x132 m x119 x123 x133 (fun x224 x225 => k (.exit 0) (s130v3 x224 x124 x125 x126 x120 x121 x127 x128 x129 x130 x131 x132 x225))
  | 0, _, _, _ => rfl
  | m + 1, x119, x123, x133 => by
    rw [r130v3]
    simp only [L130v3, q130v3 fuel x116 x117 x118 x120 x121 x122 x124 x125 x126 x127 x128 x129 x130 x131 x132 k m, t130v1, g130v2]
def D130 {ρ : Type} (fuel : Nat) (x1 : ByteArray) (x2 : Nat) (x3 : FF) (x4 : Nat) (x5 : FF) (x6 : Nat) (x7 : FF) (x8 : Nat) (x9 : FF) (x10 : Nat) (x11 : FF) (x12 : Nat) (x13 : FF) (x14 : Int) (k : (Nat × FF) → Option ρ) : Option ρ :=
  (L130v3 fuel x12 x13 x14 x4 x5 (Int.ofNat x4) x1 x2 x3 x6 x7 x8 x9 x10 x11 fuel 0 0 (fun _ _ => .any)
    (fun x226 x227 => (k (x226, x227))))
def F130 (fuel : Nat) (x1 : ByteArray) (x2 : Nat) (x3 : FF) (x4 : Nat) (x5 : FF) (x6 : Nat) (x7 : FF) (x8 : Nat) (x9 : FF) (x10 : Nat) (x11 : FF) (x12 : Nat) (x13 : FF) (x14 : Int) : Option (Nat × FF) := D130 fuel x1 x2 x3 x4 x5 x6 x7 x8 x9 x10 x11 x12 x13 x14 some
theorem f130 {ρ : Type} (fuel : Nat) (x1 : ByteArray) (x2 : Nat) (x3 : FF) (x4 : Nat) (x5 : FF) (x6 : Nat) (x7 : FF) (x8 : Nat) (x9 : FF) (x10 : Nat) (x11 : FF) (x12 : Nat) (x13 : FF) (x14 : Int) (k : (Nat × FF) → Option ρ) : D130 fuel x1 x2 x3 x4 x5 x6 x7 x8 x9 x10 x11 x12 x13 x14 k = ob (F130 fuel x1 x2 x3 x4 x5 x6 x7 x8 x9 x10 x11 x12 x13 x14) k := by
  simp only [F130, D130, ob_bif, ob_ob, ob_none, ob_some, nl130v3]
def s130v5 (x1 : ByteArray) (x2 : Nat) (x3 : FF) (x4 : Nat) (x5 : FF) (x6 : Nat) (x7 : FF) (x8 : Nat) (x9 : FF) (x10 : Nat) (x11 : FF) (x12 : Nat) (x13 : FF) (x14 : Int) : St := ⟨[.agg [(vcs x1), (.c (.ro false (.pr .str (.pr (.int .i64) (.pr .str .nil))) x2 x3)), (.c (.ro false (.pr .str (.pr (.int .i64) (.pr (.int .i64) (.pr .str (.pr .str (.pr (.int .i64) (.pr (.sl kP) (.pr (.sl (.pr (.sl kP) .nil)) (.pr .str (.pr (.int .i64) (.pr (.int .i64) (.pr (.int .i64) (.pr (.int .i64) (.pr (.int .i64) (.pr (.int .i64) kV))))))))))))))) x4 x5)), (.c (.ro false (.pr .str (.pr .str (.pr .str kV))) x6 x7)), (.c (.ro false (.pr .str (.pr .str (.pr (.sl (.pr .str .nil)) (.pr (.int .i64) (.pr (.sl (.pr .str .nil)) .nil))))) x8 x9)), (.c (.ro false (.pr (.int .i64) (.pr .str (.pr .str .nil))) x10 x11))], .x (.c (.ro false kV x12 x13)), vxi x14, .x (.ptr 0 0), .undef, .undef, .x (.own 1 0 0), .undef, .undef, .undef, .undef, .x (.ptr 0 2), .x (.c (.ro false (.pr .str (.pr (.int .i64) (.pr (.int .i64) (.pr .str (.pr .str (.pr (.int .i64) (.pr (.sl kP) (.pr (.sl (.pr (.sl kP) .nil)) (.pr .str (.pr (.int .i64) (.pr (.int .i64) (.pr (.int .i64) (.pr (.int .i64) (.pr (.int .i64) (.pr (.int .i64) kV))))))))))))))) x4 x5)), vxi (Int.ofNat x4), vxi 0, .undef, .undef, .undef, .undef, .undef, .undef, .undef, .undef, .undef, .undef, .undef, .undef, .undef, .undef, .undef, .undef, .undef, .undef, .undef, .undef, .undef, .undef, .undef], [.box [(vcs x1), (.c (.ro false (.pr .str (.pr (.int .i64) (.pr .str .nil))) x2 x3)), (.c (.ro false (.pr .str (.pr (.int .i64) (.pr (.int .i64) (.pr .str (.pr .str (.pr (.int .i64) (.pr (.sl kP) (.pr (.sl (.pr (.sl kP) .nil)) (.pr .str (.pr (.int .i64) (.pr (.int .i64) (.pr (.int .i64) (.pr (.int .i64) (.pr (.int .i64) (.pr (.int .i64) kV))))))))))))))) x4 x5)), (.c (.ro false (.pr .str (.pr .str (.pr .str kV))) x6 x7)), (.c (.ro false (.pr .str (.pr .str (.pr (.sl (.pr .str .nil)) (.pr (.int .i64) (.pr (.sl (.pr .str .nil)) .nil))))) x8 x9)), (.c (.ro false (.pr (.int .i64) (.pr .str (.pr .str .nil))) x10 x11))], .arr (.pr .str kV) 0 nilF]⟩
theorem walk130 (fuel : Nat) (x1 : ByteArray) (x2 : Nat) (x3 : FF) (x4 : Nat) (x5 : FF) (x6 : Nat) (x7 : FF) (x8 : Nat) (x9 : FF) (x10 : Nat) (x11 : FF) (x12 : Nat) (x13 : FF) (x14 : Int) :
    evalF (C58 fuel) fuel A16 [.agg [(.s x1), (.ro false (.pr .str (.pr (.int .i64) (.pr .str .nil))) x2 x3), (.ro false (.pr .str (.pr (.int .i64) (.pr (.int .i64) (.pr .str (.pr .str (.pr (.int .i64) (.pr (.sl kP) (.pr (.sl (.pr (.sl kP) .nil)) (.pr .str (.pr (.int .i64) (.pr (.int .i64) (.pr (.int .i64) (.pr (.int .i64) (.pr (.int .i64) (.pr (.int .i64) kV))))))))))))))) x4 x5), (.ro false (.pr .str (.pr .str (.pr .str kV))) x6 x7), (.ro false (.pr .str (.pr .str (.pr (.sl (.pr .str .nil)) (.pr (.int .i64) (.pr (.sl (.pr .str .nil)) .nil))))) x8 x9), (.ro false (.pr (.int .i64) (.pr .str (.pr .str .nil))) x10 x11)], .v (.ro false kV x12 x13), .v (vi x14)] =
    (loopN (B130v3 (C58 fuel) fuel) N130v3 fuel (s130v5 x1 x2 x3 x4 x5 x6 x7 x8 x9 x10 x11 x12 x13 x14) (kBlk 0 (kSeq (C58 fuel) fuel (8 :: (rl 10 27 [])) A16v7 (finish A16)))) := by kernel_rfl
theorem t130v3 (fuel : Nat) {ρ : Type} (k : Ex → St → Option ρ) (x1 : ByteArray) (x2 : Nat) (x3 : FF) (x4 : Nat) (x5 : FF) (x6 : Nat) (x7 : FF) (x8 : Nat) (x9 : FF) (x10 : Nat) (x11 : FF) (x12 : Nat) (x13 : FF) (x14 : Int) :
    loopN (B130v3 (C58 fuel) fuel) N130v3 fuel (s130v5 x1 x2 x3 x4 x5 x6 x7 x8 x9 x10 x11 x12 x13 x14) k =
    L130v3 fuel x12 x13 x14 x4 x5 (Int.ofNat x4) x1 x2 x3 x6 x7 x8 x9 x10 x11 fuel 0 0 nilF (fun x224 x225 => k (.exit 0) (s130v3 x224 x1 x2 x3 x4 x5 x6 x7 x8 x9 x10 x11 x225)) :=
  (loopN_at (st' := (s130v2 x12 x13 x14 0 x4 x5 (Int.ofNat x4) 0 x1 x2 x3 x6 x7 x8 x9 x10 x11 nilF)) (by kernel_rfl)).trans (q130v3 fuel x12 x13 x14 x4 x5 (Int.ofNat x4) x1 x2 x3 x6 x7 x8 x9 x10 x11 k fuel 0 0 nilF)
theorem g130v4 (fuel : Nat) (x226 : Nat) (x1 : ByteArray) (x2 : Nat) (x3 : FF) (x4 : Nat) (x5 : FF) (x6 : Nat) (x7 : FF) (x8 : Nat) (x9 : FF) (x10 : Nat) (x11 x227 : FF) :
    (kBlk 0 (kSeq (C58 fuel) fuel (8 :: (rl 10 27 [])) A16v7 (finish A16))) (.exit 0) (s130v3 x226 x1 x2 x3 x4 x5 x6 x7 x8 x9 x10 x11 x227) =
    (some [.v (.ro false (.pr .str kV) x226 x227)]) := by kernel_rfl
theorem e130 (fuel : Nat) (x1 : ByteArray) (x2 : Nat) (x3 : FF) (x4 : Nat) (x5 : FF) (x6 : Nat) (x7 : FF) (x8 : Nat) (x9 : FF) (x10 : Nat) (x11 : FF) (x12 : Nat) (x13 : FF) (x14 : Int) : evalF (C58 fuel) fuel A16 [.agg [(.s x1), (.ro false (.pr .str (.pr (.int .i64) (.pr .str .nil))) x2 x3), (.ro false (.pr .str (.pr (.int .i64) (.pr (.int .i64) (.pr .str (.pr .str (.pr (.int .i64) (.pr (.sl kP) (.pr (.sl (.pr (.sl kP) .nil)) (.pr .str (.pr (.int .i64) (.pr (.int .i64) (.pr (.int .i64) (.pr (.int .i64) (.pr (.int .i64) (.pr (.int .i64) kV))))))))))))))) x4 x5), (.ro false (.pr .str (.pr .str (.pr .str kV))) x6 x7), (.ro false (.pr .str (.pr .str (.pr (.sl (.pr .str .nil)) (.pr (.int .i64) (.pr (.sl (.pr .str .nil)) .nil))))) x8 x9), (.ro false (.pr (.int .i64) (.pr .str (.pr .str .nil))) x10 x11)], .v (.ro false kV x12 x13), .v (vi x14)] = ob (F130 fuel x1 x2 x3 x4 x5 x6 x7 x8 x9 x10 x11 x12 x13 x14) fun t => some [.v (.ro false (.pr .str kV) t.1 t.2)] := by
  rw [walk130, ← f130]
  simp only [D130, t130v3, g130v4]
def O130 (fuel : Nat) : Ora where
  o := fun args {ρ} K =>
    wc args fun a1 l2 =>
    wagg a1 fun l3 =>
    wdS l3 fun y7 l5 =>
    wdL (.pr .str (.pr (.int .i64) (.pr .str .nil))) l5 fun y11 y12 l9 =>
    wdL (.pr .str (.pr (.int .i64) (.pr (.int .i64) (.pr .str (.pr .str (.pr (.int .i64) (.pr (.sl kP) (.pr (.sl (.pr (.sl kP) .nil)) (.pr .str (.pr (.int .i64) (.pr (.int .i64) (.pr (.int .i64) (.pr (.int .i64) (.pr (.int .i64) (.pr (.int .i64) kV))))))))))))))) l9 fun y16 y17 l14 =>
    wdL (.pr .str (.pr .str (.pr .str kV))) l14 fun y21 y22 l19 =>
    wdL (.pr .str (.pr .str (.pr (.sl (.pr .str .nil)) (.pr (.int .i64) (.pr (.sl (.pr .str .nil)) .nil))))) l19 fun y26 y27 l24 =>
    wdL (.pr (.int .i64) (.pr .str (.pr .str .nil))) l24 fun y31 y32 l29 =>
    wn l29 <|
    wcL kV l2 fun y36 y37 l34 =>
    wcI .i64 l34 fun y41 l39 =>
    wn l39 <|
    (ob (F130 fuel y7 y11 y12 y16 y17 y21 y22 y26 y27 y31 y32 y36 y37 y41) fun t => K [.v (.ro false (.pr .str kV) t.1 t.2)])
  nat := fun args {ρ} K => by
    simp only [bind_wagg, bind_wc, bind_wcI, bind_wcL, bind_wdL, bind_wdS, bind_wn, bind_ob, Option.bind_some]
theorem d130 {P : Program} (fuel : Nat) (hmix : P.follows .mixedOrders = true) (hC : Sound P (C58 fuel)) (hF : FFits P 16 A16) (args res : List A) (h : (O130 fuel).o args some = some res) : Den P 16 args res := by
  obtain ⟨a1, l2, rfl, z0⟩ := inv_wc h
  obtain ⟨l3, rfl, z1⟩ := inv_wagg z0
  obtain ⟨a4, y7, l5, rfl, h6, z2⟩ := inv_wdS z1
  obtain ⟨a8, y11, y12, l9, rfl, h10, z3⟩ := inv_wdL z2
  obtain ⟨a13, y16, y17, l14, rfl, h15, z4⟩ := inv_wdL z3
  obtain ⟨a18, y21, y22, l19, rfl, h20, z5⟩ := inv_wdL z4
  obtain ⟨a23, y26, y27, l24, rfl, h25, z6⟩ := inv_wdL z5
  obtain ⟨a28, y31, y32, l29, rfl, h30, z7⟩ := inv_wdL z6
  obtain ⟨hn, z8⟩ := inv_wn z7
  cases hn
  obtain ⟨a33, y36, y37, l34, rfl, h35, z9⟩ := inv_wcL z8
  obtain ⟨a38, y41, l39, rfl, h40, z10⟩ := inv_wcI z9
  obtain ⟨hn, z11⟩ := inv_wn z10
  cases hn
  exact Den.weaken (.cons (WkA.agg (.cons h6 (.cons h10 (.cons h15 (.cons h20 (.cons h25 (.cons h30 .nil))))))) (.cons h35 (.cons h40 .nil))) (evalF_sound hmix hC hF ((e130 fuel y7 y11 y12 y16 y17 y21 y22 y26 y27 y31 y32 y36 y37 y41).trans z11))
def C59 (fuel : Nat) : Oracle := (C58 fuel).add 16 (fun _ => true) (O130 fuel)
def A11v1 : AC := (.region 5 [mv 15 5, o1 16 (bk .add 3 15 1), o1 5 (sg 16)] 0 none)
def A11v2 : AC := (.seq (.block 1
  (.seq (.region 6 [mv 17 0, mv 18 5, o1 19 (.indexAddr 36 42 4 (tm 17) (tm 18)), o1 20 (ln 42 4 19), mv 21 1, mv 22 5, o1 23 (.indexAddr 36 42 4 (tm 21) (tm 22)), o1 24 (ln 42 4 23), o1 25 (.eqA true (.pr .str kV) 42 (tm 20) (tm 24) 42)] 0 (some [[], [], [0, 1], [0, 1, 2], [], [], [4, 5], [4, 5, 6], (rl 0 8 [])])) []
    (.cond (tm 25)
    (.seq (.region 7 [o1 4 (sb false)] 0 none) []
      (.ret (rl 0 4 (rl 5 21 []))))
    .skip))) (4 :: (rl 17 9 []))
  A11v1)
def A11v3 : AC := (.seq (.seq (.region 4 [mv 11 5, mv 12 0, o1 13 (.len 36 false (tm 12)), o1 14 (bt .lss 3 11 13)] 0 none) []
  (.cond (tm 14)
  .skip
  (.exit 0 (rl 0 26 [])))) (rl 11 4 [])
  A11v2)
def A11v4 : AC := (.seq (.region 8 [o1 4 (sb true)] 0 none) []
  (.ret (rl 0 4 (rl 5 21 []))))
def A11v5 : AC := (.seq (.seq (.region 3 [o1 5 (sk 0)] 0 none) []
  (.block 0
  (.loop [] (2 :: 3 :: 4 :: (rl 6 20 []))
    A11v3))) (4 :: 5 :: (rl 11 15 []))
  A11v4)
def A11 : AF := ⟨26, [.tmp 4],
  (.seq (.region 0 [o1 4 (sb false)] 0 none) []
  (.seq (.seq (.region 1 [mv 6 0, o1 7 (.len 36 false (tm 6)), mv 8 1, o1 9 (.len 36 false (tm 8)), o1 10 (bt .neq 3 7 9)] 0 none) []
  (.cond (tm 10)
  (.seq (.region 2 [o1 4 (sb false)] 0 none) []
    (.ret (rl 0 4 (rl 5 21 []))))
  .skip)) (4 :: (rl 6 5 []))
  A11v5))⟩
def B131v1 (C : Oracle) (fuel : Nat) {ρ : Type} : St → (Ex → St → Option ρ) → Option ρ := fun st k => evalC C fuel A11v3 st k
def N131v1 : St → Option St := fun s => s.norm (2 :: 3 :: 4 :: (rl 6 20 [])) 0
def s131v0 (x9 : Nat) (x10 : FF) (x11 : Nat) (x12 : FF) (x13 : Int) : St := ⟨(.x (.c (.ro false (.pr .str kV) x9 x10)) :: .x (.c (.ro false (.pr .str kV) x11 x12)) :: (us 3 (vxi x13 :: (us 20 [])))), []⟩
def s131v1 : St := ⟨(us 4 (vxb false :: (us 21 []))), []⟩
def s131v2 : St := ⟨(us 26 []), []⟩
def L131v1 {ρ : Type} (fuel : Nat) (x9 : Nat) (x10 : FF) (x11 : Nat) (x12 : FF) : Nat → Int → (Option ρ) → (Option ρ) → Option ρ
  | 0, _, _, _ => none
  | m + 1, x13, k0, k1 =>
    (bif (decide (x13 < (Int.ofNat x9))) then (bif (inb x13 x9) then (bif (inb x13 x11) then (bif (!((ByteArray.toList (CV.str (x10 (Int.toNat x13) 0)) == ByteArray.toList (CV.str (x12 (Int.toNat x13) 0))) && (((CV.int (x10 (Int.toNat x13) 1)) == (CV.int (x12 (Int.toNat x13) 1))) && (((CV.int (x10 (Int.toNat x13) 2)) == (CV.int (x12 (Int.toNat x13) 2))) && (((CV.int (x10 (Int.toNat x13) 3)) == (CV.int (x12 (Int.toNat x13) 3))) && true))))) then k0 else (L131v1 fuel x9 x10 x11 x12 m (w64 (x13 + 1)) k0 k1)) else none) else none) else k1)
theorem nl131v1 {ρ σ : Type} (fuel : Nat) (x9 : Nat) (x10 : FF) (x11 : Nat) (x12 : FF) (g : ρ → Option σ) : ∀ (m : Nat) (x13 : Int) (k0 : Option ρ) (k1 : Option ρ), ob (L131v1 fuel x9 x10 x11 x12 m x13 k0 k1) g = L131v1 fuel x9 x10 x11 x12 m x13 (ob k0 g) (ob k1 g)
  | 0, _, _, _ => rfl
  | m + 1, x13, k0, k1 => by
    simp only [L131v1, ob_bif, ob_ob, ob_none, nl131v1 fuel x9 x10 x11 x12 g m]
theorem r131v1 (fuel : Nat) (m : Nat) {ρ : Type} (k : Ex → St → Option ρ) (x9 : Nat) (x10 : FF) (x11 : Nat) (x12 : FF) (x13 : Int) :
    loopH (B131v1 (C59 fuel) fuel) N131v1 (m + 1) (s131v0 x9 x10 x11 x12 x13) k =
    (bif (decide (x13 < (Int.ofNat x9))) then (bif (inb x13 x9) then (bif (inb x13 x11) then (bif (!((ByteArray.toList (CV.str (x10 (Int.toNat x13) 0)) == ByteArray.toList (CV.str (x12 (Int.toNat x13) 0))) && (((CV.int (x10 (Int.toNat x13) 1)) == (CV.int (x12 (Int.toNat x13) 1))) && (((CV.int (x10 (Int.toNat x13) 2)) == (CV.int (x12 (Int.toNat x13) 2))) && (((CV.int (x10 (Int.toNat x13) 3)) == (CV.int (x12 (Int.toNat x13) 3))) && true))))) then (k .ret s131v1) else (loopH (B131v1 (C59 fuel) fuel) N131v1 m (s131v0 x9 x10 x11 x12 (w64 (x13 + 1))) k)) else none) else none) else (k (.exit 0) s131v2)) := by kernel_rfl
theorem q131v1 (fuel : Nat) (x9 : Nat) (x10 : FF) (x11 : Nat) (x12 : FF) {ρ : Type} (k : Ex → St → Option ρ) : ∀ (m : Nat) (x13 : Int),
    loopH (B131v1 (C59 fuel) fuel) N131v1 m (s131v0 x9 x10 x11 x12 x13) k = L131v1 fuel x9 x10 x11 x12 m x13 (k .ret s131v1) (k (.exit 0) s131v2)
  | 0, _ => rfl
  | m + 1, x13 => by
    rw [r131v1]
    simp only [L131v1, q131v1 fuel x9 x10 x11 x12 k m]
def D131 {ρ : Type} (fuel : Nat) (x1 : Nat) (x2 : FF) (x3 : Nat) (x4 : FF) (k : Bool → Option ρ) : Option ρ :=
  (bif ((Int.ofNat x1) != (Int.ofNat x3)) then (k false) else (L131v1 fuel x1 x2 x3 x4 fuel 0
    (k false)
    (k true)))
def F131 (fuel : Nat) (x1 : Nat) (x2 : FF) (x3 : Nat) (x4 : FF) : Option (Bool) := D131 fuel x1 x2 x3 x4 some
theorem f131 {ρ : Type} (fuel : Nat) (x1 : Nat) (x2 : FF) (x3 : Nat) (x4 : FF) (k : (Bool) → Option ρ) : D131 fuel x1 x2 x3 x4 k = ob (F131 fuel x1 x2 x3 x4) k := by
  simp only [F131, D131, ob_bif, ob_ob, ob_none, ob_some, nl131v1]
def s131v3 (x1 : Nat) (x2 : FF) (x3 : Nat) (x4 : FF) : St := ⟨(.x (.c (.ro false (.pr .str kV) x1 x2)) :: .x (.c (.ro false (.pr .str kV) x3 x4)) :: .undef :: .undef :: .u :: vxi 0 :: (us 5 [.undef, .undef, .undef, .undef, .undef, .undef, .undef, .undef, .undef, .undef, .undef, .undef, .undef, .undef, .undef])), []⟩
theorem walk131 (fuel : Nat) (x1 : Nat) (x2 : FF) (x3 : Nat) (x4 : FF) :
    evalF (C59 fuel) fuel A11 [.v (.ro false (.pr .str kV) x1 x2), .v (.ro false (.pr .str kV) x3 x4)] =
    (bif ((Int.ofNat x1) != (Int.ofNat x3)) then (some [.v (.b false)]) else (loopN (B131v1 (C59 fuel) fuel) N131v1 fuel (s131v3 x1 x2 x3 x4) (kBlk 0 (kSeq (C59 fuel) fuel (4 :: 5 :: (rl 11 15 [])) A11v4 (finish A11))))) := by kernel_rfl
theorem t131v1 (fuel : Nat) {ρ : Type} (k : Ex → St → Option ρ) (x1 : Nat) (x2 : FF) (x3 : Nat) (x4 : FF) :
    loopN (B131v1 (C59 fuel) fuel) N131v1 fuel (s131v3 x1 x2 x3 x4) k =
    L131v1 fuel x1 x2 x3 x4 fuel 0 (k .ret s131v1) (k (.exit 0) s131v2) :=
  (loopN_at (st' := (s131v0 x1 x2 x3 x4 0)) (by kernel_rfl)).trans (q131v1 fuel x1 x2 x3 x4 k fuel 0)
theorem g131v2 (fuel : Nat) :
    (kBlk 0 (kSeq (C59 fuel) fuel (4 :: 5 :: (rl 11 15 [])) A11v4 (finish A11))) .ret s131v1 =
    (some [.v (.b false)]) := by kernel_rfl
theorem g131v3 (fuel : Nat) :
    (kBlk 0 (kSeq (C59 fuel) fuel (4 :: 5 :: (rl 11 15 [])) A11v4 (finish A11))) (.exit 0) s131v2 =
    (some [.v (.b true)]) := by kernel_rfl
theorem e131 (fuel : Nat) (x1 : Nat) (x2 : FF) (x3 : Nat) (x4 : FF) : evalF (C59 fuel) fuel A11 [.v (.ro false (.pr .str kV) x1 x2), .v (.ro false (.pr .str kV) x3 x4)] = ob (F131 fuel x1 x2 x3 x4) fun t => some [.v (.b t)] := by
  rw [walk131, ← f131]
  simp only [D131, t131v1, g131v2, g131v3]
def O131 (fuel : Nat) : Ora where
  o := fun args {ρ} K =>
    wcL (.pr .str kV) args fun y4 y5 l2 =>
    wcL (.pr .str kV) l2 fun y9 y10 l7 =>
    wn l7 <|
    (ob (F131 fuel y4 y5 y9 y10) fun t => K [.v (.b t)])
  nat := fun args {ρ} K => by
    simp only [bind_wcL, bind_wn, bind_ob, Option.bind_some]
theorem d131 {P : Program} (fuel : Nat) (hmix : P.follows .mixedOrders = true) (hC : Sound P (C59 fuel)) (hF : FFits P 11 A11) (args res : List A) (h : (O131 fuel).o args some = some res) : Den P 11 args res := by
  obtain ⟨a1, y4, y5, l2, rfl, h3, z0⟩ := inv_wcL h
  obtain ⟨a6, y9, y10, l7, rfl, h8, z1⟩ := inv_wcL z0
  obtain ⟨hn, z2⟩ := inv_wn z1
  cases hn
  exact Den.weaken (.cons h3 (.cons h8 .nil)) (evalF_sound hmix hC hF ((e131 fuel y4 y5 y9 y10).trans z2))
def C60 (fuel : Nat) : Oracle := (C59 fuel).add 11 (fun _ => true) (O131 fuel)
def A10 : AF := ⟨75, [.tmp 0],
  (.seq (.region 0 [o1 0 (sb false)] 0 none) []
  (.seq (.region 1 [o1 10 (cf 20 [] []), o1 1 (.alloc 0 31 [vcs ByteArray.empty, vci 0, vci 0, vcs ByteArray.empty, vcs ByteArray.empty, vci 0, vcn, vcn, vcs ByteArray.empty, vci 0, vci 0, vci 0, vci 0, vci 0, vci 0, vci 0, vci 0, vci 0]), o0 (.store 31 18 (tm 1) (tm 10))] 1 none) []
  (.seq (.region 2 [o1 11 (.build 27 [vci 0, vci 0, vci 0] [(0, 1), (1, 1), (2, 1)] 0 [(0, (ic 300)), (1, (ic 200))]), o1 12 (.build 27 [vci 0, vci 0, vci 0] [(0, 1), (1, 1), (2, 1)] 0 [(0, (ic 300)), (1, (ic 200)), (2, (ic 5000))]), o1 13 (.buildSlice 0 32 27 kV 2 [vci 0, vci 0, vci 0] [(0, (tm 11)), (1, (tm 12))]), o1 2 (sg 13)] 1 none) []
  (.seq (.region 3 [o1 14 (.build 40 [vci 0, vci 0] [(0, 1), (1, 1)] 0 [(0, (ic 300)), (1, (ic 200))]), o1 15 (.build 42 [vcs ByteArray.empty, vci 0, vci 0, vci 0] [(0, 1), (1, 2), (3, 1)] 0 [(0, (.const (.string (ByteArray.mk #[80, 49])))), (1, (tm 14)), (2, (ic 80))]), o1 3 (.alloc 0 42 [vcs ByteArray.empty, vci 0, vci 0, vci 0]), o0 (.store 42 4 (tm 3) (tm 15))] 1 none) []
  (.seq (.region 4 [o1 16 (ln 31 18 1), o1 17 (.buildSlice 0 44 31 (.pr .str (.pr (.int .i64) (.pr (.int .i64) (.pr .str (.pr .str (.pr (.int .i64) (.pr (.sl kP) (.pr (.sl (.pr (.sl kP) .nil)) (.pr .str (.pr (.int .i64) (.pr (.int .i64) (.pr (.int .i64) (.pr (.int .i64) (.pr (.int .i64) (.pr (.int .i64) kV))))))))))))))) 1 [vcs ByteArray.empty, vci 0, vci 0, vcs ByteArray.empty, vcs ByteArray.empty, vci 0, vcn, vcn, vcs ByteArray.empty, vci 0, vci 0, vci 0, vci 0, vci 0, vci 0, vci 0, vci 0, vci 0] [(0, (tm 16))]), o1 18 (.build 50 [vcs ByteArray.empty, vcn, vcn, vcn, vcn, vcn] [(0, 1), (1, 1), (2, 1), (3, 1), (4, 1), (5, 1)] 0 [(2, (tm 17))]), o1 4 (.alloc 1 50 [vcs ByteArray.empty, vcn, vcn, vcn, vcn, vcn]), o0 (.store 50 6 (tm 4) (tm 18))] 2 none) []
  (.seq (.ghost [1, 3] (.region 5 [o1 19 (ln 31 18 1), mv 20 2, o1 21 (.call 12 [(tm 19), (tm 20), (ic 80)] [31, 32, 3] .freeze), o1 22 (ln 50 6 4), mv 23 2, o1 24 (.call 21 [(tm 22), (tm 23), (ic 80)] [50, 32, 3] .freeze), o1 25 (ln 50 6 4), mv 26 2, o1 27 (.call 16 [(tm 25), (tm 26), (ic 80)] [50, 32, 3] .freeze), o1 5 (sg 21), o1 6 (sg 24), o1 7 (sg 27)] 0 (some [[], [], [0, 1], [], [], (rl 0 5 []), [], [], (rl 0 8 []), (rl 0 9 []), (rl 0 10 []), (rl 0 11 [])]))) []
  (.seq (.region 6 [o1 28 (.build 40 [vci 0, vci 0] [(0, 1), (1, 1)] 0 [(0, (ic 250)), (1, (ic 150))]), o1 29 (.build 40 [vci 0, vci 0] [(0, 1), (1, 1)] 0 [(0, (ic 250)), (1, (ic 250))]), o1 30 (.build 40 [vci 0, vci 0] [(0, 1), (1, 1)] 0 [(0, (ic 350)), (1, (ic 250))]), o1 31 (.build 40 [vci 0, vci 0] [(0, 1), (1, 1)] 0 [(0, (ic 350)), (1, (ic 150))]), o1 32 (.buildSlice 0 22 40 kP 4 [vci 0, vci 0] [(0, (tm 28)), (1, (tm 29)), (2, (tm 30)), (3, (tm 31))]), o1 33 (.buildSlice 1 23 22 (.pr (.sl kP) .nil) 1 [vcn] [(0, (tm 32))]), o1 34 (fa 31 1 6 6), o1 35 (fa 25 34 1 1), o0 (.store 23 1 (tm 35) (tm 33))] 2 none) []
  (.seq (.region 7 [o1 36 (ln 31 18 1), o1 37 (.buildSlice 0 44 31 (.pr .str (.pr (.int .i64) (.pr (.int .i64) (.pr .str (.pr .str (.pr (.int .i64) (.pr (.sl kP) (.pr (.sl (.pr (.sl kP) .nil)) (.pr .str (.pr (.int .i64) (.pr (.int .i64) (.pr (.int .i64) (.pr (.int .i64) (.pr (.int .i64) (.pr (.int .i64) kV))))))))))))))) 1 [vcs ByteArray.empty, vci 0, vci 0, vcs ByteArray.empty, vcs ByteArray.empty, vci 0, vcn, vcn, vcs ByteArray.empty, vci 0, vci 0, vci 0, vci 0, vci 0, vci 0, vci 0, vci 0, vci 0] [(0, (tm 36))]), o1 38 (.build 50 [vcs ByteArray.empty, vcn, vcn, vcn, vcn, vcn] [(0, 1), (1, 1), (2, 1), (3, 1), (4, 1), (5, 1)] 0 [(2, (tm 37))]), mv 39 2, o1 40 (.call 16 [(tm 38), (tm 39), (ic 100)] [50, 32, 3] .freeze), o1 8 (sg 40)] 1 none) []
  (.seq (.region 8 [o1 41 (ln 42 4 3), o1 42 (.buildSlice 0 36 42 (.pr .str kV) 1 [vcs ByteArray.empty, vci 0, vci 0, vci 0] [(0, (tm 41))]), o1 9 (sg 42)] 1 none) []
  (.seq (.region 9 [o1 43 (fa 42 3 2 3), o0 (.store 3 1 (tm 43) (ic 101))] 0 none) []
  (.seq (.region 10 [mv 44 5, mv 45 9, o1 46 (cs 11 [44, 45] [36, 36]), mv 47 46, og 48 (.move (tm 6)) 47 true, og 49 (.move (tm 9)) 47 true, og 50 (cs 11 [48, 49] [36, 36]) 47 true, o1 51 (po 47 50), mv 52 51, og 53 (.move (tm 7)) 52 true, og 54 (.move (tm 9)) 52 true, og 55 (cs 11 [53, 54] [36, 36]) 52 true, o1 56 (po 52 55), mv 57 56, og 58 (.move (tm 8)) 57 true, og 59 (.len 36 false (tm 58)) 57 true, og 60 (bk .eql 3 59 0) 57 true, o1 61 (po 57 60), mv 62 61, og 63 (ln 31 18 1) 62 true, og 64 (.move (tm 9)) 62 true, og 65 (.indexAddr 36 42 4 (tm 64) (ic 0)) 62 true, og 66 (ln 42 4 65) 62 true, og 67 (cs 14 [63, 66] [31, 42]) 62 true, o1 68 (po 62 67), mv 69 68, og 70 (ln 31 18 1) 69 true, og 71 (ln 42 4 3) 69 true, og 72 (cs 14 [70, 71] [31, 42]) 69 true, og 73 (.unOp .not 4 (tm 72)) 69 true, o1 74 (po 69 73), o1 0 (sg 74)] 0 (some [[], [], [0, 1], [0, 1, 2], (rl 0 4 []), (rl 0 4 []), (rl 0 6 []), (rl 0 7 []), (rl 0 8 []), (rl 0 9 []), (rl 0 9 []), (rl 0 11 []), (rl 0 12 []), (rl 0 13 []), (rl 0 14 []), (rl 0 15 []), (rl 0 16 []), (rl 0 17 []), (rl 0 18 []), (rl 0 19 []), (rl 0 19 []), (rl 0 19 [20]), (rl 0 19 [20, 21]), (rl 0 23 []), (rl 0 24 []), (rl 0 25 []), (rl 0 26 []), (rl 0 26 []), (rl 0 28 []), (rl 0 29 []), (rl 0 30 []), (rl 0 31 [])])) []
  (.ret (rl 1 74 [])))))))))))))⟩
def D132 {ρ : Type} (fuel : Nat) (k : Bool → Option ρ) : Option ρ :=
  (ob (F101 fuel) fun x1 => (ob (F121 fuel (listF [(.s x1.1), (.i .i64 x1.2.1), (.i .i64 x1.2.2.1), (.s x1.2.2.2.1), (.s x1.2.2.2.2.1), (.i .i64 x1.2.2.2.2.2.1), (.ro false (.pr (.int .i64) (.pr (.int .i64) .nil)) x1.2.2.2.2.2.2.1 x1.2.2.2.2.2.2.2.1), (.ro false (.pr (.sl (.pr (.int .i64) (.pr (.int .i64) .nil))) .nil) x1.2.2.2.2.2.2.2.2.1 x1.2.2.2.2.2.2.2.2.2.1), (.s x1.2.2.2.2.2.2.2.2.2.2.1), (.i .i64 x1.2.2.2.2.2.2.2.2.2.2.2.1), (.i .i64 x1.2.2.2.2.2.2.2.2.2.2.2.2.1), (.i .i64 x1.2.2.2.2.2.2.2.2.2.2.2.2.2.1), (.i .i64 x1.2.2.2.2.2.2.2.2.2.2.2.2.2.2.1), (.i .i64 x1.2.2.2.2.2.2.2.2.2.2.2.2.2.2.2.1), (.i .i64 x1.2.2.2.2.2.2.2.2.2.2.2.2.2.2.2.2.1), (.i .i64 x1.2.2.2.2.2.2.2.2.2.2.2.2.2.2.2.2.2.1), (.i .i64 x1.2.2.2.2.2.2.2.2.2.2.2.2.2.2.2.2.2.2.1), (.i .i64 x1.2.2.2.2.2.2.2.2.2.2.2.2.2.2.2.2.2.2.2)]) 2 (rowsF 3 [(.i .i64 300), (.i .i64 200), (.i .i64 0), (.i .i64 300), (.i .i64 200), (.i .i64 5000)]) 80) fun x5 => (ob (F122 fuel ByteArray.empty 0 (fun _ _ => .any) 1 (rowsF 18 [(.s x1.1), (.i .i64 x1.2.1), (.i .i64 x1.2.2.1), (.s x1.2.2.2.1), (.s x1.2.2.2.2.1), (.i .i64 x1.2.2.2.2.2.1), (.ro false (.pr (.int .i64) (.pr (.int .i64) .nil)) x1.2.2.2.2.2.2.1 x1.2.2.2.2.2.2.2.1), (.ro false (.pr (.sl (.pr (.int .i64) (.pr (.int .i64) .nil))) .nil) x1.2.2.2.2.2.2.2.2.1 x1.2.2.2.2.2.2.2.2.2.1), (.s x1.2.2.2.2.2.2.2.2.2.2.1), (.i .i64 x1.2.2.2.2.2.2.2.2.2.2.2.1), (.i .i64 x1.2.2.2.2.2.2.2.2.2.2.2.2.1), (.i .i64 x1.2.2.2.2.2.2.2.2.2.2.2.2.2.1), (.i .i64 x1.2.2.2.2.2.2.2.2.2.2.2.2.2.2.1), (.i .i64 x1.2.2.2.2.2.2.2.2.2.2.2.2.2.2.2.1), (.i .i64 x1.2.2.2.2.2.2.2.2.2.2.2.2.2.2.2.2.1), (.i .i64 x1.2.2.2.2.2.2.2.2.2.2.2.2.2.2.2.2.2.1), (.i .i64 x1.2.2.2.2.2.2.2.2.2.2.2.2.2.2.2.2.2.2.1), (.i .i64 x1.2.2.2.2.2.2.2.2.2.2.2.2.2.2.2.2.2.2.2)]) 0 (fun _ _ => .any) 0 (fun _ _ => .any) 0 (fun _ _ => .any) 2 (rowsF 3 [(.i .i64 300), (.i .i64 200), (.i .i64 0), (.i .i64 300), (.i .i64 200), (.i .i64 5000)]) 80) fun x6 => (ob (F130 fuel ByteArray.empty 0 (fun _ _ => .any) 1 (rowsF 18 [(.s x1.1), (.i .i64 x1.2.1), (.i .i64 x1.2.2.1), (.s x1.2.2.2.1), (.s x1.2.2.2.2.1), (.i .i64 x1.2.2.2.2.2.1), (.ro false (.pr (.int .i64) (.pr (.int .i64) .nil)) x1.2.2.2.2.2.2.1 x1.2.2.2.2.2.2.2.1), (.ro false (.pr (.sl (.pr (.int .i64) (.pr (.int .i64) .nil))) .nil) x1.2.2.2.2.2.2.2.2.1 x1.2.2.2.2.2.2.2.2.2.1), (.s x1.2.2.2.2.2.2.2.2.2.2.1), (.i .i64 x1.2.2.2.2.2.2.2.2.2.2.2.1), (.i .i64 x1.2.2.2.2.2.2.2.2.2.2.2.2.1), (.i .i64 x1.2.2.2.2.2.2.2.2.2.2.2.2.2.1), (.i .i64 x1.2.2.2.2.2.2.2.2.2.2.2.2.2.2.1), (.i .i64 x1.2.2.2.2.2.2.2.2.2.2.2.2.2.2.2.1), (.i .i64 x1.2.2.2.2.2.2.2.2.2.2.2.2.2.2.2.2.1), (.i .i64 x1.2.2.2.2.2.2.2.2.2.2.2.2.2.2.2.2.2.1), (.i .i64 x1.2.2.2.2.2.2.2.2.2.2.2.2.2.2.2.2.2.2.1), (.i .i64 x1.2.2.2.2.2.2.2.2.2.2.2.2.2.2.2.2.2.2.2)]) 0 (fun _ _ => .any) 0 (fun _ _ => .any) 0 (fun _ _ => .any) 2 (rowsF 3 [(.i .i64 300), (.i .i64 200), (.i .i64 0), (.i .i64 300), (.i .i64 200), (.i .i64 5000)]) 80) fun x7 => (ob (F130 fuel ByteArray.empty 0 (fun _ _ => .any) 1 (rowsF 18 [(.s x1.1), (.i .i64 x1.2.1), (.i .i64 x1.2.2.1), (.s x1.2.2.2.1), (.s x1.2.2.2.2.1), (.i .i64 x1.2.2.2.2.2.1), (.ro false (.pr (.int .i64) (.pr (.int .i64) .nil)) x1.2.2.2.2.2.2.1 x1.2.2.2.2.2.2.2.1), (.ro false (.pr (.sl (.pr (.int .i64) (.pr (.int .i64) .nil))) .nil) 1 (rowsF 1 [(.ro false (.pr (.int .i64) (.pr (.int .i64) .nil)) 4 (rowsF 2 [(.i .i64 250), (.i .i64 150), (.i .i64 250), (.i .i64 250), (.i .i64 350), (.i .i64 250), (.i .i64 350), (.i .i64 150)]))])), (.s x1.2.2.2.2.2.2.2.2.2.2.1), (.i .i64 x1.2.2.2.2.2.2.2.2.2.2.2.1), (.i .i64 x1.2.2.2.2.2.2.2.2.2.2.2.2.1), (.i .i64 x1.2.2.2.2.2.2.2.2.2.2.2.2.2.1), (.i .i64 x1.2.2.2.2.2.2.2.2.2.2.2.2.2.2.1), (.i .i64 x1.2.2.2.2.2.2.2.2.2.2.2.2.2.2.2.1), (.i .i64 x1.2.2.2.2.2.2.2.2.2.2.2.2.2.2.2.2.1), (.i .i64 x1.2.2.2.2.2.2.2.2.2.2.2.2.2.2.2.2.2.1), (.i .i64 x1.2.2.2.2.2.2.2.2.2.2.2.2.2.2.2.2.2.2.1), (.i .i64 x1.2.2.2.2.2.2.2.2.2.2.2.2.2.2.2.2.2.2.2)]) 0 (fun _ _ => .any) 0 (fun _ _ => .any) 0 (fun _ _ => .any) 2 (rowsF 3 [(.i .i64 300), (.i .i64 200), (.i .i64 0), (.i .i64 300), (.i .i64 200), (.i .i64 5000)]) 100) fun x8 => (ob (F131 fuel x5.1 x5.2 1 (rowsF 4 [(.s (ByteArray.mk #[80, 49])), (.i .i64 300), (.i .i64 200), (.i .i64 80)])) fun x14 => (bif (x14 == true) then (ob (F131 fuel x6.1 x6.2 1 (rowsF 4 [(.s (ByteArray.mk #[80, 49])), (.i .i64 300), (.i .i64 200), (.i .i64 80)])) fun x15 => (bif (x15 == true) then (ob (F131 fuel x7.1 x7.2 1 (rowsF 4 [(.s (ByteArray.mk #[80, 49])), (.i .i64 300), (.i .i64 200), (.i .i64 80)])) fun x16 => (bif (x16 == true) then (bif (((Int.ofNat x8.1) == 0) == true) then (ob (F129 fuel (listF [(.s x1.1), (.i .i64 x1.2.1), (.i .i64 x1.2.2.1), (.s x1.2.2.2.1), (.s x1.2.2.2.2.1), (.i .i64 x1.2.2.2.2.2.1), (.ro false (.pr (.int .i64) (.pr (.int .i64) .nil)) x1.2.2.2.2.2.2.1 x1.2.2.2.2.2.2.2.1), (.ro false (.pr (.sl (.pr (.int .i64) (.pr (.int .i64) .nil))) .nil) 1 (rowsF 1 [(.ro false (.pr (.int .i64) (.pr (.int .i64) .nil)) 4 (rowsF 2 [(.i .i64 250), (.i .i64 150), (.i .i64 250), (.i .i64 250), (.i .i64 350), (.i .i64 250), (.i .i64 350), (.i .i64 150)]))])), (.s x1.2.2.2.2.2.2.2.2.2.2.1), (.i .i64 x1.2.2.2.2.2.2.2.2.2.2.2.1), (.i .i64 x1.2.2.2.2.2.2.2.2.2.2.2.2.1), (.i .i64 x1.2.2.2.2.2.2.2.2.2.2.2.2.2.1), (.i .i64 x1.2.2.2.2.2.2.2.2.2.2.2.2.2.2.1), (.i .i64 x1.2.2.2.2.2.2.2.2.2.2.2.2.2.2.2.1), (.i .i64 x1.2.2.2.2.2.2.2.2.2.2.2.2.2.2.2.2.1), (.i .i64 x1.2.2.2.2.2.2.2.2.2.2.2.2.2.2.2.2.2.1), (.i .i64 x1.2.2.2.2.2.2.2.2.2.2.2.2.2.2.2.2.2.2.1), (.i .i64 x1.2.2.2.2.2.2.2.2.2.2.2.2.2.2.2.2.2.2.2)]) (CV.str ((rowsF 4 [(.s (ByteArray.mk #[80, 49])), (.i .i64 300), (.i .i64 200), (.i .i64 80)]) 0 0)) (CV.int ((rowsF 4 [(.s (ByteArray.mk #[80, 49])), (.i .i64 300), (.i .i64 200), (.i .i64 80)]) 0 1)) (CV.int ((rowsF 4 [(.s (ByteArray.mk #[80, 49])), (.i .i64 300), (.i .i64 200), (.i .i64 80)]) 0 2)) (CV.int ((rowsF 4 [(.s (ByteArray.mk #[80, 49])), (.i .i64 300), (.i .i64 200), (.i .i64 80)]) 0 3))) fun x17 => (bif (x17 == true) then (ob (F129 fuel (listF [(.s x1.1), (.i .i64 x1.2.1), (.i .i64 x1.2.2.1), (.s x1.2.2.2.1), (.s x1.2.2.2.2.1), (.i .i64 x1.2.2.2.2.2.1), (.ro false (.pr (.int .i64) (.pr (.int .i64) .nil)) x1.2.2.2.2.2.2.1 x1.2.2.2.2.2.2.2.1), (.ro false (.pr (.sl (.pr (.int .i64) (.pr (.int .i64) .nil))) .nil) 1 (rowsF 1 [(.ro false (.pr (.int .i64) (.pr (.int .i64) .nil)) 4 (rowsF 2 [(.i .i64 250), (.i .i64 150), (.i .i64 250), (.i .i64 250), (.i .i64 350), (.i .i64 250), (.i .i64 350), (.i .i64 150)]))])), (.s x1.2.2.2.2.2.2.2.2.2.2.1), (.i .i64 x1.2.2.2.2.2.2.2.2.2.2.2.1), (.i .i64 x1.2.2.2.2.2.2.2.2.2.2.2.2.1), (.i .i64 x1.2.2.2.2.2.2.2.2.2.2.2.2.2.1), (.i .i64 x1.2.2.2.2.2.2.2.2.2.2.2.2.2.2.1), (.i .i64 x1.2.2.2.2.2.2.2.2.2.2.2.2.2.2.2.1), (.i .i64 x1.2.2.2.2.2.2.2.2.2.2.2.2.2.2.2.2.1), (.i .i64 x1.2.2.2.2.2.2.2.2.2.2.2.2.2.2.2.2.2.1), (.i .i64 x1.2.2.2.2.2.2.2.2.2.2.2.2.2.2.2.2.2.2.1), (.i .i64 x1.2.2.2.2.2.2.2.2.2.2.2.2.2.2.2.2.2.2.2)]) (ByteArray.mk #[80, 49]) 300 200 101) fun x18 => (k (!x18))) else (k false))) else (k false)) else (k false))) else (k false))) else (k false))))))))
def F132 (fuel : Nat) : Option (Bool) := D132 fuel some
theorem f132 {ρ : Type} (fuel : Nat) (k : (Bool) → Option ρ) : D132 fuel k = ob (F132 fuel) k := by
  simp only [F132, D132, ob_bif, ob_ob, ob_none, ob_some]
theorem walk132 (fuel : Nat) :
    evalF (C60 fuel) fuel A10 [] =
    (ob (F101 fuel) fun x1 => (ob (F121 fuel (listF [(.s x1.1), (vi x1.2.1), (vi x1.2.2.1), (.s x1.2.2.2.1), (.s x1.2.2.2.2.1), (vi x1.2.2.2.2.2.1), (.ro false kP x1.2.2.2.2.2.2.1 x1.2.2.2.2.2.2.2.1), (.ro false (.pr (.sl kP) .nil) x1.2.2.2.2.2.2.2.2.1 x1.2.2.2.2.2.2.2.2.2.1), (.s x1.2.2.2.2.2.2.2.2.2.2.1), (vi x1.2.2.2.2.2.2.2.2.2.2.2.1), (vi x1.2.2.2.2.2.2.2.2.2.2.2.2.1), (vi x1.2.2.2.2.2.2.2.2.2.2.2.2.2.1), (vi x1.2.2.2.2.2.2.2.2.2.2.2.2.2.2.1), (vi x1.2.2.2.2.2.2.2.2.2.2.2.2.2.2.2.1), (vi x1.2.2.2.2.2.2.2.2.2.2.2.2.2.2.2.2.1), (vi x1.2.2.2.2.2.2.2.2.2.2.2.2.2.2.2.2.2.1), (vi x1.2.2.2.2.2.2.2.2.2.2.2.2.2.2.2.2.2.2.1), (vi x1.2.2.2.2.2.2.2.2.2.2.2.2.2.2.2.2.2.2.2)]) 2 (rowsF 3 [(vi 300), (vi 200), (vi 0), (vi 300), (vi 200), (vi 5000)]) 80) fun x5 => (ob (F122 fuel ByteArray.empty 0 nilF 1 (rowsF 18 [(.s x1.1), (vi x1.2.1), (vi x1.2.2.1), (.s x1.2.2.2.1), (.s x1.2.2.2.2.1), (vi x1.2.2.2.2.2.1), (.ro false kP x1.2.2.2.2.2.2.1 x1.2.2.2.2.2.2.2.1), (.ro false (.pr (.sl kP) .nil) x1.2.2.2.2.2.2.2.2.1 x1.2.2.2.2.2.2.2.2.2.1), (.s x1.2.2.2.2.2.2.2.2.2.2.1), (vi x1.2.2.2.2.2.2.2.2.2.2.2.1), (vi x1.2.2.2.2.2.2.2.2.2.2.2.2.1), (vi x1.2.2.2.2.2.2.2.2.2.2.2.2.2.1), (vi x1.2.2.2.2.2.2.2.2.2.2.2.2.2.2.1), (vi x1.2.2.2.2.2.2.2.2.2.2.2.2.2.2.2.1), (vi x1.2.2.2.2.2.2.2.2.2.2.2.2.2.2.2.2.1), (vi x1.2.2.2.2.2.2.2.2.2.2.2.2.2.2.2.2.2.1), (vi x1.2.2.2.2.2.2.2.2.2.2.2.2.2.2.2.2.2.2.1), (vi x1.2.2.2.2.2.2.2.2.2.2.2.2.2.2.2.2.2.2.2)]) 0 nilF 0 nilF 0 nilF 2 (rowsF 3 [(vi 300), (vi 200), (vi 0), (vi 300), (vi 200), (vi 5000)]) 80) fun x6 => (ob (F130 fuel ByteArray.empty 0 nilF 1 (rowsF 18 [(.s x1.1), (vi x1.2.1), (vi x1.2.2.1), (.s x1.2.2.2.1), (.s x1.2.2.2.2.1), (vi x1.2.2.2.2.2.1), (.ro false kP x1.2.2.2.2.2.2.1 x1.2.2.2.2.2.2.2.1), (.ro false (.pr (.sl kP) .nil) x1.2.2.2.2.2.2.2.2.1 x1.2.2.2.2.2.2.2.2.2.1), (.s x1.2.2.2.2.2.2.2.2.2.2.1), (vi x1.2.2.2.2.2.2.2.2.2.2.2.1), (vi x1.2.2.2.2.2.2.2.2.2.2.2.2.1), (vi x1.2.2.2.2.2.2.2.2.2.2.2.2.2.1), (vi x1.2.2.2.2.2.2.2.2.2.2.2.2.2.2.1), (vi x1.2.2.2.2.2.2.2.2.2.2.2.2.2.2.2.1), (vi x1.2.2.2.2.2.2.2.2.2.2.2.2.2.2.2.2.1), (vi x1.2.2.2.2.2.2.2.2.2.2.2.2.2.2.2.2.2.1), (vi x1.2.2.2.2.2.2.2.2.2.2.2.2.2.2.2.2.2.2.1), (vi x1.2.2.2.2.2.2.2.2.2.2.2.2.2.2.2.2.2.2.2)]) 0 nilF 0 nilF 0 nilF 2 (rowsF 3 [(vi 300), (vi 200), (vi 0), (vi 300), (vi 200), (vi 5000)]) 80) fun x7 => (ob (F130 fuel ByteArray.empty 0 nilF 1 (rowsF 18 [(.s x1.1), (vi x1.2.1), (vi x1.2.2.1), (.s x1.2.2.2.1), (.s x1.2.2.2.2.1), (vi x1.2.2.2.2.2.1), (.ro false kP x1.2.2.2.2.2.2.1 x1.2.2.2.2.2.2.2.1), (.ro false (.pr (.sl kP) .nil) 1 (rowsF 1 [(.ro false kP 4 (rowsF 2 [(vi 250), (vi 150), (vi 250), (vi 250), (vi 350), (vi 250), (vi 350), (vi 150)]))])), (.s x1.2.2.2.2.2.2.2.2.2.2.1), (vi x1.2.2.2.2.2.2.2.2.2.2.2.1), (vi x1.2.2.2.2.2.2.2.2.2.2.2.2.1), (vi x1.2.2.2.2.2.2.2.2.2.2.2.2.2.1), (vi x1.2.2.2.2.2.2.2.2.2.2.2.2.2.2.1), (vi x1.2.2.2.2.2.2.2.2.2.2.2.2.2.2.2.1), (vi x1.2.2.2.2.2.2.2.2.2.2.2.2.2.2.2.2.1), (vi x1.2.2.2.2.2.2.2.2.2.2.2.2.2.2.2.2.2.1), (vi x1.2.2.2.2.2.2.2.2.2.2.2.2.2.2.2.2.2.2.1), (vi x1.2.2.2.2.2.2.2.2.2.2.2.2.2.2.2.2.2.2.2)]) 0 nilF 0 nilF 0 nilF 2 (rowsF 3 [(vi 300), (vi 200), (vi 0), (vi 300), (vi 200), (vi 5000)]) 100) fun x8 => (ob (F131 fuel x5.1 x5.2 1 (rowsF 4 [(.s (ByteArray.mk #[80, 49])), (vi 300), (vi 200), (vi 80)])) fun x14 => (bif (x14 == true) then (ob (F131 fuel x6.1 x6.2 1 (rowsF 4 [(.s (ByteArray.mk #[80, 49])), (vi 300), (vi 200), (vi 80)])) fun x15 => (bif (x15 == true) then (ob (F131 fuel x7.1 x7.2 1 (rowsF 4 [(.s (ByteArray.mk #[80, 49])), (vi 300), (vi 200), (vi 80)])) fun x16 => (bif (x16 == true) then (bif (((Int.ofNat x8.1) == 0) == true) then (ob (F129 fuel (listF [(.s x1.1), (vi x1.2.1), (vi x1.2.2.1), (.s x1.2.2.2.1), (.s x1.2.2.2.2.1), (vi x1.2.2.2.2.2.1), (.ro false kP x1.2.2.2.2.2.2.1 x1.2.2.2.2.2.2.2.1), (.ro false (.pr (.sl kP) .nil) 1 (rowsF 1 [(.ro false kP 4 (rowsF 2 [(vi 250), (vi 150), (vi 250), (vi 250), (vi 350), (vi 250), (vi 350), (vi 150)]))])), (.s x1.2.2.2.2.2.2.2.2.2.2.1), (vi x1.2.2.2.2.2.2.2.2.2.2.2.1), (vi x1.2.2.2.2.2.2.2.2.2.2.2.2.1), (vi x1.2.2.2.2.2.2.2.2.2.2.2.2.2.1), (vi x1.2.2.2.2.2.2.2.2.2.2.2.2.2.2.1), (vi x1.2.2.2.2.2.2.2.2.2.2.2.2.2.2.2.1), (vi x1.2.2.2.2.2.2.2.2.2.2.2.2.2.2.2.2.1), (vi x1.2.2.2.2.2.2.2.2.2.2.2.2.2.2.2.2.2.1), (vi x1.2.2.2.2.2.2.2.2.2.2.2.2.2.2.2.2.2.2.1), (vi x1.2.2.2.2.2.2.2.2.2.2.2.2.2.2.2.2.2.2.2)]) (CV.str ((rowsF 4 [(.s (ByteArray.mk #[80, 49])), (vi 300), (vi 200), (vi 80)]) 0 0)) (CV.int ((rowsF 4 [(.s (ByteArray.mk #[80, 49])), (vi 300), (vi 200), (vi 80)]) 0 1)) (CV.int ((rowsF 4 [(.s (ByteArray.mk #[80, 49])), (vi 300), (vi 200), (vi 80)]) 0 2)) (CV.int ((rowsF 4 [(.s (ByteArray.mk #[80, 49])), (vi 300), (vi 200), (vi 80)]) 0 3))) fun x17 => (bif (x17 == true) then (ob (F129 fuel (listF [(.s x1.1), (vi x1.2.1), (vi x1.2.2.1), (.s x1.2.2.2.1), (.s x1.2.2.2.2.1), (vi x1.2.2.2.2.2.1), (.ro false kP x1.2.2.2.2.2.2.1 x1.2.2.2.2.2.2.2.1), (.ro false (.pr (.sl kP) .nil) 1 (rowsF 1 [(.ro false kP 4 (rowsF 2 [(vi 250), (vi 150), (vi 250), (vi 250), (vi 350), (vi 250), (vi 350), (vi 150)]))])), (.s x1.2.2.2.2.2.2.2.2.2.2.1), (vi x1.2.2.2.2.2.2.2.2.2.2.2.1), (vi x1.2.2.2.2.2.2.2.2.2.2.2.2.1), (vi x1.2.2.2.2.2.2.2.2.2.2.2.2.2.1), (vi x1.2.2.2.2.2.2.2.2.2.2.2.2.2.2.1), (vi x1.2.2.2.2.2.2.2.2.2.2.2.2.2.2.2.1), (vi x1.2.2.2.2.2.2.2.2.2.2.2.2.2.2.2.2.1), (vi x1.2.2.2.2.2.2.2.2.2.2.2.2.2.2.2.2.2.1), (vi x1.2.2.2.2.2.2.2.2.2.2.2.2.2.2.2.2.2.2.1), (vi x1.2.2.2.2.2.2.2.2.2.2.2.2.2.2.2.2.2.2.2)]) (ByteArray.mk #[80, 49]) 300 200 101) fun x18 => (some [.v (.b (!x18))])) else (some [.v (.b false)]))) else (some [.v (.b false)])) else (some [.v (.b false)]))) else (some [.v (.b false)]))) else (some [.v (.b false)])))))))) := by kernel_rfl
theorem e132 (fuel : Nat) : evalF (C60 fuel) fuel A10 [] = ob (F132 fuel) fun t => some [.v (.b t)] := by
  rw [walk132, ← f132]
  simp only [D132]
def O132 (fuel : Nat) : Ora where
  o := fun args {ρ} K =>
    wn args <|
    (ob (F132 fuel) fun t => K [.v (.b t)])
  nat := fun args {ρ} K => by
    simp only [bind_wn, bind_ob, Option.bind_some]
theorem d132 {P : Program} (fuel : Nat) (hmix : P.follows .mixedOrders = true) (hC : Sound P (C60 fuel)) (hF : FFits P 10 A10) (args res : List A) (h : (O132 fuel).o args some = some res) : Den P 10 args res := by
  obtain ⟨hn, z0⟩ := inv_wn h
  cases hn
  exact Den.weaken .nil (evalF_sound hmix hC hF ((e132 fuel).trans z0))
def C61 (fuel : Nat) : Oracle := (C60 fuel).add 10 (fun _ => true) (O132 fuel)
def A17v1 : AC := (.region 3 [mv 10 5, o1 11 (bk .add 3 10 1), o1 5 (sg 11)] 0 none)
def A17v2 : AC := (.seq (.block 1
  (.seq (.region 4 [mv 12 0, mv 13 5, o1 14 (.indexAddr 36 42 4 (tm 12) (tm 13)), o1 15 (ln 42 4 14), o1 16 (ln 42 4 3), o1 17 (.eqA false (.pr .str kV) 42 (tm 15) (tm 16) 42)] 0 (some [[], [], [0, 1], [0, 1, 2], [], (rl 0 5 [])])) []
    (.cond (tm 17)
    (.seq (.region 5 [o1 4 (sb true)] 0 none) []
      (.ret (rl 0 4 (rl 5 13 []))))
    .skip))) (4 :: (rl 12 6 []))
  A17v1)
def A17v3 : AC := (.seq (.seq (.region 2 [mv 6 5, mv 7 0, o1 8 (.len 36 false (tm 7)), o1 9 (bt .lss 3 6 8)] 0 none) []
  (.cond (tm 9)
  .skip
  (.exit 0 (rl 0 18 [])))) (rl 6 4 [])
  A17v2)
def A17v4 : AC := (.seq (.region 6 [o1 4 (sb false)] 0 none) []
  (.ret (rl 0 4 (rl 5 13 []))))
def A17 : AF := ⟨18, [.tmp 4],
  (.seq (.region 0 [o1 3 (bx 0 42 1), o1 4 (sb false)] 1 none) []
  (.seq (.seq (.region 1 [o1 5 (sk 0)] 0 none) []
  (.block 0
  (.loop [] (1 :: 2 :: 4 :: (rl 6 12 []))
    A17v3))) (rl 4 14 [])
  A17v4))⟩
def B158v1 (C : Oracle) (fuel : Nat) {ρ : Type} : St → (Ex → St → Option ρ) → Option ρ := fun st k => evalC C fuel A17v3 st k
def N158v1 : St → Option St := fun s => s.norm (1 :: 2 :: 4 :: (rl 6 12 [])) 1
def s158v0 (x13 : Nat) (x14 : FF) (x15 : Int) (x16 : ByteArray) (x17 x18 x19 : Int) : St := ⟨(.x (.c (.ro false (.pr .str kV) x13 x14)) :: .u :: .u :: .x (.ptr 0 0) :: .u :: vxi x15 :: (us 12 [])), [.box [(vcs x16), (vci x17), (vci x18), (vci x19)]]⟩
def s158v1 (x16 : ByteArray) (x17 x18 x19 : Int) : St := ⟨(us 4 (vxb true :: (us 13 []))), [.box [(vcs x16), (vci x17), (vci x18), (vci x19)]]⟩
def s158v2 (x16 : ByteArray) (x17 x18 x19 : Int) : St := ⟨(us 18 []), [.box [(vcs x16), (vci x17), (vci x18), (vci x19)]]⟩
def L158v1 {ρ : Type} (fuel : Nat) (x13 : Nat) (x14 : FF) (x16 : ByteArray) (x17 x18 x19 : Int) : Nat → Int → (Option ρ) → (Option ρ) → Option ρ
  | 0, _, _, _ => none
  | m + 1, x15, k0, k1 =>
    (bif (decide (x15 < (Int.ofNat x13))) then (bif (inb x15 x13) then (bif ((ByteArray.toList (CV.str (x14 (Int.toNat x15) 0)) == ByteArray.toList x16) && (((CV.int (x14 (Int.toNat x15) 1)) == x17) && (((CV.int (x14 (Int.toNat x15) 2)) == x18) && (((CV.int (x14 (Int.toNat x15) 3)) == x19) && true)))) then k0 else (L158v1 fuel x13 x14 x16 x17 x18 x19 m (w64 (x15 + 1)) k0 k1)) else none) else k1)
theorem nl158v1 {ρ σ : Type} (fuel : Nat) (x13 : Nat) (x14 : FF) (x16 : ByteArray) (x17 x18 x19 : Int) (g : ρ → Option σ) : ∀ (m : Nat) (x15 : Int) (k0 : Option ρ) (k1 : Option ρ), ob (L158v1 fuel x13 x14 x16 x17 x18 x19 m x15 k0 k1) g = L158v1 fuel x13 x14 x16 x17 x18 x19 m x15 (ob k0 g) (ob k1 g)
  | 0, _, _, _ => rfl
  | m + 1, x15, k0, k1 => by
    simp only [L158v1, ob_bif, ob_ob, ob_none, nl158v1 fuel x13 x14 x16 x17 x18 x19 g m]
theorem r158v1 (fuel : Nat) (m : Nat) {ρ : Type} (k : Ex → St → Option ρ) (x13 : Nat) (x14 : FF) (x16 : ByteArray) (x17 x18 x19 x15 : Int) :
    loopH (B158v1 (C61 fuel) fuel) N158v1 (m + 1) (s158v0 x13 x14 x15 x16 x17 x18 x19) k =
    (bif (decide (x15 < (Int.ofNat x13))) then (bif (inb x15 x13) then (bif ((ByteArray.toList (CV.str (x14 (Int.toNat x15) 0)) == ByteArray.toList x16) && (((CV.int (x14 (Int.toNat x15) 1)) == x17) && (((CV.int (x14 (Int.toNat x15) 2)) == x18) && (((CV.int (x14 (Int.toNat x15) 3)) == x19) && true)))) then (k .ret (s158v1 x16 x17 x18 x19)) else (loopH (B158v1 (C61 fuel) fuel) N158v1 m (s158v0 x13 x14 (w64 (x15 + 1)) x16 x17 x18 x19) k)) else none) else (k (.exit 0) (s158v2 x16 x17 x18 x19))) := by kernel_rfl
theorem q158v1 (fuel : Nat) (x13 : Nat) (x14 : FF) (x16 : ByteArray) (x17 x18 x19 : Int) {ρ : Type} (k : Ex → St → Option ρ) : ∀ (m : Nat) (x15 : Int),
    loopH (B158v1 (C61 fuel) fuel) N158v1 m (s158v0 x13 x14 x15 x16 x17 x18 x19) k = L158v1 fuel x13 x14 x16 x17 x18 x19 m x15 (k .ret (s158v1 x16 x17 x18 x19)) (k (.exit 0) (s158v2 x16 x17 x18 x19))
  | 0, _ => rfl
  | m + 1, x15 => by
    rw [r158v1]
    simp only [L158v1, q158v1 fuel x13 x14 x16 x17 x18 x19 k m]
def D158 {ρ : Type} (fuel : Nat) (x1 : Nat) (x2 : FF) (x3 : ByteArray) (x4 x5 x6 : Int) (k : Bool → Option ρ) : Option ρ :=
  (L158v1 fuel x1 x2 x3 x4 x5 x6 fuel 0
    (k true)
    (k false))
def F158 (fuel : Nat) (x1 : Nat) (x2 : FF) (x3 : ByteArray) (x4 x5 x6 : Int) : Option (Bool) := D158 fuel x1 x2 x3 x4 x5 x6 some
theorem f158 {ρ : Type} (fuel : Nat) (x1 : Nat) (x2 : FF) (x3 : ByteArray) (x4 x5 x6 : Int) (k : (Bool) → Option ρ) : D158 fuel x1 x2 x3 x4 x5 x6 k = ob (F158 fuel x1 x2 x3 x4 x5 x6) k := by
  simp only [F158, D158, ob_bif, ob_ob, ob_none, ob_some, nl158v1]
def s158v3 (x1 : Nat) (x2 : FF) (x3 : ByteArray) (x4 x5 x6 : Int) : St := ⟨[.x (.c (.ro false (.pr .str kV) x1 x2)), .agg [(vcs x3), (vci x4), (vci x5), (vci x6)], .undef, .x (.ptr 0 0), vxb false, vxi 0, .undef, .undef, .undef, .undef, .undef, .undef, .undef, .undef, .undef, .undef, .undef, .undef], [.box [(vcs x3), (vci x4), (vci x5), (vci x6)]]⟩
theorem walk158 (fuel : Nat) (x1 : Nat) (x2 : FF) (x3 : ByteArray) (x4 x5 x6 : Int) :
    evalF (C61 fuel) fuel A17 [.v (.ro false (.pr .str kV) x1 x2), .agg [(.s x3), (vi x4), (vi x5), (vi x6)]] =
    (loopN (B158v1 (C61 fuel) fuel) N158v1 fuel (s158v3 x1 x2 x3 x4 x5 x6) (kBlk 0 (kSeq (C61 fuel) fuel (rl 4 14 []) A17v4 (finish A17)))) := by kernel_rfl
theorem t158v1 (fuel : Nat) {ρ : Type} (k : Ex → St → Option ρ) (x1 : Nat) (x2 : FF) (x3 : ByteArray) (x4 x5 x6 : Int) :
    loopN (B158v1 (C61 fuel) fuel) N158v1 fuel (s158v3 x1 x2 x3 x4 x5 x6) k =
    L158v1 fuel x1 x2 x3 x4 x5 x6 fuel 0 (k .ret (s158v1 x3 x4 x5 x6)) (k (.exit 0) (s158v2 x3 x4 x5 x6)) :=
  (loopN_at (st' := (s158v0 x1 x2 0 x3 x4 x5 x6)) (by kernel_rfl)).trans (q158v1 fuel x1 x2 x3 x4 x5 x6 k fuel 0)
theorem g158v2 (fuel : Nat) (x3 : ByteArray) (x4 x5 x6 : Int) :
    (kBlk 0 (kSeq (C61 fuel) fuel (rl 4 14 []) A17v4 (finish A17))) .ret (s158v1 x3 x4 x5 x6) =
    (some [.v (.b true)]) := by kernel_rfl
theorem g158v3 (fuel : Nat) (x3 : ByteArray) (x4 x5 x6 : Int) :
    (kBlk 0 (kSeq (C61 fuel) fuel (rl 4 14 []) A17v4 (finish A17))) (.exit 0) (s158v2 x3 x4 x5 x6) =
    (some [.v (.b false)]) := by kernel_rfl
theorem e158 (fuel : Nat) (x1 : Nat) (x2 : FF) (x3 : ByteArray) (x4 x5 x6 : Int) : evalF (C61 fuel) fuel A17 [.v (.ro false (.pr .str kV) x1 x2), .agg [(.s x3), (vi x4), (vi x5), (vi x6)]] = ob (F158 fuel x1 x2 x3 x4 x5 x6) fun t => some [.v (.b t)] := by
  rw [walk158, ← f158]
  simp only [D158, t158v1, g158v2, g158v3]
def O158 (fuel : Nat) : Ora where
  o := fun args {ρ} K =>
    wcL (.pr .str kV) args fun y4 y5 l2 =>
    wc l2 fun a6 l7 =>
    wagg a6 fun l8 =>
    wdS l8 fun y12 l10 =>
    wdI .i64 l10 fun y16 l14 =>
    wdI .i64 l14 fun y20 l18 =>
    wdI .i64 l18 fun y24 l22 =>
    wn l22 <|
    wn l7 <|
    (ob (F158 fuel y4 y5 y12 y16 y20 y24) fun t => K [.v (.b t)])
  nat := fun args {ρ} K => by
    simp only [bind_wagg, bind_wc, bind_wcL, bind_wdI, bind_wdS, bind_wn, bind_ob, Option.bind_some]
theorem d158 {P : Program} (fuel : Nat) (hmix : P.follows .mixedOrders = true) (hC : Sound P (C61 fuel)) (hF : FFits P 17 A17) (args res : List A) (h : (O158 fuel).o args some = some res) : Den P 17 args res := by
  obtain ⟨a1, y4, y5, l2, rfl, h3, z0⟩ := inv_wcL h
  obtain ⟨a6, l7, rfl, z1⟩ := inv_wc z0
  obtain ⟨l8, rfl, z2⟩ := inv_wagg z1
  obtain ⟨a9, y12, l10, rfl, h11, z3⟩ := inv_wdS z2
  obtain ⟨a13, y16, l14, rfl, h15, z4⟩ := inv_wdI z3
  obtain ⟨a17, y20, l18, rfl, h19, z5⟩ := inv_wdI z4
  obtain ⟨a21, y24, l22, rfl, h23, z6⟩ := inv_wdI z5
  obtain ⟨hn, z7⟩ := inv_wn z6
  cases hn
  obtain ⟨hn, z8⟩ := inv_wn z7
  cases hn
  exact Den.weaken (.cons h3 (.cons (WkA.agg (.cons h11 (.cons h15 (.cons h19 (.cons h23 .nil))))) .nil)) (evalF_sound hmix hC hF ((e158 fuel y4 y5 y12 y16 y20 y24).trans z8))
def C62 (fuel : Nat) : Oracle := (C61 fuel).add 17 (fun _ => true) (O158 fuel)
def A6v1 : AC := (.seq (.block 1
  (.region 7 [mv 28 7, mv 29 1, mv 30 8, o1 31 (.indexAddr 32 27 3 (tm 29) (tm 30)), o1 32 (ln 27 3 31), o1 33 (.buildSlice 0 32 27 kV 1 [vci 0, vci 0, vci 0] [(0, (tm 32))]), o1 34 (.append 1 32 27 kV 24 (tm 28) (tm 33)), o1 7 (sg 34)] 2 none)) []
  (.region 6 [mv 26 8, o1 27 (bk .sub 3 26 1), o1 8 (sg 27)] 0 none))
def A6v2 : AC := (.seq (.seq (.region 5 [mv 24 8, o1 25 (bk .geq 3 24 0)] 0 none) []
  (.cond (tm 25)
  .skip
  (.exit 0 (0 :: 4 :: 5 :: 6 :: (rl 8 66 []))))) [24, 25]
  A6v1)
def A6v3 : AC := (.region 11 [mv 47 11, o1 48 (bk .add 3 47 1), o1 11 (sg 48)] 0 none)
def A6v4 : AC := (.seq (.block 3
  (.seq (.region 12 [mv 49 10, mv 50 9, mv 51 11, o1 52 (.indexAddr 36 42 4 (tm 50) (tm 51)), o1 53 (ln 42 4 52), o1 54 (cs 17 [49, 53] [36, 42]), o1 55 (.unOp .not 4 (tm 54)), mv 56 55, og 57 (.move (tm 9)) 56 false, og 58 (.move (tm 11)) 56 false, og 59 (.slice 36 42 4 (tm 57) none (some (tm 58)) none) 56 false, og 60 (.move (tm 9)) 56 false, og 61 (.move (tm 11)) 56 false, og 62 (.indexAddr 36 42 4 (tm 60) (tm 61)) 56 false, og 63 (ln 42 4 62) 56 false, og 64 (cs 17 [59, 63] [36, 42]) 56 false, o1 65 (pa 56 64)] 0 (some [[], [], [], [1, 2], [1, 2, 3], (rl 0 5 []), (rl 0 6 []), (rl 0 7 []), (rl 0 8 []), (rl 0 8 []), (rl 0 10 []), (rl 0 8 []), (rl 0 8 []), (rl 0 8 [11, 12]), (rl 0 8 [11, 12, 13]), (rl 0 15 []), (rl 0 16 [])])) []
    (.cond (tm 65)
    (.seq (.region 13 [o1 6 (sb false)] 0 none) []
      (.ret (rl 0 6 (rl 7 67 []))))
    .skip))) (6 :: (rl 49 17 []))
  A6v3)
def A6v5 : AC := (.seq (.seq (.region 10 [mv 43 11, mv 44 9, o1 45 (.len 36 false (tm 44)), o1 46 (bt .lss 3 43 45)] 0 none) []
  (.cond (tm 46)
  .skip
  (.exit 2 (rl 0 9 (rl 11 63 []))))) (rl 43 4 [])
  A6v4)
def A6v6 : AC := (.seq (.region 14 [mv 66 9, o1 67 (.len 36 false (tm 66)), mv 68 10, o1 69 (.len 36 false (tm 68)), o1 70 (bt .eql 3 67 69), mv 71 70, og 72 (cs 10 [] []) 71 true, o1 73 (po 71 72), o1 6 (sg 73)] 0 none) []
  (.ret (rl 0 6 (rl 7 67 []))))
def A6v7 : AC := (.seq (.ghost [1] (.region 8 [o1 35 (ln 31 18 3), mv 36 1, mv 37 2, o1 38 (cf 12 [35, 36, 37] [31, 32, 3]), o1 39 (ln 31 18 3), mv 40 7, mv 41 2, o1 42 (cf 12 [39, 40, 41] [31, 32, 3]), o1 9 (sg 38), o1 10 (sg 42)] 0 (some [[], [], [], [0, 1, 2], [], [], [], (rl 0 7 []), (rl 0 8 []), (rl 0 9 [])]))) []
  (.seq (.seq (.region 9 [o1 11 (sk 0)] 0 none) []
  (.block 2
  (.loop [] (rl 0 9 (rl 12 62 []))
    A6v5))) (6 :: 11 :: (rl 43 23 []))
  A6v6))
def A6v8 : AC := (.seq (.region 3 [o1 7 (.assign (.const (.slice none 0 0)))] 0 none) []
  (.seq (.seq (.region 4 [mv 21 1, o1 22 (.len 32 false (tm 21)), o1 23 (bk .sub 3 22 1), o1 8 (sg 23)] 0 none) []
  (.block 0
  (.loop [.slot 7 kV] (0 :: 4 :: 5 :: 6 :: (rl 9 65 []))
    A6v2))) (8 :: (rl 21 14 []))
  A6v7))
def A6 : AF := ⟨74, [.tmp 6],
  (.seq (.region 0 [o1 3 (bx 0 31 0), o1 6 (sb false)] 1 none) []
  (.seq (.seq (.region 1 [o1 12 (ln 31 18 3), o1 13 (cs 9 [12] [31]), o1 14 (.unOp .not 4 (tm 13)), mv 15 14, og 16 (.move (tm 1)) 15 false, og 17 (.len 32 false (tm 16)) 15 false, og 18 (bk .gtr 3 17 40) 15 false, o1 19 (pa 15 18)] 0 none) []
  (.cond (tm 19)
  (.seq (.region 2 [o1 20 (cs 10 [] []), o1 6 (sg 20)] 0 none) []
    (.ret (rl 0 6 (rl 7 67 []))))
  .skip)) (6 :: (rl 12 9 []))
  A6v8))⟩
def B159v1 (C : Oracle) (fuel : Nat) {ρ : Type} : St → (Ex → St → Option ρ) → Option ρ := fun st k => evalC C fuel A6v2 st k
def N159v1 : St → Option St := fun s => s.norm (0 :: 4 :: 5 :: 6 :: (rl 9 65 [])) 2
def s159v0 (x12 : Nat) (x13 : FF) (x14 : Int) (x15 : Nat) (x16 : Int) (x17 : Nat → CV) (x18 : FF) : St := ⟨(.u :: .x (.c (.ro false kV x12 x13)) :: vxi x14 :: .x (.ptr 0 0) :: (us 3 (.x (.own 1 0 x15) :: vxi x16 :: (us 65 [])))), [.box (pjc kR0 x17), .arr kV x15 x18]⟩
def s159v1 (x12 : Nat) (x13 : FF) (x14 : Int) (x19 : Nat) (x17 : Nat → CV) (x20 : FF) : St := ⟨(.u :: .x (.c (.ro false kV x12 x13)) :: vxi x14 :: .x (.ptr 0 0) :: (us 3 (.x (.own 1 0 x19) :: (us 66 [])))), [.box (pjc kR0 x17), .arr kV x19 x20]⟩
def L159v1 {ρ : Type} (fuel : Nat) (x12 : Nat) (x13 : FF) (x14 : Int) (x17 : Nat → CV) : Nat → Nat → Int → FF → (Nat → FF → Option ρ) → Option ρ
  | 0, _, _, _, _ => none
  | m + 1, x15, x16, x18, k0 =>
    (bif (decide (x16 ≥ 0)) then (bif (inb x16 x12) then (bif (Nat.ble (x15 + 1) 1073741824) then (L159v1 fuel x12 x13 x14 x17 m (x15 + 1) (w64 (x16 - 1)) (joinF x15 x18 (rowsF 3 [(.i .i64 (CV.int (x13 (Int.toNat x16) 0))), (.i .i64 (CV.int (x13 (Int.toNat x16) 1))), (.i .i64 (CV.int (x13 (Int.toNat x16) 2)))])) k0) else none) else none) else (k0 x15 x18))
theorem nl159v1 {ρ σ : Type} (fuel : Nat) (x12 : Nat) (x13 : FF) (x14 : Int) (x17 : Nat → CV) (g : ρ → Option σ) : ∀ (m : Nat) (x15 : Nat) (x16 : Int) (x18 : FF) (k0 : Nat → FF → Option ρ), ob (L159v1 fuel x12 x13 x14 x17 m x15 x16 x18 k0) g = L159v1 fuel x12 x13 x14 x17 m x15 x16 x18 (fun x19 x20 => ob (k0 x19 x20) g)
  | 0, _, _, _, _ => rfl
  | m + 1, x15, x16, x18, k0 => by
    simp only [L159v1, ob_bif, ob_ob, ob_none, nl159v1 fuel x12 x13 x14 x17 g m]
theorem r159v1 (fuel : Nat) (m : Nat) {ρ : Type} (k : Ex → St → Option ρ) (x12 : Nat) (x13 : FF) (x14 : Int) (x17 : Nat → CV) (x15 : Nat) (x16 : Int) (x18 : FF) :
    loopH (B159v1 (C62 fuel) fuel) N159v1 (m + 1) (s159v0 x12 x13 x14 x15 x16 x17 x18) k =
    (bif (decide (x16 ≥ 0)) then (bif (inb x16 x12) then (bif (Nat.ble (x15 + 1) 1073741824) then (loopH (B159v1 (C62 fuel) fuel) N159v1 m (s159v0 x12 x13 x14 (x15 + 1) (w64 (x16 - 1)) x17 (joinF x15 x18 (rowsF 3 [(vi (CV.int (x13 (Int.toNat x16) 0))), (vi (CV.int (x13 (Int.toNat x16) 1))), (vi (CV.int (x13 (Int.toNat x16) 2)))]))) k) else none) else none) else (k (.exit 0) (s159v1 x12 x13 x14 x15 x17 x18))) := by kernel_rfl
theorem q159v1 (fuel : Nat) (x12 : Nat) (x13 : FF) (x14 : Int) (x17 : Nat → CV) {ρ : Type} (k : Ex → St → Option ρ) : ∀ (m : Nat) (x15 : Nat) (x16 : Int) (x18 : FF),
    loopH (B159v1 (C62 fuel) fuel) N159v1 m (s159v0 x12 x13 x14 x15 x16 x17 x18) k = L159v1 fuel x12 x13 x14 x17 m x15 x16 x18 (fun x19 x20 => k (.exit 0) (s159v1 x12 x13 x14 x19 x17 x20))
  | 0, _, _, _ => rfl
  | m + 1, x15, x16, x18 => by
    rw [r159v1]
    simp only [L159v1, q159v1 fuel x12 x13 x14 x17 k m]
def B159v2 (C : Oracle) (fuel : Nat) {ρ : Type} : St → (Ex → St → Option ρ) → Option ρ := fun st k => evalC C fuel A6v5 st k
def N159v2 : St → Option St := fun s => s.norm (rl 0 9 (rl 12 62 [])) 2
def s159v2 (x36 : Nat) (x37 : FF) (x38 : Nat) (x39 : FF) (x40 : Int) (x41 : Nat → CV) : St := ⟨(us 9 (.x (.c (.ro false (.pr .str kV) x36 x37)) :: .x (.c (.ro false (.pr .str kV) x38 x39)) :: vxi x40 :: (us 62 []))), [.box (pjc kR0 x41), .dead]⟩
def s159v3 (x41 : Nat → CV) : St := ⟨(us 6 (vxb false :: (us 67 []))), [.box (pjc kR0 x41), .dead]⟩
def s159v4 (x36 : Nat) (x37 : FF) (x38 : Nat) (x39 : FF) (x41 : Nat → CV) : St := ⟨(us 9 (.x (.c (.ro false (.pr .str kV) x36 x37)) :: .x (.c (.ro false (.pr .str kV) x38 x39)) :: (us 63 []))), [.box (pjc kR0 x41), .dead]⟩
def L159v2 {ρ : Type} (fuel : Nat) (x36 : Nat) (x37 : FF) (x38 : Nat) (x39 : FF) (x41 : Nat → CV) : Nat → Int → (Option ρ) → (Option ρ) → Option ρ
  | 0, _, _, _ => none
  | m + 1, x40, k0, k1 =>
    (bif (decide (x40 < (Int.ofNat x36))) then (bif (inb x40 x36) then (ob (F158 fuel x38 x39 (CV.str (x37 (Int.toNat x40) 0)) (CV.int (x37 (Int.toNat x40) 1)) (CV.int (x37 (Int.toNat x40) 2)) (CV.int (x37 (Int.toNat x40) 3))) fun x42 => (bif ((!x42) == false) then (bif (inbe x40 x36) then (bif (inb x40 x36) then (ob (F158 fuel ((Int.toNat x40) - 0) x37 (CV.str (x37 (Int.toNat x40) 0)) (CV.int (x37 (Int.toNat x40) 1)) (CV.int (x37 (Int.toNat x40) 2)) (CV.int (x37 (Int.toNat x40) 3))) fun x43 => (bif x43 then k0 else (L159v2 fuel x36 x37 x38 x39 x41 m (w64 (x40 + 1)) k0 k1))) else none) else none) else k0)) else none) else k1)
theorem nl159v2 {ρ σ : Type} (fuel : Nat) (x36 : Nat) (x37 : FF) (x38 : Nat) (x39 : FF) (x41 : Nat → CV) (g : ρ → Option σ) : ∀ (m : Nat) (x40 : Int) (k0 : Option ρ) (k1 : Option ρ), ob (L159v2 fuel x36 x37 x38 x39 x41 m x40 k0 k1) g = L159v2 fuel x36 x37 x38 x39 x41 m x40 (ob k0 g) (ob k1 g)
  | 0, _, _, _ => rfl
  | m + 1, x40, k0, k1 => by
    simp only [L159v2, ob_bif, ob_ob, ob_none, nl159v2 fuel x36 x37 x38 x39 x41 g m]
theorem r159v2 (fuel : Nat) (m : Nat) {ρ : Type} (k : Ex → St → Option ρ) (x36 : Nat) (x37 : FF) (x38 : Nat) (x39 : FF) (x41 : Nat → CV) (x40 : Int) :
    loopH (B159v2 (C62 fuel) fuel) N159v2 (m + 1) (s159v2 x36 x37 x38 x39 x40 x41) k =
    (bif (decide (x40 < (Int.ofNat x36))) then (bif (inb x40 x36) then (ob (F158 fuel x38 x39 (CV.str (x37 (Int.toNat x40) 0)) (CV.int (x37 (Int.toNat x40) 1)) (CV.int (x37 (Int.toNat x40) 2)) (CV.int (x37 (Int.toNat x40) 3))) fun x42 => (bif ((!x42) == false) then (bif (inbe x40 x36) then (bif (inb x40 x36) then (ob (F158 fuel ((Int.toNat x40) - 0) x37 (CV.str (x37 (Int.toNat x40) 0)) (CV.int (x37 (Int.toNat x40) 1)) (CV.int (x37 (Int.toNat x40) 2)) (CV.int (x37 (Int.toNat x40) 3))) fun x43 => (bif x43 then (k .ret (s159v3 x41)) else (loopH (B159v2 (C62 fuel) fuel) N159v2 m (s159v2 x36 x37 x38 x39 (w64 (x40 + 1)) x41) k))) else none) else none) else (k .ret (s159v3 x41)))) else none) else (k (.exit 2) (s159v4 x36 x37 x38 x39 x41))) := by kernel_rfl
theorem q159v2 (fuel : Nat) (x36 : Nat) (x37 : FF) (x38 : Nat) (x39 : FF) (x41 : Nat → CV) {ρ : Type} (k : Ex → St → Option ρ) : ∀ (m : Nat) (x40 : Int),
    loopH (B159v2 (C62 fuel) fuel) N159v2 m (s159v2 x36 x37 x38 x39 x40 x41) k = L159v2 fuel x36 x37 x38 x39 x41 m x40 (k .ret (s159v3 x41)) (k (.exit 2) (s159v4 x36 x37 x38 x39 x41))
  | 0, _ => rfl
  | m + 1, x40 => by
    rw [r159v2]
    simp only [L159v2, q159v2 fuel x36 x37 x38 x39 x41 k m]
def D159 {ρ : Type} (fuel : Nat) (x1 : Nat → CV) (x2 : Nat) (x3 : FF) (x4 : Int) (k : Bool → Option ρ) : Option ρ :=
  (ob (F100 fuel (listF (pj kR0 x1))) fun x5 => (bif ((!x5) == false) then (bif (decide ((Int.ofNat x2) > 40)) then (ob (F132 fuel) fun x6 => (k x6)) else (L159v1 fuel x2 x3 x4 x1 fuel 0 (w64 ((Int.ofNat x2) - 1)) (fun _ _ => .any)
    (fun x21 x22 => (ob (F121 fuel (listF (pj kR0 x1)) x2 x3 x4) fun x25 => (ob (F121 fuel (listF (pj kR0 x1)) x21 x22 x4) fun x26 => (L159v2 fuel x25.1 x25.2 x26.1 x26.2 x1 fuel 0
    (k false)
    (bif (((Int.ofNat x25.1) == (Int.ofNat x26.1)) == true) then (ob (F132 fuel) fun x44 => (k x44)) else (k false)))))))) else (ob (F132 fuel) fun x45 => (k x45))))
def F159 (fuel : Nat) (x1 : Nat → CV) (x2 : Nat) (x3 : FF) (x4 : Int) : Option (Bool) := D159 fuel x1 x2 x3 x4 some
theorem f159 {ρ : Type} (fuel : Nat) (x1 : Nat → CV) (x2 : Nat) (x3 : FF) (x4 : Int) (k : (Bool) → Option ρ) : D159 fuel x1 x2 x3 x4 k = ob (F159 fuel x1 x2 x3 x4) k := by
  simp only [F159, D159, ob_bif, ob_ob, ob_none, ob_some, nl159v1, nl159v2]
def s159v5 (x1 : Nat → CV) (x2 : Nat) (x3 : FF) (x4 : Int) : St := ⟨(.agg (pjc kR0 x1) :: .x (.c (.ro false kV x2 x3)) :: vxi x4 :: .x (.ptr 0 0) :: .undef :: .undef :: .u :: .x (.own 1 0 0) :: vxi (w64 ((Int.ofNat x2) - 1)) :: .undef :: .undef :: .undef :: (us 9 [.x (.c (.ro false kV x2 x3)), vxi (Int.ofNat x2), vxi (w64 ((Int.ofNat x2) - 1)), .undef, .undef, .undef, .undef, .undef, .undef, .undef, .undef, .undef, .undef, .undef, .undef, .undef, .undef, .undef, .undef, .undef, .undef, .undef, .undef, .undef, .undef, .undef, .undef, .undef, .undef, .undef, .undef, .undef, .undef, .undef, .undef, .undef, .undef, .undef, .undef, .undef, .undef, .undef, .undef, .undef, .undef, .undef, .undef, .undef, .undef, .undef, .undef, .undef, .undef])), [.box (pjc kR0 x1), .arr kV 0 nilF]⟩
theorem walk159 (fuel : Nat) (x1 : Nat → CV) (x2 : Nat) (x3 : FF) (x4 : Int) :
    evalF (C62 fuel) fuel A6 [.agg (pj kR0 x1), .v (.ro false kV x2 x3), .v (vi x4)] =
    (ob (F100 fuel (listF (pj kR0 x1))) fun x5 => (bif ((!x5) == false) then (bif (decide ((Int.ofNat x2) > 40)) then (ob (F132 fuel) fun x6 => (some [.v (.b x6)])) else (loopN (B159v1 (C62 fuel) fuel) N159v1 fuel (s159v5 x1 x2 x3 x4) (kBlk 0 (kSeq (C62 fuel) fuel (8 :: (rl 21 14 [])) A6v7 (finish A6))))) else (ob (F132 fuel) fun x45 => (some [.v (.b x45)])))) := by kernel_rfl
theorem t159v1 (fuel : Nat) {ρ : Type} (k : Ex → St → Option ρ) (x1 : Nat → CV) (x2 : Nat) (x3 : FF) (x4 : Int) :
    loopN (B159v1 (C62 fuel) fuel) N159v1 fuel (s159v5 x1 x2 x3 x4) k =
    L159v1 fuel x2 x3 x4 x1 fuel 0 (w64 ((Int.ofNat x2) - 1)) nilF (fun x19 x20 => k (.exit 0) (s159v1 x2 x3 x4 x19 x1 x20)) :=
  (loopN_at (st' := (s159v0 x2 x3 x4 0 (w64 ((Int.ofNat x2) - 1)) x1 nilF)) (by kernel_rfl)).trans (q159v1 fuel x2 x3 x4 x1 k fuel 0 (w64 ((Int.ofNat x2) - 1)) nilF)
def s159v6 (x2 : Nat) (x3 : FF) (x4 : Int) (x21 : Nat) (x22 : FF) (x25 x26 : Nat × FF) (x1 : Nat → CV) : St := ⟨(.u :: .x (.c (.ro false kV x2 x3)) :: vxi x4 :: .x (.ptr 0 0) :: (us 3 (.x (.c (.ro false kV x21 x22)) :: .u :: .x (.c (.ro false (.pr .str kV) x25.1 x25.2)) :: .x (.c (.ro false (.pr .str kV) x26.1 x26.2)) :: vxi 0 :: (us 23 (.agg (pjc kR0 x1) :: .x (.c (.ro false kV x2 x3)) :: vxi x4 :: .x (.c (.ro false (.pr .str kV) x25.1 x25.2)) :: .agg (pjc kR0 x1) :: .x (.c (.ro false kV x21 x22)) :: vxi x4 :: .x (.c (.ro false (.pr .str kV) x26.1 x26.2)) :: (us 31 [])))))), [.box (pjc kR0 x1), .dead]⟩
theorem g159v2 (fuel : Nat) (x2 : Nat) (x3 : FF) (x4 : Int) (x21 : Nat) (x1 : Nat → CV) (x22 : FF) :
    (kBlk 0 (kSeq (C62 fuel) fuel (8 :: (rl 21 14 [])) A6v7 (finish A6))) (.exit 0) (s159v1 x2 x3 x4 x21 x1 x22) =
    (ob (F121 fuel (listF (pj kR0 x1)) x2 x3 x4) fun x25 => (ob (F121 fuel (listF (pj kR0 x1)) x21 x22 x4) fun x26 => (loopN (B159v2 (C62 fuel) fuel) N159v2 fuel (s159v6 x2 x3 x4 x21 x22 x25 x26 x1) (kBlk 2 (kSeq (C62 fuel) fuel (6 :: 11 :: (rl 43 23 [])) A6v6 (finish A6)))))) := by kernel_rfl
theorem t159v3 (fuel : Nat) {ρ : Type} (k : Ex → St → Option ρ) (x2 : Nat) (x3 : FF) (x4 : Int) (x21 : Nat) (x22 : FF) (x25 x26 : Nat × FF) (x1 : Nat → CV) :
    loopN (B159v2 (C62 fuel) fuel) N159v2 fuel (s159v6 x2 x3 x4 x21 x22 x25 x26 x1) k =
    L159v2 fuel x25.1 x25.2 x26.1 x26.2 x1 fuel 0 (k .ret (s159v3 x1)) (k (.exit 2) (s159v4 x25.1 x25.2 x26.1 x26.2 x1)) :=
  (loopN_at (st' := (s159v2 x25.1 x25.2 x26.1 x26.2 0 x1)) (by kernel_rfl)).trans (q159v2 fuel x25.1 x25.2 x26.1 x26.2 x1 k fuel 0)
theorem g159v4 (fuel : Nat) (x1 : Nat → CV) :
    (kBlk 2 (kSeq (C62 fuel) fuel (6 :: 11 :: (rl 43 23 [])) A6v6 (finish A6))) .ret (s159v3 x1) =
    (some [.v (.b false)]) := by kernel_rfl
theorem g159v5 (fuel : Nat) (x25 x26 : Nat × FF) (x1 : Nat → CV) :
    (kBlk 2 (kSeq (C62 fuel) fuel (6 :: 11 :: (rl 43 23 [])) A6v6 (finish A6))) (.exit 2) (s159v4 x25.1 x25.2 x26.1 x26.2 x1) =
    (bif (((Int.ofNat x25.1) == (Int.ofNat x26.1)) == true) then (ob (F132 fuel) fun x44 => (some [.v (.b x44)])) else (some [.v (.b false)])) := by kernel_rfl
theorem e159 (fuel : Nat) (x1 : Nat → CV) (x2 : Nat) (x3 : FF) (x4 : Int) : evalF (C62 fuel) fuel A6 [.agg (pj kR0 x1), .v (.ro false kV x2 x3), .v (vi x4)] = ob (F159 fuel x1 x2 x3 x4) fun t => some [.v (.b t)] := by
  rw [walk159, ← f159]
  simp only [D159, t159v1, g159v2, t159v3, g159v4, g159v5]
def O159 (fuel : Nat) : Ora where
  o := fun args {ρ} K =>
    wc args fun a1 l2 =>
    wrow kR0 a1 fun y3 =>
    wcL kV l2 fun y8 y9 l6 =>
    wcI .i64 l6 fun y13 l11 =>
    wn l11 <|
    (ob (F159 fuel y3 y8 y9 y13) fun t => K [.v (.b t)])
  nat := fun args {ρ} K => by
    simp only [bind_wc, bind_wcI, bind_wcL, bind_wn, bind_wrow, bind_ob, Option.bind_some]
theorem d159 {P : Program} (fuel : Nat) (hmix : P.follows .mixedOrders = true) (hC : Sound P (C62 fuel)) (hF : FFits P 6 A6) (args res : List A) (h : (O159 fuel).o args some = some res) : Den P 6 args res := by
  obtain ⟨a1, l2, rfl, z0⟩ := inv_wc h
  obtain ⟨y3, h4, z1⟩ := inv_wrow z0
  obtain ⟨a5, y8, y9, l6, rfl, h7, z2⟩ := inv_wcL z1
  obtain ⟨a10, y13, l11, rfl, h12, z3⟩ := inv_wcI z2
  obtain ⟨hn, z4⟩ := inv_wn z3
  cases hn
  exact Den.weaken (.cons h4 (.cons h7 (.cons h12 .nil))) (evalF_sound hmix hC hF ((e159 fuel y3 y8 y9 y13).trans z4))
/- Functions that the plain texts alone name. -/
def D133 {ρ : Type} (fuel : Nat) (x1 x2 x3 x4 : Int) (k : Bool → Option ρ) : Option ρ :=
  (bif ((decide (x1 ≥ (-524288))) == true) then (bif ((decide (x1 ≤ 524288)) == true) then (bif ((decide (x2 ≥ (-524288))) == true) then (bif ((decide (x2 ≤ 524288)) == true) then (bif ((decide (x3 ≥ (-524288))) == true) then (bif ((decide (x3 ≤ 524288)) == true) then (bif ((decide (x4 ≥ 0)) == true) then (k (decide (x4 ≤ 23))) else (k false)) else (k false)) else (k false)) else (k false)) else (k false)) else (k false)) else (k false))
def F133 (fuel : Nat) (x1 x2 x3 x4 : Int) : Option (Bool) := D133 fuel x1 x2 x3 x4 some
def D134 {ρ : Type} (fuel : Nat) (x1 : Nat → CV) (k : (Nat × FF × Nat × FF) → Option ρ) : Option ρ :=
  (k ((CV.len (x1 6)), (CV.el (x1 6)), 0, (fun _ _ => .any)))
def FT134 (fuel : Nat) (x1 : Nat → CV) : Option (Nat × FF × Nat × FF) := D134 fuel x1 some
def F134 (fuel : Nat) (x1 : Nat → CV) : Option (Nat × FF × Nat × FF) := ob (FT134 fuel x1) fun t => some (t.1, t.2.1, 0, (fun _ _ => .any))
def D69 {ρ : Type} (fuel : Nat) (x1 x2 : Int) (k : Bool → Option ρ) : Option ρ :=
  (bif ((decide (x1 ≥ (-32768))) == true) then (bif ((decide (x1 ≤ 32768)) == true) then (bif ((decide (x2 ≥ (-32768))) == true) then (k (decide (x2 ≤ 32768))) else (k false)) else (k false)) else (k false))
def F69 (fuel : Nat) (x1 x2 : Int) : Option (Bool) := D69 fuel x1 x2 some
def L66v1 {ρ : Type} (fuel : Nat) (x6 : Nat) (x7 : FF) : Nat → Int → (Option ρ) → (Option ρ) → Option ρ
  | 0, _, _, _ => none
  | m + 1, x8, k0, k1 =>
    (bif (decide (x8 < (Int.ofNat x6))) then (bif (inb x8 x6) then (ob (F69 fuel (CV.int (x7 (Int.toNat x8) 0)) (CV.int (x7 (Int.toNat x8) 1))) fun x9 => (bif (!x9) then k0 else (L66v1 fuel x6 x7 m (w64 (x8 + 1)) k0 k1))) else none) else k1)
def D66 {ρ : Type} (fuel : Nat) (x1 : Nat) (x2 : FF) (k : Bool → Option ρ) : Option ρ :=
  (L66v1 fuel x1 x2 fuel 0
    (k false)
    (k true))
def F66 (fuel : Nat) (x1 : Nat) (x2 : FF) : Option (Bool) := D66 fuel x1 x2 some
def D71 {ρ : Type} (fuel : Nat) (x1 x2 x3 x4 x5 x6 : Int) (k : Int → Option ρ) : Option ρ :=
  (k (w64 ((w64 ((w64 (x3 - x1)) * (w64 (x6 - x2)))) - (w64 ((w64 (x4 - x2)) * (w64 (x5 - x1)))))))
def F71 (fuel : Nat) (x1 x2 x3 x4 x5 x6 : Int) : Option (Int) := D71 fuel x1 x2 x3 x4 x5 x6 some
def D70 {ρ : Type} (fuel : Nat) (x1 x2 x3 x4 x5 x6 : Int) (k : Bool → Option ρ) : Option ρ :=
  (ob (F71 fuel x3 x4 x5 x6 x1 x2) fun x7 => (bif ((x7 == 0) == true) then (bif ((decide ((if x5 < x3 then x5 else x3) ≤ x1)) == true) then (bif ((decide (x1 ≤ (if x5 > x3 then x5 else x3))) == true) then (bif ((decide ((if x6 < x4 then x6 else x4) ≤ x2)) == true) then (k (decide (x2 ≤ (if x6 > x4 then x6 else x4)))) else (k false)) else (k false)) else (k false)) else (k false)))
def F70 (fuel : Nat) (x1 x2 x3 x4 x5 x6 : Int) : Option (Bool) := D70 fuel x1 x2 x3 x4 x5 x6 some
def D88 {ρ : Type} (fuel : Nat) (x1 : Int) (k : Int → Option ρ) : Option ρ :=
  (bif (decide (x1 < 0)) then (k (-1)) else (bif (decide (x1 > 0)) then (k 1) else (k 0)))
def F88 (fuel : Nat) (x1 : Int) : Option (Int) := D88 fuel x1 some
def D82 {ρ : Type} (fuel : Nat) (x1 x2 x3 x4 x5 x6 x7 x8 : Int) (k : Bool → Option ρ) : Option ρ :=
  (ob (F70 fuel x1 x2 x5 x6 x7 x8) fun x9 => (bif (x9 == false) then (ob (F70 fuel x3 x4 x5 x6 x7 x8) fun x10 => (bif (x10 == false) then (ob (F70 fuel x5 x6 x1 x2 x3 x4) fun x11 => (bif (x11 == false) then (ob (F70 fuel x7 x8 x1 x2 x3 x4) fun x12 => (bif x12 then (k true) else (ob (F71 fuel x1 x2 x3 x4 x5 x6) fun x21 => (ob (F88 fuel x21) fun x22 => (ob (F71 fuel x1 x2 x3 x4 x7 x8) fun x23 => (ob (F88 fuel x23) fun x24 => (bif ((decide ((w64 (x22 * x24)) < 0)) == true) then (ob (F71 fuel x5 x6 x7 x8 x1 x2) fun x25 => (ob (F88 fuel x25) fun x26 => (ob (F71 fuel x5 x6 x7 x8 x3 x4) fun x27 => (ob (F88 fuel x27) fun x28 => (k (decide ((w64 (x26 * x28)) < 0))))))) else (k false)))))))) else (k true))) else (k true))) else (k true)))
def F82 (fuel : Nat) (x1 x2 x3 x4 x5 x6 x7 x8 : Int) : Option (Bool) := D82 fuel x1 x2 x3 x4 x5 x6 x7 x8 some
def L67v2 {ρ : Type} (fuel : Nat) (x17 : Nat) (x18 : FF) (x19 x20 : Int) : Nat → Int → (Option ρ) → (Option ρ) → Option ρ
  | 0, _, _, _ => none
  | m + 1, x21, k0, k1 =>
    (bif (decide (x21 < x20)) then (bif (inb x20 x17) then (bif (inb x21 x17) then (bif (((CV.int (x18 (Int.toNat x20) 0)) == (CV.int (x18 (Int.toNat x21) 0))) && (((CV.int (x18 (Int.toNat x20) 1)) == (CV.int (x18 (Int.toNat x21) 1))) && true)) then k0 else (L67v2 fuel x17 x18 x19 x20 m (w64 (x21 + 1)) k0 k1)) else none) else none) else k1)
def L67v3 {ρ : Type} (fuel : Nat) (x9 : Nat) (x10 : FF) (x11 : Int) : Nat → Int → (Option ρ) → (Option ρ) → Option ρ
  | 0, _, _, _ => none
  | m + 1, x12, k0, k1 =>
    (bif (decide (x12 < x11)) then (L67v2 fuel x9 x10 x11 x12 fuel 0
    k0
    (L67v3 fuel x9 x10 x11 m (w64 (x12 + 1)) k0 k1)) else k1)
def L67v5 {ρ : Type} (fuel : Nat) (x67 : Nat) (x68 : FF) (x69 x70 x72 x73 x74 x75 x76 x77 : Int) : Nat → Int → (Option ρ) → (Option ρ) → Option ρ
  | 0, _, _, _ => none
  | m + 1, x71, k0, k1 =>
    (bif (decide (x71 < x69)) then (bif (x69 == 0) then none else (bif (((Int.tmod (w64 (x71 + 1)) x69) != x70) == true) then (bif (inb x71 x67) then (bif (x69 == 0) then none else (bif (inb (Int.tmod (w64 (x71 + 1)) x69) x67) then (ob (F82 fuel x72 x73 x74 x75 (CV.int (x68 (Int.toNat x71) 0)) (CV.int (x68 (Int.toNat x71) 1)) (CV.int (x68 (Int.toNat (Int.tmod (w64 (x71 + 1)) x69)) 0)) (CV.int (x68 (Int.toNat (Int.tmod (w64 (x71 + 1)) x69)) 1))) fun x78 => (bif x78 then k0 else (L67v5 fuel x67 x68 x69 x70 x72 x73 x74 x75 x76 x77 m (w64 (x71 + 1)) k0 k1))) else none)) else none) else (L67v5 fuel x67 x68 x69 x70 x72 x73 x74 x75 x76 x77 m (w64 (x71 + 1)) k0 k1))) else k1)
def L67v6 {ρ : Type} (fuel : Nat) (x49 : Nat) (x50 : FF) (x51 : Int) : Nat → Int → (Int → Int → Int → Int → Int → Int → Option ρ) → (Option ρ) → Option ρ
  | 0, _, _, _ => none
  | m + 1, x52, k0, k1 =>
    (bif (decide (x52 < x51)) then (bif (inb x52 x49) then (bif (x51 == 0) then none else (bif (inb (Int.tmod (w64 (x52 + 1)) x51) x49) then (bif (x51 == 0) then none else (bif (inb (Int.tmod (w64 (x52 + 2)) x51) x49) then (ob (F70 fuel (CV.int (x50 (Int.toNat x52) 0)) (CV.int (x50 (Int.toNat x52) 1)) (CV.int (x50 (Int.toNat (Int.tmod (w64 (x52 + 1)) x51)) 0)) (CV.int (x50 (Int.toNat (Int.tmod (w64 (x52 + 1)) x51)) 1)) (CV.int (x50 (Int.toNat (Int.tmod (w64 (x52 + 2)) x51)) 0)) (CV.int (x50 (Int.toNat (Int.tmod (w64 (x52 + 2)) x51)) 1))) fun x53 => (bif (x53 == false) then (ob (F70 fuel (CV.int (x50 (Int.toNat (Int.tmod (w64 (x52 + 2)) x51)) 0)) (CV.int (x50 (Int.toNat (Int.tmod (w64 (x52 + 2)) x51)) 1)) (CV.int (x50 (Int.toNat x52) 0)) (CV.int (x50 (Int.toNat x52) 1)) (CV.int (x50 (Int.toNat (Int.tmod (w64 (x52 + 1)) x51)) 0)) (CV.int (x50 (Int.toNat (Int.tmod (w64 (x52 + 1)) x51)) 1))) fun x54 => (bif x54 then (k0 (CV.int (x50 (Int.toNat x52) 0)) (CV.int (x50 (Int.toNat x52) 1)) (CV.int (x50 (Int.toNat (Int.tmod (w64 (x52 + 1)) x51)) 0)) (CV.int (x50 (Int.toNat (Int.tmod (w64 (x52 + 1)) x51)) 1)) (CV.int (x50 (Int.toNat (Int.tmod (w64 (x52 + 2)) x51)) 0)) (CV.int (x50 (Int.toNat (Int.tmod (w64 (x52 + 2)) x51)) 1))) else (L67v5 fuel x49 x50 x51 x52 (CV.int (x50 (Int.toNat x52) 0)) (CV.int (x50 (Int.toNat x52) 1)) (CV.int (x50 (Int.toNat (Int.tmod (w64 (x52 + 1)) x51)) 0)) (CV.int (x50 (Int.toNat (Int.tmod (w64 (x52 + 1)) x51)) 1)) (CV.int (x50 (Int.toNat (Int.tmod (w64 (x52 + 2)) x51)) 0)) (CV.int (x50 (Int.toNat (Int.tmod (w64 (x52 + 2)) x51)) 1)) fuel (w64 (x52 + 2))
    (k0 (CV.int (x50 (Int.toNat x52) 0)) (CV.int (x50 (Int.toNat x52) 1)) (CV.int (x50 (Int.toNat (Int.tmod (w64 (x52 + 1)) x51)) 0)) (CV.int (x50 (Int.toNat (Int.tmod (w64 (x52 + 1)) x51)) 1)) (CV.int (x50 (Int.toNat (Int.tmod (w64 (x52 + 2)) x51)) 0)) (CV.int (x50 (Int.toNat (Int.tmod (w64 (x52 + 2)) x51)) 1)))
    (L67v6 fuel x49 x50 x51 m (w64 (x52 + 1)) k0 k1)))) else (k0 (CV.int (x50 (Int.toNat x52) 0)) (CV.int (x50 (Int.toNat x52) 1)) (CV.int (x50 (Int.toNat (Int.tmod (w64 (x52 + 1)) x51)) 0)) (CV.int (x50 (Int.toNat (Int.tmod (w64 (x52 + 1)) x51)) 1)) (CV.int (x50 (Int.toNat (Int.tmod (w64 (x52 + 2)) x51)) 0)) (CV.int (x50 (Int.toNat (Int.tmod (w64 (x52 + 2)) x51)) 1))))) else none)) else none)) else none) else k1)
def D67 {ρ : Type} (fuel : Nat) (x1 : Nat) (x2 : FF) (k : Bool → Option ρ) : Option ρ :=
  (L67v3 fuel x1 x2 (Int.ofNat x1) fuel 0
    (k false)
    (L67v6 fuel x1 x2 (Int.ofNat x1) fuel 0
    (fun x85 x86 x87 x88 x89 x90 => (k false))
    (k true)))
def F67 (fuel : Nat) (x1 : Nat) (x2 : FF) : Option (Bool) := D67 fuel x1 x2 some
def D37 {ρ : Type} (fuel : Nat) (x1 : Nat) (x2 : FF) (k : Int → Option ρ) : Option ρ :=
  (bif (decide ((Int.ofNat x1) < 3)) then (k 3) else (bif (decide ((Int.ofNat x1) > 32)) then (k 4) else (ob (F66 fuel x1 x2) fun x3 => (bif (!x3) then (k 9) else (ob (F67 fuel x1 x2) fun x4 => (bif (!x4) then (k 17) else (k 0)))))))
def F37 (fuel : Nat) (x1 : Nat) (x2 : FF) : Option (Int) := D37 fuel x1 x2 some
def L38v1 {ρ : Type} (fuel : Nat) (x6 : Nat) (x7 : FF) : Nat → Int → Int → (Int → Option ρ) → Option ρ
  | 0, _, _, _ => none
  | m + 1, x8, x9, k0 =>
    (bif (decide (x9 < (Int.ofNat x6))) then (bif (inb x9 x6) then (bif ((Int.ofNat x6) == 0) then none else (bif (inb (Int.tmod (w64 (x9 + 1)) (Int.ofNat x6)) x6) then (L38v1 fuel x6 x7 m (w64 ((w64 (x8 + (w64 ((CV.int (x7 (Int.toNat x9) 0)) * (CV.int (x7 (Int.toNat (Int.tmod (w64 (x9 + 1)) (Int.ofNat x6))) 1)))))) - (w64 ((CV.int (x7 (Int.toNat x9) 1)) * (CV.int (x7 (Int.toNat (Int.tmod (w64 (x9 + 1)) (Int.ofNat x6))) 0)))))) (w64 (x9 + 1)) k0) else none)) else none) else (k0 x8))
def D38 {ρ : Type} (fuel : Nat) (x1 : Nat) (x2 : FF) (k : Int → Option ρ) : Option ρ :=
  (ob (F37 fuel x1 x2) fun x3 => (bif (x3 != 0) then (k 0) else (L38v1 fuel x1 x2 fuel 0 0
    (fun x11 => (k x11)))))
def F38 (fuel : Nat) (x1 : Nat) (x2 : FF) : Option (Int) := D38 fuel x1 x2 some
def D84 {ρ : Type} (fuel : Nat) (x1 x2 x3 x4 x5 x6 : Int) (k : Int → Option ρ) : Option ρ :=
  (bif (decide ((w64 ((w64 ((w64 (x3 - x1)) * (w64 (x6 - x2)))) - (w64 ((w64 (x4 - x2)) * (w64 (x5 - x1)))))) > 0)) then (k 1) else (bif (decide ((w64 ((w64 ((w64 (x3 - x1)) * (w64 (x6 - x2)))) - (w64 ((w64 (x4 - x2)) * (w64 (x5 - x1)))))) < 0)) then (k (-1)) else (k 0)))
def F84 (fuel : Nat) (x1 x2 x3 x4 x5 x6 : Int) : Option (Int) := D84 fuel x1 x2 x3 x4 x5 x6 some
def D83 {ρ : Type} (fuel : Nat) (x1 x2 x3 x4 x5 x6 : Int) (k : Bool → Option ρ) : Option ρ :=
  (ob (F84 fuel x1 x2 x3 x4 x5 x6) fun x7 => (bif ((x7 == 0) == true) then (bif ((decide (x5 ≥ (if x3 < x1 then x3 else x1))) == true) then (bif ((decide (x5 ≤ (if x3 > x1 then x3 else x1))) == true) then (bif ((decide (x6 ≥ (if x4 < x2 then x4 else x2))) == true) then (k (decide (x6 ≤ (if x4 > x2 then x4 else x2)))) else (k false)) else (k false)) else (k false)) else (k false)))
def F83 (fuel : Nat) (x1 x2 x3 x4 x5 x6 : Int) : Option (Bool) := D83 fuel x1 x2 x3 x4 x5 x6 some
def D68 {ρ : Type} (fuel : Nat) (x1 x2 x3 x4 x5 x6 x7 x8 : Int) (k : Bool → Option ρ) : Option ρ :=
  (ob (F83 fuel x1 x2 x3 x4 x5 x6) fun x9 => (bif (x9 == false) then (ob (F83 fuel x1 x2 x3 x4 x7 x8) fun x10 => (bif (x10 == false) then (ob (F83 fuel x5 x6 x7 x8 x1 x2) fun x11 => (bif (x11 == false) then (ob (F83 fuel x5 x6 x7 x8 x3 x4) fun x12 => (bif x12 then (k true) else (ob (F84 fuel x1 x2 x3 x4 x5 x6) fun x17 => (ob (F84 fuel x1 x2 x3 x4 x7 x8) fun x18 => (bif ((decide ((w64 (x17 * x18)) < 0)) == true) then (ob (F84 fuel x5 x6 x7 x8 x1 x2) fun x19 => (ob (F84 fuel x5 x6 x7 x8 x3 x4) fun x20 => (k (decide ((w64 (x19 * x20)) < 0))))) else (k false)))))) else (k true))) else (k true))) else (k true)))
def F68 (fuel : Nat) (x1 x2 x3 x4 x5 x6 x7 x8 : Int) : Option (Bool) := D68 fuel x1 x2 x3 x4 x5 x6 x7 x8 some
def L39v2 {ρ : Type} (fuel : Nat) (x32 : Nat) (x33 : FF) (x34 : Nat) (x35 : FF) (x36 : Int) : Nat → Int → (Option ρ) → (Option ρ) → Option ρ
  | 0, _, _, _ => none
  | m + 1, x37, k0, k1 =>
    (bif (decide (x37 < (Int.ofNat x34))) then (bif (inb x36 x32) then (bif ((Int.ofNat x32) == 0) then none else (bif (inb (Int.tmod (w64 (x36 + 1)) (Int.ofNat x32)) x32) then (bif (inb x37 x34) then (bif ((Int.ofNat x34) == 0) then none else (bif (inb (Int.tmod (w64 (x37 + 1)) (Int.ofNat x34)) x34) then (ob (F68 fuel (CV.int (x33 (Int.toNat x36) 0)) (CV.int (x33 (Int.toNat x36) 1)) (CV.int (x33 (Int.toNat (Int.tmod (w64 (x36 + 1)) (Int.ofNat x32))) 0)) (CV.int (x33 (Int.toNat (Int.tmod (w64 (x36 + 1)) (Int.ofNat x32))) 1)) (CV.int (x35 (Int.toNat x37) 0)) (CV.int (x35 (Int.toNat x37) 1)) (CV.int (x35 (Int.toNat (Int.tmod (w64 (x37 + 1)) (Int.ofNat x34))) 0)) (CV.int (x35 (Int.toNat (Int.tmod (w64 (x37 + 1)) (Int.ofNat x34))) 1))) fun x38 => (bif x38 then k0 else (L39v2 fuel x32 x33 x34 x35 x36 m (w64 (x37 + 1)) k0 k1))) else none)) else none) else none)) else none) else k1)
def L39v3 {ρ : Type} (fuel : Nat) (x21 : Nat) (x22 : FF) (x23 : Nat) (x24 : FF) : Nat → Int → (Option ρ) → (Option ρ) → Option ρ
  | 0, _, _, _ => none
  | m + 1, x25, k0, k1 =>
    (bif (decide (x25 < (Int.ofNat x21))) then (L39v2 fuel x21 x22 x23 x24 x25 fuel 0
    k0
    (L39v3 fuel x21 x22 x23 x24 m (w64 (x25 + 1)) k0 k1)) else k1)
def D39 {ρ : Type} (fuel : Nat) (x1 : Nat) (x2 : FF) (x3 : Nat) (x4 : FF) (k : Bool → Option ρ) : Option ρ :=
  (L39v3 fuel x1 x2 x3 x4 fuel 0
    (k true)
    (k false))
def F39 (fuel : Nat) (x1 : Nat) (x2 : FF) (x3 : Nat) (x4 : FF) : Option (Bool) := D39 fuel x1 x2 x3 x4 some
def L40v1 {ρ : Type} (fuel : Nat) (x16 : Nat) (x17 : FF) (x20 x21 : Int) : Nat → Bool → Int → (Int → Int → Int → Int → Option ρ) → (Bool → Option ρ) → Option ρ
  | 0, _, _, _, _ => none
  | m + 1, x18, x19, k0, k1 =>
    (bif (decide (x19 < (Int.ofNat x16))) then (bif (inb x19 x16) then (bif ((Int.ofNat x16) == 0) then none else (bif (inb (Int.tmod (w64 (x19 + 1)) (Int.ofNat x16)) x16) then (ob (F70 fuel x20 x21 (CV.int (x17 (Int.toNat x19) 0)) (CV.int (x17 (Int.toNat x19) 1)) (CV.int (x17 (Int.toNat (Int.tmod (w64 (x19 + 1)) (Int.ofNat x16))) 0)) (CV.int (x17 (Int.toNat (Int.tmod (w64 (x19 + 1)) (Int.ofNat x16))) 1))) fun x22 => (bif x22 then (k0 (CV.int (x17 (Int.toNat x19) 0)) (CV.int (x17 (Int.toNat x19) 1)) (CV.int (x17 (Int.toNat (Int.tmod (w64 (x19 + 1)) (Int.ofNat x16))) 0)) (CV.int (x17 (Int.toNat (Int.tmod (w64 (x19 + 1)) (Int.ofNat x16))) 1))) else (bif ((decide ((CV.int (x17 (Int.toNat x19) 1)) ≤ x21)) == true) then (bif ((decide (x21 < (CV.int (x17 (Int.toNat (Int.tmod (w64 (x19 + 1)) (Int.ofNat x16))) 1)))) == true) then (ob (F71 fuel (CV.int (x17 (Int.toNat x19) 0)) (CV.int (x17 (Int.toNat x19) 1)) (CV.int (x17 (Int.toNat (Int.tmod (w64 (x19 + 1)) (Int.ofNat x16))) 0)) (CV.int (x17 (Int.toNat (Int.tmod (w64 (x19 + 1)) (Int.ofNat x16))) 1)) x20 x21) fun x23 => (bif ((decide ((CV.int (x17 (Int.toNat (Int.tmod (w64 (x19 + 1)) (Int.ofNat x16))) 1)) ≤ x21)) == true) then (bif ((decide (x21 < (CV.int (x17 (Int.toNat x19) 1)))) == true) then (ob (F71 fuel (CV.int (x17 (Int.toNat x19) 0)) (CV.int (x17 (Int.toNat x19) 1)) (CV.int (x17 (Int.toNat (Int.tmod (w64 (x19 + 1)) (Int.ofNat x16))) 0)) (CV.int (x17 (Int.toNat (Int.tmod (w64 (x19 + 1)) (Int.ofNat x16))) 1)) x20 x21) fun x24 => (bif ((decide (x23 > 0)) == false) then (bif (decide (x24 < 0)) then (L40v1 fuel x16 x17 x20 x21 m (!x18) (w64 (x19 + 1)) k0 k1) else (L40v1 fuel x16 x17 x20 x21 m x18 (w64 (x19 + 1)) k0 k1)) else (L40v1 fuel x16 x17 x20 x21 m (!x18) (w64 (x19 + 1)) k0 k1))) else (bif ((decide (x23 > 0)) == false) then (L40v1 fuel x16 x17 x20 x21 m x18 (w64 (x19 + 1)) k0 k1) else (L40v1 fuel x16 x17 x20 x21 m (!x18) (w64 (x19 + 1)) k0 k1))) else (bif ((decide (x23 > 0)) == false) then (L40v1 fuel x16 x17 x20 x21 m x18 (w64 (x19 + 1)) k0 k1) else (L40v1 fuel x16 x17 x20 x21 m (!x18) (w64 (x19 + 1)) k0 k1)))) else (bif ((decide ((CV.int (x17 (Int.toNat (Int.tmod (w64 (x19 + 1)) (Int.ofNat x16))) 1)) ≤ x21)) == true) then (bif ((decide (x21 < (CV.int (x17 (Int.toNat x19) 1)))) == true) then (ob (F71 fuel (CV.int (x17 (Int.toNat x19) 0)) (CV.int (x17 (Int.toNat x19) 1)) (CV.int (x17 (Int.toNat (Int.tmod (w64 (x19 + 1)) (Int.ofNat x16))) 0)) (CV.int (x17 (Int.toNat (Int.tmod (w64 (x19 + 1)) (Int.ofNat x16))) 1)) x20 x21) fun x25 => (bif (decide (x25 < 0)) then (L40v1 fuel x16 x17 x20 x21 m (!x18) (w64 (x19 + 1)) k0 k1) else (L40v1 fuel x16 x17 x20 x21 m x18 (w64 (x19 + 1)) k0 k1))) else (L40v1 fuel x16 x17 x20 x21 m x18 (w64 (x19 + 1)) k0 k1)) else (L40v1 fuel x16 x17 x20 x21 m x18 (w64 (x19 + 1)) k0 k1))) else (bif ((decide ((CV.int (x17 (Int.toNat (Int.tmod (w64 (x19 + 1)) (Int.ofNat x16))) 1)) ≤ x21)) == true) then (bif ((decide (x21 < (CV.int (x17 (Int.toNat x19) 1)))) == true) then (ob (F71 fuel (CV.int (x17 (Int.toNat x19) 0)) (CV.int (x17 (Int.toNat x19) 1)) (CV.int (x17 (Int.toNat (Int.tmod (w64 (x19 + 1)) (Int.ofNat x16))) 0)) (CV.int (x17 (Int.toNat (Int.tmod (w64 (x19 + 1)) (Int.ofNat x16))) 1)) x20 x21) fun x26 => (bif (decide (x26 < 0)) then (L40v1 fuel x16 x17 x20 x21 m (!x18) (w64 (x19 + 1)) k0 k1) else (L40v1 fuel x16 x17 x20 x21 m x18 (w64 (x19 + 1)) k0 k1))) else (L40v1 fuel x16 x17 x20 x21 m x18 (w64 (x19 + 1)) k0 k1)) else (L40v1 fuel x16 x17 x20 x21 m x18 (w64 (x19 + 1)) k0 k1))))) else none)) else none) else (k1 x18))
def D40 {ρ : Type} (fuel : Nat) (x1 : Nat) (x2 : FF) (x3 x4 : Int) (k : Int → Option ρ) : Option ρ :=
  (ob (F37 fuel x1 x2) fun x5 => (bif ((x5 != 0) == false) then (ob (F69 fuel x3 x4) fun x6 => (bif (!x6) then (k (-1)) else (L40v1 fuel x1 x2 x3 x4 fuel false 0
    (fun x32 x33 x34 x35 => (k 0))
    (fun x36 => (bif x36 then (k 1) else (k (-1))))))) else (k (-1))))
def F40 (fuel : Nat) (x1 : Nat) (x2 : FF) (x3 x4 : Int) : Option (Int) := D40 fuel x1 x2 x3 x4 some
def L14v2 {ρ : Type} (fuel : Nat) (x46 : Int) (x47 : Nat) (x48 : FF) (x50 : Nat) (x51 : FF) (x52 : Nat) (x53 : FF) : Nat → Int → (Option ρ) → (Option ρ) → Option ρ
  | 0, _, _, _ => none
  | m + 1, x49, k0, k1 =>
    (bif (decide (x49 < x46)) then (bif (inb x49 x52) then (ob (F39 fuel x47 x48 (CV.len (x53 (Int.toNat x49) 0)) (CV.el (x53 (Int.toNat x49) 0))) fun x54 => (bif (x54 == false) then (bif (inb x49 x52) then (bif (inb 0 (CV.len (x53 (Int.toNat x49) 0))) then (ob (F40 fuel x47 x48 (CV.int ((CV.el (x53 (Int.toNat x49) 0)) 0 0)) (CV.int ((CV.el (x53 (Int.toNat x49) 0)) 0 1))) fun x55 => (bif ((x55 != (-1)) == false) then (bif (inb x49 x52) then (bif (inb 0 x47) then (ob (F40 fuel (CV.len (x53 (Int.toNat x49) 0)) (CV.el (x53 (Int.toNat x49) 0)) (CV.int (x48 0 0)) (CV.int (x48 0 1))) fun x56 => (bif (x56 != (-1)) then k0 else (L14v2 fuel x46 x47 x48 x50 x51 x52 x53 m (w64 (x49 + 1)) k0 k1))) else none) else none) else k0)) else none) else none) else k0)) else none) else k1)
def L14v3 {ρ : Type} (fuel : Nat) (x25 : Nat) (x26 : FF) (x27 : Nat) (x28 : FF) : Nat → Int → (Int → Option ρ) → (Option ρ) → Option ρ
  | 0, _, _, _ => none
  | m + 1, x24, k0, k1 =>
    (bif (decide (x24 < (Int.ofNat x27))) then (bif (inb x24 x27) then (ob (F37 fuel (CV.len (x28 (Int.toNat x24) 0)) (CV.el (x28 (Int.toNat x24) 0))) fun x29 => (bif (x29 != 0) then (k0 x29) else (ob (F38 fuel (CV.len (x28 (Int.toNat x24) 0)) (CV.el (x28 (Int.toNat x24) 0))) fun x30 => (bif ((decide (x30 ≥ 0)) == false) then (ob (F39 fuel x25 x26 (CV.len (x28 (Int.toNat x24) 0)) (CV.el (x28 (Int.toNat x24) 0))) fun x31 => (bif (x31 == false) then (bif (inb 0 (CV.len (x28 (Int.toNat x24) 0))) then (ob (F40 fuel x25 x26 (CV.int ((CV.el (x28 (Int.toNat x24) 0)) 0 0)) (CV.int ((CV.el (x28 (Int.toNat x24) 0)) 0 1))) fun x32 => (bif (x32 != 1) then (k0 17) else (L14v2 fuel x24 (CV.len (x28 (Int.toNat x24) 0)) (CV.el (x28 (Int.toNat x24) 0)) x25 x26 x27 x28 fuel 0
    (k0 17)
    (L14v3 fuel x25 x26 x27 x28 m (w64 (x24 + 1)) k0 k1)))) else none) else (k0 17))) else (k0 17))))) else none) else k1)
def D14 {ρ : Type} (fuel : Nat) (x1 : Nat) (x2 : FF) (x3 : Nat) (x4 : FF) (k : Int → Option ρ) : Option ρ :=
  (bif (decide ((Int.ofNat x3) > 8)) then (k 12) else (ob (F37 fuel x1 x2) fun x5 => (bif (x5 != 0) then (k x5) else (ob (F38 fuel x1 x2) fun x6 => (bif (decide (x6 ≤ 0)) then (k 17) else (L14v3 fuel x1 x2 x3 x4 fuel 0
    (fun x58 => (k x58))
    (k 0)))))))
def F14 (fuel : Nat) (x1 : Nat) (x2 : FF) (x3 : Nat) (x4 : FF) : Option (Int) := D14 fuel x1 x2 x3 x4 some
def D135 {ρ : Type} (fuel : Nat) (x1 : Nat → CV) (k : Bool → Option ρ) : Option ρ :=
  (bif (((CV.int (x1 2)) == 1) == true) then (ob (F133 fuel (CV.int (x1 14)) (CV.int (x1 15)) (CV.int (x1 16)) (CV.int (x1 17))) fun x2 => (bif (x2 == true) then (ob (F134 fuel (listF (pj kR0 x1))) fun x3 => (ob (F14 fuel x3.1 x3.2.1 x3.2.2.1 x3.2.2.2) fun x4 => (k (x4 == 0)))) else (k false))) else (k false))
def F135 (fuel : Nat) (x1 : Nat → CV) : Option (Bool) := D135 fuel x1 some
def D136 {ρ : Type} (fuel : Nat) (x1 x2 x3 : Int) (k : Bool → Option ρ) : Option ρ :=
  (bif ((decide (x1 ≥ (-1099511627776))) == true) then (bif ((decide (x1 ≤ 1099511627776)) == true) then (bif ((decide (x2 ≥ (-1099511627776))) == true) then (bif ((decide (x2 ≤ 1099511627776)) == true) then (bif ((decide (x3 ≥ (-1099511627776))) == true) then (k (decide (x3 ≤ 1099511627776))) else (k false)) else (k false)) else (k false)) else (k false)) else (k false))
def F136 (fuel : Nat) (x1 x2 x3 : Int) : Option (Bool) := D136 fuel x1 x2 x3 some
def D137 {ρ : Type} (fuel : Nat) (x1 x2 x3 x4 x5 x6 : Int) (k : (Int × Int × Int) → Option ρ) : Option ρ :=
  (k ((w64 (x1 - x4)), (w64 (x2 - x5)), (w64 (x3 - x6))))
def F137 (fuel : Nat) (x1 x2 x3 x4 x5 x6 : Int) : Option (Int × Int × Int) := D137 fuel x1 x2 x3 x4 x5 x6 some
def D138 {ρ : Type} (fuel : Nat) (x1 x2 x3 x4 x5 x6 : Int) (k : (Int × Int × Int) → Option ρ) : Option ρ :=
  (ob (F136 fuel x1 x2 x3) fun x7 => (bif ((!x7) == false) then (ob (F136 fuel x4 x5 x6) fun x8 => (bif (!x8) then (k (0, 0, 0)) else (ob (F137 fuel x1 x2 x3 x4 x5 x6) fun x9 => (k (x9.1, x9.2.1, x9.2.2))))) else (k (0, 0, 0))))
def F138 (fuel : Nat) (x1 x2 x3 x4 x5 x6 : Int) : Option (Int × Int × Int) := D138 fuel x1 x2 x3 x4 x5 x6 some
def D140 {ρ : Type} (fuel : Nat) (x1 : Int) (k : Int → Option ρ) : Option ρ :=
  (bif ((decide (x1 < 0)) == false) then (bif (decide (x1 > 23)) then (k 0) else (k x1)) else (k 0))
def F140 (fuel : Nat) (x1 : Int) : Option (Int) := D140 fuel x1 some
def L141v1 {ρ : Type} (fuel : Nat) (x9 x13 : Int) : Nat → Int → Int → Int → (Int → Int → Option ρ) → Option ρ
  | 0, _, _, _, _ => none
  | m + 1, x10, x11, x12, k0 =>
    (bif (decide (x10 < x9)) then (L141v1 fuel x9 x13 m (w64 (x10 + 1)) (w64 (0 - x12)) x11 k0) else (k0 x11 x12))
def D141 {ρ : Type} (fuel : Nat) (x1 x2 x3 x4 : Int) (k : (Int × Int × Int) → Option ρ) : Option ρ :=
  (L141v1 fuel x4 x3 fuel 0 x1 x2
    (fun x16 x17 => (k (x16, x17, x3))))
def F141 (fuel : Nat) (x1 x2 x3 x4 : Int) : Option (Int × Int × Int) := D141 fuel x1 x2 x3 x4 some
def D142 {ρ : Type} (fuel : Nat) (x1 x2 x3 x4 : Int) (k : (Int × Int × Int) → Option ρ) : Option ρ :=
  (bif (x4 == 1) then (k (x1, (w64 (0 - x3)), x2)) else (bif (x4 == 2) then (k (x1, (w64 (0 - x2)), (w64 (0 - x3)))) else (bif (x4 == 3) then (k (x1, x3, (w64 (0 - x2)))) else (bif (x4 == 4) then (k (x3, x2, (w64 (0 - x1)))) else (bif (x4 == 5) then (k ((w64 (0 - x3)), x2, x1)) else (k (x1, x2, x3)))))))
def F142 (fuel : Nat) (x1 x2 x3 x4 : Int) : Option (Int × Int × Int) := D142 fuel x1 x2 x3 x4 some
def D143 {ρ : Type} (fuel : Nat) (x1 x2 x3 x4 : Int) (k : (Int × Int × Int) → Option ρ) : Option ρ :=
  (ob (F141 fuel x1 x2 x3 (Int.tmod x4 4)) fun x5 => (ob (F142 fuel x5.1 x5.2.1 x5.2.2 (w64 (Int.tdiv x4 4))) fun x6 => (k (x6.1, x6.2.1, x6.2.2))))
def F143 (fuel : Nat) (x1 x2 x3 x4 : Int) : Option (Int × Int × Int) := D143 fuel x1 x2 x3 x4 some
def L144v1 {ρ : Type} (fuel : Nat) (x17 x18 x19 : Int) : Nat → Int → (Int → Option ρ) → (Option ρ) → Option ρ
  | 0, _, _, _ => none
  | m + 1, x16, k0, k1 =>
    (bif (decide (x16 < 24)) then (ob (F143 fuel 1 2 3 x16) fun x20 => (bif ((x20.1 == x17) && ((x20.2.1 == x18) && ((x20.2.2 == x19) && true))) then (k0 x16) else (L144v1 fuel x17 x18 x19 m (w64 (x16 + 1)) k0 k1))) else k1)
def D144 {ρ : Type} (fuel : Nat) (x1 x2 : Int) (k : Int → Option ρ) : Option ρ :=
  (ob (F140 fuel x1) fun x7 => (ob (F143 fuel 1 2 3 x7) fun x8 => (ob (F140 fuel x2) fun x9 => (ob (F143 fuel x8.1 x8.2.1 x8.2.2 x9) fun x10 => (L144v1 fuel x10.1 x10.2.1 x10.2.2 fuel 0
    (fun x22 => (k x22))
    (k 0))))))
def F144 (fuel : Nat) (x1 x2 : Int) : Option (Int) := D144 fuel x1 x2 some
def L145v1 {ρ : Type} (fuel : Nat) (x5 : Int) : Nat → Int → (Int → Option ρ) → (Option ρ) → Option ρ
  | 0, _, _, _ => none
  | m + 1, x6, k0, k1 =>
    (bif (decide (x6 < 24)) then (ob (F140 fuel x5) fun x7 => (ob (F144 fuel x7 x6) fun x8 => (bif (x8 == 0) then (k0 x6) else (L145v1 fuel x5 m (w64 (x6 + 1)) k0 k1)))) else k1)
def D145 {ρ : Type} (fuel : Nat) (x1 : Int) (k : Int → Option ρ) : Option ρ :=
  (L145v1 fuel x1 fuel 0
    (fun x10 => (k x10))
    (k 0))
def F145 (fuel : Nat) (x1 : Int) : Option (Int) := D145 fuel x1 some
def L23v1 {ρ : Type} (fuel : Nat) (x20 : Nat) (x21 : FF) (x22 : Nat) (x23 : FF) (x24 x25 : Int) : Nat → Int → Int → (Int → Option ρ) → Option ρ
  | 0, _, _, _ => none
  | m + 1, x18, x19, k0 =>
    (bif (decide (x19 < (Int.ofNat x22))) then (bif (inb x19 x22) then (ob (F40 fuel (CV.len (x23 (Int.toNat x19) 0)) (CV.el (x23 (Int.toNat x19) 0)) x24 x25) fun x26 => (L23v1 fuel x20 x21 x22 x23 x24 x25 m (if (w64 (0 - x26)) < x18 then (w64 (0 - x26)) else x18) (w64 (x19 + 1)) k0)) else none) else (k0 x18))
def D23 {ρ : Type} (fuel : Nat) (x1 : Nat) (x2 : FF) (x3 : Nat) (x4 : FF) (x5 x6 : Int) (k : Int → Option ρ) : Option ρ :=
  (ob (F14 fuel x1 x2 x3 x4) fun x7 => (bif (x7 != 0) then (k (-1)) else (ob (F40 fuel x1 x2 x5 x6) fun x8 => (L23v1 fuel x1 x2 x3 x4 x5 x6 fuel x8 0
    (fun x28 => (k x28))))))
def F23 (fuel : Nat) (x1 : Nat) (x2 : FF) (x3 : Nat) (x4 : FF) (x5 x6 : Int) : Option (Int) := D23 fuel x1 x2 x3 x4 x5 x6 some
end Go.Eng.R13
