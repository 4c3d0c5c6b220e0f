/-
  The functions of the program, run on symbols; printed by decomp.py.
-/
import Derived.Test.YtbjfmobjdipehaaDoorDecT1
set_option linter.all false
set_option maxRecDepth 1000000
set_option maxHeartbeats 4000000
namespace Go.Eng.R13
open Go Go.RowKit Go.Eng
def A16v1 : AC := (.region 9 [o1 35 (bk .add 3 23 1), mv 23 35] 0 none)
def A16v2 : AC := (.seq (.block 3
  (.seq (.region 6 [o1 25 (.indexAddr 36 42 4 (tm 21) (tm 23)), o1 26 (ln 42 4 25), o1 10 (.alloc 0 42 [vcs ByteArray.empty, vci 0, vci 0, vci 0]), o0 (.store 42 4 (tm 10) (tm 26))] 1 none) []
    (.seq (.region 7 [o1 27 (ln 31 18 8), o1 28 (ln 42 4 10), o1 29 (cs 14 [27, 28] [31, 42]), o1 30 (.unOp .not 4 (tm 29))] 0 none) []
    (.cond (tm 30)
    (.region 8 [mv 31 6, o1 32 (ln 42 4 10), o1 33 (.buildSlice 0 36 42 (.pr .str kV) 1 [vcs ByteArray.empty, vci 0, vci 0, vci 0] [(0, (tm 32))]), o1 34 (.append 1 36 42 (.pr .str kV) 40 (tm 31) (tm 33)), o1 6 (sg 34)] 2 none)
    .skip)))) (10 :: (rl 25 10 []))
  A16v1)
def A16v3 : AC := (.seq (.region 5 [o1 24 (bt .lss 3 23 22)] 0 none) []
  (.seq (.cond (tm 24)
  .skip
  (.exit 2 (0 :: 3 :: 4 :: 5 :: (rl 7 5 (rl 15 23 []))))) []
  A16v2))
def A16v4 : AC := (.region 10 [o1 36 (bk .add 3 14 1), mv 14 36] 0 none)
def A16v5 : AC := (.seq (.block 1
  (.seq (.region 3 [o1 16 (.indexAddr 44 31 18 (tm 12) (tm 14)), o1 17 (ln 31 18 16), o1 8 (.alloc 0 31 [vcs ByteArray.empty, vci 0, vci 0, vcs ByteArray.empty, vcs ByteArray.empty, vci 0, vcn, vcn, vcs ByteArray.empty, vci 0, vci 0, vci 0, vci 0, vci 0, vci 0, vci 0, vci 0, vci 0]), o0 (.store 31 18 (tm 8) (tm 17))] 1 none) []
    (.seq (.region 4 [o1 18 (ln 31 18 8), mv 19 1, mv 20 2, o1 21 (cf 12 [18, 19, 20] [31, 32, 3]), o1 22 (.len 36 false (tm 21)), o1 23 (.move (ic 0))] 0 none) []
    (.block 2
    (.loop [.slot 6 (.pr .str kV)] (0 :: 3 :: 4 :: 5 :: 7 :: 9 :: 10 :: 11 :: (rl 15 6 (rl 24 14 [])))
      A16v3))))) (8 :: 10 :: (rl 16 20 []))
  A16v4)
def A16v6 : AC := (.seq (.region 2 [o1 15 (bt .lss 3 14 13)] 0 none) []
  (.seq (.cond (tm 15)
  .skip
  (.exit 0 (rl 0 6 (rl 7 31 [])))) []
  A16v5))
def A16v7 : AC := (.seq (.region 11 [mv 37 6, o1 6 (sg 37)] 0 none) []
  (.ret (rl 0 6 (rl 7 31 []))))
def A16 : AF := ⟨38, [.tmp 6],
  (.seq (.region 0 [o1 3 (bx 0 50 0), o1 6 (.assign (.const (.slice none 0 0)))] 1 none) []
  (.seq (.seq (.region 1 [o1 11 (fa 50 3 2 2), o1 12 (lo 44 11), o1 13 (.len 44 false (tm 12)), o1 14 (.move (ic 0))] 0 none) []
  (.block 0
  (.loop [.slot 6 (.pr .str kV)] (0 :: 3 :: 4 :: 5 :: (rl 7 5 (rl 15 23 [])))
    A16v6))) (8 :: (rl 10 27 []))
  A16v7))⟩
def B130v2 (C : Oracle) (fuel : Nat) {ρ : Type} : St → (Ex → St → Option ρ) → Option ρ := fun st k => evalC C fuel A16v3 st k
def N130v2 : St → Option St := fun s => s.norm (0 :: 3 :: 4 :: 5 :: 7 :: 9 :: 10 :: 11 :: (rl 15 6 (rl 24 14 []))) 3
def s130v0 (x177 : Nat) (x178 : FF) (x179 : Int) (x180 x181 : Nat) (x182 : FF) (x183 x184 : Int) (x185 : Nat) (x186 : FF) (x187 x188 : Int) (x189 : ByteArray) (x190 : Nat) (x191 : FF) (x192 : Nat) (x193 : FF) (x194 : Nat) (x195 : FF) (x196 : Nat) (x197 x198 : FF) (x199 : ByteArray) (x200 x201 : Int) (x202 x203 : ByteArray) (x204 : Int) (x205 : Nat) (x206 : FF) (x207 : Nat) (x208 : FF) (x209 : ByteArray) (x210 x211 x212 x213 x214 x215 x216 x217 x218 : Int) : St := ⟨(.u :: .x (.c (.ro false kV x177 x178)) :: vxi x179 :: (us 3 (.x (.own 1 0 x180) :: .u :: .x (.ptr 2 0) :: (us 3 (.x (.c (.ro false (.pr .str (.pr (.int .i64) (.pr (.int .i64) (.pr .str (.pr .str (.pr (.int .i64) (.pr (.sl kP) (.pr (.sl (.pr (.sl kP) .nil)) (.pr .str (.pr (.int .i64) (.pr (.int .i64) (.pr (.int .i64) (.pr (.int .i64) (.pr (.int .i64) (.pr (.int .i64) kV))))))))))))))) x181 x182)) :: vxi x183 :: vxi x184 :: (us 6 (.x (.c (.ro false (.pr .str kV) x185 x186)) :: vxi x187 :: vxi x188 :: (us 14 [])))))))), [.box [(vcs x189), (.c (.ro false (.pr .str (.pr (.int .i64) (.pr .str .nil))) x190 x191)), (.c (.ro false (.pr .str (.pr (.int .i64) (.pr (.int .i64) (.pr .str (.pr .str (.pr (.int .i64) (.pr (.sl kP) (.pr (.sl (.pr (.sl kP) .nil)) (.pr .str (.pr (.int .i64) (.pr (.int .i64) (.pr (.int .i64) (.pr (.int .i64) (.pr (.int .i64) (.pr (.int .i64) kV))))))))))))))) x181 x182)), (.c (.ro false (.pr .str (.pr .str (.pr .str kV))) x192 x193)), (.c (.ro false (.pr .str (.pr .str (.pr (.sl (.pr .str .nil)) (.pr (.int .i64) (.pr (.sl (.pr .str .nil)) .nil))))) x194 x195)), (.c (.ro false (.pr (.int .i64) (.pr .str (.pr .str .nil))) x196 x197))], .arr (.pr .str kV) x180 x198, .box [(vcs x199), (vci x200), (vci x201), (vcs x202), (vcs x203), (vci x204), (.c (.ro false kP x205 x206)), (.c (.ro false (.pr (.sl kP) .nil) x207 x208)), (vcs x209), (vci x210), (vci x211), (vci x212), (vci x213), (vci x214), (vci x215), (vci x216), (vci x217), (vci x218)]]⟩
def s130v1 (x177 : Nat) (x178 : FF) (x179 : Int) (x220 x181 : Nat) (x182 : FF) (x183 x184 : Int) (x189 : ByteArray) (x190 : Nat) (x191 : FF) (x192 : Nat) (x193 : FF) (x194 : Nat) (x195 : FF) (x196 : Nat) (x197 x221 : FF) (x199 : ByteArray) (x200 x201 : Int) (x202 x203 : ByteArray) (x204 : Int) (x205 : Nat) (x206 : FF) (x207 : Nat) (x208 : FF) (x209 : ByteArray) (x210 x211 x212 x213 x214 x215 x216 x217 x218 : Int) : St := ⟨(.u :: .x (.c (.ro false kV x177 x178)) :: vxi x179 :: (us 3 (.x (.own 1 0 x220) :: (us 5 (.x (.c (.ro false (.pr .str (.pr (.int .i64) (.pr (.int .i64) (.pr .str (.pr .str (.pr (.int .i64) (.pr (.sl kP) (.pr (.sl (.pr (.sl kP) .nil)) (.pr .str (.pr (.int .i64) (.pr (.int .i64) (.pr (.int .i64) (.pr (.int .i64) (.pr (.int .i64) (.pr (.int .i64) kV))))))))))))))) x181 x182)) :: vxi x183 :: vxi x184 :: (us 23 [])))))), [.box [(vcs x189), (.c (.ro false (.pr .str (.pr (.int .i64) (.pr .str .nil))) x190 x191)), (.c (.ro false (.pr .str (.pr (.int .i64) (.pr (.int .i64) (.pr .str (.pr .str (.pr (.int .i64) (.pr (.sl kP) (.pr (.sl (.pr (.sl kP) .nil)) (.pr .str (.pr (.int .i64) (.pr (.int .i64) (.pr (.int .i64) (.pr (.int .i64) (.pr (.int .i64) (.pr (.int .i64) kV))))))))))))))) x181 x182)), (.c (.ro false (.pr .str (.pr .str (.pr .str kV))) x192 x193)), (.c (.ro false (.pr .str (.pr .str (.pr (.sl (.pr .str .nil)) (.pr (.int .i64) (.pr (.sl (.pr .str .nil)) .nil))))) x194 x195)), (.c (.ro false (.pr (.int .i64) (.pr .str (.pr .str .nil))) x196 x197))], .arr (.pr .str kV) x220 x221, .box [(vcs x199), (vci x200), (vci x201), (vcs x202), (vcs x203), (vci x204), (.c (.ro false kP x205 x206)), (.c (.ro false (.pr (.sl kP) .nil) x207 x208)), (vcs x209), (vci x210), (vci x211), (vci x212), (vci x213), (vci x214), (vci x215), (vci x216), (vci x217), (vci x218)]]⟩
def L130v2 {ρ : Type} (fuel : Nat) (x177 : Nat) (x178 : FF) (x179 : Int) (x181 : Nat) (x182 : FF) (x183 x184 : Int) (x185 : Nat) (x186 : FF) (x187 : Int) (x189 : ByteArray) (x190 : Nat) (x191 : FF) (x192 : Nat) (x193 : FF) (x194 : Nat) (x195 : FF) (x196 : Nat) (x197 : FF) (x199 : ByteArray) (x200 x201 : Int) (x202 x203 : ByteArray) (x204 : Int) (x205 : Nat) (x206 : FF) (x207 : Nat) (x208 : FF) (x209 : ByteArray) (x210 x211 x212 x213 x214 x215 x216 x217 x218 : Int) : Nat → Nat → Int → FF → (Nat → FF → Option ρ) → Option ρ
  | 0, _, _, _, _ => none
  | m + 1, x180, x188, x198, k0 =>
    (bif (decide (x188 < x187)) then (bif (inb x188 x185) then (ob (F129 fuel (listF [(.s x199), (.i .i64 x200), (.i .i64 x201), (.s x202), (.s x203), (.i .i64 x204), (.ro false (.pr (.int .i64) (.pr (.int .i64) .nil)) x205 x206), (.ro false (.pr (.sl (.pr (.int .i64) (.pr (.int .i64) .nil))) .nil) x207 x208), (.s x209), (.i .i64 x210), (.i .i64 x211), (.i .i64 x212), (.i .i64 x213), (.i .i64 x214), (.i .i64 x215), (.i .i64 x216), (.i .i64 x217), (.i .i64 x218)]) (CV.str (x186 (Int.toNat x188) 0)) (CV.int (x186 (Int.toNat x188) 1)) (CV.int (x186 (Int.toNat x188) 2)) (CV.int (x186 (Int.toNat x188) 3))) fun x219 => (bif (!x219) then (bif (Nat.ble (x180 + 1) 1073741824) then (L130v2 fuel x177 x178 x179 x181 x182 x183 x184 x185 x186 x187 x189 x190 x191 x192 x193 x194 x195 x196 x197 x199 x200 x201 x202 x203 x204 x205 x206 x207 x208 x209 x210 x211 x212 x213 x214 x215 x216 x217 x218 m (x180 + 1) (w64 (x188 + 1)) (joinF x180 x198 (rowsF 4 [(.s (CV.str (x186 (Int.toNat x188) 0))), (.i .i64 (CV.int (x186 (Int.toNat x188) 1))), (.i .i64 (CV.int (x186 (Int.toNat x188) 2))), (.i .i64 (CV.int (x186 (Int.toNat x188) 3)))])) k0) else none) else (L130v2 fuel x177 x178 x179 x181 x182 x183 x184 x185 x186 x187 x189 x190 x191 x192 x193 x194 x195 x196 x197 x199 x200 x201 x202 x203 x204 x205 x206 x207 x208 x209 x210 x211 x212 x213 x214 x215 x216 x217 x218 m x180 (w64 (x188 + 1)) x198 k0))) else none) else (k0 x180 x198))
theorem nl130v2 {ρ σ : Type} (fuel : Nat) (x177 : Nat) (x178 : FF) (x179 : Int) (x181 : Nat) (x182 : FF) (x183 x184 : Int) (x185 : Nat) (x186 : FF) (x187 : Int) (x189 : ByteArray) (x190 : Nat) (x191 : FF) (x192 : Nat) (x193 : FF) (x194 : Nat) (x195 : FF) (x196 : Nat) (x197 : FF) (x199 : ByteArray) (x200 x201 : Int) (x202 x203 : ByteArray) (x204 : Int) (x205 : Nat) (x206 : FF) (x207 : Nat) (x208 : FF) (x209 : ByteArray) (x210 x211 x212 x213 x214 x215 x216 x217 x218 : Int) (g : ρ → Option σ) : ∀ (m : Nat) (x180 : Nat) (x188 : Int) (x198 : FF) (k0 : Nat → FF → Option ρ), ob (L130v2 fuel x177 x178 x179 x181 x182 x183 x184 x185 x186 x187 x189 x190 x191 x192 x193 x194 x195 x196 x197 x199 x200 x201 x202 x203 x204 x205 x206 x207 x208 x209 x210 x211 x212 x213 x214 x215 x216 x217 x218 m x180 x188 x198 k0) g = L130v2 fuel x177 x178 x179 x181 x182 x183 x184 x185 x186 x187 x189 x190 x191 x192 x193 x194 x195 x196 x197 x199 x200 x201 x202 x203 x204 x205 x206 x207 x208 x209 x210 x211 x212 x213 x214 x215 x216 x217 x218 m x180 x188 x198 (fun x220 x221 => ob (k0 x220 x221) g)
  | 0, _, _, _, _ => rfl
  | m + 1, x180, x188, x198, k0 => by
    simp only [L130v2, ob_bif, ob_ob, ob_none, nl130v2 fuel x177 x178 x179 x181 x182 x183 x184 x185 x186 x187 x189 x190 x191 x192 x193 x194 x195 x196 x197 x199 x200 x201 x202 x203 x204 x205 x206 x207 x208 x209 x210 x211 x212 x213 x214 x215 x216 x217 x218 g m]
theorem r130v2 (fuel : Nat) (m : Nat) {ρ : Type} (k : Ex → St → Option ρ) (x177 : Nat) (x178 : FF) (x179 : Int) (x181 : Nat) (x182 : FF) (x183 x184 : Int) (x185 : Nat) (x186 : FF) (x187 : Int) (x189 : ByteArray) (x190 : Nat) (x191 : FF) (x192 : Nat) (x193 : FF) (x194 : Nat) (x195 : FF) (x196 : Nat) (x197 : FF) (x199 : ByteArray) (x200 x201 : Int) (x202 x203 : ByteArray) (x204 : Int) (x205 : Nat) (x206 : FF) (x207 : Nat) (x208 : FF) (x209 : ByteArray) (x210 x211 x212 x213 x214 x215 x216 x217 x218 : Int) (x180 : Nat) (x188 : Int) (x198 : FF) :
    loopH (B130v2 (C58 fuel) fuel) N130v2 (m + 1) (s130v0 x177 x178 x179 x180 x181 x182 x183 x184 x185 x186 x187 x188 x189 x190 x191 x192 x193 x194 x195 x196 x197 x198 x199 x200 x201 x202 x203 x204 x205 x206 x207 x208 x209 x210 x211 x212 x213 x214 x215 x216 x217 x218) k =
    (bif (decide (x188 < x187)) then (bif (inb x188 x185) then (ob (F129 fuel (listF [(.s x199), (vi x200), (vi x201), (.s x202), (.s x203), (vi x204), (.ro false kP x205 x206), (.ro false (.pr (.sl kP) .nil) x207 x208), (.s x209), (vi x210), (vi x211), (vi x212), (vi x213), (vi x214), (vi x215), (vi x216), (vi x217), (vi x218)]) (CV.str (x186 (Int.toNat x188) 0)) (CV.int (x186 (Int.toNat x188) 1)) (CV.int (x186 (Int.toNat x188) 2)) (CV.int (x186 (Int.toNat x188) 3))) fun x219 => (bif (!x219) then (bif (Nat.ble (x180 + 1) 1073741824) then (loopH (B130v2 (C58 fuel) fuel) N130v2 m (s130v0 x177 x178 x179 (x180 + 1) x181 x182 x183 x184 x185 x186 x187 (w64 (x188 + 1)) x189 x190 x191 x192 x193 x194 x195 x196 x197 (joinF x180 x198 (rowsF 4 [(.s (CV.str (x186 (Int.toNat x188) 0))), (vi (CV.int (x186 (Int.toNat x188) 1))), (vi (CV.int (x186 (Int.toNat x188) 2))), (vi (CV.int (x186 (Int.toNat x188) 3)))])) x199 x200 x201 x202 x203 x204 x205 x206 x207 x208 x209 x210 x211 x212 x213 x214 x215 x216 x217 x218) k) else none) else (loopH (B130v2 (C58 fuel) fuel) N130v2 m (s130v0 x177 x178 x179 x180 x181 x182 x183 x184 x185 x186 x187 (w64 (x188 + 1)) x189 x190 x191 x192 x193 x194 x195 x196 x197 x198 x199 x200 x201 x202 x203 x204 x205 x206 x207 x208 x209 x210 x211 x212 x213 x214 x215 x216 x217 x218) k))) else none) else (k (.exit 2) (s130v1 x177 x178 x179 x180 x181 x182 x183 x184 x189 x190 x191 x192 x193 x194 x195 x196 x197 x198 x199 x200 x201 x202 x203 x204 x205 x206 x207 x208 x209 x210 x211 x212 x213 x214 x215 x216 x217 x218))) := by kernel_rfl
theorem q130v2 (fuel : Nat) (x177 : Nat) (x178 : FF) (x179 : Int) (x181 : Nat) (x182 : FF) (x183 x184 : Int) (x185 : Nat) (x186 : FF) (x187 : Int) (x189 : ByteArray) (x190 : Nat) (x191 : FF) (x192 : Nat) (x193 : FF) (x194 : Nat) (x195 : FF) (x196 : Nat) (x197 : FF) (x199 : ByteArray) (x200 x201 : Int) (x202 x203 : ByteArray) (x204 : Int) (x205 : Nat) (x206 : FF) (x207 : Nat) (x208 : FF) (x209 : ByteArray) (x210 x211 x212 x213 x214 x215 x216 x217 x218 : Int) {ρ : Type} (k : Ex → St → Option ρ) : ∀ (m : Nat) (x180 : Nat) (x188 : Int) (x198 : FF),
    loopH (B130v2 (C58 fuel) fuel) N130v2 m (s130v0 x177 x178 x179 x180 x181 x182 x183 x184 x185 x186 x187 x188 x189 x190 x191 x192 x193 x194 x195 x196 x197 x198 x199 x200 x201 x202 x203 x204 x205 x206 x207 x208 x209 x210 x211 x212 x213 x214 x215 x216 x217 x218) k = L130v2 fuel x177 x178 x179 x181 x182 x183 x184 x185 x186 x187 x189 x190 x191 x192 x193 x194 x195 x196 x197 x199 x200 x201 x202 x203 x204 x205 x206 x207 x208 x209 x210 x211 x212 x213 x214 x215 x216 x217 x218 m x180 x188 x198 (fun x220 x221 => k (.exit 2) (s130v1 x177 x178 x179 x220 x181 x182 x183 x184 x189 x190 x191 x192 x193 x194 x195 x196 x197 x221 x199 x200 x201 x202 x203 x204 x205 x206 x207 x208 x209 x210 x211 x212 x213 x214 x215 x216 x217 x218))
  | 0, _, _, _ => rfl
  | m + 1, x180, x188, x198 => by
    rw [r130v2]
    simp only [L130v2, q130v2 fuel x177 x178 x179 x181 x182 x183 x184 x185 x186 x187 x189 x190 x191 x192 x193 x194 x195 x196 x197 x199 x200 x201 x202 x203 x204 x205 x206 x207 x208 x209 x210 x211 x212 x213 x214 x215 x216 x217 x218 k m]
def B130v3 (C : Oracle) (fuel : Nat) {ρ : Type} : St → (Ex → St → Option ρ) → Option ρ := fun st k => evalC C fuel A16v6 st k
def N130v3 : St → Option St := fun s => s.norm (0 :: 3 :: 4 :: 5 :: (rl 7 5 (rl 15 23 []))) 2
def s130v2 (x116 : Nat) (x117 : FF) (x118 : Int) (x119 x120 : Nat) (x121 : FF) (x122 x123 : Int) (x124 : ByteArray) (x125 : Nat) (x126 : FF) (x127 : Nat) (x128 : FF) (x129 : Nat) (x130 : FF) (x131 : Nat) (x132 x133 : FF) : St := ⟨(.u :: .x (.c (.ro false kV x116 x117)) :: vxi x118 :: (us 3 (.x (.own 1 0 x119) :: (us 5 (.x (.c (.ro false (.pr .str (.pr (.int .i64) (.pr (.int .i64) (.pr .str (.pr .str (.pr (.int .i64) (.pr (.sl kP) (.pr (.sl (.pr (.sl kP) .nil)) (.pr .str (.pr (.int .i64) (.pr (.int .i64) (.pr (.int .i64) (.pr (.int .i64) (.pr (.int .i64) (.pr (.int .i64) kV))))))))))))))) x120 x121)) :: vxi x122 :: vxi x123 :: (us 23 [])))))), [.box [(vcs x124), (.c (.ro false (.pr .str (.pr (.int .i64) (.pr .str .nil))) x125 x126)), (.c (.ro false (.pr .str (.pr (.int .i64) (.pr (.int .i64) (.pr .str (.pr .str (.pr (.int .i64) (.pr (.sl kP) (.pr (.sl (.pr (.sl kP) .nil)) (.pr .str (.pr (.int .i64) (.pr (.int .i64) (.pr (.int .i64) (.pr (.int .i64) (.pr (.int .i64) (.pr (.int .i64) kV))))))))))))))) x120 x121)), (.c (.ro false (.pr .str (.pr .str (.pr .str kV))) x127 x128)), (.c (.ro false (.pr .str (.pr .str (.pr (.sl (.pr .str .nil)) (.pr (.int .i64) (.pr (.sl (.pr .str .nil)) .nil))))) x129 x130)), (.c (.ro false (.pr (.int .i64) (.pr .str (.pr .str .nil))) x131 x132))], .arr (.pr .str kV) x119 x133]⟩
def s130v3 (x224 : Nat) (x124 : ByteArray) (x125 : Nat) (x126 : FF) (x120 : Nat) (x121 : FF) (x127 : Nat) (x128 : FF) (x129 : Nat) (x130 : FF) (x131 : Nat) (x132 x225 : FF) : St := ⟨(us 6 (.x (.own 1 0 x224) :: (us 31 []))), [.box [(vcs x124), (.c (.ro false (.pr .str (.pr (.int .i64) (.pr .str .nil))) x125 x126)), (.c (.ro false (.pr .str (.pr (.int .i64) (.pr (.int .i64) (.pr .str (.pr .str (.pr (.int .i64) (.pr (.sl kP) (.pr (.sl (.pr (.sl kP) .nil)) (.pr .str (.pr (.int .i64) (.pr (.int .i64) (.pr (.int .i64) (.pr (.int .i64) (.pr (.int .i64) (.pr (.int .i64) kV))))))))))))))) x120 x121)), (.c (.ro false (.pr .str (.pr .str (.pr .str kV))) x127 x128)), (.c (.ro false (.pr .str (.pr .str (.pr (.sl (.pr .str .nil)) (.pr (.int .i64) (.pr (.sl (.pr .str .nil)) .nil))))) x129 x130)), (.c (.ro false (.pr (.int .i64) (.pr .str (.pr .str .nil))) x131 x132))], .arr (.pr .str kV) x224 x225]⟩
def L130v3 {ρ : Type} (fuel : Nat) (x116 : Nat) (x117 : FF) (x118 : Int) (x120 : Nat) (x121 : FF) (x122 : Int) (x124 : ByteArray) (x125 : Nat) (x126 : FF) (x127 : Nat) (x128 : FF) (x129 : Nat) (x130 : FF) (x131 : Nat) (x132 : FF) : Nat → Nat → Int → FF → (Nat → FF → Option ρ) → Option ρ
  | 0, _, _, _, _ => none
  | m + 1, x119, x123, x133, k0 =>
    (bif (decide (x123 < x122)) then (bif (inb x123 x120) then (ob (F121 fuel (listF [(.s (CV.str (x121 (Int.toNat x123) 0))), (.i .i64 (CV.int (x121 (Int.toNat x123) 1))), (.i .i64 (CV.int (x121 (Int.toNat x123) 2))), (.s (CV.str (x121 (Int.toNat x123) 3))), (.s (CV.str (x121 (Int.toNat x123) 4))), (.i .i64 (CV.int (x121 (Int.toNat x123) 5))), (.ro false (.pr (.int .i64) (.pr (.int .i64) .nil)) (CV.len (x121 (Int.toNat x123) 6)) (CV.el (x121 (Int.toNat x123) 6))), (.ro false (.pr (.sl (.pr (.int .i64) (.pr (.int .i64) .nil))) .nil) (CV.len (x121 (Int.toNat x123) 7)) (CV.el (x121 (Int.toNat x123) 7))), (.s (CV.str (x121 (Int.toNat x123) 8))), (.i .i64 (CV.int (x121 (Int.toNat x123) 9))), (.i .i64 (CV.int (x121 (Int.toNat x123) 10))), (.i .i64 (CV.int (x121 (Int.toNat x123) 11))), (.i .i64 (CV.int (x121 (Int.toNat x123) 12))), (.i .i64 (CV.int (x121 (Int.toNat x123) 13))), (.i .i64 (CV.int (x121 (Int.toNat x123) 14))), (.i .i64 (CV.int (x121 (Int.toNat x123) 15))), (.i .i64 (CV.int (x121 (Int.toNat x123) 16))), (.i .i64 (CV.int (x121 (Int.toNat x123) 17)))]) x116 x117 x118) fun x134 => (L130v2 fuel x116 x117 x118 x120 x121 x122 x123 x134.1 x134.2 (Int.ofNat x134.1) x124 x125 x126 x127 x128 x129 x130 x131 x132 (CV.str (x121 (Int.toNat x123) 0)) (CV.int (x121 (Int.toNat x123) 1)) (CV.int (x121 (Int.toNat x123) 2)) (CV.str (x121 (Int.toNat x123) 3)) (CV.str (x121 (Int.toNat x123) 4)) (CV.int (x121 (Int.toNat x123) 5)) (CV.len (x121 (Int.toNat x123) 6)) (CV.el (x121 (Int.toNat x123) 6)) (CV.len (x121 (Int.toNat x123) 7)) (CV.el (x121 (Int.toNat x123) 7)) (CV.str (x121 (Int.toNat x123) 8)) (CV.int (x121 (Int.toNat x123) 9)) (CV.int (x121 (Int.toNat x123) 10)) (CV.int (x121 (Int.toNat x123) 11)) (CV.int (x121 (Int.toNat x123) 12)) (CV.int (x121 (Int.toNat x123) 13)) (CV.int (x121 (Int.toNat x123) 14)) (CV.int (x121 (Int.toNat x123) 15)) (CV.int (x121 (Int.toNat x123) 16)) (CV.int (x121 (Int.toNat x123) 17)) fuel x119 0 x133
    (fun x222 x223 => (L130v3 fuel x116 x117 x118 x120 x121 x122 x124 x125 x126 x127 x128 x129 x130 x131 x132 m x222 (w64 (x123 + 1)) x223 k0)))) else none) else (k0 x119 x133))
theorem nl130v3 {ρ σ : Type} (fuel : Nat) (x116 : Nat) (x117 : FF) (x118 : Int) (x120 : Nat) (x121 : FF) (x122 : Int) (x124 : ByteArray) (x125 : Nat) (x126 : FF) (x127 : Nat) (x128 : FF) (x129 : Nat) (x130 : FF) (x131 : Nat) (x132 : FF) (g : ρ → Option σ) : ∀ (m : Nat) (x119 : Nat) (x123 : Int) (x133 : FF) (k0 : Nat → FF → Option ρ), ob (L130v3 fuel x116 x117 x118 x120 x121 x122 x124 x125 x126 x127 x128 x129 x130 x131 x132 m x119 x123 x133 k0) g = L130v3 fuel x116 x117 x118 x120 x121 x122 x124 x125 x126 x127 x128 x129 x130 x131 x132 m x119 x123 x133 (fun x224 x225 => ob (k0 x224 x225) g)
  | 0, _, _, _, _ => rfl
  | m + 1, x119, x123, x133, k0 => by
    simp only [L130v3, ob_bif, ob_ob, ob_none, nl130v3 fuel x116 x117 x118 x120 x121 x122 x124 x125 x126 x127 x128 x129 x130 x131 x132 g m, nl130v2]
def s130v4 (x116 : Nat) (x117 : FF) (x118 : Int) (x119 x120 : Nat) (x121 : FF) (x122 x123 : Int) (x134 : Nat × FF) (x124 : ByteArray) (x125 : Nat) (x126 : FF) (x127 : Nat) (x128 : FF) (x129 : Nat) (x130 : FF) (x131 : Nat) (x132 x133 : FF) : St := ⟨(.u :: .x (.c (.ro false kV x116 x117)) :: vxi x118 :: (us 3 (.x (.own 1 0 x119) :: .u :: .x (.ptr 2 0) :: (us 3 (.x (.c (.ro false (.pr .str (.pr (.int .i64) (.pr (.int .i64) (.pr .str (.pr .str (.pr (.int .i64) (.pr (.sl kP) (.pr (.sl (.pr (.sl kP) .nil)) (.pr .str (.pr (.int .i64) (.pr (.int .i64) (.pr (.int .i64) (.pr (.int .i64) (.pr (.int .i64) (.pr (.int .i64) kV))))))))))))))) x120 x121)) :: vxi x122 :: vxi x123 :: vxb true :: .x (.c (.rp (.pr .str (.pr (.int .i64) (.pr (.int .i64) (.pr .str (.pr .str (.pr (.int .i64) (.pr (.sl kP) (.pr (.sl (.pr (.sl kP) .nil)) (.pr .str (.pr (.int .i64) (.pr (.int .i64) (.pr (.int .i64) (.pr (.int .i64) (.pr (.int .i64) (.pr (.int .i64) kV))))))))))))))) (x121 (Int.toNat x123)))) :: .agg [(vcs (CV.str (x121 (Int.toNat x123) 0))), (vci (CV.int (x121 (Int.toNat x123) 1))), (vci (CV.int (x121 (Int.toNat x123) 2))), (vcs (CV.str (x121 (Int.toNat x123) 3))), (vcs (CV.str (x121 (Int.toNat x123) 4))), (vci (CV.int (x121 (Int.toNat x123) 5))), (.c (.ro false kP (CV.len (x121 (Int.toNat x123) 6)) (CV.el (x121 (Int.toNat x123) 6)))), (.c (.ro false (.pr (.sl kP) .nil) (CV.len (x121 (Int.toNat x123) 7)) (CV.el (x121 (Int.toNat x123) 7)))), (vcs (CV.str (x121 (Int.toNat x123) 8))), (vci (CV.int (x121 (Int.toNat x123) 9))), (vci (CV.int (x121 (Int.toNat x123) 10))), (vci (CV.int (x121 (Int.toNat x123) 11))), (vci (CV.int (x121 (Int.toNat x123) 12))), (vci (CV.int (x121 (Int.toNat x123) 13))), (vci (CV.int (x121 (Int.toNat x123) 14))), (vci (CV.int (x121 (Int.toNat x123) 15))), (vci (CV.int (x121 (Int.toNat x123) 16))), (vci (CV.int (x121 (Int.toNat x123) 17)))] :: .agg [(vcs (CV.str (x121 (Int.toNat x123) 0))), (vci (CV.int (x121 (Int.toNat x123) 1))), (vci (CV.int (x121 (Int.toNat x123) 2))), (vcs (CV.str (x121 (Int.toNat x123) 3))), (vcs (CV.str (x121 (Int.toNat x123) 4))), (vci (CV.int (x121 (Int.toNat x123) 5))), (.c (.ro false kP (CV.len (x121 (Int.toNat x123) 6)) (CV.el (x121 (Int.toNat x123) 6)))), (.c (.ro false (.pr (.sl kP) .nil) (CV.len (x121 (Int.toNat x123) 7)) (CV.el (x121 (Int.toNat x123) 7)))), (vcs (CV.str (x121 (Int.toNat x123) 8))), (vci (CV.int (x121 (Int.toNat x123) 9))), (vci (CV.int (x121 (Int.toNat x123) 10))), (vci (CV.int (x121 (Int.toNat x123) 11))), (vci (CV.int (x121 (Int.toNat x123) 12))), (vci (CV.int (x121 (Int.toNat x123) 13))), (vci (CV.int (x121 (Int.toNat x123) 14))), (vci (CV.int (x121 (Int.toNat x123) 15))), (vci (CV.int (x121 (Int.toNat x123) 16))), (vci (CV.int (x121 (Int.toNat x123) 17)))] :: .x (.c (.ro false kV x116 x117)) :: vxi x118 :: .x (.c (.ro false (.pr .str kV) x134.1 x134.2)) :: vxi (Int.ofNat x134.1) :: vxi 0 :: (us 14 [])))))), [.box [(vcs x124), (.c (.ro false (.pr .str (.pr (.int .i64) (.pr .str .nil))) x125 x126)), (.c (.ro false (.pr .str (.pr (.int .i64) (.pr (.int .i64) (.pr .str (.pr .str (.pr (.int .i64) (.pr (.sl kP) (.pr (.sl (.pr (.sl kP) .nil)) (.pr .str (.pr (.int .i64) (.pr (.int .i64) (.pr (.int .i64) (.pr (.int .i64) (.pr (.int .i64) (.pr (.int .i64) kV))))))))))))))) x120 x121)), (.c (.ro false (.pr .str (.pr .str (.pr .str kV))) x127 x128)), (.c (.ro false (.pr .str (.pr .str (.pr (.sl (.pr .str .nil)) (.pr (.int .i64) (.pr (.sl (.pr .str .nil)) .nil))))) x129 x130)), (.c (.ro false (.pr (.int .i64) (.pr .str (.pr .str .nil))) x131 x132))], .arr (.pr .str kV) x119 x133, .box [(vcs (CV.str (x121 (Int.toNat x123) 0))), (vci (CV.int (x121 (Int.toNat x123) 1))), (vci (CV.int (x121 (Int.toNat x123) 2))), (vcs (CV.str (x121 (Int.toNat x123) 3))), (vcs (CV.str (x121 (Int.toNat x123) 4))), (vci (CV.int (x121 (Int.toNat x123) 5))), (.c (.ro false kP (CV.len (x121 (Int.toNat x123) 6)) (CV.el (x121 (Int.toNat x123) 6)))), (.c (.ro false (.pr (.sl kP) .nil) (CV.len (x121 (Int.toNat x123) 7)) (CV.el (x121 (Int.toNat x123) 7)))), (vcs (CV.str (x121 (Int.toNat x123) 8))), (vci (CV.int (x121 (Int.toNat x123) 9))), (vci (CV.int (x121 (Int.toNat x123) 10))), (vci (CV.int (x121 (Int.toNat x123) 11))), (vci (CV.int (x121 (Int.toNat x123) 12))), (vci (CV.int (x121 (Int.toNat x123) 13))), (vci (CV.int (x121 (Int.toNat x123) 14))), (vci (CV.int (x121 (Int.toNat x123) 15))), (vci (CV.int (x121 (Int.toNat x123) 16))), (vci (CV.int (x121 (Int.toNat x123) 17)))]]⟩
theorem r130v3 (fuel : Nat) (m : Nat) {ρ : Type} (k : Ex → St → Option ρ) (x116 : Nat) (x117 : FF) (x118 : Int) (x120 : Nat) (x121 : FF) (x122 : Int) (x124 : ByteArray) (x125 : Nat) (x126 : FF) (x127 : Nat) (x128 : FF) (x129 : Nat) (x130 : FF) (x131 : Nat) (x132 : FF) (x119 : Nat) (x123 : Int) (x133 : FF) :
    loopH (B130v3 (C58 fuel) fuel) N130v3 (m + 1) (s130v2 x116 x117 x118 x119 x120 x121 x122 x123 x124 x125 x126 x127 x128 x129 x130 x131 x132 x133) k =
    (bif (decide (x123 < x122)) then (bif (inb x123 x120) then (ob (F121 fuel (listF [(.s (CV.str (x121 (Int.toNat x123) 0))), (vi (CV.int (x121 (Int.toNat x123) 1))), (vi (CV.int (x121 (Int.toNat x123) 2))), (.s (CV.str (x121 (Int.toNat x123) 3))), (.s (CV.str (x121 (Int.toNat x123) 4))), (vi (CV.int (x121 (Int.toNat x123) 5))), (.ro false kP (CV.len (x121 (Int.toNat x123) 6)) (CV.el (x121 (Int.toNat x123) 6))), (.ro false (.pr (.sl kP) .nil) (CV.len (x121 (Int.toNat x123) 7)) (CV.el (x121 (Int.toNat x123) 7))), (.s (CV.str (x121 (Int.toNat x123) 8))), (vi (CV.int (x121 (Int.toNat x123) 9))), (vi (CV.int (x121 (Int.toNat x123) 10))), (vi (CV.int (x121 (Int.toNat x123) 11))), (vi (CV.int (x121 (Int.toNat x123) 12))), (vi (CV.int (x121 (Int.toNat x123) 13))), (vi (CV.int (x121 (Int.toNat x123) 14))), (vi (CV.int (x121 (Int.toNat x123) 15))), (vi (CV.int (x121 (Int.toNat x123) 16))), (vi (CV.int (x121 (Int.toNat x123) 17)))]) x116 x117 x118) fun x134 => (loopN (B130v2 (C58 fuel) fuel) N130v2 fuel (s130v4 x116 x117 x118 x119 x120 x121 x122 x123 x134 x124 x125 x126 x127 x128 x129 x130 x131 x132 x133) (kBlk 2 (kBlk 1 (kSeq (C58 fuel) fuel (8 :: 10 :: (rl 16 20 [])) A16v4 (kLoop (B130v3 (C58 fuel) fuel) N130v3 m k)))))) else none) else (k (.exit 0) (s130v3 x119 x124 x125 x126 x120 x121 x127 x128 x129 x130 x131 x132 x133))) := by kernel_rfl
theorem t130v1 (fuel : Nat) {ρ : Type} (k : Ex → St → Option ρ) (x116 : Nat) (x117 : FF) (x118 : Int) (x119 x120 : Nat) (x121 : FF) (x122 x123 : Int) (x134 : Nat × FF) (x124 : ByteArray) (x125 : Nat) (x126 : FF) (x127 : Nat) (x128 : FF) (x129 : Nat) (x130 : FF) (x131 : Nat) (x132 x133 : FF) :
    loopN (B130v2 (C58 fuel) fuel) N130v2 fuel (s130v4 x116 x117 x118 x119 x120 x121 x122 x123 x134 x124 x125 x126 x127 x128 x129 x130 x131 x132 x133) k =
    L130v2 fuel x116 x117 x118 x120 x121 x122 x123 x134.1 x134.2 (Int.ofNat x134.1) x124 x125 x126 x127 x128 x129 x130 x131 x132 (CV.str (x121 (Int.toNat x123) 0)) (CV.int (x121 (Int.toNat x123) 1)) (CV.int (x121 (Int.toNat x123) 2)) (CV.str (x121 (Int.toNat x123) 3)) (CV.str (x121 (Int.toNat x123) 4)) (CV.int (x121 (Int.toNat x123) 5)) (CV.len (x121 (Int.toNat x123) 6)) (CV.el (x121 (Int.toNat x123) 6)) (CV.len (x121 (Int.toNat x123) 7)) (CV.el (x121 (Int.toNat x123) 7)) (CV.str (x121 (Int.toNat x123) 8)) (CV.int (x121 (Int.toNat x123) 9)) (CV.int (x121 (Int.toNat x123) 10)) (CV.int (x121 (Int.toNat x123) 11)) (CV.int (x121 (Int.toNat x123) 12)) (CV.int (x121 (Int.toNat x123) 13)) (CV.int (x121 (Int.toNat x123) 14)) (CV.int (x121 (Int.toNat x123) 15)) (CV.int (x121 (Int.toNat x123) 16)) (CV.int (x121 (Int.toNat x123) 17)) fuel x119 0 x133 (fun x220 x221 => k (.exit 2) (s130v1 x116 x117 x118 x220 x120 x121 x122 x123 x124 x125 x126 x127 x128 x129 x130 x131 x132 x221 (CV.str (x121 (Int.toNat x123) 0)) (CV.int (x121 (Int.toNat x123) 1)) (CV.int (x121 (Int.toNat x123) 2)) (CV.str (x121 (Int.toNat x123) 3)) (CV.str (x121 (Int.toNat x123) 4)) (CV.int (x121 (Int.toNat x123) 5)) (CV.len (x121 (Int.toNat x123) 6)) (CV.el (x121 (Int.toNat x123) 6)) (CV.len (x121 (Int.toNat x123) 7)) (CV.el (x121 (Int.toNat x123) 7)) (CV.str (x121 (Int.toNat x123) 8)) (CV.int (x121 (Int.toNat x123) 9)) (CV.int (x121 (Int.toNat x123) 10)) (CV.int (x121 (Int.toNat x123) 11)) (CV.int (x121 (Int.toNat x123) 12)) (CV.int (x121 (Int.toNat x123) 13)) (CV.int (x121 (Int.toNat x123) 14)) (CV.int (x121 (Int.toNat x123) 15)) (CV.int (x121 (Int.toNat x123) 16)) (CV.int (x121 (Int.toNat x123) 17)))) :=
  (loopN_at (st' := (s130v0 x116 x117 x118 x119 x120 x121 x122 x123 x134.1 x134.2 (Int.ofNat x134.1) 0 x124 x125 x126 x127 x128 x129 x130 x131 x132 x133 (CV.str (x121 (Int.toNat x123) 0)) (CV.int (x121 (Int.toNat x123) 1)) (CV.int (x121 (Int.toNat x123) 2)) (CV.str (x121 (Int.toNat x123) 3)) (CV.str (x121 (Int.toNat x123) 4)) (CV.int (x121 (Int.toNat x123) 5)) (CV.len (x121 (Int.toNat x123) 6)) (CV.el (x121 (Int.toNat x123) 6)) (CV.len (x121 (Int.toNat x123) 7)) (CV.el (x121 (Int.toNat x123) 7)) (CV.str (x121 (Int.toNat x123) 8)) (CV.int (x121 (Int.toNat x123) 9)) (CV.int (x121 (Int.toNat x123) 10)) (CV.int (x121 (Int.toNat x123) 11)) (CV.int (x121 (Int.toNat x123) 12)) (CV.int (x121 (Int.toNat x123) 13)) (CV.int (x121 (Int.toNat x123) 14)) (CV.int (x121 (Int.toNat x123) 15)) (CV.int (x121 (Int.toNat x123) 16)) (CV.int (x121 (Int.toNat x123) 17)))) (by kernel_rfl)).trans (q130v2 fuel x116 x117 x118 x120 x121 x122 x123 x134.1 x134.2 (Int.ofNat x134.1) x124 x125 x126 x127 x128 x129 x130 x131 x132 (CV.str (x121 (Int.toNat x123) 0)) (CV.int (x121 (Int.toNat x123) 1)) (CV.int (x121 (Int.toNat x123) 2)) (CV.str (x121 (Int.toNat x123) 3)) (CV.str (x121 (Int.toNat x123) 4)) (CV.int (x121 (Int.toNat x123) 5)) (CV.len (x121 (Int.toNat x123) 6)) (CV.el (x121 (Int.toNat x123) 6)) (CV.len (x121 (Int.toNat x123) 7)) (CV.el (x121 (Int.toNat x123) 7)) (CV.str (x121 (Int.toNat x123) 8)) (CV.int (x121 (Int.toNat x123) 9)) (CV.int (x121 (Int.toNat x123) 10)) (CV.int (x121 (Int.toNat x123) 11)) (CV.int (x121 (Int.toNat x123) 12)) (CV.int (x121 (Int.toNat x123) 13)) (CV.int (x121 (Int.toNat x123) 14)) (CV.int (x121 (Int.toNat x123) 15)) (CV.int (x121 (Int.toNat x123) 16)) (CV.int (x121 (Int.toNat x123) 17)) k fuel x119 0 x133)
theorem g130v2 (fuel : Nat) (m : Nat) {ρ : Type} (k : Ex → St → Option ρ) (x116 : Nat) (x117 : FF) (x118 : Int) (x222 x120 : Nat) (x121 : FF) (x122 x123 : Int) (x124 : ByteArray) (x125 : Nat) (x126 : FF) (x127 : Nat) (x128 : FF) (x129 : Nat) (x130 : FF) (x131 : Nat) (x132 x223 : FF) :
    (kBlk 2 (kBlk 1 (kSeq (C58 fuel) fuel (8 :: 10 :: (rl 16 20 [])) A16v4 (kLoop (B130v3 (C58 fuel) fuel) N130v3 m k)))) (.exit 2) (s130v1 x116 x117 x118 x222 x120 x121 x122 x123 x124 x125 x126 x127 x128 x129 x130 x131 x132 x223 (CV.str (x121 (Int.toNat x123) 0)) (CV.int (x121 (Int.toNat x123) 1)) (CV.int (x121 (Int.toNat x123) 2)) (CV.str (x121 (Int.toNat x123) 3)) (CV.str (x121 (Int.toNat x123) 4)) (CV.int (x121 (Int.toNat x123) 5)) (CV.len (x121 (Int.toNat x123) 6)) (CV.el (x121 (Int.toNat x123) 6)) (CV.len (x121 (Int.toNat x123) 7)) (CV.el (x121 (Int.toNat x123) 7)) (CV.str (x121 (Int.toNat x123) 8)) (CV.int (x121 (Int.toNat x123) 9)) (CV.int (x121 (Int.toNat x123) 10)) (CV.int (x121 (Int.toNat x123) 11)) (CV.int (x121 (Int.toNat x123) 12)) (CV.int (x121 (Int.toNat x123) 13)) (CV.int (x121 (Int.toNat x123) 14)) (CV.int (x121 (Int.toNat x123) 15)) (CV.int (x121 (Int.toNat x123) 16)) (CV.int (x121 (Int.toNat x123) 17))) =
    (loopH (B130v3 (C58 fuel) fuel) N130v3 m (s130v2 x116 x117 x118 x222 x120 x121 x122 (w64 (x123 + 1)) x124 x125 x126 x127 x128 x129 x130 x131 x132 x223) k) := by kernel_rfl
theorem q130v3 (fuel : Nat) (x116 : Nat) (x117 : FF) (x118 : Int) (x120 : Nat) (x121 : FF) (x122 : Int) (x124 : ByteArray) (x125 : Nat) (x126 : FF) (x127 : Nat) (x128 : FF) (x129 : Nat) (x130 : FF) (x131 : Nat) (x132 : FF) {ρ : Type} (k : Ex → St → Option ρ) : ∀ (m : Nat) (x119 : Nat) (x123 : Int) (x133 : FF),
    loopH (B130v3 (C58 fuel) fuel) N130v3 m (s130v2 x116 x117 x118 x119 x120 x121 x122 x123 x124 x125 x126 x127 x128 x129 x130 x131 x132 x133) k = L130v3 fuel x116 x117 x118 x120 x121 x122 x124 x125 x126 x127 x128 x129 x130 x131 x132 m x119 x123 x133 (fun x224 x225 => k (.exit 0) (s130v3 x224 x124 x125 x126 x120 x121 x127 x128 x129 x130 x131 x132 x225))
  | 0, _, _, _ => rfl
  | m + 1, x119, x123, x133 => by
    rw [r130v3]
    simp only [L130v3, q130v3 fuel x116 x117 x118 x120 x121 x122 x124 x125 x126 x127 x128 x129 x130 x131 x132 k m, t130v1, g130v2]
def D130 {ρ : Type} (fuel : Nat) (x1 : ByteArray) (x2 : Nat) (x3 : FF) (x4 : Nat) (x5 : FF) (x6 : Nat) (x7 : FF) (x8 : Nat) (x9 : FF) (x10 : Nat) (x11 : FF) (x12 : Nat) (x13 : FF) (x14 : Int) (k : (Nat × FF) → Option ρ) : Option ρ :=
  (L130v3 fuel x12 x13 x14 x4 x5 (Int.ofNat x4) x1 x2 x3 x6 x7 x8 x9 x10 x11 fuel 0 0 (fun _ _ => .any)
    (fun x226 x227 => (k (x226, x227))))
def F130 (fuel : Nat) (x1 : ByteArray) (x2 : Nat) (x3 : FF) (x4 : Nat) (x5 : FF) (x6 : Nat) (x7 : FF) (x8 : Nat) (x9 : FF) (x10 : Nat) (x11 : FF) (x12 : Nat) (x13 : FF) (x14 : Int) : Option (Nat × FF) := D130 fuel x1 x2 x3 x4 x5 x6 x7 x8 x9 x10 x11 x12 x13 x14 some
theorem f130 {ρ : Type} (fuel : Nat) (x1 : ByteArray) (x2 : Nat) (x3 : FF) (x4 : Nat) (x5 : FF) (x6 : Nat) (x7 : FF) (x8 : Nat) (x9 : FF) (x10 : Nat) (x11 : FF) (x12 : Nat) (x13 : FF) (x14 : Int) (k : (Nat × FF) → Option ρ) : D130 fuel x1 x2 x3 x4 x5 x6 x7 x8 x9 x10 x11 x12 x13 x14 k = ob (F130 fuel x1 x2 x3 x4 x5 x6 x7 x8 x9 x10 x11 x12 x13 x14) k := by
  simp only [F130, D130, ob_bif, ob_ob, ob_none, ob_some, nl130v3]
def s130v5 (x1 : ByteArray) (x2 : Nat) (x3 : FF) (x4 : Nat) (x5 : FF) (x6 : Nat) (x7 : FF) (x8 : Nat) (x9 : FF) (x10 : Nat) (x11 : FF) (x12 : Nat) (x13 : FF) (x14 : Int) : St := ⟨[.agg [(vcs x1), (.c (.ro false (.pr .str (.pr (.int .i64) (.pr .str .nil))) x2 x3)), (.c (.ro false (.pr .str (.pr (.int .i64) (.pr (.int .i64) (.pr .str (.pr .str (.pr (.int .i64) (.pr (.sl kP) (.pr (.sl (.pr (.sl kP) .nil)) (.pr .str (.pr (.int .i64) (.pr (.int .i64) (.pr (.int .i64) (.pr (.int .i64) (.pr (.int .i64) (.pr (.int .i64) kV))))))))))))))) x4 x5)), (.c (.ro false (.pr .str (.pr .str (.pr .str kV))) x6 x7)), (.c (.ro false (.pr .str (.pr .str (.pr (.sl (.pr .str .nil)) (.pr (.int .i64) (.pr (.sl (.pr .str .nil)) .nil))))) x8 x9)), (.c (.ro false (.pr (.int .i64) (.pr .str (.pr .str .nil))) x10 x11))], .x (.c (.ro false kV x12 x13)), vxi x14, .x (.ptr 0 0), .undef, .undef, .x (.own 1 0 0), .undef, .undef, .undef, .undef, .x (.ptr 0 2), .x (.c (.ro false (.pr .str (.pr (.int .i64) (.pr (.int .i64) (.pr .str (.pr .str (.pr (.int .i64) (.pr (.sl kP) (.pr (.sl (.pr (.sl kP) .nil)) (.pr .str (.pr (.int .i64) (.pr (.int .i64) (.pr (.int .i64) (.pr (.int .i64) (.pr (.int .i64) (.pr (.int .i64) kV))))))))))))))) x4 x5)), vxi (Int.ofNat x4), vxi 0, .undef, .undef, .undef, .undef, .undef, .undef, .undef, .undef, .undef, .undef, .undef, .undef, .undef, .undef, .undef, .undef, .undef, .undef, .undef, .undef, .undef, .undef, .undef], [.box [(vcs x1), (.c (.ro false (.pr .str (.pr (.int .i64) (.pr .str .nil))) x2 x3)), (.c (.ro false (.pr .str (.pr (.int .i64) (.pr (.int .i64) (.pr .str (.pr .str (.pr (.int .i64) (.pr (.sl kP) (.pr (.sl (.pr (.sl kP) .nil)) (.pr .str (.pr (.int .i64) (.pr (.int .i64) (.pr (.int .i64) (.pr (.int .i64) (.pr (.int .i64) (.pr (.int .i64) kV))))))))))))))) x4 x5)), (.c (.ro false (.pr .str (.pr .str (.pr .str kV))) x6 x7)), (.c (.ro false (.pr .str (.pr .str (.pr (.sl (.pr .str .nil)) (.pr (.int .i64) (.pr (.sl (.pr .str .nil)) .nil))))) x8 x9)), (.c (.ro false (.pr (.int .i64) (.pr .str (.pr .str .nil))) x10 x11))], .arr (.pr .str kV) 0 nilF]⟩
theorem walk130 (fuel : Nat) (x1 : ByteArray) (x2 : Nat) (x3 : FF) (x4 : Nat) (x5 : FF) (x6 : Nat) (x7 : FF) (x8 : Nat) (x9 : FF) (x10 : Nat) (x11 : FF) (x12 : Nat) (x13 : FF) (x14 : Int) :
    evalF (C58 fuel) fuel A16 [.agg [(.s x1), (.ro false (.pr .str (.pr (.int .i64) (.pr .str .nil))) x2 x3), (.ro false (.pr .str (.pr (.int .i64) (.pr (.int .i64) (.pr .str (.pr .str (.pr (.int .i64) (.pr (.sl kP) (.pr (.sl (.pr (.sl kP) .nil)) (.pr .str (.pr (.int .i64) (.pr (.int .i64) (.pr (.int .i64) (.pr (.int .i64) (.pr (.int .i64) (.pr (.int .i64) kV))))))))))))))) x4 x5), (.ro false (.pr .str (.pr .str (.pr .str kV))) x6 x7), (.ro false (.pr .str (.pr .str (.pr (.sl (.pr .str .nil)) (.pr (.int .i64) (.pr (.sl (.pr .str .nil)) .nil))))) x8 x9), (.ro false (.pr (.int .i64) (.pr .str (.pr .str .nil))) x10 x11)], .v (.ro false kV x12 x13), .v (vi x14)] =
    (loopN (B130v3 (C58 fuel) fuel) N130v3 fuel (s130v5 x1 x2 x3 x4 x5 x6 x7 x8 x9 x10 x11 x12 x13 x14) (kBlk 0 (kSeq (C58 fuel) fuel (8 :: (rl 10 27 [])) A16v7 (finish A16)))) := by kernel_rfl
theorem t130v3 (fuel : Nat) {ρ : Type} (k : Ex → St → Option ρ) (x1 : ByteArray) (x2 : Nat) (x3 : FF) (x4 : Nat) (x5 : FF) (x6 : Nat) (x7 : FF) (x8 : Nat) (x9 : FF) (x10 : Nat) (x11 : FF) (x12 : Nat) (x13 : FF) (x14 : Int) :
    loopN (B130v3 (C58 fuel) fuel) N130v3 fuel (s130v5 x1 x2 x3 x4 x5 x6 x7 x8 x9 x10 x11 x12 x13 x14) k =
    L130v3 fuel x12 x13 x14 x4 x5 (Int.ofNat x4) x1 x2 x3 x6 x7 x8 x9 x10 x11 fuel 0 0 nilF (fun x224 x225 => k (.exit 0) (s130v3 x224 x1 x2 x3 x4 x5 x6 x7 x8 x9 x10 x11 x225)) :=
  (loopN_at (st' := (s130v2 x12 x13 x14 0 x4 x5 (Int.ofNat x4) 0 x1 x2 x3 x6 x7 x8 x9 x10 x11 nilF)) (by kernel_rfl)).trans (q130v3 fuel x12 x13 x14 x4 x5 (Int.ofNat x4) x1 x2 x3 x6 x7 x8 x9 x10 x11 k fuel 0 0 nilF)
theorem g130v4 (fuel : Nat) (x226 : Nat) (x1 : ByteArray) (x2 : Nat) (x3 : FF) (x4 : Nat) (x5 : FF) (x6 : Nat) (x7 : FF) (x8 : Nat) (x9 : FF) (x10 : Nat) (x11 x227 : FF) :
    (kBlk 0 (kSeq (C58 fuel) fuel (8 :: (rl 10 27 [])) A16v7 (finish A16))) (.exit 0) (s130v3 x226 x1 x2 x3 x4 x5 x6 x7 x8 x9 x10 x11 x227) =
    (some [.v (.ro false (.pr .str kV) x226 x227)]) := by kernel_rfl
theorem e130 (fuel : Nat) (x1 : ByteArray) (x2 : Nat) (x3 : FF) (x4 : Nat) (x5 : FF) (x6 : Nat) (x7 : FF) (x8 : Nat) (x9 : FF) (x10 : Nat) (x11 : FF) (x12 : Nat) (x13 : FF) (x14 : Int) : evalF (C58 fuel) fuel A16 [.agg [(.s x1), (.ro false (.pr .str (.pr (.int .i64) (.pr .str .nil))) x2 x3), (.ro false (.pr .str (.pr (.int .i64) (.pr (.int .i64) (.pr .str (.pr .str (.pr (.int .i64) (.pr (.sl kP) (.pr (.sl (.pr (.sl kP) .nil)) (.pr .str (.pr (.int .i64) (.pr (.int .i64) (.pr (.int .i64) (.pr (.int .i64) (.pr (.int .i64) (.pr (.int .i64) kV))))))))))))))) x4 x5), (.ro false (.pr .str (.pr .str (.pr .str kV))) x6 x7), (.ro false (.pr .str (.pr .str (.pr (.sl (.pr .str .nil)) (.pr (.int .i64) (.pr (.sl (.pr .str .nil)) .nil))))) x8 x9), (.ro false (.pr (.int .i64) (.pr .str (.pr .str .nil))) x10 x11)], .v (.ro false kV x12 x13), .v (vi x14)] = ob (F130 fuel x1 x2 x3 x4 x5 x6 x7 x8 x9 x10 x11 x12 x13 x14) fun t => some [.v (.ro false (.pr .str kV) t.1 t.2)] := by
  rw [walk130, ← f130]
  simp only [D130, t130v3, g130v4]
def O130 (fuel : Nat) : Ora where
  o := fun args {ρ} K =>
    wc args fun a1 l2 =>
    wagg a1 fun l3 =>
    wdS l3 fun y7 l5 =>
    wdL (.pr .str (.pr (.int .i64) (.pr .str .nil))) l5 fun y11 y12 l9 =>
    wdL (.pr .str (.pr (.int .i64) (.pr (.int .i64) (.pr .str (.pr .str (.pr (.int .i64) (.pr (.sl kP) (.pr (.sl (.pr (.sl kP) .nil)) (.pr .str (.pr (.int .i64) (.pr (.int .i64) (.pr (.int .i64) (.pr (.int .i64) (.pr (.int .i64) (.pr (.int .i64) kV))))))))))))))) l9 fun y16 y17 l14 =>
    wdL (.pr .str (.pr .str (.pr .str kV))) l14 fun y21 y22 l19 =>
    wdL (.pr .str (.pr .str (.pr (.sl (.pr .str .nil)) (.pr (.int .i64) (.pr (.sl (.pr .str .nil)) .nil))))) l19 fun y26 y27 l24 =>
    wdL (.pr (.int .i64) (.pr .str (.pr .str .nil))) l24 fun y31 y32 l29 =>
    wn l29 <|
    wcL kV l2 fun y36 y37 l34 =>
    wcI .i64 l34 fun y41 l39 =>
    wn l39 <|
    (ob (F130 fuel y7 y11 y12 y16 y17 y21 y22 y26 y27 y31 y32 y36 y37 y41) fun t => K [.v (.ro false (.pr .str kV) t.1 t.2)])
  nat := fun args {ρ} K => by
    simp only [bind_wagg, bind_wc, bind_wcI, bind_wcL, bind_wdL, bind_wdS, bind_wn, bind_ob, Option.bind_some]
theorem d130 {P : Program} (fuel : Nat) (hmix : P.follows .mixedOrders = true) (hC : Sound P (C58 fuel)) (hF : FFits P 16 A16) (args res : List A) (h : (O130 fuel).o args some = some res) : Den P 16 args res := by
  obtain ⟨a1, l2, rfl, z0⟩ := inv_wc h
  obtain ⟨l3, rfl, z1⟩ := inv_wagg z0
  obtain ⟨a4, y7, l5, rfl, h6, z2⟩ := inv_wdS z1
  obtain ⟨a8, y11, y12, l9, rfl, h10, z3⟩ := inv_wdL z2
  obtain ⟨a13, y16, y17, l14, rfl, h15, z4⟩ := inv_wdL z3
  obtain ⟨a18, y21, y22, l19, rfl, h20, z5⟩ := inv_wdL z4
  obtain ⟨a23, y26, y27, l24, rfl, h25, z6⟩ := inv_wdL z5
  obtain ⟨a28, y31, y32, l29, rfl, h30, z7⟩ := inv_wdL z6
  obtain ⟨hn, z8⟩ := inv_wn z7
  cases hn
  obtain ⟨a33, y36, y37, l34, rfl, h35, z9⟩ := inv_wcL z8
  obtain ⟨a38, y41, l39, rfl, h40, z10⟩ := inv_wcI z9
  obtain ⟨hn, z11⟩ := inv_wn z10
  cases hn
  exact Den.weaken (.cons (WkA.agg (.cons h6 (.cons h10 (.cons h15 (.cons h20 (.cons h25 (.cons h30 .nil))))))) (.cons h35 (.cons h40 .nil))) (evalF_sound hmix hC hF ((e130 fuel y7 y11 y12 y16 y17 y21 y22 y26 y27 y31 y32 y36 y37 y41).trans z11))
def C59 (fuel : Nat) : Oracle := (C58 fuel).add 16 (fun _ => true) (O130 fuel)
def A11v1 : AC := (.region 5 [mv 15 5, o1 16 (bk .add 3 15 1), o1 5 (sg 16)] 0 none)
def A11v2 : AC := (.seq (.block 1
  (.seq (.region 6 [mv 17 0, mv 18 5, o1 19 (.indexAddr 36 42 4 (tm 17) (tm 18)), o1 20 (ln 42 4 19), mv 21 1, mv 22 5, o1 23 (.indexAddr 36 42 4 (tm 21) (tm 22)), o1 24 (ln 42 4 23), o1 25 (.eqA true (.pr .str kV) 42 (tm 20) (tm 24) 42)] 0 (some [[], [], [0, 1], [0, 1, 2], [], [], [4, 5], [4, 5, 6], (rl 0 8 [])])) []
    (.cond (tm 25)
    (.seq (.region 7 [o1 4 (sb false)] 0 none) []
      (.ret (rl 0 4 (rl 5 21 []))))
    .skip))) (4 :: (rl 17 9 []))
  A11v1)
def A11v3 : AC := (.seq (.seq (.region 4 [mv 11 5, mv 12 0, o1 13 (.len 36 false (tm 12)), o1 14 (bt .lss 3 11 13)] 0 none) []
  (.cond (tm 14)
  .skip
  (.exit 0 (rl 0 26 [])))) (rl 11 4 [])
  A11v2)
def A11v4 : AC := (.seq (.region 8 [o1 4 (sb true)] 0 none) []
  (.ret (rl 0 4 (rl 5 21 []))))
def A11v5 : AC := (.seq (.seq (.region 3 [o1 5 (sk 0)] 0 none) []
  (.block 0
  (.loop [] (2 :: 3 :: 4 :: (rl 6 20 []))
    A11v3))) (4 :: 5 :: (rl 11 15 []))
  A11v4)
def A11 : AF := ⟨26, [.tmp 4],
  (.seq (.region 0 [o1 4 (sb false)] 0 none) []
  (.seq (.seq (.region 1 [mv 6 0, o1 7 (.len 36 false (tm 6)), mv 8 1, o1 9 (.len 36 false (tm 8)), o1 10 (bt .neq 3 7 9)] 0 none) []
  (.cond (tm 10)
  (.seq (.region 2 [o1 4 (sb false)] 0 none) []
    (.ret (rl 0 4 (rl 5 21 []))))
  .skip)) (4 :: (rl 6 5 []))
  A11v5))⟩
def B131v1 (C : Oracle) (fuel : Nat) {ρ : Type} : St → (Ex → St → Option ρ) → Option ρ := fun st k => evalC C fuel A11v3 st k
def N131v1 : St → Option St := fun s => s.norm (2 :: 3 :: 4 :: (rl 6 20 [])) 0
def s131v0 (x9 : Nat) (x10 : FF) (x11 : Nat) (x12 : FF) (x13 : Int) : St := ⟨(.x (.c (.ro false (.pr .str kV) x9 x10)) :: .x (.c (.ro false (.pr .str kV) x11 x12)) :: (us 3 (vxi x13 :: (us 20 [])))), []⟩
def s131v1 : St := ⟨(us 4 (vxb false :: (us 21 []))), []⟩
def s131v2 : St := ⟨(us 26 []), []⟩
def L131v1 {ρ : Type} (fuel : Nat) (x9 : Nat) (x10 : FF) (x11 : Nat) (x12 : FF) : Nat → Int → (Option ρ) → (Option ρ) → Option ρ
  | 0, _, _, _ => none
  | m + 1, x13, k0, k1 =>
    (bif (decide (x13 < (Int.ofNat x9))) then (bif (inb x13 x9) then (bif (inb x13 x11) then (bif (!((ByteArray.toList (CV.str (x10 (Int.toNat x13) 0)) == ByteArray.toList (CV.str (x12 (Int.toNat x13) 0))) && (((CV.int (x10 (Int.toNat x13) 1)) == (CV.int (x12 (Int.toNat x13) 1))) && (((CV.int (x10 (Int.toNat x13) 2)) == (CV.int (x12 (Int.toNat x13) 2))) && (((CV.int (x10 (Int.toNat x13) 3)) == (CV.int (x12 (Int.toNat x13) 3))) && true))))) then k0 else (L131v1 fuel x9 x10 x11 x12 m (w64 (x13 + 1)) k0 k1)) else none) else none) else k1)
theorem nl131v1 {ρ σ : Type} (fuel : Nat) (x9 : Nat) (x10 : FF) (x11 : Nat) (x12 : FF) (g : ρ → Option σ) : ∀ (m : Nat) (x13 : Int) (k0 : Option ρ) (k1 : Option ρ), ob (L131v1 fuel x9 x10 x11 x12 m x13 k0 k1) g = L131v1 fuel x9 x10 x11 x12 m x13 (ob k0 g) (ob k1 g)
  | 0, _, _, _ => rfl
  | m + 1, x13, k0, k1 => by
    simp only [L131v1, ob_bif, ob_ob, ob_none, nl131v1 fuel x9 x10 x11 x12 g m]
theorem r131v1 (fuel : Nat) (m : Nat) {ρ : Type} (k : Ex → St → Option ρ) (x9 : Nat) (x10 : FF) (x11 : Nat) (x12 : FF) (x13 : Int) :
    loopH (B131v1 (C59 fuel) fuel) N131v1 (m + 1) (s131v0 x9 x10 x11 x12 x13) k =
    (bif (decide (x13 < (Int.ofNat x9))) then (bif (inb x13 x9) then (bif (inb x13 x11) then (bif (!((ByteArray.toList (CV.str (x10 (Int.toNat x13) 0)) == ByteArray.toList (CV.str (x12 (Int.toNat x13) 0))) && (((CV.int (x10 (Int.toNat x13) 1)) == (CV.int (x12 (Int.toNat x13) 1))) && (((CV.int (x10 (Int.toNat x13) 2)) == (CV.int (x12 (Int.toNat x13) 2))) && (((CV.int (x10 (Int.toNat x13) 3)) == (CV.int (x12 (Int.toNat x13) 3))) && true))))) then (k .ret s131v1) else (loopH (B131v1 (C59 fuel) fuel) N131v1 m (s131v0 x9 x10 x11 x12 (w64 (x13 + 1))) k)) else none) else none) else (k (.exit 0) s131v2)) := by kernel_rfl
theorem q131v1 (fuel : Nat) (x9 : Nat) (x10 : FF) (x11 : Nat) (x12 : FF) {ρ : Type} (k : Ex → St → Option ρ) : ∀ (m : Nat) (x13 : Int),
    loopH (B131v1 (C59 fuel) fuel) N131v1 m (s131v0 x9 x10 x11 x12 x13) k = L131v1 fuel x9 x10 x11 x12 m x13 (k .ret s131v1) (k (.exit 0) s131v2)
  | 0, _ => rfl
  | m + 1, x13 => by
    rw [r131v1]
    simp only [L131v1, q131v1 fuel x9 x10 x11 x12 k m]
def D131 {ρ : Type} (fuel : Nat) (x1 : Nat) (x2 : FF) (x3 : Nat) (x4 : FF) (k : Bool → Option ρ) : Option ρ :=
  (bif ((Int.ofNat x1) != (Int.ofNat x3)) then (k false) else (L131v1 fuel x1 x2 x3 x4 fuel 0
    (k false)
    (k true)))
def F131 (fuel : Nat) (x1 : Nat) (x2 : FF) (x3 : Nat) (x4 : FF) : Option (Bool) := D131 fuel x1 x2 x3 x4 some
theorem f131 {ρ : Type} (fuel : Nat) (x1 : Nat) (x2 : FF) (x3 : Nat) (x4 : FF) (k : (Bool) → Option ρ) : D131 fuel x1 x2 x3 x4 k = ob (F131 fuel x1 x2 x3 x4) k := by
  simp only [F131, D131, ob_bif, ob_ob, ob_none, ob_some, nl131v1]
def s131v3 (x1 : Nat) (x2 : FF) (x3 : Nat) (x4 : FF) : St := ⟨(.x (.c (.ro false (.pr .str kV) x1 x2)) :: .x (.c (.ro false (.pr .str kV) x3 x4)) :: .undef :: .undef :: .u :: vxi 0 :: (us 5 [.undef, .undef, .undef, .undef, .undef, .undef, .undef, .undef, .undef, .undef, .undef, .undef, .undef, .undef, .undef])), []⟩
theorem walk131 (fuel : Nat) (x1 : Nat) (x2 : FF) (x3 : Nat) (x4 : FF) :
    evalF (C59 fuel) fuel A11 [.v (.ro false (.pr .str kV) x1 x2), .v (.ro false (.pr .str kV) x3 x4)] =
    (bif ((Int.ofNat x1) != (Int.ofNat x3)) then (some [.v (.b false)]) else (loopN (B131v1 (C59 fuel) fuel) N131v1 fuel (s131v3 x1 x2 x3 x4) (kBlk 0 (kSeq (C59 fuel) fuel (4 :: 5 :: (rl 11 15 [])) A11v4 (finish A11))))) := by kernel_rfl
theorem t131v1 (fuel : Nat) {ρ : Type} (k : Ex → St → Option ρ) (x1 : Nat) (x2 : FF) (x3 : Nat) (x4 : FF) :
    loopN (B131v1 (C59 fuel) fuel) N131v1 fuel (s131v3 x1 x2 x3 x4) k =
    L131v1 fuel x1 x2 x3 x4 fuel 0 (k .ret s131v1) (k (.exit 0) s131v2) :=
  (loopN_at (st' := (s131v0 x1 x2 x3 x4 0)) (by kernel_rfl)).trans (q131v1 fuel x1 x2 x3 x4 k fuel 0)
theorem g131v2 (fuel : Nat) :
    (kBlk 0 (kSeq (C59 fuel) fuel (4 :: 5 :: (rl 11 15 [])) A11v4 (finish A11))) .ret s131v1 =
    (some [.v (.b false)]) := by kernel_rfl
theorem g131v3 (fuel : Nat) :
    (kBlk 0 (kSeq (C59 fuel) fuel (4 :: 5 :: (rl 11 15 [])) A11v4 (finish A11))) (.exit 0) s131v2 =
    (some [.v (.b true)]) := by kernel_rfl
theorem e131 (fuel : Nat) (x1 : Nat) (x2 : FF) (x3 : Nat) (x4 : FF) : evalF (C59 fuel) fuel A11 [.v (.ro false (.pr .str kV) x1 x2), .v (.ro false (.pr .str kV) x3 x4)] = ob (F131 fuel x1 x2 x3 x4) fun t => some [.v (.b t)] := by
  rw [walk131, ← f131]
  simp only [D131, t131v1, g131v2, g131v3]
def O131 (fuel : Nat) : Ora where
  o := fun args {ρ} K =>
    wcL (.pr .str kV) args fun y4 y5 l2 =>
    wcL (.pr .str kV) l2 fun y9 y10 l7 =>
    wn l7 <|
    (ob (F131 fuel y4 y5 y9 y10) fun t => K [.v (.b t)])
  nat := fun args {ρ} K => by
    simp only [bind_wcL, bind_wn, bind_ob, Option.bind_some]
theorem d131 {P : Program} (fuel : Nat) (hmix : P.follows .mixedOrders = true) (hC : Sound P (C59 fuel)) (hF : FFits P 11 A11) (args res : List A) (h : (O131 fuel).o args some = some res) : Den P 11 args res := by
  obtain ⟨a1, y4, y5, l2, rfl, h3, z0⟩ := inv_wcL h
  obtain ⟨a6, y9, y10, l7, rfl, h8, z1⟩ := inv_wcL z0
  obtain ⟨hn, z2⟩ := inv_wn z1
  cases hn
  exact Den.weaken (.cons h3 (.cons h8 .nil)) (evalF_sound hmix hC hF ((e131 fuel y4 y5 y9 y10).trans z2))
def C60 (fuel : Nat) : Oracle := (C59 fuel).add 11 (fun _ => true) (O131 fuel)
def A10 : AF := ⟨75, [.tmp 0],
  (.seq (.region 0 [o1 0 (sb false)] 0 none) []
  (.seq (.region 1 [o1 10 (cf 20 [] []), o1 1 (.alloc 0 31 [vcs ByteArray.empty, vci 0, vci 0, vcs ByteArray.empty, vcs ByteArray.empty, vci 0, vcn, vcn, vcs ByteArray.empty, vci 0, vci 0, vci 0, vci 0, vci 0, vci 0, vci 0, vci 0, vci 0]), o0 (.store 31 18 (tm 1) (tm 10))] 1 none) []
  (.seq (.region 2 [o1 11 (.build 27 [vci 0, vci 0, vci 0] [(0, 1), (1, 1), (2, 1)] 0 [(0, (ic 300)), (1, (ic 200))]), o1 12 (.build 27 [vci 0, vci 0, vci 0] [(0, 1), (1, 1), (2, 1)] 0 [(0, (ic 300)), (1, (ic 200)), (2, (ic 5000))]), o1 13 (.buildSlice 0 32 27 kV 2 [vci 0, vci 0, vci 0] [(0, (tm 11)), (1, (tm 12))]), o1 2 (sg 13)] 1 none) []
  (.seq (.region 3 [o1 14 (.build 40 [vci 0, vci 0] [(0, 1), (1, 1)] 0 [(0, (ic 300)), (1, (ic 200))]), o1 15 (.build 42 [vcs ByteArray.empty, vci 0, vci 0, vci 0] [(0, 1), (1, 2), (3, 1)] 0 [(0, (.const (.string (ByteArray.mk #[80, 49])))), (1, (tm 14)), (2, (ic 80))]), o1 3 (.alloc 0 42 [vcs ByteArray.empty, vci 0, vci 0, vci 0]), o0 (.store 42 4 (tm 3) (tm 15))] 1 none) []
  (.seq (.region 4 [o1 16 (ln 31 18 1), o1 17 (.buildSlice 0 44 31 (.pr .str (.pr (.int .i64) (.pr (.int .i64) (.pr .str (.pr .str (.pr (.int .i64) (.pr (.sl kP) (.pr (.sl (.pr (.sl kP) .nil)) (.pr .str (.pr (.int .i64) (.pr (.int .i64) (.pr (.int .i64) (.pr (.int .i64) (.pr (.int .i64) (.pr (.int .i64) kV))))))))))))))) 1 [vcs ByteArray.empty, vci 0, vci 0, vcs ByteArray.empty, vcs ByteArray.empty, vci 0, vcn, vcn, vcs ByteArray.empty, vci 0, vci 0, vci 0, vci 0, vci 0, vci 0, vci 0, vci 0, vci 0] [(0, (tm 16))]), o1 18 (.build 50 [vcs ByteArray.empty, vcn, vcn, vcn, vcn, vcn] [(0, 1), (1, 1), (2, 1), (3, 1), (4, 1), (5, 1)] 0 [(2, (tm 17))]), o1 4 (.alloc 1 50 [vcs ByteArray.empty, vcn, vcn, vcn, vcn, vcn]), o0 (.store 50 6 (tm 4) (tm 18))] 2 none) []
  (.seq (.ghost [1, 3] (.region 5 [o1 19 (ln 31 18 1), mv 20 2, o1 21 (.call 12 [(tm 19), (tm 20), (ic 80)] [31, 32, 3] .freeze), o1 22 (ln 50 6 4), mv 23 2, o1 24 (.call 21 [(tm 22), (tm 23), (ic 80)] [50, 32, 3] .freeze), o1 25 (ln 50 6 4), mv 26 2, o1 27 (.call 16 [(tm 25), (tm 26), (ic 80)] [50, 32, 3] .freeze), o1 5 (sg 21), o1 6 (sg 24), o1 7 (sg 27)] 0 (some [[], [], [0, 1], [], [], (rl 0 5 []), [], [], (rl 0 8 []), (rl 0 9 []), (rl 0 10 []), (rl 0 11 [])]))) []
  (.seq (.region 6 [o1 28 (.build 40 [vci 0, vci 0] [(0, 1), (1, 1)] 0 [(0, (ic 250)), (1, (ic 150))]), o1 29 (.build 40 [vci 0, vci 0] [(0, 1), (1, 1)] 0 [(0, (ic 250)), (1, (ic 250))]), o1 30 (.build 40 [vci 0, vci 0] [(0, 1), (1, 1)] 0 [(0, (ic 350)), (1, (ic 250))]), o1 31 (.build 40 [vci 0, vci 0] [(0, 1), (1, 1)] 0 [(0, (ic 350)), (1, (ic 150))]), o1 32 (.buildSlice 0 22 40 kP 4 [vci 0, vci 0] [(0, (tm 28)), (1, (tm 29)), (2, (tm 30)), (3, (tm 31))]), o1 33 (.buildSlice 1 23 22 (.pr (.sl kP) .nil) 1 [vcn] [(0, (tm 32))]), o1 34 (fa 31 1 6 6), o1 35 (fa 25 34 1 1), o0 (.store 23 1 (tm 35) (tm 33))] 2 none) []
  (.seq (.region 7 [o1 36 (ln 31 18 1), o1 37 (.buildSlice 0 44 31 (.pr .str (.pr (.int .i64) (.pr (.int .i64) (.pr .str (.pr .str (.pr (.int .i64) (.pr (.sl kP) (.pr (.sl (.pr (.sl kP) .nil)) (.pr .str (.pr (.int .i64) (.pr (.int .i64) (.pr (.int .i64) (.pr (.int .i64) (.pr (.int .i64) (.pr (.int .i64) kV))))))))))))))) 1 [vcs ByteArray.empty, vci 0, vci 0, vcs ByteArray.empty, vcs ByteArray.empty, vci 0, vcn, vcn, vcs ByteArray.empty, vci 0, vci 0, vci 0, vci 0, vci 0, vci 0, vci 0, vci 0, vci 0] [(0, (tm 36))]), o1 38 (.build 50 [vcs ByteArray.empty, vcn, vcn, vcn, vcn, vcn] [(0, 1), (1, 1), (2, 1), (3, 1), (4, 1), (5, 1)] 0 [(2, (tm 37))]), mv 39 2, o1 40 (.call 16 [(tm 38), (tm 39), (ic 100)] [50, 32, 3] .freeze), o1 8 (sg 40)] 1 none) []
  (.seq (.region 8 [o1 41 (ln 42 4 3), o1 42 (.buildSlice 0 36 42 (.pr .str kV) 1 [vcs ByteArray.empty, vci 0, vci 0, vci 0] [(0, (tm 41))]), o1 9 (sg 42)] 1 none) []
  (.seq (.region 9 [o1 43 (fa 42 3 2 3), o0 (.store 3 1 (tm 43) (ic 101))] 0 none) []
  (.seq (.region 10 [mv 44 5, mv 45 9, o1 46 (cs 11 [44, 45] [36, 36]), mv 47 46, og 48 (.move (tm 6)) 47 true, og 49 (.move (tm 9)) 47 true, og 50 (cs 11 [48, 49] [36, 36]) 47 true, o1 51 (po 47 50), mv 52 51, og 53 (.move (tm 7)) 52 true, og 54 (.move (tm 9)) 52 true, og 55 (cs 11 [53, 54] [36, 36]) 52 true, o1 56 (po 52 55), mv 57 56, og 58 (.move (tm 8)) 57 true, og 59 (.len 36 false (tm 58)) 57 true, og 60 (bk .eql 3 59 0) 57 true, o1 61 (po 57 60), mv 62 61, og 63 (ln 31 18 1) 62 true, og 64 (.move (tm 9)) 62 true, og 65 (.indexAddr 36 42 4 (tm 64) (ic 0)) 62 true, og 66 (ln 42 4 65) 62 true, og 67 (cs 14 [63, 66] [31, 42]) 62 true, o1 68 (po 62 67), mv 69 68, og 70 (ln 31 18 1) 69 true, og 71 (ln 42 4 3) 69 true, og 72 (cs 14 [70, 71] [31, 42]) 69 true, og 73 (.unOp .not 4 (tm 72)) 69 true, o1 74 (po 69 73), o1 0 (sg 74)] 0 (some [[], [], [0, 1], [0, 1, 2], (rl 0 4 []), (rl 0 4 []), (rl 0 6 []), (rl 0 7 []), (rl 0 8 []), (rl 0 9 []), (rl 0 9 []), (rl 0 11 []), (rl 0 12 []), (rl 0 13 []), (rl 0 14 []), (rl 0 15 []), (rl 0 16 []), (rl 0 17 []), (rl 0 18 []), (rl 0 19 []), (rl 0 19 []), (rl 0 19 [20]), (rl 0 19 [20, 21]), (rl 0 23 []), (rl 0 24 []), (rl 0 25 []), (rl 0 26 []), (rl 0 26 []), (rl 0 28 []), (rl 0 29 []), (rl 0 30 []), (rl 0 31 [])])) []
  (.ret (rl 1 74 [])))))))))))))⟩
def D132 {ρ : Type} (fuel : Nat) (k : Bool → Option ρ) : Option ρ :=
  (ob (F101 fuel) fun x1 => (ob (F121 fuel (listF [(.s x1.1), (.i .i64 x1.2.1), (.i .i64 x1.2.2.1), (.s x1.2.2.2.1), (.s x1.2.2.2.2.1), (.i .i64 x1.2.2.2.2.2.1), (.ro false (.pr (.int .i64) (.pr (.int .i64) .nil)) x1.2.2.2.2.2.2.1 x1.2.2.2.2.2.2.2.1), (.ro false (.pr (.sl (.pr (.int .i64) (.pr (.int .i64) .nil))) .nil) x1.2.2.2.2.2.2.2.2.1 x1.2.2.2.2.2.2.2.2.2.1), (.s x1.2.2.2.2.2.2.2.2.2.2.1), (.i .i64 x1.2.2.2.2.2.2.2.2.2.2.2.1), (.i .i64 x1.2.2.2.2.2.2.2.2.2.2.2.2.1), (.i .i64 x1.2.2.2.2.2.2.2.2.2.2.2.2.2.1), (.i .i64 x1.2.2.2.2.2.2.2.2.2.2.2.2.2.2.1), (.i .i64 x1.2.2.2.2.2.2.2.2.2.2.2.2.2.2.2.1), (.i .i64 x1.2.2.2.2.2.2.2.2.2.2.2.2.2.2.2.2.1), (.i .i64 x1.2.2.2.2.2.2.2.2.2.2.2.2.2.2.2.2.2.1), (.i .i64 x1.2.2.2.2.2.2.2.2.2.2.2.2.2.2.2.2.2.2.1), (.i .i64 x1.2.2.2.2.2.2.2.2.2.2.2.2.2.2.2.2.2.2.2)]) 2 (rowsF 3 [(.i .i64 300), (.i .i64 200), (.i .i64 0), (.i .i64 300), (.i .i64 200), (.i .i64 5000)]) 80) fun x5 => (ob (F122 fuel ByteArray.empty 0 (fun _ _ => .any) 1 (rowsF 18 [(.s x1.1), (.i .i64 x1.2.1), (.i .i64 x1.2.2.1), (.s x1.2.2.2.1), (.s x1.2.2.2.2.1), (.i .i64 x1.2.2.2.2.2.1), (.ro false (.pr (.int .i64) (.pr (.int .i64) .nil)) x1.2.2.2.2.2.2.1 x1.2.2.2.2.2.2.2.1), (.ro false (.pr (.sl (.pr (.int .i64) (.pr (.int .i64) .nil))) .nil) x1.2.2.2.2.2.2.2.2.1 x1.2.2.2.2.2.2.2.2.2.1), (.s x1.2.2.2.2.2.2.2.2.2.2.1), (.i .i64 x1.2.2.2.2.2.2.2.2.2.2.2.1), (.i .i64 x1.2.2.2.2.2.2.2.2.2.2.2.2.1), (.i .i64 x1.2.2.2.2.2.2.2.2.2.2.2.2.2.1), (.i .i64 x1.2.2.2.2.2.2.2.2.2.2.2.2.2.2.1), (.i .i64 x1.2.2.2.2.2.2.2.2.2.2.2.2.2.2.2.1), (.i .i64 x1.2.2.2.2.2.2.2.2.2.2.2.2.2.2.2.2.1), (.i .i64 x1.2.2.2.2.2.2.2.2.2.2.2.2.2.2.2.2.2.1), (.i .i64 x1.2.2.2.2.2.2.2.2.2.2.2.2.2.2.2.2.2.2.1), (.i .i64 x1.2.2.2.2.2.2.2.2.2.2.2.2.2.2.2.2.2.2.2)]) 0 (fun _ _ => .any) 0 (fun _ _ => .any) 0 (fun _ _ => .any) 2 (rowsF 3 [(.i .i64 300), (.i .i64 200), (.i .i64 0), (.i .i64 300), (.i .i64 200), (.i .i64 5000)]) 80) fun x6 => (ob (F130 fuel ByteArray.empty 0 (fun _ _ => .any) 1 (rowsF 18 [(.s x1.1), (.i .i64 x1.2.1), (.i .i64 x1.2.2.1), (.s x1.2.2.2.1), (.s x1.2.2.2.2.1), (.i .i64 x1.2.2.2.2.2.1), (.ro false (.pr (.int .i64) (.pr (.int .i64) .nil)) x1.2.2.2.2.2.2.1 x1.2.2.2.2.2.2.2.1), (.ro false (.pr (.sl (.pr (.int .i64) (.pr (.int .i64) .nil))) .nil) x1.2.2.2.2.2.2.2.2.1 x1.2.2.2.2.2.2.2.2.2.1), (.s x1.2.2.2.2.2.2.2.2.2.2.1), (.i .i64 x1.2.2.2.2.2.2.2.2.2.2.2.1), (.i .i64 x1.2.2.2.2.2.2.2.2.2.2.2.2.1), (.i .i64 x1.2.2.2.2.2.2.2.2.2.2.2.2.2.1), (.i .i64 x1.2.2.2.2.2.2.2.2.2.2.2.2.2.2.1), (.i .i64 x1.2.2.2.2.2.2.2.2.2.2.2.2.2.2.2.1), (.i .i64 x1.2.2.2.2.2.2.2.2.2.2.2.2.2.2.2.2.1), (.i .i64 x1.2.2.2.2.2.2.2.2.2.2.2.2.2.2.2.2.2.1), (.i .i64 x1.2.2.2.2.2.2.2.2.2.2.2.2.2.2.2.2.2.2.1), (.i .i64 x1.2.2.2.2.2.2.2.2.2.2.2.2.2.2.2.2.2.2.2)]) 0 (fun _ _ => .any) 0 (fun _ _ => .any) 0 (fun _ _ => .any) 2 (rowsF 3 [(.i .i64 300), (.i .i64 200), (.i .i64 0), (.i .i64 300), (.i .i64 200), (.i .i64 5000)]) 80) fun x7 => (ob (F130 fuel ByteArray.empty 0 (fun _ _ => .any) 1 (rowsF 18 [(.s x1.1), (.i .i64 x1.2.1), (.i .i64 x1.2.2.1), (.s x1.2.2.2.1), (.s x1.2.2.2.2.1), (.i .i64 x1.2.2.2.2.2.1), (.ro false (.pr (.int .i64) (.pr (.int .i64) .nil)) x1.2.2.2.2.2.2.1 x1.2.2.2.2.2.2.2.1), (.ro false (.pr (.sl (.pr (.int .i64) (.pr (.int .i64) .nil))) .nil) 1 (rowsF 1 [(.ro false (.pr (.int .i64) (.pr (.int .i64) .nil)) 4 (rowsF 2 [(.i .i64 250), (.i .i64 150), (.i .i64 250), (.i .i64 250), (.i .i64 350), (.i .i64 250), (.i .i64 350), (.i .i64 150)]))])), (.s x1.2.2.2.2.2.2.2.2.2.2.1), (.i .i64 x1.2.2.2.2.2.2.2.2.2.2.2.1), (.i .i64 x1.2.2.2.2.2.2.2.2.2.2.2.2.1), (.i .i64 x1.2.2.2.2.2.2.2.2.2.2.2.2.2.1), (.i .i64 x1.2.2.2.2.2.2.2.2.2.2.2.2.2.2.1), (.i .i64 x1.2.2.2.2.2.2.2.2.2.2.2.2.2.2.2.1), (.i .i64 x1.2.2.2.2.2.2.2.2.2.2.2.2.2.2.2.2.1), (.i .i64 x1.2.2.2.2.2.2.2.2.2.2.2.2.2.2.2.2.2.1), (.i .i64 x1.2.2.2.2.2.2.2.2.2.2.2.2.2.2.2.2.2.2.1), (.i .i64 x1.2.2.2.2.2.2.2.2.2.2.2.2.2.2.2.2.2.2.2)]) 0 (fun _ _ => .any) 0 (fun _ _ => .any) 0 (fun _ _ => .any) 2 (rowsF 3 [(.i .i64 300), (.i .i64 200), (.i .i64 0), (.i .i64 300), (.i .i64 200), (.i .i64 5000)]) 100) fun x8 => (ob (F131 fuel x5.1 x5.2 1 (rowsF 4 [(.s (ByteArray.mk #[80, 49])), (.i .i64 300), (.i .i64 200), (.i .i64 80)])) fun x14 => (bif (x14 == true) then (ob (F131 fuel x6.1 x6.2 1 (rowsF 4 [(.s (ByteArray.mk #[80, 49])), (.i .i64 300), (.i .i64 200), (.i .i64 80)])) fun x15 => (bif (x15 == true) then (ob (F131 fuel x7.1 x7.2 1 (rowsF 4 [(.s (ByteArray.mk #[80, 49])), (.i .i64 300), (.i .i64 200), (.i .i64 80)])) fun x16 => (bif (x16 == true) then (bif (((Int.ofNat x8.1) == 0) == true) then (ob (F129 fuel (listF [(.s x1.1), (.i .i64 x1.2.1), (.i .i64 x1.2.2.1), (.s x1.2.2.2.1), (.s x1.2.2.2.2.1), (.i .i64 x1.2.2.2.2.2.1), (.ro false (.pr (.int .i64) (.pr (.int .i64) .nil)) x1.2.2.2.2.2.2.1 x1.2.2.2.2.2.2.2.1), (.ro false (.pr (.sl (.pr (.int .i64) (.pr (.int .i64) .nil))) .nil) 1 (rowsF 1 [(.ro false (.pr (.int .i64) (.pr (.int .i64) .nil)) 4 (rowsF 2 [(.i .i64 250), (.i .i64 150), (.i .i64 250), (.i .i64 250), (.i .i64 350), (.i .i64 250), (.i .i64 350), (.i .i64 150)]))])), (.s x1.2.2.2.2.2.2.2.2.2.2.1), (.i .i64 x1.2.2.2.2.2.2.2.2.2.2.2.1), (.i .i64 x1.2.2.2.2.2.2.2.2.2.2.2.2.1), (.i .i64 x1.2.2.2.2.2.2.2.2.2.2.2.2.2.1), (.i .i64 x1.2.2.2.2.2.2.2.2.2.2.2.2.2.2.1), (.i .i64 x1.2.2.2.2.2.2.2.2.2.2.2.2.2.2.2.1), (.i .i64 x1.2.2.2.2.2.2.2.2.2.2.2.2.2.2.2.2.1), (.i .i64 x1.2.2.2.2.2.2.2.2.2.2.2.2.2.2.2.2.2.1), (.i .i64 x1.2.2.2.2.2.2.2.2.2.2.2.2.2.2.2.2.2.2.1), (.i .i64 x1.2.2.2.2.2.2.2.2.2.2.2.2.2.2.2.2.2.2.2)]) (CV.str ((rowsF 4 [(.s (ByteArray.mk #[80, 49])), (.i .i64 300), (.i .i64 200), (.i .i64 80)]) 0 0)) (CV.int ((rowsF 4 [(.s (ByteArray.mk #[80, 49])), (.i .i64 300), (.i .i64 200), (.i .i64 80)]) 0 1)) (CV.int ((rowsF 4 [(.s (ByteArray.mk #[80, 49])), (.i .i64 300), (.i .i64 200), (.i .i64 80)]) 0 2)) (CV.int ((rowsF 4 [(.s (ByteArray.mk #[80, 49])), (.i .i64 300), (.i .i64 200), (.i .i64 80)]) 0 3))) fun x17 => (bif (x17 == true) then (ob (F129 fuel (listF [(.s x1.1), (.i .i64 x1.2.1), (.i .i64 x1.2.2.1), (.s x1.2.2.2.1), (.s x1.2.2.2.2.1), (.i .i64 x1.2.2.2.2.2.1), (.ro false (.pr (.int .i64) (.pr (.int .i64) .nil)) x1.2.2.2.2.2.2.1 x1.2.2.2.2.2.2.2.1), (.ro false (.pr (.sl (.pr (.int .i64) (.pr (.int .i64) .nil))) .nil) 1 (rowsF 1 [(.ro false (.pr (.int .i64) (.pr (.int .i64) .nil)) 4 (rowsF 2 [(.i .i64 250), (.i .i64 150), (.i .i64 250), (.i .i64 250), (.i .i64 350), (.i .i64 250), (.i .i64 350), (.i .i64 150)]))])), (.s x1.2.2.2.2.2.2.2.2.2.2.1), (.i .i64 x1.2.2.2.2.2.2.2.2.2.2.2.1), (.i .i64 x1.2.2.2.2.2.2.2.2.2.2.2.2.1), (.i .i64 x1.2.2.2.2.2.2.2.2.2.2.2.2.2.1), (.i .i64 x1.2.2.2.2.2.2.2.2.2.2.2.2.2.2.1), (.i .i64 x1.2.2.2.2.2.2.2.2.2.2.2.2.2.2.2.1), (.i .i64 x1.2.2.2.2.2.2.2.2.2.2.2.2.2.2.2.2.1), (.i .i64 x1.2.2.2.2.2.2.2.2.2.2.2.2.2.2.2.2.2.1), (.i .i64 x1.2.2.2.2.2.2.2.2.2.2.2.2.2.2.2.2.2.2.1), (.i .i64 x1.2.2.2.2.2.2.2.2.2.2.2.2.2.2.2.2.2.2.2)]) (ByteArray.mk #[80, 49]) 300 200 101) fun x18 => (k (!x18))) else (k false))) else (k false)) else (k false))) else (k false))) else (k false))))))))
def F132 (fuel : Nat) : Option (Bool) := D132 fuel some
theorem f132 {ρ : Type} (fuel : Nat) (k : (Bool) → Option ρ) : D132 fuel k = ob (F132 fuel) k := by
  simp only [F132, D132, ob_bif, ob_ob, ob_none, ob_some]
theorem walk132 (fuel : Nat) :
    evalF (C60 fuel) fuel A10 [] =
    (ob (F101 fuel) fun x1 => (ob (F121 fuel (listF [(.s x1.1), (vi x1.2.1), (vi x1.2.2.1), (.s x1.2.2.2.1), (.s x1.2.2.2.2.1), (vi x1.2.2.2.2.2.1), (.ro false kP x1.2.2.2.2.2.2.1 x1.2.2.2.2.2.2.2.1), (.ro false (.pr (.sl kP) .nil) x1.2.2.2.2.2.2.2.2.1 x1.2.2.2.2.2.2.2.2.2.1), (.s x1.2.2.2.2.2.2.2.2.2.2.1), (vi x1.2.2.2.2.2.2.2.2.2.2.2.1), (vi x1.2.2.2.2.2.2.2.2.2.2.2.2.1), (vi x1.2.2.2.2.2.2.2.2.2.2.2.2.2.1), (vi x1.2.2.2.2.2.2.2.2.2.2.2.2.2.2.1), (vi x1.2.2.2.2.2.2.2.2.2.2.2.2.2.2.2.1), (vi x1.2.2.2.2.2.2.2.2.2.2.2.2.2.2.2.2.1), (vi x1.2.2.2.2.2.2.2.2.2.2.2.2.2.2.2.2.2.1), (vi x1.2.2.2.2.2.2.2.2.2.2.2.2.2.2.2.2.2.2.1), (vi x1.2.2.2.2.2.2.2.2.2.2.2.2.2.2.2.2.2.2.2)]) 2 (rowsF 3 [(vi 300), (vi 200), (vi 0), (vi 300), (vi 200), (vi 5000)]) 80) fun x5 => (ob (F122 fuel ByteArray.empty 0 nilF 1 (rowsF 18 [(.s x1.1), (vi x1.2.1), (vi x1.2.2.1), (.s x1.2.2.2.1), (.s x1.2.2.2.2.1), (vi x1.2.2.2.2.2.1), (.ro false kP x1.2.2.2.2.2.2.1 x1.2.2.2.2.2.2.2.1), (.ro false (.pr (.sl kP) .nil) x1.2.2.2.2.2.2.2.2.1 x1.2.2.2.2.2.2.2.2.2.1), (.s x1.2.2.2.2.2.2.2.2.2.2.1), (vi x1.2.2.2.2.2.2.2.2.2.2.2.1), (vi x1.2.2.2.2.2.2.2.2.2.2.2.2.1), (vi x1.2.2.2.2.2.2.2.2.2.2.2.2.2.1), (vi x1.2.2.2.2.2.2.2.2.2.2.2.2.2.2.1), (vi x1.2.2.2.2.2.2.2.2.2.2.2.2.2.2.2.1), (vi x1.2.2.2.2.2.2.2.2.2.2.2.2.2.2.2.2.1), (vi x1.2.2.2.2.2.2.2.2.2.2.2.2.2.2.2.2.2.1), (vi x1.2.2.2.2.2.2.2.2.2.2.2.2.2.2.2.2.2.2.1), (vi x1.2.2.2.2.2.2.2.2.2.2.2.2.2.2.2.2.2.2.2)]) 0 nilF 0 nilF 0 nilF 2 (rowsF 3 [(vi 300), (vi 200), (vi 0), (vi 300), (vi 200), (vi 5000)]) 80) fun x6 => (ob (F130 fuel ByteArray.empty 0 nilF 1 (rowsF 18 [(.s x1.1), (vi x1.2.1), (vi x1.2.2.1), (.s x1.2.2.2.1), (.s x1.2.2.2.2.1), (vi x1.2.2.2.2.2.1), (.ro false kP x1.2.2.2.2.2.2.1 x1.2.2.2.2.2.2.2.1), (.ro false (.pr (.sl kP) .nil) x1.2.2.2.2.2.2.2.2.1 x1.2.2.2.2.2.2.2.2.2.1), (.s x1.2.2.2.2.2.2.2.2.2.2.1), (vi x1.2.2.2.2.2.2.2.2.2.2.2.1), (vi x1.2.2.2.2.2.2.2.2.2.2.2.2.1), (vi x1.2.2.2.2.2.2.2.2.2.2.2.2.2.1), (vi x1.2.2.2.2.2.2.2.2.2.2.2.2.2.2.1), (vi x1.2.2.2.2.2.2.2.2.2.2.2.2.2.2.2.1), (vi x1.2.2.2.2.2.2.2.2.2.2.2.2.2.2.2.2.1), (vi x1.2.2.2.2.2.2.2.2.2.2.2.2.2.2.2.2.2.1), (vi x1.2.2.2.2.2.2.2.2.2.2.2.2.2.2.2.2.2.2.1), (vi x1.2.2.2.2.2.2.2.2.2.2.2.2.2.2.2.2.2.2.2)]) 0 nilF 0 nilF 0 nilF 2 (rowsF 3 [(vi 300), (vi 200), (vi 0), (vi 300), (vi 200), (vi 5000)]) 80) fun x7 => (ob (F130 fuel ByteArray.empty 0 nilF 1 (rowsF 18 [(.s x1.1), (vi x1.2.1), (vi x1.2.2.1), (.s x1.2.2.2.1), (.s x1.2.2.2.2.1), (vi x1.2.2.2.2.2.1), (.ro false kP x1.2.2.2.2.2.2.1 x1.2.2.2.2.2.2.2.1), (.ro false (.pr (.sl kP) .nil) 1 (rowsF 1 [(.ro false kP 4 (rowsF 2 [(vi 250), (vi 150), (vi 250), (vi 250), (vi 350), (vi 250), (vi 350), (vi 150)]))])), (.s x1.2.2.2.2.2.2.2.2.2.2.1), (vi x1.2.2.2.2.2.2.2.2.2.2.2.1), (vi x1.2.2.2.2.2.2.2.2.2.2.2.2.1), (vi x1.2.2.2.2.2.2.2.2.2.2.2.2.2.1), (vi x1.2.2.2.2.2.2.2.2.2.2.2.2.2.2.1), (vi x1.2.2.2.2.2.2.2.2.2.2.2.2.2.2.2.1), (vi x1.2.2.2.2.2.2.2.2.2.2.2.2.2.2.2.2.1), (vi x1.2.2.2.2.2.2.2.2.2.2.2.2.2.2.2.2.2.1), (vi x1.2.2.2.2.2.2.2.2.2.2.2.2.2.2.2.2.2.2.1), (vi x1.2.2.2.2.2.2.2.2.2.2.2.2.2.2.2.2.2.2.2)]) 0 nilF 0 nilF 0 nilF 2 (rowsF 3 [(vi 300), (vi 200), (vi 0), (vi 300), (vi 200), (vi 5000)]) 100) fun x8 => (ob (F131 fuel x5.1 x5.2 1 (rowsF 4 [(.s (ByteArray.mk #[80, 49])), (vi 300), (vi 200), (vi 80)])) fun x14 => (bif (x14 == true) then (ob (F131 fuel x6.1 x6.2 1 (rowsF 4 [(.s (ByteArray.mk #[80, 49])), (vi 300), (vi 200), (vi 80)])) fun x15 => (bif (x15 == true) then (ob (F131 fuel x7.1 x7.2 1 (rowsF 4 [(.s (ByteArray.mk #[80, 49])), (vi 300), (vi 200), (vi 80)])) fun x16 => (bif (x16 == true) then (bif (((Int.ofNat x8.1) == 0) == true) then (ob (F129 fuel (listF [(.s x1.1), (vi x1.2.1), (vi x1.2.2.1), (.s x1.2.2.2.1), (.s x1.2.2.2.2.1), (vi x1.2.2.2.2.2.1), (.ro false kP x1.2.2.2.2.2.2.1 x1.2.2.2.2.2.2.2.1), (.ro false (.pr (.sl kP) .nil) 1 (rowsF 1 [(.ro false kP 4 (rowsF 2 [(vi 250), (vi 150), (vi 250), (vi 250), (vi 350), (vi 250), (vi 350), (vi 150)]))])), (.s x1.2.2.2.2.2.2.2.2.2.2.1), (vi x1.2.2.2.2.2.2.2.2.2.2.2.1), (vi x1.2.2.2.2.2.2.2.2.2.2.2.2.1), (vi x1.2.2.2.2.2.2.2.2.2.2.2.2.2.1), (vi x1.2.2.2.2.2.2.2.2.2.2.2.2.2.2.1), (vi x1.2.2.2.2.2.2.2.2.2.2.2.2.2.2.2.1), (vi x1.2.2.2.2.2.2.2.2.2.2.2.2.2.2.2.2.1), (vi x1.2.2.2.2.2.2.2.2.2.2.2.2.2.2.2.2.2.1), (vi x1.2.2.2.2.2.2.2.2.2.2.2.2.2.2.2.2.2.2.1), (vi x1.2.2.2.2.2.2.2.2.2.2.2.2.2.2.2.2.2.2.2)]) (CV.str ((rowsF 4 [(.s (ByteArray.mk #[80, 49])), (vi 300), (vi 200), (vi 80)]) 0 0)) (CV.int ((rowsF 4 [(.s (ByteArray.mk #[80, 49])), (vi 300), (vi 200), (vi 80)]) 0 1)) (CV.int ((rowsF 4 [(.s (ByteArray.mk #[80, 49])), (vi 300), (vi 200), (vi 80)]) 0 2)) (CV.int ((rowsF 4 [(.s (ByteArray.mk #[80, 49])), (vi 300), (vi 200), (vi 80)]) 0 3))) fun x17 => (bif (x17 == true) then (ob (F129 fuel (listF [(.s x1.1), (vi x1.2.1), (vi x1.2.2.1), (.s x1.2.2.2.1), (.s x1.2.2.2.2.1), (vi x1.2.2.2.2.2.1), (.ro false kP x1.2.2.2.2.2.2.1 x1.2.2.2.2.2.2.2.1), (.ro false (.pr (.sl kP) .nil) 1 (rowsF 1 [(.ro false kP 4 (rowsF 2 [(vi 250), (vi 150), (vi 250), (vi 250), (vi 350), (vi 250), (vi 350), (vi 150)]))])), (.s x1.2.2.2.2.2.2.2.2.2.2.1), (vi x1.2.2.2.2.2.2.2.2.2.2.2.1), (vi x1.2.2.2.2.2.2.2.2.2.2.2.2.1), (vi x1.2.2.2.2.2.2.2.2.2.2.2.2.2.1), (vi x1.2.2.2.2.2.2.2.2.2.2.2.2.2.2.1), (vi x1.2.2.2.2.2.2.2.2.2.2.2.2.2.2.2.1), (vi x1.2.2.2.2.2.2.2.2.2.2.2.2.2.2.2.2.1), (vi x1.2.2.2.2.2.2.2.2.2.2.2.2.2.2.2.2.2.1), (vi x1.2.2.2.2.2.2.2.2.2.2.2.2.2.2.2.2.2.2.1), (vi x1.2.2.2.2.2.2.2.2.2.2.2.2.2.2.2.2.2.2.2)]) (ByteArray.mk #[80, 49]) 300 200 101) fun x18 => (some [.v (.b (!x18))])) else (some [.v (.b false)]))) else (some [.v (.b false)])) else (some [.v (.b false)]))) else (some [.v (.b false)]))) else (some [.v (.b false)])))))))) := by kernel_rfl
theorem e132 (fuel : Nat) : evalF (C60 fuel) fuel A10 [] = ob (F132 fuel) fun t => some [.v (.b t)] := by
  rw [walk132, ← f132]
  simp only [D132]
def O132 (fuel : Nat) : Ora where
  o := fun args {ρ} K =>
    wn args <|
    (ob (F132 fuel) fun t => K [.v (.b t)])
  nat := fun args {ρ} K => by
    simp only [bind_wn, bind_ob, Option.bind_some]
theorem d132 {P : Program} (fuel : Nat) (hmix : P.follows .mixedOrders = true) (hC : Sound P (C60 fuel)) (hF : FFits P 10 A10) (args res : List A) (h : (O132 fuel).o args some = some res) : Den P 10 args res := by
  obtain ⟨hn, z0⟩ := inv_wn h
  cases hn
  exact Den.weaken .nil (evalF_sound hmix hC hF ((e132 fuel).trans z0))
def C61 (fuel : Nat) : Oracle := (C60 fuel).add 10 (fun _ => true) (O132 fuel)
def A53 : AF := ⟨49, [.tmp 2],
  (.seq (.region 0 [o1 1 (bx 0 29 0), o1 2 (sb false)] 1 none) []
  (.seq (.region 1 [o1 4 (fa 29 1 0 0), o1 5 (fa 27 4 0 0), o1 6 (lo 3 5), o1 7 (bk .geq 3 6 (-524288)), mv 8 7, og 9 (fa 29 1 0 0) 8 true, og 10 (fa 27 9 0 0) 8 true, og 11 (lo 3 10) 8 true, og 12 (bk .leq 3 11 524288) 8 true, o1 13 (po 8 12), mv 14 13, og 15 (fa 29 1 0 0) 14 true, og 16 (fa 27 15 1 1) 14 true, og 17 (lo 3 16) 14 true, og 18 (bk .geq 3 17 (-524288)) 14 true, o1 19 (po 14 18), mv 20 19, og 21 (fa 29 1 0 0) 20 true, og 22 (fa 27 21 1 1) 20 true, og 23 (lo 3 22) 20 true, og 24 (bk .leq 3 23 524288) 20 true, o1 25 (po 20 24), mv 26 25, og 27 (fa 29 1 0 0) 26 true, og 28 (fa 27 27 2 2) 26 true, og 29 (lo 3 28) 26 true, og 30 (bk .geq 3 29 (-524288)) 26 true, o1 31 (po 26 30), mv 32 31, og 33 (fa 29 1 0 0) 32 true, og 34 (fa 27 33 2 2) 32 true, og 35 (lo 3 34) 32 true, og 36 (bk .leq 3 35 524288) 32 true, o1 37 (po 32 36), o1 3 (sg 37)] 0 none) []
  (.seq (.region 2 [mv 38 3, mv 39 38, og 40 (fa 29 1 1 3) 39 true, og 41 (lo 3 40) 39 true, og 42 (bk .geq 3 41 0) 39 true, o1 43 (po 39 42), mv 44 43, og 45 (fa 29 1 1 3) 44 true, og 46 (lo 3 45) 44 true, og 47 (bk .leq 3 46 23) 44 true, o1 48 (po 44 47), o1 2 (sg 48)] 0 none) []
  (.ret (0 :: 1 :: (rl 3 46 []))))))⟩
def D133 {ρ : Type} (fuel : Nat) (x1 x2 x3 x4 : Int) (k : Bool → Option ρ) : Option ρ :=
  (bif ((decide (x1 ≥ (-524288))) == true) then (bif ((decide (x1 ≤ 524288)) == true) then (bif ((decide (x2 ≥ (-524288))) == true) then (bif ((decide (x2 ≤ 524288)) == true) then (bif ((decide (x3 ≥ (-524288))) == true) then (bif ((decide (x3 ≤ 524288)) == true) then (bif ((decide (x4 ≥ 0)) == true) then (k (decide (x4 ≤ 23))) else (k false)) else (k false)) else (k false)) else (k false)) else (k false)) else (k false)) else (k false))
def F133 (fuel : Nat) (x1 x2 x3 x4 : Int) : Option (Bool) := D133 fuel x1 x2 x3 x4 some
theorem f133 {ρ : Type} (fuel : Nat) (x1 x2 x3 x4 : Int) (k : (Bool) → Option ρ) : D133 fuel x1 x2 x3 x4 k = ob (F133 fuel x1 x2 x3 x4) k := by
  simp only [F133, D133, ob_bif, ob_ob, ob_none, ob_some]
theorem walk133 (fuel : Nat) (x1 x2 x3 x4 : Int) :
    evalF (C61 fuel) fuel A53 [.agg [(vi x1), (vi x2), (vi x3), (vi x4)]] =
    (bif ((decide (x1 ≥ (-524288))) == true) then (bif ((decide (x1 ≤ 524288)) == true) then (bif ((decide (x2 ≥ (-524288))) == true) then (bif ((decide (x2 ≤ 524288)) == true) then (bif ((decide (x3 ≥ (-524288))) == true) then (bif ((decide (x3 ≤ 524288)) == true) then (bif ((decide (x4 ≥ 0)) == true) then (some [.v (.b (decide (x4 ≤ 23)))]) else (some [.v (.b false)])) else (some [.v (.b false)])) else (some [.v (.b false)])) else (some [.v (.b false)])) else (some [.v (.b false)])) else (some [.v (.b false)])) else (some [.v (.b false)])) := by kernel_rfl
theorem e133 (fuel : Nat) (x1 x2 x3 x4 : Int) : evalF (C61 fuel) fuel A53 [.agg [(vi x1), (vi x2), (vi x3), (vi x4)]] = ob (F133 fuel x1 x2 x3 x4) fun t => some [.v (.b t)] := by
  rw [walk133, ← f133]
  simp only [D133]
def O133 (fuel : Nat) : Ora where
  o := fun args {ρ} K =>
    wc args fun a1 l2 =>
    wagg a1 fun l3 =>
    wdI .i64 l3 fun y7 l5 =>
    wdI .i64 l5 fun y11 l9 =>
    wdI .i64 l9 fun y15 l13 =>
    wdI .i64 l13 fun y19 l17 =>
    wn l17 <|
    wn l2 <|
    (ob (F133 fuel y7 y11 y15 y19) fun t => K [.v (.b t)])
  nat := fun args {ρ} K => by
    simp only [bind_wagg, bind_wc, bind_wdI, bind_wn, bind_ob, Option.bind_some]
theorem d133 {P : Program} (fuel : Nat) (hmix : P.follows .mixedOrders = true) (hC : Sound P (C61 fuel)) (hF : FFits P 53 A53) (args res : List A) (h : (O133 fuel).o args some = some res) : Den P 53 args res := by
  obtain ⟨a1, l2, rfl, z0⟩ := inv_wc h
  obtain ⟨l3, rfl, z1⟩ := inv_wagg z0
  obtain ⟨a4, y7, l5, rfl, h6, z2⟩ := inv_wdI z1
  obtain ⟨a8, y11, l9, rfl, h10, z3⟩ := inv_wdI z2
  obtain ⟨a12, y15, l13, rfl, h14, z4⟩ := inv_wdI z3
  obtain ⟨a16, y19, l17, rfl, h18, z5⟩ := inv_wdI z4
  obtain ⟨hn, z6⟩ := inv_wn z5
  cases hn
  obtain ⟨hn, z7⟩ := inv_wn z6
  cases hn
  exact Den.weaken (.cons (WkA.agg (.cons h6 (.cons h10 (.cons h14 (.cons h18 .nil))))) .nil) (evalF_sound hmix hC hF ((e133 fuel y7 y11 y15 y19).trans z7))
def C62 (fuel : Nat) : Oracle := (C61 fuel).add 53 (fun _ => true) (O133 fuel)
def A35 : AF := ⟨7, [.cell 2 25 (some 2)],
  (.seq (.region 0 [o1 1 (bx 0 31 0), o1 2 (.alloc 1 25 [vcn, vcn])] 2 none) []
  (.seq (.region 1 [o1 3 (fa 31 1 6 6), o1 4 (fa 25 3 0 0), o1 5 (lo 22 4), o1 6 (.build 25 [vcn, vcn] [(0, 1), (1, 1)] 0 [(0, (tm 5))]), o0 (.store 25 2 (tm 2) (tm 6))] 0 none) []
  (.ret (0 :: 1 :: (rl 3 4 [])))))⟩
def D134 {ρ : Type} (fuel : Nat) (x1 : Nat → CV) (k : (Nat × FF × Nat × FF) → Option ρ) : Option ρ :=
  (k ((CV.len (x1 6)), (CV.el (x1 6)), 0, (fun _ _ => .any)))
def FT134 (fuel : Nat) (x1 : Nat → CV) : Option (Nat × FF × Nat × FF) := D134 fuel x1 some
theorem f134 {ρ : Type} (fuel : Nat) (x1 : Nat → CV) (k : (Nat × FF × Nat × FF) → Option ρ) : D134 fuel x1 k = ob (FT134 fuel x1) k := by
  simp only [FT134, D134, ob_bif, ob_ob, ob_none, ob_some]
theorem walk134 (fuel : Nat) (x1 : Nat → CV) :
    evalF (C62 fuel) fuel A35 [.agg (pj kR0 x1)] =
    (some [.agg [(.ro false kP (CV.len (x1 6)) (CV.el (x1 6))), (.ro true .nil 0 nilF)]]) := by kernel_rfl
theorem e134 (fuel : Nat) (x1 : Nat → CV) : evalF (C62 fuel) fuel A35 [.agg (pj kR0 x1)] = ob (FT134 fuel x1) fun t => some [.agg [(.ro false kP t.1 t.2.1), (.ro true .nil 0 nilF)]] := by
  rw [walk134, ← f134]
  simp only [D134]
def F134 (fuel : Nat) (x1 : Nat → CV) : Option (Nat × FF × Nat × FF) := ob (FT134 fuel x1) fun t => some (t.1, t.2.1, 0, (fun _ _ => .any))
def O134 (fuel : Nat) : Ora where
  o := fun args {ρ} K =>
    wc args fun a1 l2 =>
    wrow kR0 a1 fun y3 =>
    wn l2 <|
    (ob (F134 fuel y3) fun t => K [.agg [(.ro false kP t.1 t.2.1), (.ro false (.pr (.sl kP) .nil) t.2.2.1 t.2.2.2)]])
  nat := fun args {ρ} K => by
    simp only [bind_wc, bind_wn, bind_wrow, bind_ob, Option.bind_some]
theorem d134 {P : Program} (fuel : Nat) (hmix : P.follows .mixedOrders = true) (hC : Sound P (C62 fuel)) (hF : FFits P 35 A35) (args res : List A) (h : (O134 fuel).o args some = some res) : Den P 35 args res := by
  obtain ⟨a1, l2, rfl, z0⟩ := inv_wc h
  obtain ⟨y3, h4, z1⟩ := inv_wrow z0
  obtain ⟨hn, z2⟩ := inv_wn z1
  cases hn
  obtain ⟨u, hu, hr⟩ := ob_inv z2
  cases hr
  obtain ⟨t, ht, hv⟩ := ob_inv (show ob (FT134 fuel y3) _ = some u from hu)
  cases hv
  refine Den.results ?_ (Den.weaken (.cons h4 .nil) (evalF_sound hmix hC hF ((e134 fuel y3).trans (by rw [ht]; rfl))))
  exact (.cons (WkA.agg (.cons (Wk.refl _) (.cons (Wk.ro (by rfl)) .nil))) .nil)
def C63 (fuel : Nat) : Oracle := (C62 fuel).add 35 (fun _ => true) (O134 fuel)
def A81 : AF := ⟨21, [.tmp 2],
  (.seq (.region 0 [o1 1 (bx 0 40 0), o1 2 (sb false)] 1 none) []
  (.seq (.region 1 [o1 3 (fa 40 1 0 0), o1 4 (lo 3 3), o1 5 (bk .geq 3 4 (-32768)), mv 6 5, og 7 (fa 40 1 0 0) 6 true, og 8 (lo 3 7) 6 true, og 9 (bk .leq 3 8 32768) 6 true, o1 10 (po 6 9), mv 11 10, og 12 (fa 40 1 1 1) 11 true, og 13 (lo 3 12) 11 true, og 14 (bk .geq 3 13 (-32768)) 11 true, o1 15 (po 11 14), mv 16 15, og 17 (fa 40 1 1 1) 16 true, og 18 (lo 3 17) 16 true, og 19 (bk .leq 3 18 32768) 16 true, o1 20 (po 16 19), o1 2 (sg 20)] 0 none) []
  (.ret (0 :: 1 :: (rl 3 18 [])))))⟩
def D69 {ρ : Type} (fuel : Nat) (x1 x2 : Int) (k : Bool → Option ρ) : Option ρ :=
  (bif ((decide (x1 ≥ (-32768))) == true) then (bif ((decide (x1 ≤ 32768)) == true) then (bif ((decide (x2 ≥ (-32768))) == true) then (k (decide (x2 ≤ 32768))) else (k false)) else (k false)) else (k false))
def F69 (fuel : Nat) (x1 x2 : Int) : Option (Bool) := D69 fuel x1 x2 some
theorem f69 {ρ : Type} (fuel : Nat) (x1 x2 : Int) (k : (Bool) → Option ρ) : D69 fuel x1 x2 k = ob (F69 fuel x1 x2) k := by
  simp only [F69, D69, ob_bif, ob_ob, ob_none, ob_some]
theorem walk69 (fuel : Nat) (x1 x2 : Int) :
    evalF (C63 fuel) fuel A81 [.agg [(vi x1), (vi x2)]] =
    (bif ((decide (x1 ≥ (-32768))) == true) then (bif ((decide (x1 ≤ 32768)) == true) then (bif ((decide (x2 ≥ (-32768))) == true) then (some [.v (.b (decide (x2 ≤ 32768)))]) else (some [.v (.b false)])) else (some [.v (.b false)])) else (some [.v (.b false)])) := by kernel_rfl
theorem e69 (fuel : Nat) (x1 x2 : Int) : evalF (C63 fuel) fuel A81 [.agg [(vi x1), (vi x2)]] = ob (F69 fuel x1 x2) fun t => some [.v (.b t)] := by
  rw [walk69, ← f69]
  simp only [D69]
def O69 (fuel : Nat) : Ora where
  o := fun args {ρ} K =>
    wc args fun a1 l2 =>
    wagg a1 fun l3 =>
    wdI .i64 l3 fun y7 l5 =>
    wdI .i64 l5 fun y11 l9 =>
    wn l9 <|
    wn l2 <|
    (ob (F69 fuel y7 y11) fun t => K [.v (.b t)])
  nat := fun args {ρ} K => by
    simp only [bind_wagg, bind_wc, bind_wdI, bind_wn, bind_ob, Option.bind_some]
theorem d69 {P : Program} (fuel : Nat) (hmix : P.follows .mixedOrders = true) (hC : Sound P (C63 fuel)) (hF : FFits P 81 A81) (args res : List A) (h : (O69 fuel).o args some = some res) : Den P 81 args res := by
  obtain ⟨a1, l2, rfl, z0⟩ := inv_wc h
  obtain ⟨l3, rfl, z1⟩ := inv_wagg z0
  obtain ⟨a4, y7, l5, rfl, h6, z2⟩ := inv_wdI z1
  obtain ⟨a8, y11, l9, rfl, h10, z3⟩ := inv_wdI z2
  obtain ⟨hn, z4⟩ := inv_wn z3
  cases hn
  obtain ⟨hn, z5⟩ := inv_wn z4
  cases hn
  exact Den.weaken (.cons (WkA.agg (.cons h6 (.cons h10 .nil))) .nil) (evalF_sound hmix hC hF ((e69 fuel y7 y11).trans z5))
def C64 (fuel : Nat) : Oracle := (C63 fuel).add 81 (fun _ => true) (O69 fuel)
def A94v1 : AC := (.region 3 [mv 8 3, o1 9 (bk .add 3 8 1), o1 3 (sg 9)] 0 none)
def A94v2 : AC := (.seq (.block 1
  (.seq (.region 4 [mv 10 0, mv 11 3, o1 12 (.indexAddr 22 40 2 (tm 10) (tm 11)), o1 13 (ln 40 2 12), o1 14 (cs 81 [13] [40]), o1 15 (.unOp .not 4 (tm 14))] 0 none) []
    (.cond (tm 15)
    (.seq (.region 5 [o1 2 (sb false)] 0 none) []
      (.ret (0 :: 1 :: (rl 3 13 []))))
    .skip))) (2 :: (rl 10 6 []))
  A94v1)
def A94v3 : AC := (.seq (.seq (.region 2 [mv 4 3, mv 5 0, o1 6 (.len 22 false (tm 5)), o1 7 (bt .lss 3 4 6)] 0 none) []
  (.cond (tm 7)
  .skip
  (.exit 0 (rl 0 16 [])))) (rl 4 4 [])
  A94v2)
def A94v4 : AC := (.seq (.region 6 [o1 2 (sb true)] 0 none) []
  (.ret (0 :: 1 :: (rl 3 13 []))))
def A94 : AF := ⟨16, [.tmp 2],
  (.seq (.region 0 [o1 2 (sb false)] 0 none) []
  (.seq (.seq (.region 1 [o1 3 (sk 0)] 0 none) []
  (.block 0
  (.loop [] (1 :: 2 :: (rl 4 12 []))
    A94v3))) (rl 2 14 [])
  A94v4))⟩
def B66v1 (C : Oracle) (fuel : Nat) {ρ : Type} : St → (Ex → St → Option ρ) → Option ρ := fun st k => evalC C fuel A94v3 st k
def N66v1 : St → Option St := fun s => s.norm (1 :: 2 :: (rl 4 12 [])) 0
def s66v0 (x6 : Nat) (x7 : FF) (x8 : Int) : St := ⟨(.x (.c (.ro false kP x6 x7)) :: .u :: .u :: vxi x8 :: (us 12 [])), []⟩
def s66v1 : St := ⟨(.u :: .u :: vxb false :: (us 13 [])), []⟩
def s66v2 : St := ⟨(us 16 []), []⟩
def L66v1 {ρ : Type} (fuel : Nat) (x6 : Nat) (x7 : FF) : Nat → Int → (Option ρ) → (Option ρ) → Option ρ
  | 0, _, _, _ => none
  | m + 1, x8, k0, k1 =>
    (bif (decide (x8 < (Int.ofNat x6))) then (bif (inb x8 x6) then (ob (F69 fuel (CV.int (x7 (Int.toNat x8) 0)) (CV.int (x7 (Int.toNat x8) 1))) fun x9 => (bif (!x9) then k0 else (L66v1 fuel x6 x7 m (w64 (x8 + 1)) k0 k1))) else none) else k1)
theorem nl66v1 {ρ σ : Type} (fuel : Nat) (x6 : Nat) (x7 : FF) (g : ρ → Option σ) : ∀ (m : Nat) (x8 : Int) (k0 : Option ρ) (k1 : Option ρ), ob (L66v1 fuel x6 x7 m x8 k0 k1) g = L66v1 fuel x6 x7 m x8 (ob k0 g) (ob k1 g)
  | 0, _, _, _ => rfl
  | m + 1, x8, k0, k1 => by
    simp only [L66v1, ob_bif, ob_ob, ob_none, nl66v1 fuel x6 x7 g m]
theorem r66v1 (fuel : Nat) (m : Nat) {ρ : Type} (k : Ex → St → Option ρ) (x6 : Nat) (x7 : FF) (x8 : Int) :
    loopH (B66v1 (C64 fuel) fuel) N66v1 (m + 1) (s66v0 x6 x7 x8) k =
    (bif (decide (x8 < (Int.ofNat x6))) then (bif (inb x8 x6) then (ob (F69 fuel (CV.int (x7 (Int.toNat x8) 0)) (CV.int (x7 (Int.toNat x8) 1))) fun x9 => (bif (!x9) then (k .ret s66v1) else (loopH (B66v1 (C64 fuel) fuel) N66v1 m (s66v0 x6 x7 (w64 (x8 + 1))) k))) else none) else (k (.exit 0) s66v2)) := by kernel_rfl
theorem q66v1 (fuel : Nat) (x6 : Nat) (x7 : FF) {ρ : Type} (k : Ex → St → Option ρ) : ∀ (m : Nat) (x8 : Int),
    loopH (B66v1 (C64 fuel) fuel) N66v1 m (s66v0 x6 x7 x8) k = L66v1 fuel x6 x7 m x8 (k .ret s66v1) (k (.exit 0) s66v2)
  | 0, _ => rfl
  | m + 1, x8 => by
    rw [r66v1]
    simp only [L66v1, q66v1 fuel x6 x7 k m]
def D66 {ρ : Type} (fuel : Nat) (x1 : Nat) (x2 : FF) (k : Bool → Option ρ) : Option ρ :=
  (L66v1 fuel x1 x2 fuel 0
    (k false)
    (k true))
def F66 (fuel : Nat) (x1 : Nat) (x2 : FF) : Option (Bool) := D66 fuel x1 x2 some
theorem f66 {ρ : Type} (fuel : Nat) (x1 : Nat) (x2 : FF) (k : (Bool) → Option ρ) : D66 fuel x1 x2 k = ob (F66 fuel x1 x2) k := by
  simp only [F66, D66, ob_bif, ob_ob, ob_none, ob_some, nl66v1]
def s66v3 (x1 : Nat) (x2 : FF) : St := ⟨[.x (.c (.ro false kP x1 x2)), .undef, vxb false, vxi 0, .undef, .undef, .undef, .undef, .undef, .undef, .undef, .undef, .undef, .undef, .undef, .undef], []⟩
theorem walk66 (fuel : Nat) (x1 : Nat) (x2 : FF) :
    evalF (C64 fuel) fuel A94 [.v (.ro false kP x1 x2)] =
    (loopN (B66v1 (C64 fuel) fuel) N66v1 fuel (s66v3 x1 x2) (kBlk 0 (kSeq (C64 fuel) fuel (rl 2 14 []) A94v4 (finish A94)))) := by kernel_rfl
theorem t66v1 (fuel : Nat) {ρ : Type} (k : Ex → St → Option ρ) (x1 : Nat) (x2 : FF) :
    loopN (B66v1 (C64 fuel) fuel) N66v1 fuel (s66v3 x1 x2) k =
    L66v1 fuel x1 x2 fuel 0 (k .ret s66v1) (k (.exit 0) s66v2) :=
  (loopN_at (st' := (s66v0 x1 x2 0)) (by kernel_rfl)).trans (q66v1 fuel x1 x2 k fuel 0)
theorem g66v2 (fuel : Nat) :
    (kBlk 0 (kSeq (C64 fuel) fuel (rl 2 14 []) A94v4 (finish A94))) .ret s66v1 =
    (some [.v (.b false)]) := by kernel_rfl
theorem g66v3 (fuel : Nat) :
    (kBlk 0 (kSeq (C64 fuel) fuel (rl 2 14 []) A94v4 (finish A94))) (.exit 0) s66v2 =
    (some [.v (.b true)]) := by kernel_rfl
theorem e66 (fuel : Nat) (x1 : Nat) (x2 : FF) : evalF (C64 fuel) fuel A94 [.v (.ro false kP x1 x2)] = ob (F66 fuel x1 x2) fun t => some [.v (.b t)] := by
  rw [walk66, ← f66]
  simp only [D66, t66v1, g66v2, g66v3]
def O66 (fuel : Nat) : Ora where
  o := fun args {ρ} K =>
    wcL kP args fun y4 y5 l2 =>
    wn l2 <|
    (ob (F66 fuel y4 y5) fun t => K [.v (.b t)])
  nat := fun args {ρ} K => by
    simp only [bind_wcL, bind_wn, bind_ob, Option.bind_some]
theorem d66 {P : Program} (fuel : Nat) (hmix : P.follows .mixedOrders = true) (hC : Sound P (C64 fuel)) (hF : FFits P 94 A94) (args res : List A) (h : (O66 fuel).o args some = some res) : Den P 94 args res := by
  obtain ⟨a1, y4, y5, l2, rfl, h3, z0⟩ := inv_wcL h
  obtain ⟨hn, z1⟩ := inv_wn z0
  cases hn
  exact Den.weaken (.cons h3 .nil) (evalF_sound hmix hC hF ((e66 fuel y4 y5).trans z1))
def C65 (fuel : Nat) : Oracle := (C64 fuel).add 94 (fun _ => true) (O66 fuel)
def A83 : AF := ⟨30, [.tmp 6],
  (.seq (.region 0 [o1 3 (bx 0 40 0), o1 4 (bx 1 40 1), o1 5 (bx 2 40 2), o1 6 (sk 0)] 3 none) []
  (.seq (.region 1 [o1 7 (fa 40 4 0 0), o1 8 (lo 3 7), o1 9 (fa 40 3 0 0), o1 10 (lo 3 9), o1 11 (bt .sub 3 8 10), o1 12 (fa 40 5 1 1), o1 13 (lo 3 12), o1 14 (fa 40 3 1 1), o1 15 (lo 3 14), o1 16 (bt .sub 3 13 15), o1 17 (bt .mul 3 11 16), o1 18 (fa 40 4 1 1), o1 19 (lo 3 18), o1 20 (fa 40 3 1 1), o1 21 (lo 3 20), o1 22 (bt .sub 3 19 21), o1 23 (fa 40 5 0 0), o1 24 (lo 3 23), o1 25 (fa 40 3 0 0), o1 26 (lo 3 25), o1 27 (bt .sub 3 24 26), o1 28 (bt .mul 3 22 27), o1 29 (bt .sub 3 17 28), o1 6 (sg 29)] 0 none) []
  (.ret (rl 0 6 (rl 7 23 [])))))⟩
def D71 {ρ : Type} (fuel : Nat) (x1 x2 x3 x4 x5 x6 : Int) (k : Int → Option ρ) : Option ρ :=
  (k (w64 ((w64 ((w64 (x3 - x1)) * (w64 (x6 - x2)))) - (w64 ((w64 (x4 - x2)) * (w64 (x5 - x1)))))))
def F71 (fuel : Nat) (x1 x2 x3 x4 x5 x6 : Int) : Option (Int) := D71 fuel x1 x2 x3 x4 x5 x6 some
theorem f71 {ρ : Type} (fuel : Nat) (x1 x2 x3 x4 x5 x6 : Int) (k : (Int) → Option ρ) : D71 fuel x1 x2 x3 x4 x5 x6 k = ob (F71 fuel x1 x2 x3 x4 x5 x6) k := by
  simp only [F71, D71, ob_bif, ob_ob, ob_none, ob_some]
theorem walk71 (fuel : Nat) (x1 x2 x3 x4 x5 x6 : Int) :
    evalF (C65 fuel) fuel A83 [.agg [(vi x1), (vi x2)], .agg [(vi x3), (vi x4)], .agg [(vi x5), (vi x6)]] =
    (some [.v (vi (w64 ((w64 ((w64 (x3 - x1)) * (w64 (x6 - x2)))) - (w64 ((w64 (x4 - x2)) * (w64 (x5 - x1)))))))]) := by kernel_rfl
theorem e71 (fuel : Nat) (x1 x2 x3 x4 x5 x6 : Int) : evalF (C65 fuel) fuel A83 [.agg [(vi x1), (vi x2)], .agg [(vi x3), (vi x4)], .agg [(vi x5), (vi x6)]] = ob (F71 fuel x1 x2 x3 x4 x5 x6) fun t => some [.v (vi t)] := by
  rw [walk71, ← f71]
  simp only [D71]
def O71 (fuel : Nat) : Ora where
  o := fun args {ρ} K =>
    wc args fun a1 l2 =>
    wagg a1 fun l3 =>
    wdI .i64 l3 fun y7 l5 =>
    wdI .i64 l5 fun y11 l9 =>
    wn l9 <|
    wc l2 fun a12 l13 =>
    wagg a12 fun l14 =>
    wdI .i64 l14 fun y18 l16 =>
    wdI .i64 l16 fun y22 l20 =>
    wn l20 <|
    wc l13 fun a23 l24 =>
    wagg a23 fun l25 =>
    wdI .i64 l25 fun y29 l27 =>
    wdI .i64 l27 fun y33 l31 =>
    wn l31 <|
    wn l24 <|
    (ob (F71 fuel y7 y11 y18 y22 y29 y33) fun t => K [.v (vi t)])
  nat := fun args {ρ} K => by
    simp only [bind_wagg, bind_wc, bind_wdI, bind_wn, bind_ob, Option.bind_some]
theorem d71 {P : Program} (fuel : Nat) (hmix : P.follows .mixedOrders = true) (hC : Sound P (C65 fuel)) (hF : FFits P 83 A83) (args res : List A) (h : (O71 fuel).o args some = some res) : Den P 83 args res := by
  obtain ⟨a1, l2, rfl, z0⟩ := inv_wc h
  obtain ⟨l3, rfl, z1⟩ := inv_wagg z0
  obtain ⟨a4, y7, l5, rfl, h6, z2⟩ := inv_wdI z1
  obtain ⟨a8, y11, l9, rfl, h10, z3⟩ := inv_wdI z2
  obtain ⟨hn, z4⟩ := inv_wn z3
  cases hn
  obtain ⟨a12, l13, rfl, z5⟩ := inv_wc z4
  obtain ⟨l14, rfl, z6⟩ := inv_wagg z5
  obtain ⟨a15, y18, l16, rfl, h17, z7⟩ := inv_wdI z6
  obtain ⟨a19, y22, l20, rfl, h21, z8⟩ := inv_wdI z7
  obtain ⟨hn, z9⟩ := inv_wn z8
  cases hn
  obtain ⟨a23, l24, rfl, z10⟩ := inv_wc z9
  obtain ⟨l25, rfl, z11⟩ := inv_wagg z10
  obtain ⟨a26, y29, l27, rfl, h28, z12⟩ := inv_wdI z11
  obtain ⟨a30, y33, l31, rfl, h32, z13⟩ := inv_wdI z12
  obtain ⟨hn, z14⟩ := inv_wn z13
  cases hn
  obtain ⟨hn, z15⟩ := inv_wn z14
  cases hn
  exact Den.weaken (.cons (WkA.agg (.cons h6 (.cons h10 .nil))) (.cons (WkA.agg (.cons h17 (.cons h21 .nil))) (.cons (WkA.agg (.cons h28 (.cons h32 .nil))) .nil))) (evalF_sound hmix hC hF ((e71 fuel y7 y11 y18 y22 y29 y33).trans z15))
def C66 (fuel : Nat) : Oracle := (C65 fuel).add 83 (fun _ => true) (O71 fuel)
def A82 : AF := ⟨52, [.tmp 6],
  (.seq (.region 0 [o1 3 (bx 0 40 0), o1 4 (bx 1 40 1), o1 5 (bx 2 40 2), o1 6 (sb false)] 3 none) []
  (.seq (.region 1 [o1 7 (ln 40 2 4), o1 8 (ln 40 2 5), o1 9 (ln 40 2 3), o1 10 (cs 83 [7, 8, 9] [40, 40, 40]), o1 11 (bk .eql 3 10 0), mv 12 11, og 13 (fa 40 4 0 0) 12 true, og 14 (lo 3 13) 12 true, og 15 (fa 40 5 0 0) 12 true, og 16 (lo 3 15) 12 true, og 17 (.mm false [(tm 14), (tm 16)] [3, 3]) 12 true, og 18 (fa 40 3 0 0) 12 true, og 19 (lo 3 18) 12 true, og 20 (bt .leq 3 17 19) 12 true, o1 21 (po 12 20), mv 22 21, og 23 (fa 40 3 0 0) 22 true, og 24 (lo 3 23) 22 true, og 25 (fa 40 4 0 0) 22 true, og 26 (lo 3 25) 22 true, og 27 (fa 40 5 0 0) 22 true, og 28 (lo 3 27) 22 true, og 29 (.mm true [(tm 26), (tm 28)] [3, 3]) 22 true, og 30 (bt .leq 3 24 29) 22 true, o1 31 (po 22 30), mv 32 31, og 33 (fa 40 4 1 1) 32 true, og 34 (lo 3 33) 32 true, og 35 (fa 40 5 1 1) 32 true, og 36 (lo 3 35) 32 true, og 37 (.mm false [(tm 34), (tm 36)] [3, 3]) 32 true, og 38 (fa 40 3 1 1) 32 true, og 39 (lo 3 38) 32 true, og 40 (bt .leq 3 37 39) 32 true, o1 41 (po 32 40), mv 42 41, og 43 (fa 40 3 1 1) 42 true, og 44 (lo 3 43) 42 true, og 45 (fa 40 4 1 1) 42 true, og 46 (lo 3 45) 42 true, og 47 (fa 40 5 1 1) 42 true, og 48 (lo 3 47) 42 true, og 49 (.mm true [(tm 46), (tm 48)] [3, 3]) 42 true, og 50 (bt .leq 3 44 49) 42 true, o1 51 (po 42 50), o1 6 (sg 51)] 0 none) []
  (.ret (rl 0 6 (rl 7 45 [])))))⟩
def D70 {ρ : Type} (fuel : Nat) (x1 x2 x3 x4 x5 x6 : Int) (k : Bool → Option ρ) : Option ρ :=
  (ob (F71 fuel x3 x4 x5 x6 x1 x2) fun x7 => (bif ((x7 == 0) == true) then (bif ((decide ((if x5 < x3 then x5 else x3) ≤ x1)) == true) then (bif ((decide (x1 ≤ (if x5 > x3 then x5 else x3))) == true) then (bif ((decide ((if x6 < x4 then x6 else x4) ≤ x2)) == true) then (k (decide (x2 ≤ (if x6 > x4 then x6 else x4)))) else (k false)) else (k false)) else (k false)) else (k false)))
def F70 (fuel : Nat) (x1 x2 x3 x4 x5 x6 : Int) : Option (Bool) := D70 fuel x1 x2 x3 x4 x5 x6 some
theorem f70 {ρ : Type} (fuel : Nat) (x1 x2 x3 x4 x5 x6 : Int) (k : (Bool) → Option ρ) : D70 fuel x1 x2 x3 x4 x5 x6 k = ob (F70 fuel x1 x2 x3 x4 x5 x6) k := by
  simp only [F70, D70, ob_bif, ob_ob, ob_none, ob_some]
theorem walk70 (fuel : Nat) (x1 x2 x3 x4 x5 x6 : Int) :
    evalF (C66 fuel) fuel A82 [.agg [(vi x1), (vi x2)], .agg [(vi x3), (vi x4)], .agg [(vi x5), (vi x6)]] =
    (ob (F71 fuel x3 x4 x5 x6 x1 x2) fun x7 => (bif ((x7 == 0) == true) then (bif ((decide ((if x5 < x3 then x5 else x3) ≤ x1)) == true) then (bif ((decide (x1 ≤ (if x5 > x3 then x5 else x3))) == true) then (bif ((decide ((if x6 < x4 then x6 else x4) ≤ x2)) == true) then (some [.v (.b (decide (x2 ≤ (if x6 > x4 then x6 else x4))))]) else (some [.v (.b false)])) else (some [.v (.b false)])) else (some [.v (.b false)])) else (some [.v (.b false)]))) := by kernel_rfl
theorem e70 (fuel : Nat) (x1 x2 x3 x4 x5 x6 : Int) : evalF (C66 fuel) fuel A82 [.agg [(vi x1), (vi x2)], .agg [(vi x3), (vi x4)], .agg [(vi x5), (vi x6)]] = ob (F70 fuel x1 x2 x3 x4 x5 x6) fun t => some [.v (.b t)] := by
  rw [walk70, ← f70]
  simp only [D70]
def O70 (fuel : Nat) : Ora where
  o := fun args {ρ} K =>
    wc args fun a1 l2 =>
    wagg a1 fun l3 =>
    wdI .i64 l3 fun y7 l5 =>
    wdI .i64 l5 fun y11 l9 =>
    wn l9 <|
    wc l2 fun a12 l13 =>
    wagg a12 fun l14 =>
    wdI .i64 l14 fun y18 l16 =>
    wdI .i64 l16 fun y22 l20 =>
    wn l20 <|
    wc l13 fun a23 l24 =>
    wagg a23 fun l25 =>
    wdI .i64 l25 fun y29 l27 =>
    wdI .i64 l27 fun y33 l31 =>
    wn l31 <|
    wn l24 <|
    (ob (F70 fuel y7 y11 y18 y22 y29 y33) fun t => K [.v (.b t)])
  nat := fun args {ρ} K => by
    simp only [bind_wagg, bind_wc, bind_wdI, bind_wn, bind_ob, Option.bind_some]
theorem d70 {P : Program} (fuel : Nat) (hmix : P.follows .mixedOrders = true) (hC : Sound P (C66 fuel)) (hF : FFits P 82 A82) (args res : List A) (h : (O70 fuel).o args some = some res) : Den P 82 args res := by
  obtain ⟨a1, l2, rfl, z0⟩ := inv_wc h
  obtain ⟨l3, rfl, z1⟩ := inv_wagg z0
  obtain ⟨a4, y7, l5, rfl, h6, z2⟩ := inv_wdI z1
  obtain ⟨a8, y11, l9, rfl, h10, z3⟩ := inv_wdI z2
  obtain ⟨hn, z4⟩ := inv_wn z3
  cases hn
  obtain ⟨a12, l13, rfl, z5⟩ := inv_wc z4
  obtain ⟨l14, rfl, z6⟩ := inv_wagg z5
  obtain ⟨a15, y18, l16, rfl, h17, z7⟩ := inv_wdI z6
  obtain ⟨a19, y22, l20, rfl, h21, z8⟩ := inv_wdI z7
  obtain ⟨hn, z9⟩ := inv_wn z8
  cases hn
  obtain ⟨a23, l24, rfl, z10⟩ := inv_wc z9
  obtain ⟨l25, rfl, z11⟩ := inv_wagg z10
  obtain ⟨a26, y29, l27, rfl, h28, z12⟩ := inv_wdI z11
  obtain ⟨a30, y33, l31, rfl, h32, z13⟩ := inv_wdI z12
  obtain ⟨hn, z14⟩ := inv_wn z13
  cases hn
  obtain ⟨hn, z15⟩ := inv_wn z14
  cases hn
  exact Den.weaken (.cons (WkA.agg (.cons h6 (.cons h10 .nil))) (.cons (WkA.agg (.cons h17 (.cons h21 .nil))) (.cons (WkA.agg (.cons h28 (.cons h32 .nil))) .nil))) (evalF_sound hmix hC hF ((e70 fuel y7 y11 y18 y22 y29 y33).trans z15))
def C67 (fuel : Nat) : Oracle := (C66 fuel).add 82 (fun _ => true) (O70 fuel)
def A107v1 : AC := (.seq (.region 5 [o1 2 (sk 0)] 0 none) []
  (.ret (0 :: 1 :: (rl 3 6 []))))
def A107 : AF := ⟨9, [.tmp 2],
  (.seq (.region 0 [o1 2 (sk 0)] 0 none) []
  (.seq (.block 0
  (.seq (.region 1 [mv 4 0, o1 5 (bk .lss 3 4 0), o1 3 (sg 5)] 0 none) []
    (.cond (tm 3)
    (.seq (.region 2 [o1 2 (sk (-1))] 0 none) []
      (.ret (0 :: 1 :: (rl 3 6 []))))
    (.seq (.region 3 [mv 7 0, o1 8 (bk .gtr 3 7 0), o1 6 (sg 8)] 0 none) []
      (.cond (tm 6)
      (.seq (.region 4 [o1 2 (sk 1)] 0 none) []
        (.ret (0 :: 1 :: (rl 3 6 []))))
      .skip))))) (rl 2 7 [])
  A107v1))⟩
def D88 {ρ : Type} (fuel : Nat) (x1 : Int) (k : Int → Option ρ) : Option ρ :=
  (bif (decide (x1 < 0)) then (k (-1)) else (bif (decide (x1 > 0)) then (k 1) else (k 0)))
def F88 (fuel : Nat) (x1 : Int) : Option (Int) := D88 fuel x1 some
theorem f88 {ρ : Type} (fuel : Nat) (x1 : Int) (k : (Int) → Option ρ) : D88 fuel x1 k = ob (F88 fuel x1) k := by
  simp only [F88, D88, ob_bif, ob_ob, ob_none, ob_some]
theorem walk88 (fuel : Nat) (x1 : Int) :
    evalF (C67 fuel) fuel A107 [.v (vi x1)] =
    (bif (decide (x1 < 0)) then (some [.v (vi (-1))]) else (bif (decide (x1 > 0)) then (some [.v (vi 1)]) else (some [.v (vi 0)]))) := by kernel_rfl
theorem e88 (fuel : Nat) (x1 : Int) : evalF (C67 fuel) fuel A107 [.v (vi x1)] = ob (F88 fuel x1) fun t => some [.v (vi t)] := by
  rw [walk88, ← f88]
  simp only [D88]
def O88 (fuel : Nat) : Ora where
  o := fun args {ρ} K =>
    wcI .i64 args fun y4 l2 =>
    wn l2 <|
    (ob (F88 fuel y4) fun t => K [.v (vi t)])
  nat := fun args {ρ} K => by
    simp only [bind_wcI, bind_wn, bind_ob, Option.bind_some]
theorem d88 {P : Program} (fuel : Nat) (hmix : P.follows .mixedOrders = true) (hC : Sound P (C67 fuel)) (hF : FFits P 107 A107) (args res : List A) (h : (O88 fuel).o args some = some res) : Den P 107 args res := by
  obtain ⟨a1, y4, l2, rfl, h3, z0⟩ := inv_wcI h
  obtain ⟨hn, z1⟩ := inv_wn z0
  cases hn
  exact Den.weaken (.cons h3 .nil) (evalF_sound hmix hC hF ((e88 fuel y4).trans z1))
def C68 (fuel : Nat) : Oracle := (C67 fuel).add 107 (fun _ => true) (O88 fuel)
def A103v1 : AC := (.seq (.region 3 [o1 31 (ln 40 2 4), o1 32 (ln 40 2 5), o1 33 (ln 40 2 6), o1 34 (cs 83 [31, 32, 33] [40, 40, 40]), o1 35 (cs 107 [34] [3]), o1 36 (ln 40 2 4), o1 37 (ln 40 2 5), o1 38 (ln 40 2 7), o1 39 (cs 83 [36, 37, 38] [40, 40, 40]), o1 40 (cs 107 [39] [3]), o1 41 (bt .mul 3 35 40), o1 42 (bk .lss 3 41 0), mv 43 42, og 44 (ln 40 2 6) 43 true, og 45 (ln 40 2 7) 43 true, og 46 (ln 40 2 4) 43 true, og 47 (cs 83 [44, 45, 46] [40, 40, 40]) 43 true, og 48 (cs 107 [47] [3]) 43 true, og 49 (ln 40 2 6) 43 true, og 50 (ln 40 2 7) 43 true, og 51 (ln 40 2 5) 43 true, og 52 (cs 83 [49, 50, 51] [40, 40, 40]) 43 true, og 53 (cs 107 [52] [3]) 43 true, og 54 (bt .mul 3 48 53) 43 true, og 55 (bk .lss 3 54 0) 43 true, o1 56 (po 43 55), o1 8 (sg 56)] 0 (some [[], [], [], [0, 1, 2], (rl 0 4 []), [], [], [], (rl 0 8 []), (rl 0 9 []), (rl 0 10 []), (rl 0 11 []), (rl 0 12 []), (rl 0 13 []), (rl 0 13 []), (rl 0 13 []), (rl 0 16 []), (rl 0 17 []), (rl 0 13 []), (rl 0 13 []), (rl 0 13 []), (rl 0 21 []), (rl 0 22 []), (rl 0 23 []), (rl 0 24 []), (rl 0 25 []), (rl 0 26 [])])) []
  (.ret (rl 0 8 (rl 9 48 []))))
def A103 : AF := ⟨57, [.tmp 8],
  (.seq (.region 0 [o1 4 (bx 0 40 0), o1 5 (bx 1 40 1), o1 6 (bx 2 40 2), o1 7 (bx 3 40 3), o1 8 (sb false)] 4 none) []
  (.seq (.seq (.region 1 [o1 9 (ln 40 2 4), o1 10 (ln 40 2 6), o1 11 (ln 40 2 7), o1 12 (cs 82 [9, 10, 11] [40, 40, 40]), mv 13 12, og 14 (ln 40 2 5) 13 false, og 15 (ln 40 2 6) 13 false, og 16 (ln 40 2 7) 13 false, og 17 (cs 82 [14, 15, 16] [40, 40, 40]) 13 false, o1 18 (pa 13 17), mv 19 18, og 20 (ln 40 2 6) 19 false, og 21 (ln 40 2 4) 19 false, og 22 (ln 40 2 5) 19 false, og 23 (cs 82 [20, 21, 22] [40, 40, 40]) 19 false, o1 24 (pa 19 23), mv 25 24, og 26 (ln 40 2 7) 25 false, og 27 (ln 40 2 4) 25 false, og 28 (ln 40 2 5) 25 false, og 29 (cs 82 [26, 27, 28] [40, 40, 40]) 25 false, o1 30 (pa 25 29)] 0 none) []
  (.cond (tm 30)
  (.seq (.region 2 [o1 8 (sb true)] 0 none) []
    (.ret (rl 0 8 (rl 9 48 []))))
  .skip)) (rl 8 23 [])
  A103v1))⟩
def D82 {ρ : Type} (fuel : Nat) (x1 x2 x3 x4 x5 x6 x7 x8 : Int) (k : Bool → Option ρ) : Option ρ :=
  (ob (F70 fuel x1 x2 x5 x6 x7 x8) fun x9 => (bif (x9 == false) then (ob (F70 fuel x3 x4 x5 x6 x7 x8) fun x10 => (bif (x10 == false) then (ob (F70 fuel x5 x6 x1 x2 x3 x4) fun x11 => (bif (x11 == false) then (ob (F70 fuel x7 x8 x1 x2 x3 x4) fun x12 => (bif x12 then (k true) else (ob (F71 fuel x1 x2 x3 x4 x5 x6) fun x21 => (ob (F88 fuel x21) fun x22 => (ob (F71 fuel x1 x2 x3 x4 x7 x8) fun x23 => (ob (F88 fuel x23) fun x24 => (bif ((decide ((w64 (x22 * x24)) < 0)) == true) then (ob (F71 fuel x5 x6 x7 x8 x1 x2) fun x25 => (ob (F88 fuel x25) fun x26 => (ob (F71 fuel x5 x6 x7 x8 x3 x4) fun x27 => (ob (F88 fuel x27) fun x28 => (k (decide ((w64 (x26 * x28)) < 0))))))) else (k false)))))))) else (k true))) else (k true))) else (k true)))
def F82 (fuel : Nat) (x1 x2 x3 x4 x5 x6 x7 x8 : Int) : Option (Bool) := D82 fuel x1 x2 x3 x4 x5 x6 x7 x8 some
theorem f82 {ρ : Type} (fuel : Nat) (x1 x2 x3 x4 x5 x6 x7 x8 : Int) (k : (Bool) → Option ρ) : D82 fuel x1 x2 x3 x4 x5 x6 x7 x8 k = ob (F82 fuel x1 x2 x3 x4 x5 x6 x7 x8) k := by
  simp only [F82, D82, ob_bif, ob_ob, ob_none, ob_some]
theorem walk82 (fuel : Nat) (x1 x2 x3 x4 x5 x6 x7 x8 : Int) :
    evalF (C68 fuel) fuel A103 [.agg [(vi x1), (vi x2)], .agg [(vi x3), (vi x4)], .agg [(vi x5), (vi x6)], .agg [(vi x7), (vi x8)]] =
    (ob (F70 fuel x1 x2 x5 x6 x7 x8) fun x9 => (bif (x9 == false) then (ob (F70 fuel x3 x4 x5 x6 x7 x8) fun x10 => (bif (x10 == false) then (ob (F70 fuel x5 x6 x1 x2 x3 x4) fun x11 => (bif (x11 == false) then (ob (F70 fuel x7 x8 x1 x2 x3 x4) fun x12 => (bif x12 then (some [.v (.b true)]) else (ob (F71 fuel x1 x2 x3 x4 x5 x6) fun x21 => (ob (F88 fuel x21) fun x22 => (ob (F71 fuel x1 x2 x3 x4 x7 x8) fun x23 => (ob (F88 fuel x23) fun x24 => (bif ((decide ((w64 (x22 * x24)) < 0)) == true) then (ob (F71 fuel x5 x6 x7 x8 x1 x2) fun x25 => (ob (F88 fuel x25) fun x26 => (ob (F71 fuel x5 x6 x7 x8 x3 x4) fun x27 => (ob (F88 fuel x27) fun x28 => (some [.v (.b (decide ((w64 (x26 * x28)) < 0)))]))))) else (some [.v (.b false)])))))))) else (some [.v (.b true)]))) else (some [.v (.b true)]))) else (some [.v (.b true)]))) := by kernel_rfl
theorem e82 (fuel : Nat) (x1 x2 x3 x4 x5 x6 x7 x8 : Int) : evalF (C68 fuel) fuel A103 [.agg [(vi x1), (vi x2)], .agg [(vi x3), (vi x4)], .agg [(vi x5), (vi x6)], .agg [(vi x7), (vi x8)]] = ob (F82 fuel x1 x2 x3 x4 x5 x6 x7 x8) fun t => some [.v (.b t)] := by
  rw [walk82, ← f82]
  simp only [D82]
def O82 (fuel : Nat) : Ora where
  o := fun args {ρ} K =>
    wc args fun a1 l2 =>
    wagg a1 fun l3 =>
    wdI .i64 l3 fun y7 l5 =>
    wdI .i64 l5 fun y11 l9 =>
    wn l9 <|
    wc l2 fun a12 l13 =>
    wagg a12 fun l14 =>
    wdI .i64 l14 fun y18 l16 =>
    wdI .i64 l16 fun y22 l20 =>
    wn l20 <|
    wc l13 fun a23 l24 =>
    wagg a23 fun l25 =>
    wdI .i64 l25 fun y29 l27 =>
    wdI .i64 l27 fun y33 l31 =>
    wn l31 <|
    wc l24 fun a34 l35 =>
    wagg a34 fun l36 =>
    wdI .i64 l36 fun y40 l38 =>
    wdI .i64 l38 fun y44 l42 =>
    wn l42 <|
    wn l35 <|
    (ob (F82 fuel y7 y11 y18 y22 y29 y33 y40 y44) fun t => K [.v (.b t)])
  nat := fun args {ρ} K => by
    simp only [bind_wagg, bind_wc, bind_wdI, bind_wn, bind_ob, Option.bind_some]
theorem d82 {P : Program} (fuel : Nat) (hmix : P.follows .mixedOrders = true) (hC : Sound P (C68 fuel)) (hF : FFits P 103 A103) (args res : List A) (h : (O82 fuel).o args some = some res) : Den P 103 args res := by
  obtain ⟨a1, l2, rfl, z0⟩ := inv_wc h
  obtain ⟨l3, rfl, z1⟩ := inv_wagg z0
  obtain ⟨a4, y7, l5, rfl, h6, z2⟩ := inv_wdI z1
  obtain ⟨a8, y11, l9, rfl, h10, z3⟩ := inv_wdI z2
  obtain ⟨hn, z4⟩ := inv_wn z3
  cases hn
  obtain ⟨a12, l13, rfl, z5⟩ := inv_wc z4
  obtain ⟨l14, rfl, z6⟩ := inv_wagg z5
  obtain ⟨a15, y18, l16, rfl, h17, z7⟩ := inv_wdI z6
  obtain ⟨a19, y22, l20, rfl, h21, z8⟩ := inv_wdI z7
  obtain ⟨hn, z9⟩ := inv_wn z8
  cases hn
  obtain ⟨a23, l24, rfl, z10⟩ := inv_wc z9
  obtain ⟨l25, rfl, z11⟩ := inv_wagg z10
  obtain ⟨a26, y29, l27, rfl, h28, z12⟩ := inv_wdI z11
  obtain ⟨a30, y33, l31, rfl, h32, z13⟩ := inv_wdI z12
  obtain ⟨hn, z14⟩ := inv_wn z13
  cases hn
  obtain ⟨a34, l35, rfl, z15⟩ := inv_wc z14
  obtain ⟨l36, rfl, z16⟩ := inv_wagg z15
  obtain ⟨a37, y40, l38, rfl, h39, z17⟩ := inv_wdI z16
  obtain ⟨a41, y44, l42, rfl, h43, z18⟩ := inv_wdI z17
  obtain ⟨hn, z19⟩ := inv_wn z18
  cases hn
  obtain ⟨hn, z20⟩ := inv_wn z19
  cases hn
  exact Den.weaken (.cons (WkA.agg (.cons h6 (.cons h10 .nil))) (.cons (WkA.agg (.cons h17 (.cons h21 .nil))) (.cons (WkA.agg (.cons h28 (.cons h32 .nil))) (.cons (WkA.agg (.cons h39 (.cons h43 .nil))) .nil)))) (evalF_sound hmix hC hF ((e82 fuel y7 y11 y18 y22 y29 y33 y40 y44).trans z20))
def C69 (fuel : Nat) : Oracle := (C68 fuel).add 103 (fun _ => true) (O82 fuel)
def A95v1 : AC := (.region 7 [mv 21 5, o1 22 (bk .add 3 21 1), o1 5 (sg 22)] 0 none)
def A95v2 : AC := (.seq (.block 3
  (.seq (.region 8 [mv 23 0, mv 24 4, o1 25 (.indexAddr 22 40 2 (tm 23) (tm 24)), o1 26 (ln 40 2 25), mv 27 0, mv 28 5, o1 29 (.indexAddr 22 40 2 (tm 27) (tm 28)), o1 30 (ln 40 2 29), o1 31 (.eqA false kP 40 (tm 26) (tm 30) 40)] 0 (some [[], [], [0, 1], [0, 1, 2], [], [], [4, 5], [4, 5, 6], (rl 0 8 [])])) []
    (.cond (tm 31)
    (.seq (.region 9 [o1 2 (sb false)] 0 none) []
      (.ret (0 :: 1 :: (rl 3 91 []))))
    .skip))) (2 :: (rl 23 9 []))
  A95v1)
def A95v3 : AC := (.seq (.seq (.region 6 [mv 18 5, mv 19 4, o1 20 (bt .lss 3 18 19)] 0 none) []
  (.cond (tm 20)
  .skip
  (.exit 2 (1 :: 2 :: (rl 5 89 []))))) [18, 19, 20]
  A95v2)
def A95v4 : AC := (.region 4 [mv 16 4, o1 17 (bk .add 3 16 1), o1 4 (sg 17)] 0 none)
def A95v5 : AC := (.seq (.block 1
  (.seq (.region 5 [o1 5 (sk 0)] 0 none) []
    (.block 2
    (.loop [] (1 :: 2 :: (rl 6 88 []))
      A95v3)))) (2 :: 5 :: (rl 18 14 []))
  A95v4)
def A95v6 : AC := (.seq (.seq (.region 3 [mv 13 4, mv 14 3, o1 15 (bt .lss 3 13 14)] 0 none) []
  (.cond (tm 15)
  .skip
  (.exit 0 (1 :: 2 :: (rl 4 90 []))))) [13, 14, 15]
  A95v5)
def A95v7 : AC := (.region 18 [mv 70 10, o1 71 (bk .add 3 70 1), o1 10 (sg 71)] 0 none)
def A95v8 : AC := (.seq (.block 7
  (.seq (.region 19 [mv 72 10, o1 73 (bk .add 3 72 1), mv 74 3, o1 75 (bt .rem 3 73 74), mv 76 6, o1 77 (bt .neq 3 75 76), mv 78 77, og 79 (ln 40 2 7) 78 true, og 80 (ln 40 2 8) 78 true, og 81 (.move (tm 0)) 78 true, og 82 (.move (tm 10)) 78 true, og 83 (.indexAddr 22 40 2 (tm 81) (tm 82)) 78 true, og 84 (ln 40 2 83) 78 true, og 85 (.move (tm 0)) 78 true, og 86 (.move (tm 10)) 78 true, og 87 (bk .add 3 86 1) 78 true, og 88 (.move (tm 3)) 78 true, og 89 (bt .rem 3 87 88) 78 true, og 90 (.indexAddr 22 40 2 (tm 85) (tm 89)) 78 true, og 91 (ln 40 2 90) 78 true, og 92 (cs 103 [79, 80, 84, 91] [40, 40, 40, 40]) 78 true, o1 93 (po 78 92)] 0 (some [[], [0], [], [0, 1, 2], [], (rl 0 5 []), (rl 0 6 []), (rl 0 7 []), (rl 0 7 []), (rl 0 7 []), (rl 0 7 []), (rl 0 7 [9, 10]), (rl 0 7 [9, 10, 11]), (rl 0 7 []), (rl 0 7 []), (rl 0 7 [14]), (rl 0 7 []), (rl 0 7 [14, 15, 16]), (rl 0 7 (rl 13 5 [])), (rl 0 7 (rl 13 6 [])), (rl 0 20 []), (rl 0 21 [])])) []
    (.cond (tm 93)
    (.seq (.region 20 [o1 2 (sb false)] 0 none) []
      (.ret (0 :: 1 :: (rl 3 91 []))))
    .skip))) (2 :: (rl 72 22 []))
  A95v7)
def A95v9 : AC := (.seq (.seq (.region 17 [mv 67 10, mv 68 3, o1 69 (bt .lss 3 67 68)] 0 none) []
  (.cond (tm 69)
  .skip
  (.exit 6 (1 :: 2 :: 4 :: 5 :: (rl 7 87 []))))) [67, 68, 69]
  A95v8)
def A95v10 : AC := (.seq (.region 16 [mv 65 6, o1 66 (bk .add 3 65 2), o1 10 (sg 66)] 0 none) []
  (.block 6
  (.loop [] (1 :: 2 :: 4 :: 5 :: 9 :: (rl 11 83 []))
    A95v9)))
def A95v11 : AC := (.region 12 [mv 35 6, o1 36 (bk .add 3 35 1), o1 6 (sg 36)] 0 none)
def A95v12 : AC := (.seq (.block 5
  (.seq (.region 13 [mv 37 0, mv 38 6, o1 39 (.indexAddr 22 40 2 (tm 37) (tm 38)), o1 40 (ln 40 2 39), mv 41 0, mv 42 6, o1 43 (bk .add 3 42 1), mv 44 3, o1 45 (bt .rem 3 43 44), o1 46 (.indexAddr 22 40 2 (tm 41) (tm 45)), o1 47 (ln 40 2 46), mv 48 0, mv 49 6, o1 50 (bk .add 3 49 2), mv 51 3, o1 52 (bt .rem 3 50 51), o1 53 (.indexAddr 22 40 2 (tm 48) (tm 52)), o1 54 (ln 40 2 53), o1 7 (.alloc 0 40 [vci 0, vci 0]), o1 8 (.alloc 1 40 [vci 0, vci 0]), o1 9 (.alloc 2 40 [vci 0, vci 0]), o0 (.store 40 2 (tm 7) (tm 40)), o0 (.store 40 2 (tm 8) (tm 47)), o0 (.store 40 2 (tm 9) (tm 54))] 3 (some [[], [], [0, 1], [0, 1, 2], [], [], [5], [], [5, 6, 7], (rl 4 5 []), (rl 4 6 []), [], [], [12], [], [12, 13, 14], (rl 11 5 []), (rl 11 6 []), [], [], [], (rl 0 4 [18, 19, 20]), (rl 0 11 (rl 18 4 [])), (rl 0 23 [])])) []
    (.seq (.seq (.region 14 [o1 55 (ln 40 2 7), o1 56 (ln 40 2 8), o1 57 (ln 40 2 9), o1 58 (cs 82 [55, 56, 57] [40, 40, 40]), mv 59 58, og 60 (ln 40 2 9) 59 false, og 61 (ln 40 2 7) 59 false, og 62 (ln 40 2 8) 59 false, og 63 (cs 82 [60, 61, 62] [40, 40, 40]) 59 false, o1 64 (pa 59 63)] 0 none) []
    (.cond (tm 64)
    (.seq (.region 15 [o1 2 (sb false)] 0 none) []
      (.ret (0 :: 1 :: (rl 3 91 []))))
    .skip)) (2 :: (rl 55 10 []))
    A95v10))) (2 :: (rl 7 4 (rl 37 57 [])))
  A95v11)
def A95v13 : AC := (.seq (.seq (.region 11 [mv 32 6, mv 33 3, o1 34 (bt .lss 3 32 33)] 0 none) []
  (.cond (tm 34)
  .skip
  (.exit 4 (rl 0 94 [])))) [32, 33, 34]
  A95v12)
def A95v14 : AC := (.seq (.region 21 [o1 2 (sb true)] 0 none) []
  (.ret (0 :: 1 :: (rl 3 91 []))))
def A95v15 : AC := (.seq (.seq (.region 10 [o1 6 (sk 0)] 0 none) []
  (.block 4
  (.loop [] (1 :: 2 :: 4 :: 5 :: (rl 7 87 []))
    A95v13))) (2 :: (rl 6 5 (rl 32 62 [])))
  A95v14)
def A95 : AF := ⟨94, [.tmp 2],
  (.seq (.region 0 [o1 2 (sb false)] 0 none) []
  (.seq (.region 1 [mv 11 0, o1 12 (.len 22 false (tm 11)), o1 3 (sg 12)] 0 none) []
  (.seq (.seq (.region 2 [o1 4 (sk 0)] 0 none) []
  (.block 0
  (.loop [] (1 :: 2 :: (rl 5 89 []))
    A95v6))) (2 :: 4 :: 5 :: (rl 13 19 []))
  A95v15)))⟩
def B67v2 (C : Oracle) (fuel : Nat) {ρ : Type} : St → (Ex → St → Option ρ) → Option ρ := fun st k => evalC C fuel A95v3 st k
def N67v2 : St → Option St := fun s => s.norm (1 :: 2 :: (rl 6 88 [])) 0
def s67v0 (x17 : Nat) (x18 : FF) (x19 x20 x21 : Int) : St := ⟨(.x (.c (.ro false kP x17 x18)) :: .u :: .u :: vxi x19 :: vxi x20 :: vxi x21 :: (us 88 [])), []⟩
def s67v1 : St := ⟨(.u :: .u :: vxb false :: (us 91 [])), []⟩
def s67v2 (x17 : Nat) (x18 : FF) (x19 x20 : Int) : St := ⟨(.x (.c (.ro false kP x17 x18)) :: .u :: .u :: vxi x19 :: vxi x20 :: (us 89 [])), []⟩
def L67v2 {ρ : Type} (fuel : Nat) (x17 : Nat) (x18 : FF) (x19 x20 : Int) : Nat → Int → (Option ρ) → (Option ρ) → Option ρ
  | 0, _, _, _ => none
  | m + 1, x21, k0, k1 =>
    (bif (decide (x21 < x20)) then (bif (inb x20 x17) then (bif (inb x21 x17) then (bif (((CV.int (x18 (Int.toNat x20) 0)) == (CV.int (x18 (Int.toNat x21) 0))) && (((CV.int (x18 (Int.toNat x20) 1)) == (CV.int (x18 (Int.toNat x21) 1))) && true)) then k0 else (L67v2 fuel x17 x18 x19 x20 m (w64 (x21 + 1)) k0 k1)) else none) else none) else k1)
theorem nl67v2 {ρ σ : Type} (fuel : Nat) (x17 : Nat) (x18 : FF) (x19 x20 : Int) (g : ρ → Option σ) : ∀ (m : Nat) (x21 : Int) (k0 : Option ρ) (k1 : Option ρ), ob (L67v2 fuel x17 x18 x19 x20 m x21 k0 k1) g = L67v2 fuel x17 x18 x19 x20 m x21 (ob k0 g) (ob k1 g)
  | 0, _, _, _ => rfl
  | m + 1, x21, k0, k1 => by
    simp only [L67v2, ob_bif, ob_ob, ob_none, nl67v2 fuel x17 x18 x19 x20 g m]
theorem r67v2 (fuel : Nat) (m : Nat) {ρ : Type} (k : Ex → St → Option ρ) (x17 : Nat) (x18 : FF) (x19 x20 x21 : Int) :
    loopH (B67v2 (C69 fuel) fuel) N67v2 (m + 1) (s67v0 x17 x18 x19 x20 x21) k =
    (bif (decide (x21 < x20)) then (bif (inb x20 x17) then (bif (inb x21 x17) then (bif (((CV.int (x18 (Int.toNat x20) 0)) == (CV.int (x18 (Int.toNat x21) 0))) && (((CV.int (x18 (Int.toNat x20) 1)) == (CV.int (x18 (Int.toNat x21) 1))) && true)) then (k .ret s67v1) else (loopH (B67v2 (C69 fuel) fuel) N67v2 m (s67v0 x17 x18 x19 x20 (w64 (x21 + 1))) k)) else none) else none) else (k (.exit 2) (s67v2 x17 x18 x19 x20))) := by kernel_rfl
theorem q67v2 (fuel : Nat) (x17 : Nat) (x18 : FF) (x19 x20 : Int) {ρ : Type} (k : Ex → St → Option ρ) : ∀ (m : Nat) (x21 : Int),
    loopH (B67v2 (C69 fuel) fuel) N67v2 m (s67v0 x17 x18 x19 x20 x21) k = L67v2 fuel x17 x18 x19 x20 m x21 (k .ret s67v1) (k (.exit 2) (s67v2 x17 x18 x19 x20))
  | 0, _ => rfl
  | m + 1, x21 => by
    rw [r67v2]
    simp only [L67v2, q67v2 fuel x17 x18 x19 x20 k m]
def B67v3 (C : Oracle) (fuel : Nat) {ρ : Type} : St → (Ex → St → Option ρ) → Option ρ := fun st k => evalC C fuel A95v6 st k
def N67v3 : St → Option St := fun s => s.norm (1 :: 2 :: (rl 5 89 [])) 0
def s67v3 (x9 : Nat) (x10 : FF) (x11 x12 : Int) : St := ⟨(.x (.c (.ro false kP x9 x10)) :: .u :: .u :: vxi x11 :: vxi x12 :: (us 89 [])), []⟩
def s67v4 (x9 : Nat) (x10 : FF) (x11 : Int) : St := ⟨(.x (.c (.ro false kP x9 x10)) :: .u :: .u :: vxi x11 :: (us 90 [])), []⟩
def L67v3 {ρ : Type} (fuel : Nat) (x9 : Nat) (x10 : FF) (x11 : Int) : Nat → Int → (Option ρ) → (Option ρ) → Option ρ
  | 0, _, _, _ => none
  | m + 1, x12, k0, k1 =>
    (bif (decide (x12 < x11)) then (L67v2 fuel x9 x10 x11 x12 fuel 0
    k0
    (L67v3 fuel x9 x10 x11 m (w64 (x12 + 1)) k0 k1)) else k1)
theorem nl67v3 {ρ σ : Type} (fuel : Nat) (x9 : Nat) (x10 : FF) (x11 : Int) (g : ρ → Option σ) : ∀ (m : Nat) (x12 : Int) (k0 : Option ρ) (k1 : Option ρ), ob (L67v3 fuel x9 x10 x11 m x12 k0 k1) g = L67v3 fuel x9 x10 x11 m x12 (ob k0 g) (ob k1 g)
  | 0, _, _, _ => rfl
  | m + 1, x12, k0, k1 => by
    simp only [L67v3, ob_bif, ob_ob, ob_none, nl67v3 fuel x9 x10 x11 g m, nl67v2]
def s67v5 (x9 : Nat) (x10 : FF) (x11 x12 : Int) : St := ⟨(.x (.c (.ro false kP x9 x10)) :: .u :: .u :: vxi x11 :: vxi x12 :: vxi 0 :: (us 88 [])), []⟩
theorem r67v3 (fuel : Nat) (m : Nat) {ρ : Type} (k : Ex → St → Option ρ) (x9 : Nat) (x10 : FF) (x11 x12 : Int) :
    loopH (B67v3 (C69 fuel) fuel) N67v3 (m + 1) (s67v3 x9 x10 x11 x12) k =
    (bif (decide (x12 < x11)) then (loopN (B67v2 (C69 fuel) fuel) N67v2 fuel (s67v5 x9 x10 x11 x12) (kBlk 2 (kBlk 1 (kSeq (C69 fuel) fuel (2 :: 5 :: (rl 18 14 [])) A95v4 (kLoop (B67v3 (C69 fuel) fuel) N67v3 m k))))) else (k (.exit 0) (s67v4 x9 x10 x11))) := by kernel_rfl
theorem t67v1 (fuel : Nat) {ρ : Type} (k : Ex → St → Option ρ) (x9 : Nat) (x10 : FF) (x11 x12 : Int) :
    loopN (B67v2 (C69 fuel) fuel) N67v2 fuel (s67v5 x9 x10 x11 x12) k =
    L67v2 fuel x9 x10 x11 x12 fuel 0 (k .ret s67v1) (k (.exit 2) (s67v2 x9 x10 x11 x12)) :=
  (loopN_at (st' := (s67v0 x9 x10 x11 x12 0)) (by kernel_rfl)).trans (q67v2 fuel x9 x10 x11 x12 k fuel 0)
theorem g67v2 (fuel : Nat) (m : Nat) {ρ : Type} (k : Ex → St → Option ρ) :
    (kBlk 2 (kBlk 1 (kSeq (C69 fuel) fuel (2 :: 5 :: (rl 18 14 [])) A95v4 (kLoop (B67v3 (C69 fuel) fuel) N67v3 m k)))) .ret s67v1 =
    (k .ret s67v1) := by kernel_rfl
theorem g67v3 (fuel : Nat) (m : Nat) {ρ : Type} (k : Ex → St → Option ρ) (x9 : Nat) (x10 : FF) (x11 x12 : Int) :
    (kBlk 2 (kBlk 1 (kSeq (C69 fuel) fuel (2 :: 5 :: (rl 18 14 [])) A95v4 (kLoop (B67v3 (C69 fuel) fuel) N67v3 m k)))) (.exit 2) (s67v2 x9 x10 x11 x12) =
    (loopH (B67v3 (C69 fuel) fuel) N67v3 m (s67v3 x9 x10 x11 (w64 (x12 + 1))) k) := by kernel_rfl
theorem q67v3 (fuel : Nat) (x9 : Nat) (x10 : FF) (x11 : Int) {ρ : Type} (k : Ex → St → Option ρ) : ∀ (m : Nat) (x12 : Int),
    loopH (B67v3 (C69 fuel) fuel) N67v3 m (s67v3 x9 x10 x11 x12) k = L67v3 fuel x9 x10 x11 m x12 (k .ret s67v1) (k (.exit 0) (s67v4 x9 x10 x11))
  | 0, _ => rfl
  | m + 1, x12 => by
    rw [r67v3]
    simp only [L67v3, q67v3 fuel x9 x10 x11 k m, t67v1, g67v2, g67v3]
def B67v5 (C : Oracle) (fuel : Nat) {ρ : Type} : St → (Ex → St → Option ρ) → Option ρ := fun st k => evalC C fuel A95v9 st k
def N67v5 : St → Option St := fun s => s.norm (1 :: 2 :: 4 :: 5 :: 9 :: (rl 11 83 [])) 3
def s67v6 (x67 : Nat) (x68 : FF) (x69 x70 x71 x72 x73 x74 x75 x76 x77 : Int) : St := ⟨(.x (.c (.ro false kP x67 x68)) :: .u :: .u :: vxi x69 :: .u :: .u :: vxi x70 :: .x (.ptr 0 0) :: .x (.ptr 1 0) :: .u :: vxi x71 :: (us 83 [])), [.box [(vci x72), (vci x73)], .box [(vci x74), (vci x75)], .box [(vci x76), (vci x77)]]⟩
def s67v7 (x72 x73 x74 x75 x76 x77 : Int) : St := ⟨(.u :: .u :: vxb false :: (us 91 [])), [.box [(vci x72), (vci x73)], .box [(vci x74), (vci x75)], .box [(vci x76), (vci x77)]]⟩
def s67v8 (x67 : Nat) (x68 : FF) (x69 x70 x72 x73 x74 x75 x76 x77 : Int) : St := ⟨(.x (.c (.ro false kP x67 x68)) :: .u :: .u :: vxi x69 :: .u :: .u :: vxi x70 :: (us 87 [])), [.box [(vci x72), (vci x73)], .box [(vci x74), (vci x75)], .box [(vci x76), (vci x77)]]⟩
def L67v5 {ρ : Type} (fuel : Nat) (x67 : Nat) (x68 : FF) (x69 x70 x72 x73 x74 x75 x76 x77 : Int) : Nat → Int → (Option ρ) → (Option ρ) → Option ρ
  | 0, _, _, _ => none
  | m + 1, x71, k0, k1 =>
    (bif (decide (x71 < x69)) then (bif (x69 == 0) then none else (bif (((Int.tmod (w64 (x71 + 1)) x69) != x70) == true) then (bif (inb x71 x67) then (bif (x69 == 0) then none else (bif (inb (Int.tmod (w64 (x71 + 1)) x69) x67) then (ob (F82 fuel x72 x73 x74 x75 (CV.int (x68 (Int.toNat x71) 0)) (CV.int (x68 (Int.toNat x71) 1)) (CV.int (x68 (Int.toNat (Int.tmod (w64 (x71 + 1)) x69)) 0)) (CV.int (x68 (Int.toNat (Int.tmod (w64 (x71 + 1)) x69)) 1))) fun x78 => (bif x78 then k0 else (L67v5 fuel x67 x68 x69 x70 x72 x73 x74 x75 x76 x77 m (w64 (x71 + 1)) k0 k1))) else none)) else none) else (L67v5 fuel x67 x68 x69 x70 x72 x73 x74 x75 x76 x77 m (w64 (x71 + 1)) k0 k1))) else k1)
theorem nl67v5 {ρ σ : Type} (fuel : Nat) (x67 : Nat) (x68 : FF) (x69 x70 x72 x73 x74 x75 x76 x77 : Int) (g : ρ → Option σ) : ∀ (m : Nat) (x71 : Int) (k0 : Option ρ) (k1 : Option ρ), ob (L67v5 fuel x67 x68 x69 x70 x72 x73 x74 x75 x76 x77 m x71 k0 k1) g = L67v5 fuel x67 x68 x69 x70 x72 x73 x74 x75 x76 x77 m x71 (ob k0 g) (ob k1 g)
  | 0, _, _, _ => rfl
  | m + 1, x71, k0, k1 => by
    simp only [L67v5, ob_bif, ob_ob, ob_none, nl67v5 fuel x67 x68 x69 x70 x72 x73 x74 x75 x76 x77 g m]
theorem r67v5 (fuel : Nat) (m : Nat) {ρ : Type} (k : Ex → St → Option ρ) (x67 : Nat) (x68 : FF) (x69 x70 x72 x73 x74 x75 x76 x77 x71 : Int) :
    loopH (B67v5 (C69 fuel) fuel) N67v5 (m + 1) (s67v6 x67 x68 x69 x70 x71 x72 x73 x74 x75 x76 x77) k =
    (bif (decide (x71 < x69)) then (bif (x69 == 0) then none else (bif (((Int.tmod (w64 (x71 + 1)) x69) != x70) == true) then (bif (inb x71 x67) then (bif (x69 == 0) then none else (bif (inb (Int.tmod (w64 (x71 + 1)) x69) x67) then (ob (F82 fuel x72 x73 x74 x75 (CV.int (x68 (Int.toNat x71) 0)) (CV.int (x68 (Int.toNat x71) 1)) (CV.int (x68 (Int.toNat (Int.tmod (w64 (x71 + 1)) x69)) 0)) (CV.int (x68 (Int.toNat (Int.tmod (w64 (x71 + 1)) x69)) 1))) fun x78 => (bif x78 then (k .ret (s67v7 x72 x73 x74 x75 x76 x77)) else (loopH (B67v5 (C69 fuel) fuel) N67v5 m (s67v6 x67 x68 x69 x70 (w64 (x71 + 1)) x72 x73 x74 x75 x76 x77) k))) else none)) else none) else (loopH (B67v5 (C69 fuel) fuel) N67v5 m (s67v6 x67 x68 x69 x70 (w64 (x71 + 1)) x72 x73 x74 x75 x76 x77) k))) else (k (.exit 6) (s67v8 x67 x68 x69 x70 x72 x73 x74 x75 x76 x77))) := by kernel_rfl
theorem q67v5 (fuel : Nat) (x67 : Nat) (x68 : FF) (x69 x70 x72 x73 x74 x75 x76 x77 : Int) {ρ : Type} (k : Ex → St → Option ρ) : ∀ (m : Nat) (x71 : Int),
    loopH (B67v5 (C69 fuel) fuel) N67v5 m (s67v6 x67 x68 x69 x70 x71 x72 x73 x74 x75 x76 x77) k = L67v5 fuel x67 x68 x69 x70 x72 x73 x74 x75 x76 x77 m x71 (k .ret (s67v7 x72 x73 x74 x75 x76 x77)) (k (.exit 6) (s67v8 x67 x68 x69 x70 x72 x73 x74 x75 x76 x77))
  | 0, _ => rfl
  | m + 1, x71 => by
    rw [r67v5]
    simp only [L67v5, q67v5 fuel x67 x68 x69 x70 x72 x73 x74 x75 x76 x77 k m]
def B67v6 (C : Oracle) (fuel : Nat) {ρ : Type} : St → (Ex → St → Option ρ) → Option ρ := fun st k => evalC C fuel A95v13 st k
def N67v6 : St → Option St := fun s => s.norm (1 :: 2 :: 4 :: 5 :: (rl 7 87 [])) 0
def s67v9 (x49 : Nat) (x50 : FF) (x51 x52 : Int) : St := ⟨(.x (.c (.ro false kP x49 x50)) :: .u :: .u :: vxi x51 :: .u :: .u :: vxi x52 :: (us 87 [])), []⟩
def s67v10 (x79 x80 x81 x82 x83 x84 : Int) : St := ⟨(.u :: .u :: vxb false :: (us 91 [])), [.box [(vci x79), (vci x80)], .box [(vci x81), (vci x82)], .box [(vci x83), (vci x84)]]⟩
def s67v11 : St := ⟨(us 94 []), []⟩
def L67v6 {ρ : Type} (fuel : Nat) (x49 : Nat) (x50 : FF) (x51 : Int) : Nat → Int → (Int → Int → Int → Int → Int → Int → Option ρ) → (Option ρ) → Option ρ
  | 0, _, _, _ => none
  | m + 1, x52, k0, k1 =>
    (bif (decide (x52 < x51)) then (bif (inb x52 x49) then (bif (x51 == 0) then none else (bif (inb (Int.tmod (w64 (x52 + 1)) x51) x49) then (bif (x51 == 0) then none else (bif (inb (Int.tmod (w64 (x52 + 2)) x51) x49) then (ob (F70 fuel (CV.int (x50 (Int.toNat x52) 0)) (CV.int (x50 (Int.toNat x52) 1)) (CV.int (x50 (Int.toNat (Int.tmod (w64 (x52 + 1)) x51)) 0)) (CV.int (x50 (Int.toNat (Int.tmod (w64 (x52 + 1)) x51)) 1)) (CV.int (x50 (Int.toNat (Int.tmod (w64 (x52 + 2)) x51)) 0)) (CV.int (x50 (Int.toNat (Int.tmod (w64 (x52 + 2)) x51)) 1))) fun x53 => (bif (x53 == false) then (ob (F70 fuel (CV.int (x50 (Int.toNat (Int.tmod (w64 (x52 + 2)) x51)) 0)) (CV.int (x50 (Int.toNat (Int.tmod (w64 (x52 + 2)) x51)) 1)) (CV.int (x50 (Int.toNat x52) 0)) (CV.int (x50 (Int.toNat x52) 1)) (CV.int (x50 (Int.toNat (Int.tmod (w64 (x52 + 1)) x51)) 0)) (CV.int (x50 (Int.toNat (Int.tmod (w64 (x52 + 1)) x51)) 1))) fun x54 => (bif x54 then (k0 (CV.int (x50 (Int.toNat x52) 0)) (CV.int (x50 (Int.toNat x52) 1)) (CV.int (x50 (Int.toNat (Int.tmod (w64 (x52 + 1)) x51)) 0)) (CV.int (x50 (Int.toNat (Int.tmod (w64 (x52 + 1)) x51)) 1)) (CV.int (x50 (Int.toNat (Int.tmod (w64 (x52 + 2)) x51)) 0)) (CV.int (x50 (Int.toNat (Int.tmod (w64 (x52 + 2)) x51)) 1))) else (L67v5 fuel x49 x50 x51 x52 (CV.int (x50 (Int.toNat x52) 0)) (CV.int (x50 (Int.toNat x52) 1)) (CV.int (x50 (Int.toNat (Int.tmod (w64 (x52 + 1)) x51)) 0)) (CV.int (x50 (Int.toNat (Int.tmod (w64 (x52 + 1)) x51)) 1)) (CV.int (x50 (Int.toNat (Int.tmod (w64 (x52 + 2)) x51)) 0)) (CV.int (x50 (Int.toNat (Int.tmod (w64 (x52 + 2)) x51)) 1)) fuel (w64 (x52 + 2))
    (k0 (CV.int (x50 (Int.toNat x52) 0)) (CV.int (x50 (Int.toNat x52) 1)) (CV.int (x50 (Int.toNat (Int.tmod (w64 (x52 + 1)) x51)) 0)) (CV.int (x50 (Int.toNat (Int.tmod (w64 (x52 + 1)) x51)) 1)) (CV.int (x50 (Int.toNat (Int.tmod (w64 (x52 + 2)) x51)) 0)) (CV.int (x50 (Int.toNat (Int.tmod (w64 (x52 + 2)) x51)) 1)))
    (L67v6 fuel x49 x50 x51 m (w64 (x52 + 1)) k0 k1)))) else (k0 (CV.int (x50 (Int.toNat x52) 0)) (CV.int (x50 (Int.toNat x52) 1)) (CV.int (x50 (Int.toNat (Int.tmod (w64 (x52 + 1)) x51)) 0)) (CV.int (x50 (Int.toNat (Int.tmod (w64 (x52 + 1)) x51)) 1)) (CV.int (x50 (Int.toNat (Int.tmod (w64 (x52 + 2)) x51)) 0)) (CV.int (x50 (Int.toNat (Int.tmod (w64 (x52 + 2)) x51)) 1))))) else none)) else none)) else none) else k1)
theorem nl67v6 {ρ σ : Type} (fuel : Nat) (x49 : Nat) (x50 : FF) (x51 : Int) (g : ρ → Option σ) : ∀ (m : Nat) (x52 : Int) (k0 : Int → Int → Int → Int → Int → Int → Option ρ) (k1 : Option ρ), ob (L67v6 fuel x49 x50 x51 m x52 k0 k1) g = L67v6 fuel x49 x50 x51 m x52 (fun x79 x80 x81 x82 x83 x84 => ob (k0 x79 x80 x81 x82 x83 x84) g) (ob k1 g)
  | 0, _, _, _ => rfl
  | m + 1, x52, k0, k1 => by
    simp only [L67v6, ob_bif, ob_ob, ob_none, nl67v6 fuel x49 x50 x51 g m, nl67v5]
def s67v12 (x49 : Nat) (x50 : FF) (x51 x52 : Int) : St := ⟨(.x (.c (.ro false kP x49 x50)) :: .u :: .u :: vxi x51 :: .u :: .u :: vxi x52 :: .x (.ptr 0 0) :: .x (.ptr 1 0) :: .x (.ptr 2 0) :: vxi (w64 (x52 + 2)) :: (us 26 (.x (.c (.ro false kP x49 x50)) :: vxi x52 :: .x (.c (.rp kP (x50 (Int.toNat x52)))) :: .agg [(vci (CV.int (x50 (Int.toNat x52) 0))), (vci (CV.int (x50 (Int.toNat x52) 1)))] :: .x (.c (.ro false kP x49 x50)) :: vxi x52 :: vxi (w64 (x52 + 1)) :: vxi x51 :: vxi (Int.tmod (w64 (x52 + 1)) x51) :: .x (.c (.rp kP (x50 (Int.toNat (Int.tmod (w64 (x52 + 1)) x51))))) :: .agg [(vci (CV.int (x50 (Int.toNat (Int.tmod (w64 (x52 + 1)) x51)) 0))), (vci (CV.int (x50 (Int.toNat (Int.tmod (w64 (x52 + 1)) x51)) 1)))] :: .x (.c (.ro false kP x49 x50)) :: vxi x52 :: vxi (w64 (x52 + 2)) :: vxi x51 :: vxi (Int.tmod (w64 (x52 + 2)) x51) :: .x (.c (.rp kP (x50 (Int.toNat (Int.tmod (w64 (x52 + 2)) x51))))) :: .agg [(vci (CV.int (x50 (Int.toNat (Int.tmod (w64 (x52 + 2)) x51)) 0))), (vci (CV.int (x50 (Int.toNat (Int.tmod (w64 (x52 + 2)) x51)) 1)))] :: (us 10 (vxi x52 :: vxi (w64 (x52 + 2)) :: (us 27 [])))))), [.box [(vci (CV.int (x50 (Int.toNat x52) 0))), (vci (CV.int (x50 (Int.toNat x52) 1)))], .box [(vci (CV.int (x50 (Int.toNat (Int.tmod (w64 (x52 + 1)) x51)) 0))), (vci (CV.int (x50 (Int.toNat (Int.tmod (w64 (x52 + 1)) x51)) 1)))], .box [(vci (CV.int (x50 (Int.toNat (Int.tmod (w64 (x52 + 2)) x51)) 0))), (vci (CV.int (x50 (Int.toNat (Int.tmod (w64 (x52 + 2)) x51)) 1)))]]⟩
theorem r67v6 (fuel : Nat) (m : Nat) {ρ : Type} (k : Ex → St → Option ρ) (x49 : Nat) (x50 : FF) (x51 x52 : Int) :
    loopH (B67v6 (C69 fuel) fuel) N67v6 (m + 1) (s67v9 x49 x50 x51 x52) k =
    (bif (decide (x52 < x51)) then (bif (inb x52 x49) then (bif (x51 == 0) then none else (bif (inb (Int.tmod (w64 (x52 + 1)) x51) x49) then (bif (x51 == 0) then none else (bif (inb (Int.tmod (w64 (x52 + 2)) x51) x49) then (ob (F70 fuel (CV.int (x50 (Int.toNat x52) 0)) (CV.int (x50 (Int.toNat x52) 1)) (CV.int (x50 (Int.toNat (Int.tmod (w64 (x52 + 1)) x51)) 0)) (CV.int (x50 (Int.toNat (Int.tmod (w64 (x52 + 1)) x51)) 1)) (CV.int (x50 (Int.toNat (Int.tmod (w64 (x52 + 2)) x51)) 0)) (CV.int (x50 (Int.toNat (Int.tmod (w64 (x52 + 2)) x51)) 1))) fun x53 => (bif (x53 == false) then (ob (F70 fuel (CV.int (x50 (Int.toNat (Int.tmod (w64 (x52 + 2)) x51)) 0)) (CV.int (x50 (Int.toNat (Int.tmod (w64 (x52 + 2)) x51)) 1)) (CV.int (x50 (Int.toNat x52) 0)) (CV.int (x50 (Int.toNat x52) 1)) (CV.int (x50 (Int.toNat (Int.tmod (w64 (x52 + 1)) x51)) 0)) (CV.int (x50 (Int.toNat (Int.tmod (w64 (x52 + 1)) x51)) 1))) fun x54 => (bif x54 then (k .ret (s67v10 (CV.int (x50 (Int.toNat x52) 0)) (CV.int (x50 (Int.toNat x52) 1)) (CV.int (x50 (Int.toNat (Int.tmod (w64 (x52 + 1)) x51)) 0)) (CV.int (x50 (Int.toNat (Int.tmod (w64 (x52 + 1)) x51)) 1)) (CV.int (x50 (Int.toNat (Int.tmod (w64 (x52 + 2)) x51)) 0)) (CV.int (x50 (Int.toNat (Int.tmod (w64 (x52 + 2)) x51)) 1)))) else (loopN (B67v5 (C69 fuel) fuel) N67v5 fuel (s67v12 x49 x50 x51 x52) (kBlk 6 (kBlk 5 (kSeq (C69 fuel) fuel (2 :: (rl 7 4 (rl 37 57 []))) A95v11 (kLoop (B67v6 (C69 fuel) fuel) N67v6 m k))))))) else (k .ret (s67v10 (CV.int (x50 (Int.toNat x52) 0)) (CV.int (x50 (Int.toNat x52) 1)) (CV.int (x50 (Int.toNat (Int.tmod (w64 (x52 + 1)) x51)) 0)) (CV.int (x50 (Int.toNat (Int.tmod (w64 (x52 + 1)) x51)) 1)) (CV.int (x50 (Int.toNat (Int.tmod (w64 (x52 + 2)) x51)) 0)) (CV.int (x50 (Int.toNat (Int.tmod (w64 (x52 + 2)) x51)) 1)))))) else none)) else none)) else none) else (k (.exit 4) s67v11)) := by kernel_rfl
theorem t67v4 (fuel : Nat) {ρ : Type} (k : Ex → St → Option ρ) (x49 : Nat) (x50 : FF) (x51 x52 : Int) :
    loopN (B67v5 (C69 fuel) fuel) N67v5 fuel (s67v12 x49 x50 x51 x52) k =
    L67v5 fuel x49 x50 x51 x52 (CV.int (x50 (Int.toNat x52) 0)) (CV.int (x50 (Int.toNat x52) 1)) (CV.int (x50 (Int.toNat (Int.tmod (w64 (x52 + 1)) x51)) 0)) (CV.int (x50 (Int.toNat (Int.tmod (w64 (x52 + 1)) x51)) 1)) (CV.int (x50 (Int.toNat (Int.tmod (w64 (x52 + 2)) x51)) 0)) (CV.int (x50 (Int.toNat (Int.tmod (w64 (x52 + 2)) x51)) 1)) fuel (w64 (x52 + 2)) (k .ret (s67v7 (CV.int (x50 (Int.toNat x52) 0)) (CV.int (x50 (Int.toNat x52) 1)) (CV.int (x50 (Int.toNat (Int.tmod (w64 (x52 + 1)) x51)) 0)) (CV.int (x50 (Int.toNat (Int.tmod (w64 (x52 + 1)) x51)) 1)) (CV.int (x50 (Int.toNat (Int.tmod (w64 (x52 + 2)) x51)) 0)) (CV.int (x50 (Int.toNat (Int.tmod (w64 (x52 + 2)) x51)) 1)))) (k (.exit 6) (s67v8 x49 x50 x51 x52 (CV.int (x50 (Int.toNat x52) 0)) (CV.int (x50 (Int.toNat x52) 1)) (CV.int (x50 (Int.toNat (Int.tmod (w64 (x52 + 1)) x51)) 0)) (CV.int (x50 (Int.toNat (Int.tmod (w64 (x52 + 1)) x51)) 1)) (CV.int (x50 (Int.toNat (Int.tmod (w64 (x52 + 2)) x51)) 0)) (CV.int (x50 (Int.toNat (Int.tmod (w64 (x52 + 2)) x51)) 1)))) :=
  (loopN_at (st' := (s67v6 x49 x50 x51 x52 (w64 (x52 + 2)) (CV.int (x50 (Int.toNat x52) 0)) (CV.int (x50 (Int.toNat x52) 1)) (CV.int (x50 (Int.toNat (Int.tmod (w64 (x52 + 1)) x51)) 0)) (CV.int (x50 (Int.toNat (Int.tmod (w64 (x52 + 1)) x51)) 1)) (CV.int (x50 (Int.toNat (Int.tmod (w64 (x52 + 2)) x51)) 0)) (CV.int (x50 (Int.toNat (Int.tmod (w64 (x52 + 2)) x51)) 1)))) (by kernel_rfl)).trans (q67v5 fuel x49 x50 x51 x52 (CV.int (x50 (Int.toNat x52) 0)) (CV.int (x50 (Int.toNat x52) 1)) (CV.int (x50 (Int.toNat (Int.tmod (w64 (x52 + 1)) x51)) 0)) (CV.int (x50 (Int.toNat (Int.tmod (w64 (x52 + 1)) x51)) 1)) (CV.int (x50 (Int.toNat (Int.tmod (w64 (x52 + 2)) x51)) 0)) (CV.int (x50 (Int.toNat (Int.tmod (w64 (x52 + 2)) x51)) 1)) k fuel (w64 (x52 + 2)))
theorem g67v5 (fuel : Nat) (m : Nat) {ρ : Type} (k : Ex → St → Option ρ) (x50 : FF) (x52 x51 : Int) :
    (kBlk 6 (kBlk 5 (kSeq (C69 fuel) fuel (2 :: (rl 7 4 (rl 37 57 []))) A95v11 (kLoop (B67v6 (C69 fuel) fuel) N67v6 m k)))) .ret (s67v7 (CV.int (x50 (Int.toNat x52) 0)) (CV.int (x50 (Int.toNat x52) 1)) (CV.int (x50 (Int.toNat (Int.tmod (w64 (x52 + 1)) x51)) 0)) (CV.int (x50 (Int.toNat (Int.tmod (w64 (x52 + 1)) x51)) 1)) (CV.int (x50 (Int.toNat (Int.tmod (w64 (x52 + 2)) x51)) 0)) (CV.int (x50 (Int.toNat (Int.tmod (w64 (x52 + 2)) x51)) 1))) =
    (k .ret (s67v10 (CV.int (x50 (Int.toNat x52) 0)) (CV.int (x50 (Int.toNat x52) 1)) (CV.int (x50 (Int.toNat (Int.tmod (w64 (x52 + 1)) x51)) 0)) (CV.int (x50 (Int.toNat (Int.tmod (w64 (x52 + 1)) x51)) 1)) (CV.int (x50 (Int.toNat (Int.tmod (w64 (x52 + 2)) x51)) 0)) (CV.int (x50 (Int.toNat (Int.tmod (w64 (x52 + 2)) x51)) 1)))) := by kernel_rfl
theorem g67v6 (fuel : Nat) (m : Nat) {ρ : Type} (k : Ex → St → Option ρ) (x49 : Nat) (x50 : FF) (x51 x52 : Int) :
    (kBlk 6 (kBlk 5 (kSeq (C69 fuel) fuel (2 :: (rl 7 4 (rl 37 57 []))) A95v11 (kLoop (B67v6 (C69 fuel) fuel) N67v6 m k)))) (.exit 6) (s67v8 x49 x50 x51 x52 (CV.int (x50 (Int.toNat x52) 0)) (CV.int (x50 (Int.toNat x52) 1)) (CV.int (x50 (Int.toNat (Int.tmod (w64 (x52 + 1)) x51)) 0)) (CV.int (x50 (Int.toNat (Int.tmod (w64 (x52 + 1)) x51)) 1)) (CV.int (x50 (Int.toNat (Int.tmod (w64 (x52 + 2)) x51)) 0)) (CV.int (x50 (Int.toNat (Int.tmod (w64 (x52 + 2)) x51)) 1))) =
    (loopH (B67v6 (C69 fuel) fuel) N67v6 m (s67v9 x49 x50 x51 (w64 (x52 + 1))) k) := by kernel_rfl
theorem q67v6 (fuel : Nat) (x49 : Nat) (x50 : FF) (x51 : Int) {ρ : Type} (k : Ex → St → Option ρ) : ∀ (m : Nat) (x52 : Int),
    loopH (B67v6 (C69 fuel) fuel) N67v6 m (s67v9 x49 x50 x51 x52) k = L67v6 fuel x49 x50 x51 m x52 (fun x79 x80 x81 x82 x83 x84 => k .ret (s67v10 x79 x80 x81 x82 x83 x84)) (k (.exit 4) s67v11)
  | 0, _ => rfl
  | m + 1, x52 => by
    rw [r67v6]
    simp only [L67v6, q67v6 fuel x49 x50 x51 k m, t67v4, g67v5, g67v6]
def D67 {ρ : Type} (fuel : Nat) (x1 : Nat) (x2 : FF) (k : Bool → Option ρ) : Option ρ :=
  (L67v3 fuel x1 x2 (Int.ofNat x1) fuel 0
    (k false)
    (L67v6 fuel x1 x2 (Int.ofNat x1) fuel 0
    (fun x85 x86 x87 x88 x89 x90 => (k false))
    (k true)))
def F67 (fuel : Nat) (x1 : Nat) (x2 : FF) : Option (Bool) := D67 fuel x1 x2 some
theorem f67 {ρ : Type} (fuel : Nat) (x1 : Nat) (x2 : FF) (k : (Bool) → Option ρ) : D67 fuel x1 x2 k = ob (F67 fuel x1 x2) k := by
  simp only [F67, D67, ob_bif, ob_ob, ob_none, ob_some, nl67v3, nl67v6]
def s67v13 (x1 : Nat) (x2 : FF) : St := ⟨[.x (.c (.ro false kP x1 x2)), .undef, vxb false, vxi (Int.ofNat x1), vxi 0, .undef, .undef, .undef, .undef, .undef, .undef, .x (.c (.ro false kP x1 x2)), vxi (Int.ofNat x1), .undef, .undef, .undef, .undef, .undef, .undef, .undef, .undef, .undef, .undef, .undef, .undef, .undef, .undef, .undef, .undef, .undef, .undef, .undef, .undef, .undef, .undef, .undef, .undef, .undef, .undef, .undef, .undef, .undef, .undef, .undef, .undef, .undef, .undef, .undef, .undef, .undef, .undef, .undef, .undef, .undef, .undef, .undef, .undef, .undef, .undef, .undef, .undef, .undef, .undef, .undef, .undef, .undef, .undef, .undef, .undef, .undef, .undef, .undef, .undef, .undef, .undef, .undef, .undef, .undef, .undef, .undef, .undef, .undef, .undef, .undef, .undef, .undef, .undef, .undef, .undef, .undef, .undef, .undef, .undef, .undef], []⟩
theorem walk67 (fuel : Nat) (x1 : Nat) (x2 : FF) :
    evalF (C69 fuel) fuel A95 [.v (.ro false kP x1 x2)] =
    (loopN (B67v3 (C69 fuel) fuel) N67v3 fuel (s67v13 x1 x2) (kBlk 0 (kSeq (C69 fuel) fuel (2 :: 4 :: 5 :: (rl 13 19 [])) A95v15 (finish A95)))) := by kernel_rfl
theorem t67v7 (fuel : Nat) {ρ : Type} (k : Ex → St → Option ρ) (x1 : Nat) (x2 : FF) :
    loopN (B67v3 (C69 fuel) fuel) N67v3 fuel (s67v13 x1 x2) k =
    L67v3 fuel x1 x2 (Int.ofNat x1) fuel 0 (k .ret s67v1) (k (.exit 0) (s67v4 x1 x2 (Int.ofNat x1))) :=
  (loopN_at (st' := (s67v3 x1 x2 (Int.ofNat x1) 0)) (by kernel_rfl)).trans (q67v3 fuel x1 x2 (Int.ofNat x1) k fuel 0)
theorem g67v8 (fuel : Nat) :
    (kBlk 0 (kSeq (C69 fuel) fuel (2 :: 4 :: 5 :: (rl 13 19 [])) A95v15 (finish A95))) .ret s67v1 =
    (some [.v (.b false)]) := by kernel_rfl
def s67v14 (x1 : Nat) (x2 : FF) : St := ⟨(.x (.c (.ro false kP x1 x2)) :: .u :: .u :: vxi (Int.ofNat x1) :: .u :: .u :: vxi 0 :: (us 87 [])), []⟩
theorem g67v9 (fuel : Nat) (x1 : Nat) (x2 : FF) :
    (kBlk 0 (kSeq (C69 fuel) fuel (2 :: 4 :: 5 :: (rl 13 19 [])) A95v15 (finish A95))) (.exit 0) (s67v4 x1 x2 (Int.ofNat x1)) =
    (loopN (B67v6 (C69 fuel) fuel) N67v6 fuel (s67v14 x1 x2) (kBlk 4 (kSeq (C69 fuel) fuel (2 :: (rl 6 5 (rl 32 62 []))) A95v14 (finish A95)))) := by kernel_rfl
theorem t67v10 (fuel : Nat) {ρ : Type} (k : Ex → St → Option ρ) (x1 : Nat) (x2 : FF) :
    loopN (B67v6 (C69 fuel) fuel) N67v6 fuel (s67v14 x1 x2) k =
    L67v6 fuel x1 x2 (Int.ofNat x1) fuel 0 (fun x79 x80 x81 x82 x83 x84 => k .ret (s67v10 x79 x80 x81 x82 x83 x84)) (k (.exit 4) s67v11) :=
  (loopN_at (st' := (s67v9 x1 x2 (Int.ofNat x1) 0)) (by kernel_rfl)).trans (q67v6 fuel x1 x2 (Int.ofNat x1) k fuel 0)
theorem g67v11 (fuel : Nat) (x85 x86 x87 x88 x89 x90 : Int) :
    (kBlk 4 (kSeq (C69 fuel) fuel (2 :: (rl 6 5 (rl 32 62 []))) A95v14 (finish A95))) .ret (s67v10 x85 x86 x87 x88 x89 x90) =
    (some [.v (.b false)]) := by kernel_rfl
theorem g67v12 (fuel : Nat) :
    (kBlk 4 (kSeq (C69 fuel) fuel (2 :: (rl 6 5 (rl 32 62 []))) A95v14 (finish A95))) (.exit 4) s67v11 =
    (some [.v (.b true)]) := by kernel_rfl
theorem e67 (fuel : Nat) (x1 : Nat) (x2 : FF) : evalF (C69 fuel) fuel A95 [.v (.ro false kP x1 x2)] = ob (F67 fuel x1 x2) fun t => some [.v (.b t)] := by
  rw [walk67, ← f67]
  simp only [D67, t67v7, g67v8, g67v9, t67v10, g67v11, g67v12]
def O67 (fuel : Nat) : Ora where
  o := fun args {ρ} K =>
    wcL kP args fun y4 y5 l2 =>
    wn l2 <|
    (ob (F67 fuel y4 y5) fun t => K [.v (.b t)])
  nat := fun args {ρ} K => by
    simp only [bind_wcL, bind_wn, bind_ob, Option.bind_some]
theorem d67 {P : Program} (fuel : Nat) (hmix : P.follows .mixedOrders = true) (hC : Sound P (C69 fuel)) (hF : FFits P 95 A95) (args res : List A) (h : (O67 fuel).o args some = some res) : Den P 95 args res := by
  obtain ⟨a1, y4, y5, l2, rfl, h3, z0⟩ := inv_wcL h
  obtain ⟨hn, z1⟩ := inv_wn z0
  cases hn
  exact Den.weaken (.cons h3 .nil) (evalF_sound hmix hC hF ((e67 fuel y4 y5).trans z1))
def C70 (fuel : Nat) : Oracle := (C69 fuel).add 95 (fun _ => true) (O67 fuel)
def A75v1 : AC := (.seq (.region 9 [o1 2 (sk 0)] 0 none) []
  (.ret (0 :: 1 :: (rl 3 12 []))))
def A75v2 : AC := (.seq (.seq (.region 7 [mv 12 0, o1 13 (cs 95 [12] [22]), o1 14 (.unOp .not 4 (tm 13))] 0 none) []
  (.cond (tm 14)
  (.seq (.region 8 [o1 2 (sk 17)] 0 none) []
    (.ret (0 :: 1 :: (rl 3 12 []))))
  .skip)) [2, 12, 13, 14]
  A75v1)
def A75v3 : AC := (.seq (.seq (.region 5 [mv 9 0, o1 10 (cs 94 [9] [22]), o1 11 (.unOp .not 4 (tm 10))] 0 none) []
  (.cond (tm 11)
  (.seq (.region 6 [o1 2 (sk 9)] 0 none) []
    (.ret (0 :: 1 :: (rl 3 12 []))))
  .skip)) [2, 9, 10, 11]
  A75v2)
def A75v4 : AC := (.seq (.seq (.region 3 [mv 6 0, o1 7 (.len 22 false (tm 6)), o1 8 (bk .gtr 3 7 32)] 0 none) []
  (.cond (tm 8)
  (.seq (.region 4 [o1 2 (sk 4)] 0 none) []
    (.ret (0 :: 1 :: (rl 3 12 []))))
  .skip)) [2, 6, 7, 8]
  A75v3)
def A75 : AF := ⟨15, [.tmp 2],
  (.seq (.region 0 [o1 2 (sk 0)] 0 none) []
  (.seq (.seq (.region 1 [mv 3 0, o1 4 (.len 22 false (tm 3)), o1 5 (bk .lss 3 4 3)] 0 none) []
  (.cond (tm 5)
  (.seq (.region 2 [o1 2 (sk 3)] 0 none) []
    (.ret (0 :: 1 :: (rl 3 12 []))))
  .skip)) (rl 2 4 [])
  A75v4))⟩
def D37 {ρ : Type} (fuel : Nat) (x1 : Nat) (x2 : FF) (k : Int → Option ρ) : Option ρ :=
  (bif (decide ((Int.ofNat x1) < 3)) then (k 3) else (bif (decide ((Int.ofNat x1) > 32)) then (k 4) else (ob (F66 fuel x1 x2) fun x3 => (bif (!x3) then (k 9) else (ob (F67 fuel x1 x2) fun x4 => (bif (!x4) then (k 17) else (k 0)))))))
def F37 (fuel : Nat) (x1 : Nat) (x2 : FF) : Option (Int) := D37 fuel x1 x2 some
theorem f37 {ρ : Type} (fuel : Nat) (x1 : Nat) (x2 : FF) (k : (Int) → Option ρ) : D37 fuel x1 x2 k = ob (F37 fuel x1 x2) k := by
  simp only [F37, D37, ob_bif, ob_ob, ob_none, ob_some]
theorem walk37 (fuel : Nat) (x1 : Nat) (x2 : FF) :
    evalF (C70 fuel) fuel A75 [.v (.ro false kP x1 x2)] =
    (bif (decide ((Int.ofNat x1) < 3)) then (some [.v (vi 3)]) else (bif (decide ((Int.ofNat x1) > 32)) then (some [.v (vi 4)]) else (ob (F66 fuel x1 x2) fun x3 => (bif (!x3) then (some [.v (vi 9)]) else (ob (F67 fuel x1 x2) fun x4 => (bif (!x4) then (some [.v (vi 17)]) else (some [.v (vi 0)]))))))) := by kernel_rfl
theorem e37 (fuel : Nat) (x1 : Nat) (x2 : FF) : evalF (C70 fuel) fuel A75 [.v (.ro false kP x1 x2)] = ob (F37 fuel x1 x2) fun t => some [.v (vi t)] := by
  rw [walk37, ← f37]
  simp only [D37]
def O37 (fuel : Nat) : Ora where
  o := fun args {ρ} K =>
    wcL kP args fun y4 y5 l2 =>
    wn l2 <|
    (ob (F37 fuel y4 y5) fun t => K [.v (vi t)])
  nat := fun args {ρ} K => by
    simp only [bind_wcL, bind_wn, bind_ob, Option.bind_some]
theorem d37 {P : Program} (fuel : Nat) (hmix : P.follows .mixedOrders = true) (hC : Sound P (C70 fuel)) (hF : FFits P 75 A75) (args res : List A) (h : (O37 fuel).o args some = some res) : Den P 75 args res := by
  obtain ⟨a1, y4, y5, l2, rfl, h3, z0⟩ := inv_wcL h
  obtain ⟨hn, z1⟩ := inv_wn z0
  cases hn
  exact Den.weaken (.cons h3 .nil) (evalF_sound hmix hC hF ((e37 fuel y4 y5).trans z1))
def C71 (fuel : Nat) : Oracle := (C70 fuel).add 75 (fun _ => true) (O37 fuel)
def A76v1 : AC := (.seq (.block 1
  (.seq (.region 7 [mv 16 0, mv 17 4, o1 18 (.indexAddr 22 40 2 (tm 16) (tm 17)), o1 19 (ln 40 2 18), mv 20 0, mv 21 4, o1 22 (bk .add 3 21 1), mv 23 0, o1 24 (.len 22 false (tm 23)), o1 25 (bt .rem 3 22 24), o1 26 (.indexAddr 22 40 2 (tm 20) (tm 25)), o1 27 (ln 40 2 26), o1 5 (.alloc 0 40 [vci 0, vci 0]), o1 6 (.alloc 1 40 [vci 0, vci 0]), o0 (.store 40 2 (tm 5) (tm 19)), o0 (.store 40 2 (tm 6) (tm 27))] 2 (some [[], [], [0, 1], [0, 1, 2], [], [], [5], [], [7], (rl 5 4 []), (rl 4 6 []), (rl 4 7 []), [], [], (rl 0 4 [12, 13]), (rl 0 15 [])])) []
    (.region 8 [mv 28 3, o1 29 (fa 40 5 0 0), o1 30 (lo 3 29), o1 31 (fa 40 6 1 1), o1 32 (lo 3 31), o1 33 (bt .mul 3 30 32), o1 34 (bt .add 3 28 33), o1 35 (fa 40 5 1 1), o1 36 (lo 3 35), o1 37 (fa 40 6 0 0), o1 38 (lo 3 37), o1 39 (bt .mul 3 36 38), o1 40 (bt .sub 3 34 39), o1 3 (sg 40)] 0 none))) []
  (.region 6 [mv 14 4, o1 15 (bk .add 3 14 1), o1 4 (sg 15)] 0 none))
def A76v2 : AC := (.seq (.seq (.region 5 [mv 10 4, mv 11 0, o1 12 (.len 22 false (tm 11)), o1 13 (bt .lss 3 10 12)] 0 none) []
  (.cond (tm 13)
  .skip
  (.exit 0 (0 :: 1 :: 2 :: (rl 4 38 []))))) (rl 10 4 [])
  A76v1)
def A76v3 : AC := (.seq (.region 9 [mv 41 3, o1 2 (sg 41)] 0 none) []
  (.ret (0 :: 1 :: (rl 3 39 []))))
def A76v4 : AC := (.seq (.region 3 [o1 3 (sk 0)] 0 none) []
  (.seq (.seq (.region 4 [o1 4 (sk 0)] 0 none) []
  (.block 0
  (.loop [] (1 :: 2 :: (rl 5 37 []))
    A76v2))) (4 :: 5 :: 6 :: (rl 10 31 []))
  A76v3))
def A76 : AF := ⟨42, [.tmp 2],
  (.seq (.region 0 [o1 2 (sk 0)] 0 none) []
  (.seq (.seq (.region 1 [mv 7 0, o1 8 (cs 75 [7] [22]), o1 9 (bk .neq 79 8 0)] 0 none) []
  (.cond (tm 9)
  (.seq (.region 2 [o1 2 (sk 0)] 0 none) []
    (.ret (0 :: 1 :: (rl 3 39 []))))
  .skip)) [2, 7, 8, 9]
  A76v4))⟩
def B38v1 (C : Oracle) (fuel : Nat) {ρ : Type} : St → (Ex → St → Option ρ) → Option ρ := fun st k => evalC C fuel A76v2 st k
def N38v1 : St → Option St := fun s => s.norm (1 :: 2 :: (rl 5 37 [])) 0
def s38v0 (x6 : Nat) (x7 : FF) (x8 x9 : Int) : St := ⟨(.x (.c (.ro false kP x6 x7)) :: .u :: .u :: vxi x8 :: vxi x9 :: (us 37 [])), []⟩
def s38v1 (x10 : Int) : St := ⟨(us 3 (vxi x10 :: (us 38 []))), []⟩
def L38v1 {ρ : Type} (fuel : Nat) (x6 : Nat) (x7 : FF) : Nat → Int → Int → (Int → Option ρ) → Option ρ
  | 0, _, _, _ => none
  | m + 1, x8, x9, k0 =>
    (bif (decide (x9 < (Int.ofNat x6))) then (bif (inb x9 x6) then (bif ((Int.ofNat x6) == 0) then none else (bif (inb (Int.tmod (w64 (x9 + 1)) (Int.ofNat x6)) x6) then (L38v1 fuel x6 x7 m (w64 ((w64 (x8 + (w64 ((CV.int (x7 (Int.toNat x9) 0)) * (CV.int (x7 (Int.toNat (Int.tmod (w64 (x9 + 1)) (Int.ofNat x6))) 1)))))) - (w64 ((CV.int (x7 (Int.toNat x9) 1)) * (CV.int (x7 (Int.toNat (Int.tmod (w64 (x9 + 1)) (Int.ofNat x6))) 0)))))) (w64 (x9 + 1)) k0) else none)) else none) else (k0 x8))
theorem nl38v1 {ρ σ : Type} (fuel : Nat) (x6 : Nat) (x7 : FF) (g : ρ → Option σ) : ∀ (m : Nat) (x8 x9 : Int) (k0 : Int → Option ρ), ob (L38v1 fuel x6 x7 m x8 x9 k0) g = L38v1 fuel x6 x7 m x8 x9 (fun x10 => ob (k0 x10) g)
  | 0, _, _, _ => rfl
  | m + 1, x8, x9, k0 => by
    simp only [L38v1, ob_bif, ob_ob, ob_none, nl38v1 fuel x6 x7 g m]
theorem r38v1 (fuel : Nat) (m : Nat) {ρ : Type} (k : Ex → St → Option ρ) (x6 : Nat) (x7 : FF) (x8 x9 : Int) :
    loopH (B38v1 (C71 fuel) fuel) N38v1 (m + 1) (s38v0 x6 x7 x8 x9) k =
    (bif (decide (x9 < (Int.ofNat x6))) then (bif (inb x9 x6) then (bif ((Int.ofNat x6) == 0) then none else (bif (inb (Int.tmod (w64 (x9 + 1)) (Int.ofNat x6)) x6) then (loopH (B38v1 (C71 fuel) fuel) N38v1 m (s38v0 x6 x7 (w64 ((w64 (x8 + (w64 ((CV.int (x7 (Int.toNat x9) 0)) * (CV.int (x7 (Int.toNat (Int.tmod (w64 (x9 + 1)) (Int.ofNat x6))) 1)))))) - (w64 ((CV.int (x7 (Int.toNat x9) 1)) * (CV.int (x7 (Int.toNat (Int.tmod (w64 (x9 + 1)) (Int.ofNat x6))) 0)))))) (w64 (x9 + 1))) k) else none)) else none) else (k (.exit 0) (s38v1 x8))) := by kernel_rfl
theorem q38v1 (fuel : Nat) (x6 : Nat) (x7 : FF) {ρ : Type} (k : Ex → St → Option ρ) : ∀ (m : Nat) (x8 x9 : Int),
    loopH (B38v1 (C71 fuel) fuel) N38v1 m (s38v0 x6 x7 x8 x9) k = L38v1 fuel x6 x7 m x8 x9 (fun x10 => k (.exit 0) (s38v1 x10))
  | 0, _, _ => rfl
  | m + 1, x8, x9 => by
    rw [r38v1]
    simp only [L38v1, q38v1 fuel x6 x7 k m]
def D38 {ρ : Type} (fuel : Nat) (x1 : Nat) (x2 : FF) (k : Int → Option ρ) : Option ρ :=
  (ob (F37 fuel x1 x2) fun x3 => (bif (x3 != 0) then (k 0) else (L38v1 fuel x1 x2 fuel 0 0
    (fun x11 => (k x11)))))
def F38 (fuel : Nat) (x1 : Nat) (x2 : FF) : Option (Int) := D38 fuel x1 x2 some
theorem f38 {ρ : Type} (fuel : Nat) (x1 : Nat) (x2 : FF) (k : (Int) → Option ρ) : D38 fuel x1 x2 k = ob (F38 fuel x1 x2) k := by
  simp only [F38, D38, ob_bif, ob_ob, ob_none, ob_some, nl38v1]
def s38v2 (x1 : Nat) (x2 : FF) : St := ⟨(.x (.c (.ro false kP x1 x2)) :: .undef :: .u :: vxi 0 :: vxi 0 :: .undef :: .undef :: (us 3 [.undef, .undef, .undef, .undef, .undef, .undef, .undef, .undef, .undef, .undef, .undef, .undef, .undef, .undef, .undef, .undef, .undef, .undef, .undef, .undef, .undef, .undef, .undef, .undef, .undef, .undef, .undef, .undef, .undef, .undef, .undef, .undef])), []⟩
theorem walk38 (fuel : Nat) (x1 : Nat) (x2 : FF) :
    evalF (C71 fuel) fuel A76 [.v (.ro false kP x1 x2)] =
    (ob (F37 fuel x1 x2) fun x3 => (bif (x3 != 0) then (some [.v (vi 0)]) else (loopN (B38v1 (C71 fuel) fuel) N38v1 fuel (s38v2 x1 x2) (kBlk 0 (kSeq (C71 fuel) fuel (4 :: 5 :: 6 :: (rl 10 31 [])) A76v3 (finish A76)))))) := by kernel_rfl
theorem t38v1 (fuel : Nat) {ρ : Type} (k : Ex → St → Option ρ) (x1 : Nat) (x2 : FF) :
    loopN (B38v1 (C71 fuel) fuel) N38v1 fuel (s38v2 x1 x2) k =
    L38v1 fuel x1 x2 fuel 0 0 (fun x10 => k (.exit 0) (s38v1 x10)) :=
  (loopN_at (st' := (s38v0 x1 x2 0 0)) (by kernel_rfl)).trans (q38v1 fuel x1 x2 k fuel 0 0)
theorem g38v2 (fuel : Nat) (x11 : Int) :
    (kBlk 0 (kSeq (C71 fuel) fuel (4 :: 5 :: 6 :: (rl 10 31 [])) A76v3 (finish A76))) (.exit 0) (s38v1 x11) =
    (some [.v (vi x11)]) := by kernel_rfl
theorem e38 (fuel : Nat) (x1 : Nat) (x2 : FF) : evalF (C71 fuel) fuel A76 [.v (.ro false kP x1 x2)] = ob (F38 fuel x1 x2) fun t => some [.v (vi t)] := by
  rw [walk38, ← f38]
  simp only [D38, t38v1, g38v2]
def O38 (fuel : Nat) : Ora where
  o := fun args {ρ} K =>
    wcL kP args fun y4 y5 l2 =>
    wn l2 <|
    (ob (F38 fuel y4 y5) fun t => K [.v (vi t)])
  nat := fun args {ρ} K => by
    simp only [bind_wcL, bind_wn, bind_ob, Option.bind_some]
theorem d38 {P : Program} (fuel : Nat) (hmix : P.follows .mixedOrders = true) (hC : Sound P (C71 fuel)) (hF : FFits P 76 A76) (args res : List A) (h : (O38 fuel).o args some = some res) : Den P 76 args res := by
  obtain ⟨a1, y4, y5, l2, rfl, h3, z0⟩ := inv_wcL h
  obtain ⟨hn, z1⟩ := inv_wn z0
  cases hn
  exact Den.weaken (.cons h3 .nil) (evalF_sound hmix hC hF ((e38 fuel y4 y5).trans z1))
def C72 (fuel : Nat) : Oracle := (C71 fuel).add 76 (fun _ => true) (O38 fuel)
def A105v1 : AC := (.seq (.region 6 [o1 6 (sk 0)] 0 none) []
  (.ret (rl 0 6 (rl 7 28 []))))
def A105v2 : AC := (.seq (.seq (.region 4 [mv 33 7, o1 34 (bk .lss 3 33 0)] 0 none) []
  (.cond (tm 34)
  (.seq (.region 5 [o1 6 (sk (-1))] 0 none) []
    (.ret (rl 0 6 (rl 7 28 []))))
  .skip)) [6, 33, 34]
  A105v1)
def A105 : AF := ⟨35, [.tmp 6],
  (.seq (.region 0 [o1 3 (bx 0 40 0), o1 4 (bx 1 40 1), o1 5 (bx 2 40 2), o1 6 (sk 0)] 3 none) []
  (.seq (.region 1 [o1 8 (fa 40 4 0 0), o1 9 (lo 3 8), o1 10 (fa 40 3 0 0), o1 11 (lo 3 10), o1 12 (bt .sub 3 9 11), o1 13 (fa 40 5 1 1), o1 14 (lo 3 13), o1 15 (fa 40 3 1 1), o1 16 (lo 3 15), o1 17 (bt .sub 3 14 16), o1 18 (bt .mul 3 12 17), o1 19 (fa 40 4 1 1), o1 20 (lo 3 19), o1 21 (fa 40 3 1 1), o1 22 (lo 3 21), o1 23 (bt .sub 3 20 22), o1 24 (fa 40 5 0 0), o1 25 (lo 3 24), o1 26 (fa 40 3 0 0), o1 27 (lo 3 26), o1 28 (bt .sub 3 25 27), o1 29 (bt .mul 3 23 28), o1 30 (bt .sub 3 18 29), o1 7 (sg 30)] 0 none) []
  (.seq (.seq (.region 2 [mv 31 7, o1 32 (bk .gtr 3 31 0)] 0 none) []
  (.cond (tm 32)
  (.seq (.region 3 [o1 6 (sk 1)] 0 none) []
    (.ret (rl 0 6 (rl 7 28 []))))
  .skip)) [6, 31, 32]
  A105v2)))⟩
def D84 {ρ : Type} (fuel : Nat) (x1 x2 x3 x4 x5 x6 : Int) (k : Int → Option ρ) : Option ρ :=
  (bif (decide ((w64 ((w64 ((w64 (x3 - x1)) * (w64 (x6 - x2)))) - (w64 ((w64 (x4 - x2)) * (w64 (x5 - x1)))))) > 0)) then (k 1) else (bif (decide ((w64 ((w64 ((w64 (x3 - x1)) * (w64 (x6 - x2)))) - (w64 ((w64 (x4 - x2)) * (w64 (x5 - x1)))))) < 0)) then (k (-1)) else (k 0)))
def F84 (fuel : Nat) (x1 x2 x3 x4 x5 x6 : Int) : Option (Int) := D84 fuel x1 x2 x3 x4 x5 x6 some
theorem f84 {ρ : Type} (fuel : Nat) (x1 x2 x3 x4 x5 x6 : Int) (k : (Int) → Option ρ) : D84 fuel x1 x2 x3 x4 x5 x6 k = ob (F84 fuel x1 x2 x3 x4 x5 x6) k := by
  simp only [F84, D84, ob_bif, ob_ob, ob_none, ob_some]
theorem walk84 (fuel : Nat) (x1 x2 x3 x4 x5 x6 : Int) :
    evalF (C72 fuel) fuel A105 [.agg [(vi x1), (vi x2)], .agg [(vi x3), (vi x4)], .agg [(vi x5), (vi x6)]] =
    (bif (decide ((w64 ((w64 ((w64 (x3 - x1)) * (w64 (x6 - x2)))) - (w64 ((w64 (x4 - x2)) * (w64 (x5 - x1)))))) > 0)) then (some [.v (vi 1)]) else (bif (decide ((w64 ((w64 ((w64 (x3 - x1)) * (w64 (x6 - x2)))) - (w64 ((w64 (x4 - x2)) * (w64 (x5 - x1)))))) < 0)) then (some [.v (vi (-1))]) else (some [.v (vi 0)]))) := by kernel_rfl
theorem e84 (fuel : Nat) (x1 x2 x3 x4 x5 x6 : Int) : evalF (C72 fuel) fuel A105 [.agg [(vi x1), (vi x2)], .agg [(vi x3), (vi x4)], .agg [(vi x5), (vi x6)]] = ob (F84 fuel x1 x2 x3 x4 x5 x6) fun t => some [.v (vi t)] := by
  rw [walk84, ← f84]
  simp only [D84]
def O84 (fuel : Nat) : Ora where
  o := fun args {ρ} K =>
    wc args fun a1 l2 =>
    wagg a1 fun l3 =>
    wdI .i64 l3 fun y7 l5 =>
    wdI .i64 l5 fun y11 l9 =>
    wn l9 <|
    wc l2 fun a12 l13 =>
    wagg a12 fun l14 =>
    wdI .i64 l14 fun y18 l16 =>
    wdI .i64 l16 fun y22 l20 =>
    wn l20 <|
    wc l13 fun a23 l24 =>
    wagg a23 fun l25 =>
    wdI .i64 l25 fun y29 l27 =>
    wdI .i64 l27 fun y33 l31 =>
    wn l31 <|
    wn l24 <|
    (ob (F84 fuel y7 y11 y18 y22 y29 y33) fun t => K [.v (vi t)])
  nat := fun args {ρ} K => by
    simp only [bind_wagg, bind_wc, bind_wdI, bind_wn, bind_ob, Option.bind_some]
theorem d84 {P : Program} (fuel : Nat) (hmix : P.follows .mixedOrders = true) (hC : Sound P (C72 fuel)) (hF : FFits P 105 A105) (args res : List A) (h : (O84 fuel).o args some = some res) : Den P 105 args res := by
  obtain ⟨a1, l2, rfl, z0⟩ := inv_wc h
  obtain ⟨l3, rfl, z1⟩ := inv_wagg z0
  obtain ⟨a4, y7, l5, rfl, h6, z2⟩ := inv_wdI z1
  obtain ⟨a8, y11, l9, rfl, h10, z3⟩ := inv_wdI z2
  obtain ⟨hn, z4⟩ := inv_wn z3
  cases hn
  obtain ⟨a12, l13, rfl, z5⟩ := inv_wc z4
  obtain ⟨l14, rfl, z6⟩ := inv_wagg z5
  obtain ⟨a15, y18, l16, rfl, h17, z7⟩ := inv_wdI z6
  obtain ⟨a19, y22, l20, rfl, h21, z8⟩ := inv_wdI z7
  obtain ⟨hn, z9⟩ := inv_wn z8
  cases hn
  obtain ⟨a23, l24, rfl, z10⟩ := inv_wc z9
  obtain ⟨l25, rfl, z11⟩ := inv_wagg z10
  obtain ⟨a26, y29, l27, rfl, h28, z12⟩ := inv_wdI z11
  obtain ⟨a30, y33, l31, rfl, h32, z13⟩ := inv_wdI z12
  obtain ⟨hn, z14⟩ := inv_wn z13
  cases hn
  obtain ⟨hn, z15⟩ := inv_wn z14
  cases hn
  exact Den.weaken (.cons (WkA.agg (.cons h6 (.cons h10 .nil))) (.cons (WkA.agg (.cons h17 (.cons h21 .nil))) (.cons (WkA.agg (.cons h28 (.cons h32 .nil))) .nil))) (evalF_sound hmix hC hF ((e84 fuel y7 y11 y18 y22 y29 y33).trans z15))
def C73 (fuel : Nat) : Oracle := (C72 fuel).add 105 (fun _ => true) (O84 fuel)
def A104 : AF := ⟨52, [.tmp 6],
  (.seq (.region 0 [o1 3 (bx 0 40 0), o1 4 (bx 1 40 1), o1 5 (bx 2 40 2), o1 6 (sb false)] 3 none) []
  (.seq (.region 1 [o1 7 (ln 40 2 3), o1 8 (ln 40 2 4), o1 9 (ln 40 2 5), o1 10 (cs 105 [7, 8, 9] [40, 40, 40]), o1 11 (bk .eql 3 10 0), mv 12 11, og 13 (fa 40 5 0 0) 12 true, og 14 (lo 3 13) 12 true, og 15 (fa 40 3 0 0) 12 true, og 16 (lo 3 15) 12 true, og 17 (fa 40 4 0 0) 12 true, og 18 (lo 3 17) 12 true, og 19 (.mm false [(tm 16), (tm 18)] [3, 3]) 12 true, og 20 (bt .geq 3 14 19) 12 true, o1 21 (po 12 20), mv 22 21, og 23 (fa 40 5 0 0) 22 true, og 24 (lo 3 23) 22 true, og 25 (fa 40 3 0 0) 22 true, og 26 (lo 3 25) 22 true, og 27 (fa 40 4 0 0) 22 true, og 28 (lo 3 27) 22 true, og 29 (.mm true [(tm 26), (tm 28)] [3, 3]) 22 true, og 30 (bt .leq 3 24 29) 22 true, o1 31 (po 22 30), mv 32 31, og 33 (fa 40 5 1 1) 32 true, og 34 (lo 3 33) 32 true, og 35 (fa 40 3 1 1) 32 true, og 36 (lo 3 35) 32 true, og 37 (fa 40 4 1 1) 32 true, og 38 (lo 3 37) 32 true, og 39 (.mm false [(tm 36), (tm 38)] [3, 3]) 32 true, og 40 (bt .geq 3 34 39) 32 true, o1 41 (po 32 40), mv 42 41, og 43 (fa 40 5 1 1) 42 true, og 44 (lo 3 43) 42 true, og 45 (fa 40 3 1 1) 42 true, og 46 (lo 3 45) 42 true, og 47 (fa 40 4 1 1) 42 true, og 48 (lo 3 47) 42 true, og 49 (.mm true [(tm 46), (tm 48)] [3, 3]) 42 true, og 50 (bt .leq 3 44 49) 42 true, o1 51 (po 42 50), o1 6 (sg 51)] 0 none) []
  (.ret (rl 0 6 (rl 7 45 [])))))⟩
def D83 {ρ : Type} (fuel : Nat) (x1 x2 x3 x4 x5 x6 : Int) (k : Bool → Option ρ) : Option ρ :=
  (ob (F84 fuel x1 x2 x3 x4 x5 x6) fun x7 => (bif ((x7 == 0) == true) then (bif ((decide (x5 ≥ (if x3 < x1 then x3 else x1))) == true) then (bif ((decide (x5 ≤ (if x3 > x1 then x3 else x1))) == true) then (bif ((decide (x6 ≥ (if x4 < x2 then x4 else x2))) == true) then (k (decide (x6 ≤ (if x4 > x2 then x4 else x2)))) else (k false)) else (k false)) else (k false)) else (k false)))
def F83 (fuel : Nat) (x1 x2 x3 x4 x5 x6 : Int) : Option (Bool) := D83 fuel x1 x2 x3 x4 x5 x6 some
theorem f83 {ρ : Type} (fuel : Nat) (x1 x2 x3 x4 x5 x6 : Int) (k : (Bool) → Option ρ) : D83 fuel x1 x2 x3 x4 x5 x6 k = ob (F83 fuel x1 x2 x3 x4 x5 x6) k := by
  simp only [F83, D83, ob_bif, ob_ob, ob_none, ob_some]
theorem walk83 (fuel : Nat) (x1 x2 x3 x4 x5 x6 : Int) :
    evalF (C73 fuel) fuel A104 [.agg [(vi x1), (vi x2)], .agg [(vi x3), (vi x4)], .agg [(vi x5), (vi x6)]] =
    (ob (F84 fuel x1 x2 x3 x4 x5 x6) fun x7 => (bif ((x7 == 0) == true) then (bif ((decide (x5 ≥ (if x3 < x1 then x3 else x1))) == true) then (bif ((decide (x5 ≤ (if x3 > x1 then x3 else x1))) == true) then (bif ((decide (x6 ≥ (if x4 < x2 then x4 else x2))) == true) then (some [.v (.b (decide (x6 ≤ (if x4 > x2 then x4 else x2))))]) else (some [.v (.b false)])) else (some [.v (.b false)])) else (some [.v (.b false)])) else (some [.v (.b false)]))) := by kernel_rfl
theorem e83 (fuel : Nat) (x1 x2 x3 x4 x5 x6 : Int) : evalF (C73 fuel) fuel A104 [.agg [(vi x1), (vi x2)], .agg [(vi x3), (vi x4)], .agg [(vi x5), (vi x6)]] = ob (F83 fuel x1 x2 x3 x4 x5 x6) fun t => some [.v (.b t)] := by
  rw [walk83, ← f83]
  simp only [D83]
def O83 (fuel : Nat) : Ora where
  o := fun args {ρ} K =>
    wc args fun a1 l2 =>
    wagg a1 fun l3 =>
    wdI .i64 l3 fun y7 l5 =>
    wdI .i64 l5 fun y11 l9 =>
    wn l9 <|
    wc l2 fun a12 l13 =>
    wagg a12 fun l14 =>
    wdI .i64 l14 fun y18 l16 =>
    wdI .i64 l16 fun y22 l20 =>
    wn l20 <|
    wc l13 fun a23 l24 =>
    wagg a23 fun l25 =>
    wdI .i64 l25 fun y29 l27 =>
    wdI .i64 l27 fun y33 l31 =>
    wn l31 <|
    wn l24 <|
    (ob (F83 fuel y7 y11 y18 y22 y29 y33) fun t => K [.v (.b t)])
  nat := fun args {ρ} K => by
    simp only [bind_wagg, bind_wc, bind_wdI, bind_wn, bind_ob, Option.bind_some]
theorem d83 {P : Program} (fuel : Nat) (hmix : P.follows .mixedOrders = true) (hC : Sound P (C73 fuel)) (hF : FFits P 104 A104) (args res : List A) (h : (O83 fuel).o args some = some res) : Den P 104 args res := by
  obtain ⟨a1, l2, rfl, z0⟩ := inv_wc h
  obtain ⟨l3, rfl, z1⟩ := inv_wagg z0
  obtain ⟨a4, y7, l5, rfl, h6, z2⟩ := inv_wdI z1
  obtain ⟨a8, y11, l9, rfl, h10, z3⟩ := inv_wdI z2
  obtain ⟨hn, z4⟩ := inv_wn z3
  cases hn
  obtain ⟨a12, l13, rfl, z5⟩ := inv_wc z4
  obtain ⟨l14, rfl, z6⟩ := inv_wagg z5
  obtain ⟨a15, y18, l16, rfl, h17, z7⟩ := inv_wdI z6
  obtain ⟨a19, y22, l20, rfl, h21, z8⟩ := inv_wdI z7
  obtain ⟨hn, z9⟩ := inv_wn z8
  cases hn
  obtain ⟨a23, l24, rfl, z10⟩ := inv_wc z9
  obtain ⟨l25, rfl, z11⟩ := inv_wagg z10
  obtain ⟨a26, y29, l27, rfl, h28, z12⟩ := inv_wdI z11
  obtain ⟨a30, y33, l31, rfl, h32, z13⟩ := inv_wdI z12
  obtain ⟨hn, z14⟩ := inv_wn z13
  cases hn
  obtain ⟨hn, z15⟩ := inv_wn z14
  cases hn
  exact Den.weaken (.cons (WkA.agg (.cons h6 (.cons h10 .nil))) (.cons (WkA.agg (.cons h17 (.cons h21 .nil))) (.cons (WkA.agg (.cons h28 (.cons h32 .nil))) .nil))) (evalF_sound hmix hC hF ((e83 fuel y7 y11 y18 y22 y29 y33).trans z15))
def C74 (fuel : Nat) : Oracle := (C73 fuel).add 104 (fun _ => true) (O83 fuel)
def A96v1 : AC := (.seq (.region 3 [o1 31 (ln 40 2 4), o1 32 (ln 40 2 5), o1 33 (ln 40 2 6), o1 34 (cs 105 [31, 32, 33] [40, 40, 40]), o1 35 (ln 40 2 4), o1 36 (ln 40 2 5), o1 37 (ln 40 2 7), o1 38 (cs 105 [35, 36, 37] [40, 40, 40]), o1 39 (bt .mul 3 34 38), o1 40 (bk .lss 3 39 0), mv 41 40, og 42 (ln 40 2 6) 41 true, og 43 (ln 40 2 7) 41 true, og 44 (ln 40 2 4) 41 true, og 45 (cs 105 [42, 43, 44] [40, 40, 40]) 41 true, og 46 (ln 40 2 6) 41 true, og 47 (ln 40 2 7) 41 true, og 48 (ln 40 2 5) 41 true, og 49 (cs 105 [46, 47, 48] [40, 40, 40]) 41 true, og 50 (bt .mul 3 45 49) 41 true, og 51 (bk .lss 3 50 0) 41 true, o1 52 (po 41 51), o1 8 (sg 52)] 0 (some [[], [], [], [0, 1, 2], [], [], [], (rl 0 7 []), (rl 0 8 []), (rl 0 9 []), (rl 0 10 []), (rl 0 11 []), (rl 0 11 []), (rl 0 11 []), (rl 0 14 []), (rl 0 11 []), (rl 0 11 []), (rl 0 11 []), (rl 0 18 []), (rl 0 19 []), (rl 0 20 []), (rl 0 21 []), (rl 0 22 [])])) []
  (.ret (rl 0 8 (rl 9 44 []))))
def A96 : AF := ⟨53, [.tmp 8],
  (.seq (.region 0 [o1 4 (bx 0 40 0), o1 5 (bx 1 40 1), o1 6 (bx 2 40 2), o1 7 (bx 3 40 3), o1 8 (sb false)] 4 none) []
  (.seq (.seq (.region 1 [o1 9 (ln 40 2 4), o1 10 (ln 40 2 5), o1 11 (ln 40 2 6), o1 12 (cs 104 [9, 10, 11] [40, 40, 40]), mv 13 12, og 14 (ln 40 2 4) 13 false, og 15 (ln 40 2 5) 13 false, og 16 (ln 40 2 7) 13 false, og 17 (cs 104 [14, 15, 16] [40, 40, 40]) 13 false, o1 18 (pa 13 17), mv 19 18, og 20 (ln 40 2 6) 19 false, og 21 (ln 40 2 7) 19 false, og 22 (ln 40 2 4) 19 false, og 23 (cs 104 [20, 21, 22] [40, 40, 40]) 19 false, o1 24 (pa 19 23), mv 25 24, og 26 (ln 40 2 6) 25 false, og 27 (ln 40 2 7) 25 false, og 28 (ln 40 2 5) 25 false, og 29 (cs 104 [26, 27, 28] [40, 40, 40]) 25 false, o1 30 (pa 25 29)] 0 none) []
  (.cond (tm 30)
  (.seq (.region 2 [o1 8 (sb true)] 0 none) []
    (.ret (rl 0 8 (rl 9 44 []))))
  .skip)) (rl 8 23 [])
  A96v1))⟩
def D68 {ρ : Type} (fuel : Nat) (x1 x2 x3 x4 x5 x6 x7 x8 : Int) (k : Bool → Option ρ) : Option ρ :=
  (ob (F83 fuel x1 x2 x3 x4 x5 x6) fun x9 => (bif (x9 == false) then (ob (F83 fuel x1 x2 x3 x4 x7 x8) fun x10 => (bif (x10 == false) then (ob (F83 fuel x5 x6 x7 x8 x1 x2) fun x11 => (bif (x11 == false) then (ob (F83 fuel x5 x6 x7 x8 x3 x4) fun x12 => (bif x12 then (k true) else (ob (F84 fuel x1 x2 x3 x4 x5 x6) fun x17 => (ob (F84 fuel x1 x2 x3 x4 x7 x8) fun x18 => (bif ((decide ((w64 (x17 * x18)) < 0)) == true) then (ob (F84 fuel x5 x6 x7 x8 x1 x2) fun x19 => (ob (F84 fuel x5 x6 x7 x8 x3 x4) fun x20 => (k (decide ((w64 (x19 * x20)) < 0))))) else (k false)))))) else (k true))) else (k true))) else (k true)))
def F68 (fuel : Nat) (x1 x2 x3 x4 x5 x6 x7 x8 : Int) : Option (Bool) := D68 fuel x1 x2 x3 x4 x5 x6 x7 x8 some
theorem f68 {ρ : Type} (fuel : Nat) (x1 x2 x3 x4 x5 x6 x7 x8 : Int) (k : (Bool) → Option ρ) : D68 fuel x1 x2 x3 x4 x5 x6 x7 x8 k = ob (F68 fuel x1 x2 x3 x4 x5 x6 x7 x8) k := by
  simp only [F68, D68, ob_bif, ob_ob, ob_none, ob_some]
theorem walk68 (fuel : Nat) (x1 x2 x3 x4 x5 x6 x7 x8 : Int) :
    evalF (C74 fuel) fuel A96 [.agg [(vi x1), (vi x2)], .agg [(vi x3), (vi x4)], .agg [(vi x5), (vi x6)], .agg [(vi x7), (vi x8)]] =
    (ob (F83 fuel x1 x2 x3 x4 x5 x6) fun x9 => (bif (x9 == false) then (ob (F83 fuel x1 x2 x3 x4 x7 x8) fun x10 => (bif (x10 == false) then (ob (F83 fuel x5 x6 x7 x8 x1 x2) fun x11 => (bif (x11 == false) then (ob (F83 fuel x5 x6 x7 x8 x3 x4) fun x12 => (bif x12 then (some [.v (.b true)]) else (ob (F84 fuel x1 x2 x3 x4 x5 x6) fun x17 => (ob (F84 fuel x1 x2 x3 x4 x7 x8) fun x18 => (bif ((decide ((w64 (x17 * x18)) < 0)) == true) then (ob (F84 fuel x5 x6 x7 x8 x1 x2) fun x19 => (ob (F84 fuel x5 x6 x7 x8 x3 x4) fun x20 => (some [.v (.b (decide ((w64 (x19 * x20)) < 0)))]))) else (some [.v (.b false)])))))) else (some [.v (.b true)]))) else (some [.v (.b true)]))) else (some [.v (.b true)]))) := by kernel_rfl
theorem e68 (fuel : Nat) (x1 x2 x3 x4 x5 x6 x7 x8 : Int) : evalF (C74 fuel) fuel A96 [.agg [(vi x1), (vi x2)], .agg [(vi x3), (vi x4)], .agg [(vi x5), (vi x6)], .agg [(vi x7), (vi x8)]] = ob (F68 fuel x1 x2 x3 x4 x5 x6 x7 x8) fun t => some [.v (.b t)] := by
  rw [walk68, ← f68]
  simp only [D68]
def O68 (fuel : Nat) : Ora where
  o := fun args {ρ} K =>
    wc args fun a1 l2 =>
    wagg a1 fun l3 =>
    wdI .i64 l3 fun y7 l5 =>
    wdI .i64 l5 fun y11 l9 =>
    wn l9 <|
    wc l2 fun a12 l13 =>
    wagg a12 fun l14 =>
    wdI .i64 l14 fun y18 l16 =>
    wdI .i64 l16 fun y22 l20 =>
    wn l20 <|
    wc l13 fun a23 l24 =>
    wagg a23 fun l25 =>
    wdI .i64 l25 fun y29 l27 =>
    wdI .i64 l27 fun y33 l31 =>
    wn l31 <|
    wc l24 fun a34 l35 =>
    wagg a34 fun l36 =>
    wdI .i64 l36 fun y40 l38 =>
    wdI .i64 l38 fun y44 l42 =>
    wn l42 <|
    wn l35 <|
    (ob (F68 fuel y7 y11 y18 y22 y29 y33 y40 y44) fun t => K [.v (.b t)])
  nat := fun args {ρ} K => by
    simp only [bind_wagg, bind_wc, bind_wdI, bind_wn, bind_ob, Option.bind_some]
theorem d68 {P : Program} (fuel : Nat) (hmix : P.follows .mixedOrders = true) (hC : Sound P (C74 fuel)) (hF : FFits P 96 A96) (args res : List A) (h : (O68 fuel).o args some = some res) : Den P 96 args res := by
  obtain ⟨a1, l2, rfl, z0⟩ := inv_wc h
  obtain ⟨l3, rfl, z1⟩ := inv_wagg z0
  obtain ⟨a4, y7, l5, rfl, h6, z2⟩ := inv_wdI z1
  obtain ⟨a8, y11, l9, rfl, h10, z3⟩ := inv_wdI z2
  obtain ⟨hn, z4⟩ := inv_wn z3
  cases hn
  obtain ⟨a12, l13, rfl, z5⟩ := inv_wc z4
  obtain ⟨l14, rfl, z6⟩ := inv_wagg z5
  obtain ⟨a15, y18, l16, rfl, h17, z7⟩ := inv_wdI z6
  obtain ⟨a19, y22, l20, rfl, h21, z8⟩ := inv_wdI z7
  obtain ⟨hn, z9⟩ := inv_wn z8
  cases hn
  obtain ⟨a23, l24, rfl, z10⟩ := inv_wc z9
  obtain ⟨l25, rfl, z11⟩ := inv_wagg z10
  obtain ⟨a26, y29, l27, rfl, h28, z12⟩ := inv_wdI z11
  obtain ⟨a30, y33, l31, rfl, h32, z13⟩ := inv_wdI z12
  obtain ⟨hn, z14⟩ := inv_wn z13
  cases hn
  obtain ⟨a34, l35, rfl, z15⟩ := inv_wc z14
  obtain ⟨l36, rfl, z16⟩ := inv_wagg z15
  obtain ⟨a37, y40, l38, rfl, h39, z17⟩ := inv_wdI z16
  obtain ⟨a41, y44, l42, rfl, h43, z18⟩ := inv_wdI z17
  obtain ⟨hn, z19⟩ := inv_wn z18
  cases hn
  obtain ⟨hn, z20⟩ := inv_wn z19
  cases hn
  exact Den.weaken (.cons (WkA.agg (.cons h6 (.cons h10 .nil))) (.cons (WkA.agg (.cons h17 (.cons h21 .nil))) (.cons (WkA.agg (.cons h28 (.cons h32 .nil))) (.cons (WkA.agg (.cons h39 (.cons h43 .nil))) .nil)))) (evalF_sound hmix hC hF ((e68 fuel y7 y11 y18 y22 y29 y33 y40 y44).trans z20))
def C75 (fuel : Nat) : Oracle := (C74 fuel).add 96 (fun _ => true) (O68 fuel)
def A77v1 : AC := (.region 6 [mv 17 6, o1 18 (bk .add 3 17 1), o1 6 (sg 18)] 0 none)
def A77v2 : AC := (.seq (.block 3
  (.seq (.region 7 [mv 19 0, mv 20 5, o1 21 (.indexAddr 22 40 2 (tm 19) (tm 20)), o1 22 (ln 40 2 21), mv 23 0, mv 24 5, o1 25 (bk .add 3 24 1), mv 26 0, o1 27 (.len 22 false (tm 26)), o1 28 (bt .rem 3 25 27), o1 29 (.indexAddr 22 40 2 (tm 23) (tm 28)), o1 30 (ln 40 2 29), mv 31 1, mv 32 6, o1 33 (.indexAddr 22 40 2 (tm 31) (tm 32)), o1 34 (ln 40 2 33), mv 35 1, mv 36 6, o1 37 (bk .add 3 36 1), mv 38 1, o1 39 (.len 22 false (tm 38)), o1 40 (bt .rem 3 37 39), o1 41 (.indexAddr 22 40 2 (tm 35) (tm 40)), o1 42 (ln 40 2 41), o1 43 (cs 96 [22, 30, 34, 42] [40, 40, 40, 40])] 0 (some [[], [], [0, 1], [0, 1, 2], [], [], [5], [], [7], (rl 5 4 []), (rl 4 6 []), (rl 4 7 []), [], [], [12, 13], [12, 13, 14], [], [], [17], [], [19], (rl 17 4 []), (rl 16 6 []), (rl 16 7 []), (rl 0 24 [])])) []
    (.cond (tm 43)
    (.seq (.region 8 [o1 4 (sb true)] 0 none) []
      (.ret (rl 0 4 (rl 5 39 []))))
    .skip))) (4 :: (rl 19 25 []))
  A77v1)
def A77v3 : AC := (.seq (.seq (.region 5 [mv 13 6, mv 14 1, o1 15 (.len 22 false (tm 14)), o1 16 (bt .lss 3 13 15)] 0 none) []
  (.cond (tm 16)
  .skip
  (.exit 2 (2 :: 3 :: 4 :: (rl 6 38 []))))) (rl 13 4 [])
  A77v2)
def A77v4 : AC := (.region 3 [mv 11 5, o1 12 (bk .add 3 11 1), o1 5 (sg 12)] 0 none)
def A77v5 : AC := (.seq (.block 1
  (.seq (.region 4 [o1 6 (sk 0)] 0 none) []
    (.block 2
    (.loop [] (2 :: 3 :: 4 :: (rl 7 37 []))
      A77v3)))) (4 :: 6 :: (rl 13 31 []))
  A77v4)
def A77v6 : AC := (.seq (.seq (.region 2 [mv 7 5, mv 8 0, o1 9 (.len 22 false (tm 8)), o1 10 (bt .lss 3 7 9)] 0 none) []
  (.cond (tm 10)
  .skip
  (.exit 0 (rl 0 44 [])))) (rl 7 4 [])
  A77v5)
def A77v7 : AC := (.seq (.region 9 [o1 4 (sb false)] 0 none) []
  (.ret (rl 0 4 (rl 5 39 []))))
def A77 : AF := ⟨44, [.tmp 4],
  (.seq (.region 0 [o1 4 (sb false)] 0 none) []
  (.seq (.seq (.region 1 [o1 5 (sk 0)] 0 none) []
  (.block 0
  (.loop [] (2 :: 3 :: 4 :: (rl 6 38 []))
    A77v6))) (rl 4 40 [])
  A77v7))⟩
def B39v2 (C : Oracle) (fuel : Nat) {ρ : Type} : St → (Ex → St → Option ρ) → Option ρ := fun st k => evalC C fuel A77v3 st k
def N39v2 : St → Option St := fun s => s.norm (2 :: 3 :: 4 :: (rl 7 37 [])) 0
def s39v0 (x32 : Nat) (x33 : FF) (x34 : Nat) (x35 : FF) (x36 x37 : Int) : St := ⟨(.x (.c (.ro false kP x32 x33)) :: .x (.c (.ro false kP x34 x35)) :: (us 3 (vxi x36 :: vxi x37 :: (us 37 [])))), []⟩
def s39v1 : St := ⟨(us 4 (vxb true :: (us 39 []))), []⟩
def s39v2 (x32 : Nat) (x33 : FF) (x34 : Nat) (x35 : FF) (x36 : Int) : St := ⟨(.x (.c (.ro false kP x32 x33)) :: .x (.c (.ro false kP x34 x35)) :: (us 3 (vxi x36 :: (us 38 [])))), []⟩
def L39v2 {ρ : Type} (fuel : Nat) (x32 : Nat) (x33 : FF) (x34 : Nat) (x35 : FF) (x36 : Int) : Nat → Int → (Option ρ) → (Option ρ) → Option ρ
  | 0, _, _, _ => none
  | m + 1, x37, k0, k1 =>
    (bif (decide (x37 < (Int.ofNat x34))) then (bif (inb x36 x32) then (bif ((Int.ofNat x32) == 0) then none else (bif (inb (Int.tmod (w64 (x36 + 1)) (Int.ofNat x32)) x32) then (bif (inb x37 x34) then (bif ((Int.ofNat x34) == 0) then none else (bif (inb (Int.tmod (w64 (x37 + 1)) (Int.ofNat x34)) x34) then (ob (F68 fuel (CV.int (x33 (Int.toNat x36) 0)) (CV.int (x33 (Int.toNat x36) 1)) (CV.int (x33 (Int.toNat (Int.tmod (w64 (x36 + 1)) (Int.ofNat x32))) 0)) (CV.int (x33 (Int.toNat (Int.tmod (w64 (x36 + 1)) (Int.ofNat x32))) 1)) (CV.int (x35 (Int.toNat x37) 0)) (CV.int (x35 (Int.toNat x37) 1)) (CV.int (x35 (Int.toNat (Int.tmod (w64 (x37 + 1)) (Int.ofNat x34))) 0)) (CV.int (x35 (Int.toNat (Int.tmod (w64 (x37 + 1)) (Int.ofNat x34))) 1))) fun x38 => (bif x38 then k0 else (L39v2 fuel x32 x33 x34 x35 x36 m (w64 (x37 + 1)) k0 k1))) else none)) else none) else none)) else none) else k1)
theorem nl39v2 {ρ σ : Type} (fuel : Nat) (x32 : Nat) (x33 : FF) (x34 : Nat) (x35 : FF) (x36 : Int) (g : ρ → Option σ) : ∀ (m : Nat) (x37 : Int) (k0 : Option ρ) (k1 : Option ρ), ob (L39v2 fuel x32 x33 x34 x35 x36 m x37 k0 k1) g = L39v2 fuel x32 x33 x34 x35 x36 m x37 (ob k0 g) (ob k1 g)
  | 0, _, _, _ => rfl
  | m + 1, x37, k0, k1 => by
    simp only [L39v2, ob_bif, ob_ob, ob_none, nl39v2 fuel x32 x33 x34 x35 x36 g m]
theorem r39v2 (fuel : Nat) (m : Nat) {ρ : Type} (k : Ex → St → Option ρ) (x32 : Nat) (x33 : FF) (x34 : Nat) (x35 : FF) (x36 x37 : Int) :
    loopH (B39v2 (C75 fuel) fuel) N39v2 (m + 1) (s39v0 x32 x33 x34 x35 x36 x37) k =
    (bif (decide (x37 < (Int.ofNat x34))) then (bif (inb x36 x32) then (bif ((Int.ofNat x32) == 0) then none else (bif (inb (Int.tmod (w64 (x36 + 1)) (Int.ofNat x32)) x32) then (bif (inb x37 x34) then (bif ((Int.ofNat x34) == 0) then none else (bif (inb (Int.tmod (w64 (x37 + 1)) (Int.ofNat x34)) x34) then (ob (F68 fuel (CV.int (x33 (Int.toNat x36) 0)) (CV.int (x33 (Int.toNat x36) 1)) (CV.int (x33 (Int.toNat (Int.tmod (w64 (x36 + 1)) (Int.ofNat x32))) 0)) (CV.int (x33 (Int.toNat (Int.tmod (w64 (x36 + 1)) (Int.ofNat x32))) 1)) (CV.int (x35 (Int.toNat x37) 0)) (CV.int (x35 (Int.toNat x37) 1)) (CV.int (x35 (Int.toNat (Int.tmod (w64 (x37 + 1)) (Int.ofNat x34))) 0)) (CV.int (x35 (Int.toNat (Int.tmod (w64 (x37 + 1)) (Int.ofNat x34))) 1))) fun x38 => (bif x38 then (k .ret s39v1) else (loopH (B39v2 (C75 fuel) fuel) N39v2 m (s39v0 x32 x33 x34 x35 x36 (w64 (x37 + 1))) k))) else none)) else none) else none)) else none) else (k (.exit 2) (s39v2 x32 x33 x34 x35 x36))) := by kernel_rfl
theorem q39v2 (fuel : Nat) (x32 : Nat) (x33 : FF) (x34 : Nat) (x35 : FF) (x36 : Int) {ρ : Type} (k : Ex → St → Option ρ) : ∀ (m : Nat) (x37 : Int),
    loopH (B39v2 (C75 fuel) fuel) N39v2 m (s39v0 x32 x33 x34 x35 x36 x37) k = L39v2 fuel x32 x33 x34 x35 x36 m x37 (k .ret s39v1) (k (.exit 2) (s39v2 x32 x33 x34 x35 x36))
  | 0, _ => rfl
  | m + 1, x37 => by
    rw [r39v2]
    simp only [L39v2, q39v2 fuel x32 x33 x34 x35 x36 k m]
def B39v3 (C : Oracle) (fuel : Nat) {ρ : Type} : St → (Ex → St → Option ρ) → Option ρ := fun st k => evalC C fuel A77v6 st k
def N39v3 : St → Option St := fun s => s.norm (2 :: 3 :: 4 :: (rl 6 38 [])) 0
def s39v3 (x21 : Nat) (x22 : FF) (x23 : Nat) (x24 : FF) (x25 : Int) : St := ⟨(.x (.c (.ro false kP x21 x22)) :: .x (.c (.ro false kP x23 x24)) :: (us 3 (vxi x25 :: (us 38 [])))), []⟩
def s39v4 : St := ⟨(us 44 []), []⟩
def L39v3 {ρ : Type} (fuel : Nat) (x21 : Nat) (x22 : FF) (x23 : Nat) (x24 : FF) : Nat → Int → (Option ρ) → (Option ρ) → Option ρ
  | 0, _, _, _ => none
  | m + 1, x25, k0, k1 =>
    (bif (decide (x25 < (Int.ofNat x21))) then (L39v2 fuel x21 x22 x23 x24 x25 fuel 0
    k0
    (L39v3 fuel x21 x22 x23 x24 m (w64 (x25 + 1)) k0 k1)) else k1)
theorem nl39v3 {ρ σ : Type} (fuel : Nat) (x21 : Nat) (x22 : FF) (x23 : Nat) (x24 : FF) (g : ρ → Option σ) : ∀ (m : Nat) (x25 : Int) (k0 : Option ρ) (k1 : Option ρ), ob (L39v3 fuel x21 x22 x23 x24 m x25 k0 k1) g = L39v3 fuel x21 x22 x23 x24 m x25 (ob k0 g) (ob k1 g)
  | 0, _, _, _ => rfl
  | m + 1, x25, k0, k1 => by
    simp only [L39v3, ob_bif, ob_ob, ob_none, nl39v3 fuel x21 x22 x23 x24 g m, nl39v2]
def s39v5 (x21 : Nat) (x22 : FF) (x23 : Nat) (x24 : FF) (x25 : Int) : St := ⟨(.x (.c (.ro false kP x21 x22)) :: .x (.c (.ro false kP x23 x24)) :: (us 3 (vxi x25 :: vxi 0 :: (us 37 [])))), []⟩
theorem r39v3 (fuel : Nat) (m : Nat) {ρ : Type} (k : Ex → St → Option ρ) (x21 : Nat) (x22 : FF) (x23 : Nat) (x24 : FF) (x25 : Int) :
    loopH (B39v3 (C75 fuel) fuel) N39v3 (m + 1) (s39v3 x21 x22 x23 x24 x25) k =
    (bif (decide (x25 < (Int.ofNat x21))) then (loopN (B39v2 (C75 fuel) fuel) N39v2 fuel (s39v5 x21 x22 x23 x24 x25) (kBlk 2 (kBlk 1 (kSeq (C75 fuel) fuel (4 :: 6 :: (rl 13 31 [])) A77v4 (kLoop (B39v3 (C75 fuel) fuel) N39v3 m k))))) else (k (.exit 0) s39v4)) := by kernel_rfl
theorem t39v1 (fuel : Nat) {ρ : Type} (k : Ex → St → Option ρ) (x21 : Nat) (x22 : FF) (x23 : Nat) (x24 : FF) (x25 : Int) :
    loopN (B39v2 (C75 fuel) fuel) N39v2 fuel (s39v5 x21 x22 x23 x24 x25) k =
    L39v2 fuel x21 x22 x23 x24 x25 fuel 0 (k .ret s39v1) (k (.exit 2) (s39v2 x21 x22 x23 x24 x25)) :=
  (loopN_at (st' := (s39v0 x21 x22 x23 x24 x25 0)) (by kernel_rfl)).trans (q39v2 fuel x21 x22 x23 x24 x25 k fuel 0)
theorem g39v2 (fuel : Nat) (m : Nat) {ρ : Type} (k : Ex → St → Option ρ) :
    (kBlk 2 (kBlk 1 (kSeq (C75 fuel) fuel (4 :: 6 :: (rl 13 31 [])) A77v4 (kLoop (B39v3 (C75 fuel) fuel) N39v3 m k)))) .ret s39v1 =
    (k .ret s39v1) := by kernel_rfl
theorem g39v3 (fuel : Nat) (m : Nat) {ρ : Type} (k : Ex → St → Option ρ) (x21 : Nat) (x22 : FF) (x23 : Nat) (x24 : FF) (x25 : Int) :
    (kBlk 2 (kBlk 1 (kSeq (C75 fuel) fuel (4 :: 6 :: (rl 13 31 [])) A77v4 (kLoop (B39v3 (C75 fuel) fuel) N39v3 m k)))) (.exit 2) (s39v2 x21 x22 x23 x24 x25) =
    (loopH (B39v3 (C75 fuel) fuel) N39v3 m (s39v3 x21 x22 x23 x24 (w64 (x25 + 1))) k) := by kernel_rfl
theorem q39v3 (fuel : Nat) (x21 : Nat) (x22 : FF) (x23 : Nat) (x24 : FF) {ρ : Type} (k : Ex → St → Option ρ) : ∀ (m : Nat) (x25 : Int),
    loopH (B39v3 (C75 fuel) fuel) N39v3 m (s39v3 x21 x22 x23 x24 x25) k = L39v3 fuel x21 x22 x23 x24 m x25 (k .ret s39v1) (k (.exit 0) s39v4)
  | 0, _ => rfl
  | m + 1, x25 => by
    rw [r39v3]
    simp only [L39v3, q39v3 fuel x21 x22 x23 x24 k m, t39v1, g39v2, g39v3]
def D39 {ρ : Type} (fuel : Nat) (x1 : Nat) (x2 : FF) (x3 : Nat) (x4 : FF) (k : Bool → Option ρ) : Option ρ :=
  (L39v3 fuel x1 x2 x3 x4 fuel 0
    (k true)
    (k false))
def F39 (fuel : Nat) (x1 : Nat) (x2 : FF) (x3 : Nat) (x4 : FF) : Option (Bool) := D39 fuel x1 x2 x3 x4 some
theorem f39 {ρ : Type} (fuel : Nat) (x1 : Nat) (x2 : FF) (x3 : Nat) (x4 : FF) (k : (Bool) → Option ρ) : D39 fuel x1 x2 x3 x4 k = ob (F39 fuel x1 x2 x3 x4) k := by
  simp only [F39, D39, ob_bif, ob_ob, ob_none, ob_some, nl39v3]
def s39v6 (x1 : Nat) (x2 : FF) (x3 : Nat) (x4 : FF) : St := ⟨[.x (.c (.ro false kP x1 x2)), .x (.c (.ro false kP x3 x4)), .undef, .undef, vxb false, vxi 0, .undef, .undef, .undef, .undef, .undef, .undef, .undef, .undef, .undef, .undef, .undef, .undef, .undef, .undef, .undef, .undef, .undef, .undef, .undef, .undef, .undef, .undef, .undef, .undef, .undef, .undef, .undef, .undef, .undef, .undef, .undef, .undef, .undef, .undef, .undef, .undef, .undef, .undef], []⟩
theorem walk39 (fuel : Nat) (x1 : Nat) (x2 : FF) (x3 : Nat) (x4 : FF) :
    evalF (C75 fuel) fuel A77 [.v (.ro false kP x1 x2), .v (.ro false kP x3 x4)] =
    (loopN (B39v3 (C75 fuel) fuel) N39v3 fuel (s39v6 x1 x2 x3 x4) (kBlk 0 (kSeq (C75 fuel) fuel (rl 4 40 []) A77v7 (finish A77)))) := by kernel_rfl
theorem t39v4 (fuel : Nat) {ρ : Type} (k : Ex → St → Option ρ) (x1 : Nat) (x2 : FF) (x3 : Nat) (x4 : FF) :
    loopN (B39v3 (C75 fuel) fuel) N39v3 fuel (s39v6 x1 x2 x3 x4) k =
    L39v3 fuel x1 x2 x3 x4 fuel 0 (k .ret s39v1) (k (.exit 0) s39v4) :=
  (loopN_at (st' := (s39v3 x1 x2 x3 x4 0)) (by kernel_rfl)).trans (q39v3 fuel x1 x2 x3 x4 k fuel 0)
theorem g39v5 (fuel : Nat) :
    (kBlk 0 (kSeq (C75 fuel) fuel (rl 4 40 []) A77v7 (finish A77))) .ret s39v1 =
    (some [.v (.b true)]) := by kernel_rfl
theorem g39v6 (fuel : Nat) :
    (kBlk 0 (kSeq (C75 fuel) fuel (rl 4 40 []) A77v7 (finish A77))) (.exit 0) s39v4 =
    (some [.v (.b false)]) := by kernel_rfl
theorem e39 (fuel : Nat) (x1 : Nat) (x2 : FF) (x3 : Nat) (x4 : FF) : evalF (C75 fuel) fuel A77 [.v (.ro false kP x1 x2), .v (.ro false kP x3 x4)] = ob (F39 fuel x1 x2 x3 x4) fun t => some [.v (.b t)] := by
  rw [walk39, ← f39]
  simp only [D39, t39v4, g39v5, g39v6]
def O39 (fuel : Nat) : Ora where
  o := fun args {ρ} K =>
    wcL kP args fun y4 y5 l2 =>
    wcL kP l2 fun y9 y10 l7 =>
    wn l7 <|
    (ob (F39 fuel y4 y5 y9 y10) fun t => K [.v (.b t)])
  nat := fun args {ρ} K => by
    simp only [bind_wcL, bind_wn, bind_ob, Option.bind_some]
theorem d39 {P : Program} (fuel : Nat) (hmix : P.follows .mixedOrders = true) (hC : Sound P (C75 fuel)) (hF : FFits P 77 A77) (args res : List A) (h : (O39 fuel).o args some = some res) : Den P 77 args res := by
  obtain ⟨a1, y4, y5, l2, rfl, h3, z0⟩ := inv_wcL h
  obtain ⟨a6, y9, y10, l7, rfl, h8, z1⟩ := inv_wcL z0
  obtain ⟨hn, z2⟩ := inv_wn z1
  cases hn
  exact Den.weaken (.cons h3 (.cons h8 .nil)) (evalF_sound hmix hC hF ((e39 fuel y4 y5 y9 y10).trans z2))
def C76 (fuel : Nat) : Oracle := (C75 fuel).add 77 (fun _ => true) (O39 fuel)
def A62v1 : AC := (.seq (.region 10 [o1 41 (fa 40 7 1 1), o1 42 (lo 3 41), o1 43 (fa 40 3 1 1), o1 44 (lo 3 43), o1 45 (bt .leq 3 42 44), mv 46 45, og 47 (fa 40 3 1 1) 46 true, og 48 (lo 3 47) 46 true, og 49 (fa 40 8 1 1) 46 true, og 50 (lo 3 49) 46 true, og 51 (bt .lss 3 48 50) 46 true, o1 52 (po 46 51), mv 53 52, og 54 (ln 40 2 7) 53 true, og 55 (ln 40 2 8) 53 true, og 56 (ln 40 2 3) 53 true, og 57 (cs 83 [54, 55, 56] [40, 40, 40]) 53 true, og 58 (bk .gtr 3 57 0) 53 true, o1 59 (po 53 58), o1 9 (sg 59)] 0 none) []
  (.seq (.region 11 [o1 60 (fa 40 8 1 1), o1 61 (lo 3 60), o1 62 (fa 40 3 1 1), o1 63 (lo 3 62), o1 64 (bt .leq 3 61 63), mv 65 64, og 66 (fa 40 3 1 1) 65 true, og 67 (lo 3 66) 65 true, og 68 (fa 40 7 1 1) 65 true, og 69 (lo 3 68) 65 true, og 70 (bt .lss 3 67 69) 65 true, o1 71 (po 65 70), mv 72 71, og 73 (ln 40 2 7) 72 true, og 74 (ln 40 2 8) 72 true, og 75 (ln 40 2 3) 72 true, og 76 (cs 83 [73, 74, 75] [40, 40, 40]) 72 true, og 77 (bk .lss 3 76 0) 72 true, o1 78 (po 72 77), o1 10 (sg 78)] 0 none) []
  (.seq (.region 12 [mv 79 9, mv 80 79, og 81 (.move (tm 10)) 80 false, o1 82 (pa 80 81)] 0 none) []
  (.cond (tm 82)
  (.region 13 [mv 83 5, o1 84 (.unOp .not 4 (tm 83)), o1 5 (sg 84)] 0 none)
  .skip))))
def A62v2 : AC := (.region 6 [mv 23 6, o1 24 (bk .add 3 23 1), o1 6 (sg 24)] 0 none)
def A62v3 : AC := (.seq (.block 1
  (.seq (.region 7 [mv 25 0, mv 26 6, o1 27 (.indexAddr 22 40 2 (tm 25) (tm 26)), o1 28 (ln 40 2 27), mv 29 0, mv 30 6, o1 31 (bk .add 3 30 1), mv 32 0, o1 33 (.len 22 false (tm 32)), o1 34 (bt .rem 3 31 33), o1 35 (.indexAddr 22 40 2 (tm 29) (tm 34)), o1 36 (ln 40 2 35), o1 7 (.alloc 0 40 [vci 0, vci 0]), o1 8 (.alloc 1 40 [vci 0, vci 0]), o0 (.store 40 2 (tm 7) (tm 28)), o0 (.store 40 2 (tm 8) (tm 36))] 2 (some [[], [], [0, 1], [0, 1, 2], [], [], [5], [], [7], (rl 5 4 []), (rl 4 6 []), (rl 4 7 []), [], [], (rl 0 4 [12, 13]), (rl 0 15 [])])) []
    (.seq (.seq (.region 8 [o1 37 (ln 40 2 3), o1 38 (ln 40 2 7), o1 39 (ln 40 2 8), o1 40 (cs 82 [37, 38, 39] [40, 40, 40])] 0 none) []
    (.cond (tm 40)
    (.seq (.region 9 [o1 4 (sk 0)] 0 none) []
      (.ret (rl 0 4 (rl 5 81 []))))
    .skip)) (4 :: (rl 37 4 []))
    A62v1))) (4 :: (rl 7 4 (rl 25 60 [])))
  A62v2)
def A62v4 : AC := (.seq (.seq (.region 5 [mv 19 6, mv 20 0, o1 21 (.len 22 false (tm 20)), o1 22 (bt .lss 3 19 21)] 0 none) []
  (.cond (tm 22)
  .skip
  (.exit 0 (rl 0 5 (rl 6 80 []))))) (rl 19 4 [])
  A62v3)
def A62v5 : AC := (.seq (.region 16 [o1 4 (sk (-1))] 0 none) []
  (.ret (rl 0 4 (rl 5 81 []))))
def A62v6 : AC := (.seq (.seq (.region 14 [mv 85 5] 0 none) []
  (.cond (tm 85)
  (.seq (.region 15 [o1 4 (sk 1)] 0 none) []
    (.ret (rl 0 4 (rl 5 81 []))))
  .skip)) [4, 85]
  A62v5)
def A62v7 : AC := (.seq (.region 3 [o1 5 (sb false)] 0 none) []
  (.seq (.seq (.region 4 [o1 6 (sk 0)] 0 none) []
  (.block 0
  (.loop [] (1 :: 2 :: 4 :: (rl 7 79 []))
    A62v4))) (4 :: (rl 6 5 (rl 19 66 [])))
  A62v6))
def A62 : AF := ⟨86, [.tmp 4],
  (.seq (.region 0 [o1 3 (bx 0 40 1), o1 4 (sk 0)] 1 none) []
  (.seq (.seq (.region 1 [mv 11 0, o1 12 (cs 75 [11] [22]), o1 13 (bk .neq 79 12 0), mv 14 13, og 15 (ln 40 2 3) 14 false, og 16 (cs 81 [15] [40]) 14 false, og 17 (.unOp .not 4 (tm 16)) 14 false, o1 18 (pa 14 17)] 0 none) []
  (.cond (tm 18)
  (.seq (.region 2 [o1 4 (sk (-1))] 0 none) []
    (.ret (rl 0 4 (rl 5 81 []))))
  .skip)) (4 :: (rl 11 8 []))
  A62v7))⟩
def B40v1 (C : Oracle) (fuel : Nat) {ρ : Type} : St → (Ex → St → Option ρ) → Option ρ := fun st k => evalC C fuel A62v4 st k
def N40v1 : St → Option St := fun s => s.norm (1 :: 2 :: 4 :: (rl 7 79 [])) 1
def s40v0 (x16 : Nat) (x17 : FF) (x18 : Bool) (x19 x20 x21 : Int) : St := ⟨(.x (.c (.ro false kP x16 x17)) :: .u :: .u :: .x (.ptr 0 0) :: .u :: vxb x18 :: vxi x19 :: (us 79 [])), [.box [(vci x20), (vci x21)]]⟩
def s40v1 (x20 x21 x27 x28 x29 x30 : Int) : St := ⟨(us 4 (vxi 0 :: (us 81 []))), [.box [(vci x20), (vci x21)], .box [(vci x27), (vci x28)], .box [(vci x29), (vci x30)]]⟩
def s40v2 (x31 : Bool) (x20 x21 : Int) : St := ⟨(us 5 (vxb x31 :: (us 80 []))), [.box [(vci x20), (vci x21)]]⟩
def L40v1 {ρ : Type} (fuel : Nat) (x16 : Nat) (x17 : FF) (x20 x21 : Int) : Nat → Bool → Int → (Int → Int → Int → Int → Option ρ) → (Bool → Option ρ) → Option ρ
  | 0, _, _, _, _ => none
  | m + 1, x18, x19, k0, k1 =>
    (bif (decide (x19 < (Int.ofNat x16))) then (bif (inb x19 x16) then (bif ((Int.ofNat x16) == 0) then none else (bif (inb (Int.tmod (w64 (x19 + 1)) (Int.ofNat x16)) x16) then (ob (F70 fuel x20 x21 (CV.int (x17 (Int.toNat x19) 0)) (CV.int (x17 (Int.toNat x19) 1)) (CV.int (x17 (Int.toNat (Int.tmod (w64 (x19 + 1)) (Int.ofNat x16))) 0)) (CV.int (x17 (Int.toNat (Int.tmod (w64 (x19 + 1)) (Int.ofNat x16))) 1))) fun x22 => (bif x22 then (k0 (CV.int (x17 (Int.toNat x19) 0)) (CV.int (x17 (Int.toNat x19) 1)) (CV.int (x17 (Int.toNat (Int.tmod (w64 (x19 + 1)) (Int.ofNat x16))) 0)) (CV.int (x17 (Int.toNat (Int.tmod (w64 (x19 + 1)) (Int.ofNat x16))) 1))) else (bif ((decide ((CV.int (x17 (Int.toNat x19) 1)) ≤ x21)) == true) then (bif ((decide (x21 < (CV.int (x17 (Int.toNat (Int.tmod (w64 (x19 + 1)) (Int.ofNat x16))) 1)))) == true) then (ob (F71 fuel (CV.int (x17 (Int.toNat x19) 0)) (CV.int (x17 (Int.toNat x19) 1)) (CV.int (x17 (Int.toNat (Int.tmod (w64 (x19 + 1)) (Int.ofNat x16))) 0)) (CV.int (x17 (Int.toNat (Int.tmod (w64 (x19 + 1)) (Int.ofNat x16))) 1)) x20 x21) fun x23 => (bif ((decide ((CV.int (x17 (Int.toNat (Int.tmod (w64 (x19 + 1)) (Int.ofNat x16))) 1)) ≤ x21)) == true) then (bif ((decide (x21 < (CV.int (x17 (Int.toNat x19) 1)))) == true) then (ob (F71 fuel (CV.int (x17 (Int.toNat x19) 0)) (CV.int (x17 (Int.toNat x19) 1)) (CV.int (x17 (Int.toNat (Int.tmod (w64 (x19 + 1)) (Int.ofNat x16))) 0)) (CV.int (x17 (Int.toNat (Int.tmod (w64 (x19 + 1)) (Int.ofNat x16))) 1)) x20 x21) fun x24 => (bif ((decide (x23 > 0)) == false) then (bif (decide (x24 < 0)) then (L40v1 fuel x16 x17 x20 x21 m (!x18) (w64 (x19 + 1)) k0 k1) else (L40v1 fuel x16 x17 x20 x21 m x18 (w64 (x19 + 1)) k0 k1)) else (L40v1 fuel x16 x17 x20 x21 m (!x18) (w64 (x19 + 1)) k0 k1))) else (bif ((decide (x23 > 0)) == false) then (L40v1 fuel x16 x17 x20 x21 m x18 (w64 (x19 + 1)) k0 k1) else (L40v1 fuel x16 x17 x20 x21 m (!x18) (w64 (x19 + 1)) k0 k1))) else (bif ((decide (x23 > 0)) == false) then (L40v1 fuel x16 x17 x20 x21 m x18 (w64 (x19 + 1)) k0 k1) else (L40v1 fuel x16 x17 x20 x21 m (!x18) (w64 (x19 + 1)) k0 k1)))) else (bif ((decide ((CV.int (x17 (Int.toNat (Int.tmod (w64 (x19 + 1)) (Int.ofNat x16))) 1)) ≤ x21)) == true) then (bif ((decide (x21 < (CV.int (x17 (Int.toNat x19) 1)))) == true) then (ob (F71 fuel (CV.int (x17 (Int.toNat x19) 0)) (CV.int (x17 (Int.toNat x19) 1)) (CV.int (x17 (Int.toNat (Int.tmod (w64 (x19 + 1)) (Int.ofNat x16))) 0)) (CV.int (x17 (Int.toNat (Int.tmod (w64 (x19 + 1)) (Int.ofNat x16))) 1)) x20 x21) fun x25 => (bif (decide (x25 < 0)) then (L40v1 fuel x16 x17 x20 x21 m (!x18) (w64 (x19 + 1)) k0 k1) else (L40v1 fuel x16 x17 x20 x21 m x18 (w64 (x19 + 1)) k0 k1))) else (L40v1 fuel x16 x17 x20 x21 m x18 (w64 (x19 + 1)) k0 k1)) else (L40v1 fuel x16 x17 x20 x21 m x18 (w64 (x19 + 1)) k0 k1))) else (bif ((decide ((CV.int (x17 (Int.toNat (Int.tmod (w64 (x19 + 1)) (Int.ofNat x16))) 1)) ≤ x21)) == true) then (bif ((decide (x21 < (CV.int (x17 (Int.toNat x19) 1)))) == true) then (ob (F71 fuel (CV.int (x17 (Int.toNat x19) 0)) (CV.int (x17 (Int.toNat x19) 1)) (CV.int (x17 (Int.toNat (Int.tmod (w64 (x19 + 1)) (Int.ofNat x16))) 0)) (CV.int (x17 (Int.toNat (Int.tmod (w64 (x19 + 1)) (Int.ofNat x16))) 1)) x20 x21) fun x26 => (bif (decide (x26 < 0)) then (L40v1 fuel x16 x17 x20 x21 m (!x18) (w64 (x19 + 1)) k0 k1) else (L40v1 fuel x16 x17 x20 x21 m x18 (w64 (x19 + 1)) k0 k1))) else (L40v1 fuel x16 x17 x20 x21 m x18 (w64 (x19 + 1)) k0 k1)) else (L40v1 fuel x16 x17 x20 x21 m x18 (w64 (x19 + 1)) k0 k1))))) else none)) else none) else (k1 x18))
theorem nl40v1 {ρ σ : Type} (fuel : Nat) (x16 : Nat) (x17 : FF) (x20 x21 : Int) (g : ρ → Option σ) : ∀ (m : Nat) (x18 : Bool) (x19 : Int) (k0 : Int → Int → Int → Int → Option ρ) (k1 : Bool → Option ρ), ob (L40v1 fuel x16 x17 x20 x21 m x18 x19 k0 k1) g = L40v1 fuel x16 x17 x20 x21 m x18 x19 (fun x27 x28 x29 x30 => ob (k0 x27 x28 x29 x30) g) (fun x31 => ob (k1 x31) g)
  | 0, _, _, _, _ => rfl
  | m + 1, x18, x19, k0, k1 => by
    simp only [L40v1, ob_bif, ob_ob, ob_none, nl40v1 fuel x16 x17 x20 x21 g m]
theorem r40v1 (fuel : Nat) (m : Nat) {ρ : Type} (k : Ex → St → Option ρ) (x16 : Nat) (x17 : FF) (x20 x21 : Int) (x18 : Bool) (x19 : Int) :
    loopH (B40v1 (C76 fuel) fuel) N40v1 (m + 1) (s40v0 x16 x17 x18 x19 x20 x21) k =
    (bif (decide (x19 < (Int.ofNat x16))) then (bif (inb x19 x16) then (bif ((Int.ofNat x16) == 0) then none else (bif (inb (Int.tmod (w64 (x19 + 1)) (Int.ofNat x16)) x16) then (ob (F70 fuel x20 x21 (CV.int (x17 (Int.toNat x19) 0)) (CV.int (x17 (Int.toNat x19) 1)) (CV.int (x17 (Int.toNat (Int.tmod (w64 (x19 + 1)) (Int.ofNat x16))) 0)) (CV.int (x17 (Int.toNat (Int.tmod (w64 (x19 + 1)) (Int.ofNat x16))) 1))) fun x22 => (bif x22 then (k .ret (s40v1 x20 x21 (CV.int (x17 (Int.toNat x19) 0)) (CV.int (x17 (Int.toNat x19) 1)) (CV.int (x17 (Int.toNat (Int.tmod (w64 (x19 + 1)) (Int.ofNat x16))) 0)) (CV.int (x17 (Int.toNat (Int.tmod (w64 (x19 + 1)) (Int.ofNat x16))) 1)))) else (bif ((decide ((CV.int (x17 (Int.toNat x19) 1)) ≤ x21)) == true) then (bif ((decide (x21 < (CV.int (x17 (Int.toNat (Int.tmod (w64 (x19 + 1)) (Int.ofNat x16))) 1)))) == true) then (ob (F71 fuel (CV.int (x17 (Int.toNat x19) 0)) (CV.int (x17 (Int.toNat x19) 1)) (CV.int (x17 (Int.toNat (Int.tmod (w64 (x19 + 1)) (Int.ofNat x16))) 0)) (CV.int (x17 (Int.toNat (Int.tmod (w64 (x19 + 1)) (Int.ofNat x16))) 1)) x20 x21) fun x23 => (bif ((decide ((CV.int (x17 (Int.toNat (Int.tmod (w64 (x19 + 1)) (Int.ofNat x16))) 1)) ≤ x21)) == true) then (bif ((decide (x21 < (CV.int (x17 (Int.toNat x19) 1)))) == true) then (ob (F71 fuel (CV.int (x17 (Int.toNat x19) 0)) (CV.int (x17 (Int.toNat x19) 1)) (CV.int (x17 (Int.toNat (Int.tmod (w64 (x19 + 1)) (Int.ofNat x16))) 0)) (CV.int (x17 (Int.toNat (Int.tmod (w64 (x19 + 1)) (Int.ofNat x16))) 1)) x20 x21) fun x24 => (bif ((decide (x23 > 0)) == false) then (bif (decide (x24 < 0)) then (loopH (B40v1 (C76 fuel) fuel) N40v1 m (s40v0 x16 x17 (!x18) (w64 (x19 + 1)) x20 x21) k) else (loopH (B40v1 (C76 fuel) fuel) N40v1 m (s40v0 x16 x17 x18 (w64 (x19 + 1)) x20 x21) k)) else (loopH (B40v1 (C76 fuel) fuel) N40v1 m (s40v0 x16 x17 (!x18) (w64 (x19 + 1)) x20 x21) k))) else (bif ((decide (x23 > 0)) == false) then (loopH (B40v1 (C76 fuel) fuel) N40v1 m (s40v0 x16 x17 x18 (w64 (x19 + 1)) x20 x21) k) else (loopH (B40v1 (C76 fuel) fuel) N40v1 m (s40v0 x16 x17 (!x18) (w64 (x19 + 1)) x20 x21) k))) else (bif ((decide (x23 > 0)) == false) then (loopH (B40v1 (C76 fuel) fuel) N40v1 m (s40v0 x16 x17 x18 (w64 (x19 + 1)) x20 x21) k) else (loopH (B40v1 (C76 fuel) fuel) N40v1 m (s40v0 x16 x17 (!x18) (w64 (x19 + 1)) x20 x21) k)))) else (bif ((decide ((CV.int (x17 (Int.toNat (Int.tmod (w64 (x19 + 1)) (Int.ofNat x16))) 1)) ≤ x21)) == true) then (bif ((decide (x21 < (CV.int (x17 (Int.toNat x19) 1)))) == true) then (ob (F71 fuel (CV.int (x17 (Int.toNat x19) 0)) (CV.int (x17 (Int.toNat x19) 1)) (CV.int (x17 (Int.toNat (Int.tmod (w64 (x19 + 1)) (Int.ofNat x16))) 0)) (CV.int (x17 (Int.toNat (Int.tmod (w64 (x19 + 1)) (Int.ofNat x16))) 1)) x20 x21) fun x25 => (bif (decide (x25 < 0)) then (loopH (B40v1 (C76 fuel) fuel) N40v1 m (s40v0 x16 x17 (!x18) (w64 (x19 + 1)) x20 x21) k) else (loopH (B40v1 (C76 fuel) fuel) N40v1 m (s40v0 x16 x17 x18 (w64 (x19 + 1)) x20 x21) k))) else (loopH (B40v1 (C76 fuel) fuel) N40v1 m (s40v0 x16 x17 x18 (w64 (x19 + 1)) x20 x21) k)) else (loopH (B40v1 (C76 fuel) fuel) N40v1 m (s40v0 x16 x17 x18 (w64 (x19 + 1)) x20 x21) k))) else (bif ((decide ((CV.int (x17 (Int.toNat (Int.tmod (w64 (x19 + 1)) (Int.ofNat x16))) 1)) ≤ x21)) == true) then (bif ((decide (x21 < (CV.int (x17 (Int.toNat x19) 1)))) == true) then (ob (F71 fuel (CV.int (x17 (Int.toNat x19) 0)) (CV.int (x17 (Int.toNat x19) 1)) (CV.int (x17 (Int.toNat (Int.tmod (w64 (x19 + 1)) (Int.ofNat x16))) 0)) (CV.int (x17 (Int.toNat (Int.tmod (w64 (x19 + 1)) (Int.ofNat x16))) 1)) x20 x21) fun x26 => (bif (decide (x26 < 0)) then (loopH (B40v1 (C76 fuel) fuel) N40v1 m (s40v0 x16 x17 (!x18) (w64 (x19 + 1)) x20 x21) k) else (loopH (B40v1 (C76 fuel) fuel) N40v1 m (s40v0 x16 x17 x18 (w64 (x19 + 1)) x20 x21) k))) else (loopH (B40v1 (C76 fuel) fuel) N40v1 m (s40v0 x16 x17 x18 (w64 (x19 + 1)) x20 x21) k)) else (loopH (B40v1 (C76 fuel) fuel) N40v1 m (s40v0 x16 x17 x18 (w64 (x19 + 1)) x20 x21) k))))) else none)) else none) else (k (.exit 0) (s40v2 x18 x20 x21))) := by kernel_rfl
theorem q40v1 (fuel : Nat) (x16 : Nat) (x17 : FF) (x20 x21 : Int) {ρ : Type} (k : Ex → St → Option ρ) : ∀ (m : Nat) (x18 : Bool) (x19 : Int),
    loopH (B40v1 (C76 fuel) fuel) N40v1 m (s40v0 x16 x17 x18 x19 x20 x21) k = L40v1 fuel x16 x17 x20 x21 m x18 x19 (fun x27 x28 x29 x30 => k .ret (s40v1 x20 x21 x27 x28 x29 x30)) (fun x31 => k (.exit 0) (s40v2 x31 x20 x21))
  | 0, _, _ => rfl
  | m + 1, x18, x19 => by
    rw [r40v1]
    simp only [L40v1, q40v1 fuel x16 x17 x20 x21 k m]
def D40 {ρ : Type} (fuel : Nat) (x1 : Nat) (x2 : FF) (x3 x4 : Int) (k : Int → Option ρ) : Option ρ :=
  (ob (F37 fuel x1 x2) fun x5 => (bif ((x5 != 0) == false) then (ob (F69 fuel x3 x4) fun x6 => (bif (!x6) then (k (-1)) else (L40v1 fuel x1 x2 x3 x4 fuel false 0
    (fun x32 x33 x34 x35 => (k 0))
    (fun x36 => (bif x36 then (k 1) else (k (-1))))))) else (k (-1))))
def F40 (fuel : Nat) (x1 : Nat) (x2 : FF) (x3 x4 : Int) : Option (Int) := D40 fuel x1 x2 x3 x4 some
theorem f40 {ρ : Type} (fuel : Nat) (x1 : Nat) (x2 : FF) (x3 x4 : Int) (k : (Int) → Option ρ) : D40 fuel x1 x2 x3 x4 k = ob (F40 fuel x1 x2 x3 x4) k := by
  simp only [F40, D40, ob_bif, ob_ob, ob_none, ob_some, nl40v1]
def s40v3 (x1 : Nat) (x2 : FF) (x3 x4 : Int) : St := ⟨(.x (.c (.ro false kP x1 x2)) :: .agg [(vci x3), (vci x4)] :: .undef :: .x (.ptr 0 0) :: .u :: vxb false :: vxi 0 :: .undef :: .undef :: .undef :: .undef :: (us 8 [.undef, .undef, .undef, .undef, .undef, .undef, .undef, .undef, .undef, .undef, .undef, .undef, .undef, .undef, .undef, .undef, .undef, .undef, .undef, .undef, .undef, .undef, .undef, .undef, .undef, .undef, .undef, .undef, .undef, .undef, .undef, .undef, .undef, .undef, .undef, .undef, .undef, .undef, .undef, .undef, .undef, .undef, .undef, .undef, .undef, .undef, .undef, .undef, .undef, .undef, .undef, .undef, .undef, .undef, .undef, .undef, .undef, .undef, .undef, .undef, .undef, .undef, .undef, .undef, .undef, .undef, .undef])), [.box [(vci x3), (vci x4)]]⟩
theorem walk40 (fuel : Nat) (x1 : Nat) (x2 : FF) (x3 x4 : Int) :
    evalF (C76 fuel) fuel A62 [.v (.ro false kP x1 x2), .agg [(vi x3), (vi x4)]] =
    (ob (F37 fuel x1 x2) fun x5 => (bif ((x5 != 0) == false) then (ob (F69 fuel x3 x4) fun x6 => (bif (!x6) then (some [.v (vi (-1))]) else (loopN (B40v1 (C76 fuel) fuel) N40v1 fuel (s40v3 x1 x2 x3 x4) (kBlk 0 (kSeq (C76 fuel) fuel (4 :: (rl 6 5 (rl 19 66 []))) A62v6 (finish A62)))))) else (some [.v (vi (-1))]))) := by kernel_rfl
theorem t40v1 (fuel : Nat) {ρ : Type} (k : Ex → St → Option ρ) (x1 : Nat) (x2 : FF) (x3 x4 : Int) :
    loopN (B40v1 (C76 fuel) fuel) N40v1 fuel (s40v3 x1 x2 x3 x4) k =
    L40v1 fuel x1 x2 x3 x4 fuel false 0 (fun x27 x28 x29 x30 => k .ret (s40v1 x3 x4 x27 x28 x29 x30)) (fun x31 => k (.exit 0) (s40v2 x31 x3 x4)) :=
  (loopN_at (st' := (s40v0 x1 x2 false 0 x3 x4)) (by kernel_rfl)).trans (q40v1 fuel x1 x2 x3 x4 k fuel false 0)
theorem g40v2 (fuel : Nat) (x3 x4 x32 x33 x34 x35 : Int) :
    (kBlk 0 (kSeq (C76 fuel) fuel (4 :: (rl 6 5 (rl 19 66 []))) A62v6 (finish A62))) .ret (s40v1 x3 x4 x32 x33 x34 x35) =
    (some [.v (vi 0)]) := by kernel_rfl
theorem g40v3 (fuel : Nat) (x36 : Bool) (x3 x4 : Int) :
    (kBlk 0 (kSeq (C76 fuel) fuel (4 :: (rl 6 5 (rl 19 66 []))) A62v6 (finish A62))) (.exit 0) (s40v2 x36 x3 x4) =
    (bif x36 then (some [.v (vi 1)]) else (some [.v (vi (-1))])) := by kernel_rfl
theorem e40 (fuel : Nat) (x1 : Nat) (x2 : FF) (x3 x4 : Int) : evalF (C76 fuel) fuel A62 [.v (.ro false kP x1 x2), .agg [(vi x3), (vi x4)]] = ob (F40 fuel x1 x2 x3 x4) fun t => some [.v (vi t)] := by
  rw [walk40, ← f40]
  simp only [D40, t40v1, g40v2, g40v3]
def O40 (fuel : Nat) : Ora where
  o := fun args {ρ} K =>
    wcL kP args fun y4 y5 l2 =>
    wc l2 fun a6 l7 =>
    wagg a6 fun l8 =>
    wdI .i64 l8 fun y12 l10 =>
    wdI .i64 l10 fun y16 l14 =>
    wn l14 <|
    wn l7 <|
    (ob (F40 fuel y4 y5 y12 y16) fun t => K [.v (vi t)])
  nat := fun args {ρ} K => by
    simp only [bind_wagg, bind_wc, bind_wcL, bind_wdI, bind_wn, bind_ob, Option.bind_some]
theorem d40 {P : Program} (fuel : Nat) (hmix : P.follows .mixedOrders = true) (hC : Sound P (C76 fuel)) (hF : FFits P 62 A62) (args res : List A) (h : (O40 fuel).o args some = some res) : Den P 62 args res := by
  obtain ⟨a1, y4, y5, l2, rfl, h3, z0⟩ := inv_wcL h
  obtain ⟨a6, l7, rfl, z1⟩ := inv_wc z0
  obtain ⟨l8, rfl, z2⟩ := inv_wagg z1
  obtain ⟨a9, y12, l10, rfl, h11, z3⟩ := inv_wdI z2
  obtain ⟨a13, y16, l14, rfl, h15, z4⟩ := inv_wdI z3
  obtain ⟨hn, z5⟩ := inv_wn z4
  cases hn
  obtain ⟨hn, z6⟩ := inv_wn z5
  cases hn
  exact Den.weaken (.cons h3 (.cons (WkA.agg (.cons h11 (.cons h15 .nil))) .nil)) (evalF_sound hmix hC hF ((e40 fuel y4 y5 y12 y16).trans z6))
def C77 (fuel : Nat) : Oracle := (C76 fuel).add 62 (fun _ => true) (O40 fuel)
def A54v1 : AC := (.region 19 [mv 60 7, o1 61 (bk .add 3 60 1), o1 7 (sg 61)] 0 none)
def A54v2 : AC := (.seq (.block 3
  (.seq (.region 20 [mv 62 5, o1 63 (fa 25 1 1 1), o1 64 (lo 23 63), mv 65 7, o1 66 (.indexAddr 23 22 1 (tm 64) (tm 65)), o1 67 (lo 22 66), o1 68 (cs 77 [62, 67] [22, 22]), mv 69 68, og 70 (.move (tm 5)) 69 false, og 71 (fa 25 1 1 1) 69 false, og 72 (lo 23 71) 69 false, og 73 (.move (tm 7)) 69 false, og 74 (.indexAddr 23 22 1 (tm 72) (tm 73)) 69 false, og 75 (lo 22 74) 69 false, og 76 (.indexAddr 22 40 2 (tm 75) (ic 0)) 69 false, og 77 (ln 40 2 76) 69 false, og 78 (cs 62 [70, 77] [22, 40]) 69 false, og 79 (bk .neq 3 78 (-1)) 69 false, o1 80 (pa 69 79), mv 81 80, og 82 (fa 25 1 1 1) 81 false, og 83 (lo 23 82) 81 false, og 84 (.move (tm 7)) 81 false, og 85 (.indexAddr 23 22 1 (tm 83) (tm 84)) 81 false, og 86 (lo 22 85) 81 false, og 87 (.move (tm 5)) 81 false, og 88 (.indexAddr 22 40 2 (tm 87) (ic 0)) 81 false, og 89 (ln 40 2 88) 81 false, og 90 (cs 62 [86, 89] [22, 40]) 81 false, og 91 (bk .neq 3 90 (-1)) 81 false, o1 92 (pa 81 91)] 0 (some [[], [], [1], [], [1, 2, 3], (rl 1 4 []), (rl 0 6 []), (rl 0 7 []), (rl 0 8 []), (rl 0 8 []), (rl 0 8 [9]), (rl 0 8 []), (rl 0 8 [9, 10, 11]), (rl 0 8 (rl 9 4 [])), (rl 0 8 (rl 9 5 [])), (rl 0 8 (rl 9 6 [])), (rl 0 16 []), (rl 0 17 []), (rl 0 18 []), (rl 0 19 []), (rl 0 20 []), (rl 0 21 []), (rl 0 20 []), (rl 0 23 []), (rl 0 24 []), (rl 0 20 []), (rl 0 20 [25]), (rl 0 20 [25, 26]), (rl 0 28 []), (rl 0 29 []), (rl 0 30 [])])) []
    (.cond (tm 92)
    (.seq (.region 21 [o1 2 (sk 17)] 0 none) []
      (.ret (0 :: 1 :: (rl 3 90 []))))
    .skip))) (2 :: (rl 62 31 []))
  A54v1)
def A54v3 : AC := (.seq (.seq (.region 18 [mv 57 7, mv 58 4, o1 59 (bt .lss 3 57 58)] 0 none) []
  (.cond (tm 59)
  .skip
  (.exit 2 (0 :: 2 :: 3 :: (rl 5 88 []))))) [57, 58, 59]
  A54v2)
def A54v4 : AC := (.seq (.region 17 [o1 7 (sk 0)] 0 none) []
  (.block 2
  (.loop [] (0 :: 2 :: 3 :: 6 :: (rl 8 85 []))
    A54v3)))
def A54v5 : AC := (.seq (.seq (.region 15 [mv 39 5, o1 40 (cs 76 [39] [22]), o1 41 (bk .geq 3 40 0), mv 42 41, og 43 (fa 25 1 0 0) 42 false, og 44 (lo 22 43) 42 false, og 45 (.move (tm 5)) 42 false, og 46 (cs 77 [44, 45] [22, 22]) 42 false, o1 47 (pa 42 46), mv 48 47, og 49 (fa 25 1 0 0) 48 false, og 50 (lo 22 49) 48 false, og 51 (.move (tm 5)) 48 false, og 52 (.indexAddr 22 40 2 (tm 51) (ic 0)) 48 false, og 53 (ln 40 2 52) 48 false, og 54 (cs 62 [50, 53] [22, 40]) 48 false, og 55 (bk .neq 3 54 1) 48 false, o1 56 (pa 48 55)] 0 (some [[], [0], [0, 1], [0, 1, 2], (rl 0 4 []), (rl 0 5 []), (rl 0 4 []), (rl 0 7 []), (rl 0 8 []), (rl 0 9 []), (rl 0 10 []), (rl 0 11 []), (rl 0 10 []), (rl 0 10 [12]), (rl 0 10 [12, 13]), (rl 0 15 []), (rl 0 16 []), (rl 0 17 [])])) []
  (.cond (tm 56)
  (.seq (.region 16 [o1 2 (sk 17)] 0 none) []
    (.ret (0 :: 1 :: (rl 3 90 []))))
  .skip)) (2 :: (rl 39 18 []))
  A54v4)
def A54v6 : AC := (.region 10 [mv 27 4, o1 28 (bk .add 3 27 1), o1 4 (sg 28)] 0 none)
def A54v7 : AC := (.seq (.block 1
  (.seq (.region 11 [o1 29 (fa 25 1 1 1), o1 30 (lo 23 29), mv 31 4, o1 32 (.indexAddr 23 22 1 (tm 30) (tm 31)), o1 33 (lo 22 32), o1 5 (sg 33)] 0 none) []
    (.seq (.seq (.region 12 [mv 34 5, o1 35 (cs 75 [34] [22]), o1 6 (sg 35)] 0 none) []
    (.seq (.region 13 [mv 36 6, o1 37 (bk .neq 79 36 0)] 0 none) []
    (.cond (tm 37)
    (.seq (.region 14 [mv 38 6, o1 2 (sg 38)] 0 none) []
      (.ret (0 :: 1 :: (rl 3 90 []))))
    .skip))) (2 :: 6 :: (rl 34 5 []))
    A54v5))) (2 :: 5 :: 6 :: 7 :: (rl 29 64 []))
  A54v6)
def A54v8 : AC := (.seq (.seq (.region 9 [mv 22 4, o1 23 (fa 25 1 1 1), o1 24 (lo 23 23), o1 25 (.len 23 false (tm 24)), o1 26 (bt .lss 3 22 25)] 0 none) []
  (.cond (tm 26)
  .skip
  (.exit 0 (rl 0 93 [])))) (rl 22 5 [])
  A54v7)
def A54v9 : AC := (.seq (.region 22 [o1 2 (sk 0)] 0 none) []
  (.ret (0 :: 1 :: (rl 3 90 []))))
def A54v10 : AC := (.seq (.seq (.region 8 [o1 4 (sk 0)] 0 none) []
  (.block 0
  (.loop [] (0 :: 2 :: 3 :: (rl 5 88 []))
    A54v8))) (2 :: (rl 4 4 (rl 22 71 [])))
  A54v9)
def A54v11 : AC := (.seq (.seq (.region 6 [o1 18 (fa 25 1 0 0), o1 19 (lo 22 18), o1 20 (cs 76 [19] [22]), o1 21 (bk .leq 3 20 0)] 0 none) []
  (.cond (tm 21)
  (.seq (.region 7 [o1 2 (sk 17)] 0 none) []
    (.ret (0 :: 1 :: (rl 3 90 []))))
  .skip)) (2 :: (rl 18 4 []))
  A54v10)
def A54v12 : AC := (.seq (.seq (.region 3 [o1 12 (fa 25 1 0 0), o1 13 (lo 22 12), o1 14 (cs 75 [13] [22]), o1 3 (sg 14)] 0 none) []
  (.seq (.region 4 [mv 15 3, o1 16 (bk .neq 79 15 0)] 0 none) []
  (.cond (tm 16)
  (.seq (.region 5 [mv 17 3, o1 2 (sg 17)] 0 none) []
    (.ret (0 :: 1 :: (rl 3 90 []))))
  .skip))) (2 :: 3 :: (rl 12 6 []))
  A54v11)
def A54 : AF := ⟨93, [.tmp 2],
  (.seq (.region 0 [o1 1 (bx 0 25 0), o1 2 (sk 0)] 1 none) []
  (.seq (.seq (.region 1 [o1 8 (fa 25 1 1 1), o1 9 (lo 23 8), o1 10 (.len 23 false (tm 9)), o1 11 (bk .gtr 3 10 8)] 0 none) []
  (.cond (tm 11)
  (.seq (.region 2 [o1 2 (sk 12)] 0 none) []
    (.ret (0 :: 1 :: (rl 3 90 []))))
  .skip)) (2 :: (rl 8 4 []))
  A54v12))⟩
def B14v2 (C : Oracle) (fuel : Nat) {ρ : Type} : St → (Ex → St → Option ρ) → Option ρ := fun st k => evalC C fuel A54v3 st k
def N14v2 : St → Option St := fun s => s.norm (0 :: 2 :: 3 :: 6 :: (rl 8 85 [])) 1
def s14v0 (x46 : Int) (x47 : Nat) (x48 : FF) (x49 : Int) (x50 : Nat) (x51 : FF) (x52 : Nat) (x53 : FF) : St := ⟨(.u :: .x (.ptr 0 0) :: .u :: .u :: vxi x46 :: .x (.c (.ro false kP x47 x48)) :: .u :: vxi x49 :: (us 85 [])), [.box [(.c (.ro false kP x50 x51)), (.c (.ro false (.pr (.sl kP) .nil) x52 x53))]]⟩
def s14v1 (x50 : Nat) (x51 : FF) (x52 : Nat) (x53 : FF) : St := ⟨(.u :: .u :: vxi 17 :: (us 90 [])), [.box [(.c (.ro false kP x50 x51)), (.c (.ro false (.pr (.sl kP) .nil) x52 x53))]]⟩
def s14v2 (x46 : Int) (x50 : Nat) (x51 : FF) (x52 : Nat) (x53 : FF) : St := ⟨(.u :: .x (.ptr 0 0) :: .u :: .u :: vxi x46 :: (us 88 [])), [.box [(.c (.ro false kP x50 x51)), (.c (.ro false (.pr (.sl kP) .nil) x52 x53))]]⟩
def L14v2 {ρ : Type} (fuel : Nat) (x46 : Int) (x47 : Nat) (x48 : FF) (x50 : Nat) (x51 : FF) (x52 : Nat) (x53 : FF) : Nat → Int → (Option ρ) → (Option ρ) → Option ρ
  | 0, _, _, _ => none
  | m + 1, x49, k0, k1 =>
    (bif (decide (x49 < x46)) then (bif (inb x49 x52) then (ob (F39 fuel x47 x48 (CV.len (x53 (Int.toNat x49) 0)) (CV.el (x53 (Int.toNat x49) 0))) fun x54 => (bif (x54 == false) then (bif (inb x49 x52) then (bif (inb 0 (CV.len (x53 (Int.toNat x49) 0))) then (ob (F40 fuel x47 x48 (CV.int ((CV.el (x53 (Int.toNat x49) 0)) 0 0)) (CV.int ((CV.el (x53 (Int.toNat x49) 0)) 0 1))) fun x55 => (bif ((x55 != (-1)) == false) then (bif (inb x49 x52) then (bif (inb 0 x47) then (ob (F40 fuel (CV.len (x53 (Int.toNat x49) 0)) (CV.el (x53 (Int.toNat x49) 0)) (CV.int (x48 0 0)) (CV.int (x48 0 1))) fun x56 => (bif (x56 != (-1)) then k0 else (L14v2 fuel x46 x47 x48 x50 x51 x52 x53 m (w64 (x49 + 1)) k0 k1))) else none) else none) else k0)) else none) else none) else k0)) else none) else k1)
theorem nl14v2 {ρ σ : Type} (fuel : Nat) (x46 : Int) (x47 : Nat) (x48 : FF) (x50 : Nat) (x51 : FF) (x52 : Nat) (x53 : FF) (g : ρ → Option σ) : ∀ (m : Nat) (x49 : Int) (k0 : Option ρ) (k1 : Option ρ), ob (L14v2 fuel x46 x47 x48 x50 x51 x52 x53 m x49 k0 k1) g = L14v2 fuel x46 x47 x48 x50 x51 x52 x53 m x49 (ob k0 g) (ob k1 g)
  | 0, _, _, _ => rfl
  | m + 1, x49, k0, k1 => by
    simp only [L14v2, ob_bif, ob_ob, ob_none, nl14v2 fuel x46 x47 x48 x50 x51 x52 x53 g m]
theorem r14v2 (fuel : Nat) (m : Nat) {ρ : Type} (k : Ex → St → Option ρ) (x46 : Int) (x47 : Nat) (x48 : FF) (x50 : Nat) (x51 : FF) (x52 : Nat) (x53 : FF) (x49 : Int) :
    loopH (B14v2 (C77 fuel) fuel) N14v2 (m + 1) (s14v0 x46 x47 x48 x49 x50 x51 x52 x53) k =
    (bif (decide (x49 < x46)) then (bif (inb x49 x52) then (ob (F39 fuel x47 x48 (CV.len (x53 (Int.toNat x49) 0)) (CV.el (x53 (Int.toNat x49) 0))) fun x54 => (bif (x54 == false) then (bif (inb x49 x52) then (bif (inb 0 (CV.len (x53 (Int.toNat x49) 0))) then (ob (F40 fuel x47 x48 (CV.int ((CV.el (x53 (Int.toNat x49) 0)) 0 0)) (CV.int ((CV.el (x53 (Int.toNat x49) 0)) 0 1))) fun x55 => (bif ((x55 != (-1)) == false) then (bif (inb x49 x52) then (bif (inb 0 x47) then (ob (F40 fuel (CV.len (x53 (Int.toNat x49) 0)) (CV.el (x53 (Int.toNat x49) 0)) (CV.int (x48 0 0)) (CV.int (x48 0 1))) fun x56 => (bif (x56 != (-1)) then (k .ret (s14v1 x50 x51 x52 x53)) else (loopH (B14v2 (C77 fuel) fuel) N14v2 m (s14v0 x46 x47 x48 (w64 (x49 + 1)) x50 x51 x52 x53) k))) else none) else none) else (k .ret (s14v1 x50 x51 x52 x53)))) else none) else none) else (k .ret (s14v1 x50 x51 x52 x53)))) else none) else (k (.exit 2) (s14v2 x46 x50 x51 x52 x53))) := by kernel_rfl
theorem q14v2 (fuel : Nat) (x46 : Int) (x47 : Nat) (x48 : FF) (x50 : Nat) (x51 : FF) (x52 : Nat) (x53 : FF) {ρ : Type} (k : Ex → St → Option ρ) : ∀ (m : Nat) (x49 : Int),
    loopH (B14v2 (C77 fuel) fuel) N14v2 m (s14v0 x46 x47 x48 x49 x50 x51 x52 x53) k = L14v2 fuel x46 x47 x48 x50 x51 x52 x53 m x49 (k .ret (s14v1 x50 x51 x52 x53)) (k (.exit 2) (s14v2 x46 x50 x51 x52 x53))
  | 0, _ => rfl
  | m + 1, x49 => by
    rw [r14v2]
    simp only [L14v2, q14v2 fuel x46 x47 x48 x50 x51 x52 x53 k m]
def B14v3 (C : Oracle) (fuel : Nat) {ρ : Type} : St → (Ex → St → Option ρ) → Option ρ := fun st k => evalC C fuel A54v8 st k
def N14v3 : St → Option St := fun s => s.norm (0 :: 2 :: 3 :: (rl 5 88 [])) 1
def s14v3 (x24 : Int) (x25 : Nat) (x26 : FF) (x27 : Nat) (x28 : FF) : St := ⟨(.u :: .x (.ptr 0 0) :: .u :: .u :: vxi x24 :: (us 88 [])), [.box [(.c (.ro false kP x25 x26)), (.c (.ro false (.pr (.sl kP) .nil) x27 x28))]]⟩
def s14v4 (x57 : Int) (x25 : Nat) (x26 : FF) (x27 : Nat) (x28 : FF) : St := ⟨(.u :: .u :: vxi x57 :: (us 90 [])), [.box [(.c (.ro false kP x25 x26)), (.c (.ro false (.pr (.sl kP) .nil) x27 x28))]]⟩
def s14v5 (x25 : Nat) (x26 : FF) (x27 : Nat) (x28 : FF) : St := ⟨(us 93 []), [.box [(.c (.ro false kP x25 x26)), (.c (.ro false (.pr (.sl kP) .nil) x27 x28))]]⟩
def L14v3 {ρ : Type} (fuel : Nat) (x25 : Nat) (x26 : FF) (x27 : Nat) (x28 : FF) : Nat → Int → (Int → Option ρ) → (Option ρ) → Option ρ
  | 0, _, _, _ => none
  | m + 1, x24, k0, k1 =>
    (bif (decide (x24 < (Int.ofNat x27))) then (bif (inb x24 x27) then (ob (F37 fuel (CV.len (x28 (Int.toNat x24) 0)) (CV.el (x28 (Int.toNat x24) 0))) fun x29 => (bif (x29 != 0) then (k0 x29) else (ob (F38 fuel (CV.len (x28 (Int.toNat x24) 0)) (CV.el (x28 (Int.toNat x24) 0))) fun x30 => (bif ((decide (x30 ≥ 0)) == false) then (ob (F39 fuel x25 x26 (CV.len (x28 (Int.toNat x24) 0)) (CV.el (x28 (Int.toNat x24) 0))) fun x31 => (bif (x31 == false) then (bif (inb 0 (CV.len (x28 (Int.toNat x24) 0))) then (ob (F40 fuel x25 x26 (CV.int ((CV.el (x28 (Int.toNat x24) 0)) 0 0)) (CV.int ((CV.el (x28 (Int.toNat x24) 0)) 0 1))) fun x32 => (bif (x32 != 1) then (k0 17) else (L14v2 fuel x24 (CV.len (x28 (Int.toNat x24) 0)) (CV.el (x28 (Int.toNat x24) 0)) x25 x26 x27 x28 fuel 0
    (k0 17)
    (L14v3 fuel x25 x26 x27 x28 m (w64 (x24 + 1)) k0 k1)))) else none) else (k0 17))) else (k0 17))))) else none) else k1)
theorem nl14v3 {ρ σ : Type} (fuel : Nat) (x25 : Nat) (x26 : FF) (x27 : Nat) (x28 : FF) (g : ρ → Option σ) : ∀ (m : Nat) (x24 : Int) (k0 : Int → Option ρ) (k1 : Option ρ), ob (L14v3 fuel x25 x26 x27 x28 m x24 k0 k1) g = L14v3 fuel x25 x26 x27 x28 m x24 (fun x57 => ob (k0 x57) g) (ob k1 g)
  | 0, _, _, _ => rfl
  | m + 1, x24, k0, k1 => by
    simp only [L14v3, ob_bif, ob_ob, ob_none, nl14v3 fuel x25 x26 x27 x28 g m, nl14v2]
def s14v6 (x24 : Int) (x28 : FF) (x27 x25 : Nat) (x26 : FF) : St := ⟨(.u :: .x (.ptr 0 0) :: .u :: .u :: vxi x24 :: .x (.c (.ro false kP (CV.len (x28 (Int.toNat x24) 0)) (CV.el (x28 (Int.toNat x24) 0)))) :: .u :: vxi 0 :: (us 21 (.x (.ptr 0 1) :: .x (.c (.ro false (.pr (.sl kP) .nil) x27 x28)) :: vxi x24 :: .x (.c (.rp (.pr (.sl kP) .nil) (x28 (Int.toNat x24)))) :: .x (.c (.ro false kP (CV.len (x28 (Int.toNat x24) 0)) (CV.el (x28 (Int.toNat x24) 0)))) :: (us 59 [])))), [.box [(.c (.ro false kP x25 x26)), (.c (.ro false (.pr (.sl kP) .nil) x27 x28))]]⟩
theorem r14v3 (fuel : Nat) (m : Nat) {ρ : Type} (k : Ex → St → Option ρ) (x25 : Nat) (x26 : FF) (x27 : Nat) (x28 : FF) (x24 : Int) :
    loopH (B14v3 (C77 fuel) fuel) N14v3 (m + 1) (s14v3 x24 x25 x26 x27 x28) k =
    (bif (decide (x24 < (Int.ofNat x27))) then (bif (inb x24 x27) then (ob (F37 fuel (CV.len (x28 (Int.toNat x24) 0)) (CV.el (x28 (Int.toNat x24) 0))) fun x29 => (bif (x29 != 0) then (k .ret (s14v4 x29 x25 x26 x27 x28)) else (ob (F38 fuel (CV.len (x28 (Int.toNat x24) 0)) (CV.el (x28 (Int.toNat x24) 0))) fun x30 => (bif ((decide (x30 ≥ 0)) == false) then (ob (F39 fuel x25 x26 (CV.len (x28 (Int.toNat x24) 0)) (CV.el (x28 (Int.toNat x24) 0))) fun x31 => (bif (x31 == false) then (bif (inb 0 (CV.len (x28 (Int.toNat x24) 0))) then (ob (F40 fuel x25 x26 (CV.int ((CV.el (x28 (Int.toNat x24) 0)) 0 0)) (CV.int ((CV.el (x28 (Int.toNat x24) 0)) 0 1))) fun x32 => (bif (x32 != 1) then (k .ret (s14v4 17 x25 x26 x27 x28)) else (loopN (B14v2 (C77 fuel) fuel) N14v2 fuel (s14v6 x24 x28 x27 x25 x26) (kBlk 2 (kBlk 1 (kSeq (C77 fuel) fuel (2 :: 5 :: 6 :: 7 :: (rl 29 64 [])) A54v6 (kLoop (B14v3 (C77 fuel) fuel) N14v3 m k))))))) else none) else (k .ret (s14v4 17 x25 x26 x27 x28)))) else (k .ret (s14v4 17 x25 x26 x27 x28)))))) else none) else (k (.exit 0) (s14v5 x25 x26 x27 x28))) := by kernel_rfl
theorem t14v1 (fuel : Nat) {ρ : Type} (k : Ex → St → Option ρ) (x24 : Int) (x28 : FF) (x27 x25 : Nat) (x26 : FF) :
    loopN (B14v2 (C77 fuel) fuel) N14v2 fuel (s14v6 x24 x28 x27 x25 x26) k =
    L14v2 fuel x24 (CV.len (x28 (Int.toNat x24) 0)) (CV.el (x28 (Int.toNat x24) 0)) x25 x26 x27 x28 fuel 0 (k .ret (s14v1 x25 x26 x27 x28)) (k (.exit 2) (s14v2 x24 x25 x26 x27 x28)) :=
  (loopN_at (st' := (s14v0 x24 (CV.len (x28 (Int.toNat x24) 0)) (CV.el (x28 (Int.toNat x24) 0)) 0 x25 x26 x27 x28)) (by kernel_rfl)).trans (q14v2 fuel x24 (CV.len (x28 (Int.toNat x24) 0)) (CV.el (x28 (Int.toNat x24) 0)) x25 x26 x27 x28 k fuel 0)
theorem g14v2 (fuel : Nat) (m : Nat) {ρ : Type} (k : Ex → St → Option ρ) (x25 : Nat) (x26 : FF) (x27 : Nat) (x28 : FF) :
    (kBlk 2 (kBlk 1 (kSeq (C77 fuel) fuel (2 :: 5 :: 6 :: 7 :: (rl 29 64 [])) A54v6 (kLoop (B14v3 (C77 fuel) fuel) N14v3 m k)))) .ret (s14v1 x25 x26 x27 x28) =
    (k .ret (s14v4 17 x25 x26 x27 x28)) := by kernel_rfl
theorem g14v3 (fuel : Nat) (m : Nat) {ρ : Type} (k : Ex → St → Option ρ) (x24 : Int) (x25 : Nat) (x26 : FF) (x27 : Nat) (x28 : FF) :
    (kBlk 2 (kBlk 1 (kSeq (C77 fuel) fuel (2 :: 5 :: 6 :: 7 :: (rl 29 64 [])) A54v6 (kLoop (B14v3 (C77 fuel) fuel) N14v3 m k)))) (.exit 2) (s14v2 x24 x25 x26 x27 x28) =
    (loopH (B14v3 (C77 fuel) fuel) N14v3 m (s14v3 (w64 (x24 + 1)) x25 x26 x27 x28) k) := by kernel_rfl
theorem q14v3 (fuel : Nat) (x25 : Nat) (x26 : FF) (x27 : Nat) (x28 : FF) {ρ : Type} (k : Ex → St → Option ρ) : ∀ (m : Nat) (x24 : Int),
    loopH (B14v3 (C77 fuel) fuel) N14v3 m (s14v3 x24 x25 x26 x27 x28) k = L14v3 fuel x25 x26 x27 x28 m x24 (fun x57 => k .ret (s14v4 x57 x25 x26 x27 x28)) (k (.exit 0) (s14v5 x25 x26 x27 x28))
  | 0, _ => rfl
  | m + 1, x24 => by
    rw [r14v3]
    simp only [L14v3, q14v3 fuel x25 x26 x27 x28 k m, t14v1, g14v2, g14v3]
def D14 {ρ : Type} (fuel : Nat) (x1 : Nat) (x2 : FF) (x3 : Nat) (x4 : FF) (k : Int → Option ρ) : Option ρ :=
  (bif (decide ((Int.ofNat x3) > 8)) then (k 12) else (ob (F37 fuel x1 x2) fun x5 => (bif (x5 != 0) then (k x5) else (ob (F38 fuel x1 x2) fun x6 => (bif (decide (x6 ≤ 0)) then (k 17) else (L14v3 fuel x1 x2 x3 x4 fuel 0
    (fun x58 => (k x58))
    (k 0)))))))
def F14 (fuel : Nat) (x1 : Nat) (x2 : FF) (x3 : Nat) (x4 : FF) : Option (Int) := D14 fuel x1 x2 x3 x4 some
theorem f14 {ρ : Type} (fuel : Nat) (x1 : Nat) (x2 : FF) (x3 : Nat) (x4 : FF) (k : (Int) → Option ρ) : D14 fuel x1 x2 x3 x4 k = ob (F14 fuel x1 x2 x3 x4) k := by
  simp only [F14, D14, ob_bif, ob_ob, ob_none, ob_some, nl14v3]
def s14v7 (x1 : Nat) (x2 : FF) (x3 : Nat) (x4 : FF) : St := ⟨(.agg [(.c (.ro false kP x1 x2)), (.c (.ro false (.pr (.sl kP) .nil) x3 x4))] :: .x (.ptr 0 0) :: .u :: .u :: vxi 0 :: .undef :: .undef :: .undef :: (us 14 [.undef, .undef, .undef, .undef, .undef, .undef, .undef, .undef, .undef, .undef, .undef, .undef, .undef, .undef, .undef, .undef, .undef, .undef, .undef, .undef, .undef, .undef, .undef, .undef, .undef, .undef, .undef, .undef, .undef, .undef, .undef, .undef, .undef, .undef, .undef, .undef, .undef, .undef, .undef, .undef, .undef, .undef, .undef, .undef, .undef, .undef, .undef, .undef, .undef, .undef, .undef, .undef, .undef, .undef, .undef, .undef, .undef, .undef, .undef, .undef, .undef, .undef, .undef, .undef, .undef, .undef, .undef, .undef, .undef, .undef, .undef])), [.box [(.c (.ro false kP x1 x2)), (.c (.ro false (.pr (.sl kP) .nil) x3 x4))]]⟩
theorem walk14 (fuel : Nat) (x1 : Nat) (x2 : FF) (x3 : Nat) (x4 : FF) :
    evalF (C77 fuel) fuel A54 [.agg [(.ro false kP x1 x2), (.ro false (.pr (.sl kP) .nil) x3 x4)]] =
    (bif (decide ((Int.ofNat x3) > 8)) then (some [.v (vi 12)]) else (ob (F37 fuel x1 x2) fun x5 => (bif (x5 != 0) then (some [.v (vi x5)]) else (ob (F38 fuel x1 x2) fun x6 => (bif (decide (x6 ≤ 0)) then (some [.v (vi 17)]) else (loopN (B14v3 (C77 fuel) fuel) N14v3 fuel (s14v7 x1 x2 x3 x4) (kBlk 0 (kSeq (C77 fuel) fuel (2 :: (rl 4 4 (rl 22 71 []))) A54v9 (finish A54))))))))) := by kernel_rfl
theorem t14v4 (fuel : Nat) {ρ : Type} (k : Ex → St → Option ρ) (x1 : Nat) (x2 : FF) (x3 : Nat) (x4 : FF) :
    loopN (B14v3 (C77 fuel) fuel) N14v3 fuel (s14v7 x1 x2 x3 x4) k =
    L14v3 fuel x1 x2 x3 x4 fuel 0 (fun x57 => k .ret (s14v4 x57 x1 x2 x3 x4)) (k (.exit 0) (s14v5 x1 x2 x3 x4)) :=
  (loopN_at (st' := (s14v3 0 x1 x2 x3 x4)) (by kernel_rfl)).trans (q14v3 fuel x1 x2 x3 x4 k fuel 0)
theorem g14v5 (fuel : Nat) (x58 : Int) (x1 : Nat) (x2 : FF) (x3 : Nat) (x4 : FF) :
    (kBlk 0 (kSeq (C77 fuel) fuel (2 :: (rl 4 4 (rl 22 71 []))) A54v9 (finish A54))) .ret (s14v4 x58 x1 x2 x3 x4) =
    (some [.v (vi x58)]) := by kernel_rfl
theorem g14v6 (fuel : Nat) (x1 : Nat) (x2 : FF) (x3 : Nat) (x4 : FF) :
    (kBlk 0 (kSeq (C77 fuel) fuel (2 :: (rl 4 4 (rl 22 71 []))) A54v9 (finish A54))) (.exit 0) (s14v5 x1 x2 x3 x4) =
    (some [.v (vi 0)]) := by kernel_rfl
theorem e14 (fuel : Nat) (x1 : Nat) (x2 : FF) (x3 : Nat) (x4 : FF) : evalF (C77 fuel) fuel A54 [.agg [(.ro false kP x1 x2), (.ro false (.pr (.sl kP) .nil) x3 x4)]] = ob (F14 fuel x1 x2 x3 x4) fun t => some [.v (vi t)] := by
  rw [walk14, ← f14]
  simp only [D14, t14v4, g14v5, g14v6]
def O14 (fuel : Nat) : Ora where
  o := fun args {ρ} K =>
    wc args fun a1 l2 =>
    wagg a1 fun l3 =>
    wdL kP l3 fun y7 y8 l5 =>
    wdL (.pr (.sl kP) .nil) l5 fun y12 y13 l10 =>
    wn l10 <|
    wn l2 <|
    (ob (F14 fuel y7 y8 y12 y13) fun t => K [.v (vi t)])
  nat := fun args {ρ} K => by
    simp only [bind_wagg, bind_wc, bind_wdL, bind_wn, bind_ob, Option.bind_some]
theorem d14 {P : Program} (fuel : Nat) (hmix : P.follows .mixedOrders = true) (hC : Sound P (C77 fuel)) (hF : FFits P 54 A54) (args res : List A) (h : (O14 fuel).o args some = some res) : Den P 54 args res := by
  obtain ⟨a1, l2, rfl, z0⟩ := inv_wc h
  obtain ⟨l3, rfl, z1⟩ := inv_wagg z0
  obtain ⟨a4, y7, y8, l5, rfl, h6, z2⟩ := inv_wdL z1
  obtain ⟨a9, y12, y13, l10, rfl, h11, z3⟩ := inv_wdL z2
  obtain ⟨hn, z4⟩ := inv_wn z3
  cases hn
  obtain ⟨hn, z5⟩ := inv_wn z4
  cases hn
  exact Den.weaken (.cons (WkA.agg (.cons h6 (.cons h11 .nil))) .nil) (evalF_sound hmix hC hF ((e14 fuel y7 y8 y12 y13).trans z5))
def C78 (fuel : Nat) : Oracle := (C77 fuel).add 54 (fun _ => true) (O14 fuel)
def A30 : AF := ⟨17, [.tmp 2],
  (.seq (.region 0 [o1 1 (bx 0 31 0), o1 2 (sb false)] 1 none) []
  (.seq (.region 1 [o1 3 (fa 31 1 2 2), o1 4 (lo 3 3), o1 5 (bk .eql 3 4 1), mv 6 5, og 7 (fa 31 1 11 14) 6 true, og 8 (ln 29 4 7) 6 true, og 9 (cs 53 [8] [29]) 6 true, o1 10 (po 6 9), mv 11 10, og 12 (ln 31 18 1) 11 true, og 13 (cf 35 [12] [31]) 11 true, og 14 (cs 54 [13] [25]) 11 true, og 15 (bk .eql 79 14 0) 11 true, o1 16 (po 11 15), o1 2 (sg 16)] 0 none) []
  (.ret (0 :: 1 :: (rl 3 14 [])))))⟩
def D135 {ρ : Type} (fuel : Nat) (x1 : Nat → CV) (k : Bool → Option ρ) : Option ρ :=
  (bif (((CV.int (x1 2)) == 1) == true) then (ob (F133 fuel (CV.int (x1 14)) (CV.int (x1 15)) (CV.int (x1 16)) (CV.int (x1 17))) fun x2 => (bif (x2 == true) then (ob (F134 fuel (listF (pj kR0 x1))) fun x3 => (ob (F14 fuel x3.1 x3.2.1 x3.2.2.1 x3.2.2.2) fun x4 => (k (x4 == 0)))) else (k false))) else (k false))
def F135 (fuel : Nat) (x1 : Nat → CV) : Option (Bool) := D135 fuel x1 some
theorem f135 {ρ : Type} (fuel : Nat) (x1 : Nat → CV) (k : (Bool) → Option ρ) : D135 fuel x1 k = ob (F135 fuel x1) k := by
  simp only [F135, D135, ob_bif, ob_ob, ob_none, ob_some]
theorem walk135 (fuel : Nat) (x1 : Nat → CV) :
    evalF (C78 fuel) fuel A30 [.agg (pj kR0 x1)] =
    (bif (((CV.int (x1 2)) == 1) == true) then (ob (F133 fuel (CV.int (x1 14)) (CV.int (x1 15)) (CV.int (x1 16)) (CV.int (x1 17))) fun x2 => (bif (x2 == true) then (ob (F134 fuel (listF (pj kR0 x1))) fun x3 => (ob (F14 fuel x3.1 x3.2.1 x3.2.2.1 x3.2.2.2) fun x4 => (some [.v (.b (x4 == 0))]))) else (some [.v (.b false)]))) else (some [.v (.b false)])) := by kernel_rfl
theorem e135 (fuel : Nat) (x1 : Nat → CV) : evalF (C78 fuel) fuel A30 [.agg (pj kR0 x1)] = ob (F135 fuel x1) fun t => some [.v (.b t)] := by
  rw [walk135, ← f135]
  simp only [D135]
def O135 (fuel : Nat) : Ora where
  o := fun args {ρ} K =>
    wc args fun a1 l2 =>
    wrow kR0 a1 fun y3 =>
    wn l2 <|
    (ob (F135 fuel y3) fun t => K [.v (.b t)])
  nat := fun args {ρ} K => by
    simp only [bind_wc, bind_wn, bind_wrow, bind_ob, Option.bind_some]
theorem d135 {P : Program} (fuel : Nat) (hmix : P.follows .mixedOrders = true) (hC : Sound P (C78 fuel)) (hF : FFits P 30 A30) (args res : List A) (h : (O135 fuel).o args some = some res) : Den P 30 args res := by
  obtain ⟨a1, l2, rfl, z0⟩ := inv_wc h
  obtain ⟨y3, h4, z1⟩ := inv_wrow z0
  obtain ⟨hn, z2⟩ := inv_wn z1
  cases hn
  exact Den.weaken (.cons h4 .nil) (evalF_sound hmix hC hF ((e135 fuel y3).trans z2))
def C79 (fuel : Nat) : Oracle := (C78 fuel).add 30 (fun _ => true) (O135 fuel)
def A56 : AF := ⟨31, [.tmp 2],
  (.seq (.region 0 [o1 1 (bx 0 27 0), o1 2 (sb false)] 1 none) []
  (.seq (.region 1 [o1 3 (fa 27 1 0 0), o1 4 (lo 3 3), o1 5 (bk .geq 3 4 (-1099511627776)), mv 6 5, og 7 (fa 27 1 0 0) 6 true, og 8 (lo 3 7) 6 true, og 9 (bk .leq 3 8 1099511627776) 6 true, o1 10 (po 6 9), mv 11 10, og 12 (fa 27 1 1 1) 11 true, og 13 (lo 3 12) 11 true, og 14 (bk .geq 3 13 (-1099511627776)) 11 true, o1 15 (po 11 14), mv 16 15, og 17 (fa 27 1 1 1) 16 true, og 18 (lo 3 17) 16 true, og 19 (bk .leq 3 18 1099511627776) 16 true, o1 20 (po 16 19), mv 21 20, og 22 (fa 27 1 2 2) 21 true, og 23 (lo 3 22) 21 true, og 24 (bk .geq 3 23 (-1099511627776)) 21 true, o1 25 (po 21 24), mv 26 25, og 27 (fa 27 1 2 2) 26 true, og 28 (lo 3 27) 26 true, og 29 (bk .leq 3 28 1099511627776) 26 true, o1 30 (po 26 29), o1 2 (sg 30)] 0 none) []
  (.ret (0 :: 1 :: (rl 3 28 [])))))⟩
def D136 {ρ : Type} (fuel : Nat) (x1 x2 x3 : Int) (k : Bool → Option ρ) : Option ρ :=
  (bif ((decide (x1 ≥ (-1099511627776))) == true) then (bif ((decide (x1 ≤ 1099511627776)) == true) then (bif ((decide (x2 ≥ (-1099511627776))) == true) then (bif ((decide (x2 ≤ 1099511627776)) == true) then (bif ((decide (x3 ≥ (-1099511627776))) == true) then (k (decide (x3 ≤ 1099511627776))) else (k false)) else (k false)) else (k false)) else (k false)) else (k false))
def F136 (fuel : Nat) (x1 x2 x3 : Int) : Option (Bool) := D136 fuel x1 x2 x3 some
theorem f136 {ρ : Type} (fuel : Nat) (x1 x2 x3 : Int) (k : (Bool) → Option ρ) : D136 fuel x1 x2 x3 k = ob (F136 fuel x1 x2 x3) k := by
  simp only [F136, D136, ob_bif, ob_ob, ob_none, ob_some]
theorem walk136 (fuel : Nat) (x1 x2 x3 : Int) :
    evalF (C79 fuel) fuel A56 [.agg [(vi x1), (vi x2), (vi x3)]] =
    (bif ((decide (x1 ≥ (-1099511627776))) == true) then (bif ((decide (x1 ≤ 1099511627776)) == true) then (bif ((decide (x2 ≥ (-1099511627776))) == true) then (bif ((decide (x2 ≤ 1099511627776)) == true) then (bif ((decide (x3 ≥ (-1099511627776))) == true) then (some [.v (.b (decide (x3 ≤ 1099511627776)))]) else (some [.v (.b false)])) else (some [.v (.b false)])) else (some [.v (.b false)])) else (some [.v (.b false)])) else (some [.v (.b false)])) := by kernel_rfl
theorem e136 (fuel : Nat) (x1 x2 x3 : Int) : evalF (C79 fuel) fuel A56 [.agg [(vi x1), (vi x2), (vi x3)]] = ob (F136 fuel x1 x2 x3) fun t => some [.v (.b t)] := by
  rw [walk136, ← f136]
  simp only [D136]
def O136 (fuel : Nat) : Ora where
  o := fun args {ρ} K =>
    wc args fun a1 l2 =>
    wagg a1 fun l3 =>
    wdI .i64 l3 fun y7 l5 =>
    wdI .i64 l5 fun y11 l9 =>
    wdI .i64 l9 fun y15 l13 =>
    wn l13 <|
    wn l2 <|
    (ob (F136 fuel y7 y11 y15) fun t => K [.v (.b t)])
  nat := fun args {ρ} K => by
    simp only [bind_wagg, bind_wc, bind_wdI, bind_wn, bind_ob, Option.bind_some]
theorem d136 {P : Program} (fuel : Nat) (hmix : P.follows .mixedOrders = true) (hC : Sound P (C79 fuel)) (hF : FFits P 56 A56) (args res : List A) (h : (O136 fuel).o args some = some res) : Den P 56 args res := by
  obtain ⟨a1, l2, rfl, z0⟩ := inv_wc h
  obtain ⟨l3, rfl, z1⟩ := inv_wagg z0
  obtain ⟨a4, y7, l5, rfl, h6, z2⟩ := inv_wdI z1
  obtain ⟨a8, y11, l9, rfl, h10, z3⟩ := inv_wdI z2
  obtain ⟨a12, y15, l13, rfl, h14, z4⟩ := inv_wdI z3
  obtain ⟨hn, z5⟩ := inv_wn z4
  cases hn
  obtain ⟨hn, z6⟩ := inv_wn z5
  cases hn
  exact Den.weaken (.cons (WkA.agg (.cons h6 (.cons h10 (.cons h14 .nil)))) .nil) (evalF_sound hmix hC hF ((e136 fuel y7 y11 y15).trans z6))
def C80 (fuel : Nat) : Oracle := (C79 fuel).add 56 (fun _ => true) (O136 fuel)
def A58 : AF := ⟨21, [.cell 4 27 (some 3)],
  (.seq (.region 0 [o1 2 (bx 0 27 0), o1 3 (bx 1 27 1), o1 4 (.alloc 2 27 [vci 0, vci 0, vci 0])] 3 none) []
  (.seq (.region 1 [o1 5 (fa 27 2 0 0), o1 6 (lo 3 5), o1 7 (fa 27 3 0 0), o1 8 (lo 3 7), o1 9 (bt .sub 3 6 8), o1 10 (fa 27 2 1 1), o1 11 (lo 3 10), o1 12 (fa 27 3 1 1), o1 13 (lo 3 12), o1 14 (bt .sub 3 11 13), o1 15 (fa 27 2 2 2), o1 16 (lo 3 15), o1 17 (fa 27 3 2 2), o1 18 (lo 3 17), o1 19 (bt .sub 3 16 18), o1 20 (.build 27 [vci 0, vci 0, vci 0] [(0, 1), (1, 1), (2, 1)] 0 [(0, (tm 9)), (1, (tm 14)), (2, (tm 19))]), o0 (.store 27 3 (tm 4) (tm 20))] 0 none) []
  (.ret (rl 0 4 (rl 5 16 [])))))⟩
def D137 {ρ : Type} (fuel : Nat) (x1 x2 x3 x4 x5 x6 : Int) (k : (Int × Int × Int) → Option ρ) : Option ρ :=
  (k ((w64 (x1 - x4)), (w64 (x2 - x5)), (w64 (x3 - x6))))
def F137 (fuel : Nat) (x1 x2 x3 x4 x5 x6 : Int) : Option (Int × Int × Int) := D137 fuel x1 x2 x3 x4 x5 x6 some
theorem f137 {ρ : Type} (fuel : Nat) (x1 x2 x3 x4 x5 x6 : Int) (k : (Int × Int × Int) → Option ρ) : D137 fuel x1 x2 x3 x4 x5 x6 k = ob (F137 fuel x1 x2 x3 x4 x5 x6) k := by
  simp only [F137, D137, ob_bif, ob_ob, ob_none, ob_some]
theorem walk137 (fuel : Nat) (x1 x2 x3 x4 x5 x6 : Int) :
    evalF (C80 fuel) fuel A58 [.agg [(vi x1), (vi x2), (vi x3)], .agg [(vi x4), (vi x5), (vi x6)]] =
    (some [.agg [(vi (w64 (x1 - x4))), (vi (w64 (x2 - x5))), (vi (w64 (x3 - x6)))]]) := by kernel_rfl
theorem e137 (fuel : Nat) (x1 x2 x3 x4 x5 x6 : Int) : evalF (C80 fuel) fuel A58 [.agg [(vi x1), (vi x2), (vi x3)], .agg [(vi x4), (vi x5), (vi x6)]] = ob (F137 fuel x1 x2 x3 x4 x5 x6) fun t => some [.agg [(vi t.1), (vi t.2.1), (vi t.2.2)]] := by
  rw [walk137, ← f137]
  simp only [D137]
def O137 (fuel : Nat) : Ora where
  o := fun args {ρ} K =>
    wc args fun a1 l2 =>
    wagg a1 fun l3 =>
    wdI .i64 l3 fun y7 l5 =>
    wdI .i64 l5 fun y11 l9 =>
    wdI .i64 l9 fun y15 l13 =>
    wn l13 <|
    wc l2 fun a16 l17 =>
    wagg a16 fun l18 =>
    wdI .i64 l18 fun y22 l20 =>
    wdI .i64 l20 fun y26 l24 =>
    wdI .i64 l24 fun y30 l28 =>
    wn l28 <|
    wn l17 <|
    (ob (F137 fuel y7 y11 y15 y22 y26 y30) fun t => K [.agg [(vi t.1), (vi t.2.1), (vi t.2.2)]])
  nat := fun args {ρ} K => by
    simp only [bind_wagg, bind_wc, bind_wdI, bind_wn, bind_ob, Option.bind_some]
theorem d137 {P : Program} (fuel : Nat) (hmix : P.follows .mixedOrders = true) (hC : Sound P (C80 fuel)) (hF : FFits P 58 A58) (args res : List A) (h : (O137 fuel).o args some = some res) : Den P 58 args res := by
  obtain ⟨a1, l2, rfl, z0⟩ := inv_wc h
  obtain ⟨l3, rfl, z1⟩ := inv_wagg z0
  obtain ⟨a4, y7, l5, rfl, h6, z2⟩ := inv_wdI z1
  obtain ⟨a8, y11, l9, rfl, h10, z3⟩ := inv_wdI z2
  obtain ⟨a12, y15, l13, rfl, h14, z4⟩ := inv_wdI z3
  obtain ⟨hn, z5⟩ := inv_wn z4
  cases hn
  obtain ⟨a16, l17, rfl, z6⟩ := inv_wc z5
  obtain ⟨l18, rfl, z7⟩ := inv_wagg z6
  obtain ⟨a19, y22, l20, rfl, h21, z8⟩ := inv_wdI z7
  obtain ⟨a23, y26, l24, rfl, h25, z9⟩ := inv_wdI z8
  obtain ⟨a27, y30, l28, rfl, h29, z10⟩ := inv_wdI z9
  obtain ⟨hn, z11⟩ := inv_wn z10
  cases hn
  obtain ⟨hn, z12⟩ := inv_wn z11
  cases hn
  exact Den.weaken (.cons (WkA.agg (.cons h6 (.cons h10 (.cons h14 .nil)))) (.cons (WkA.agg (.cons h21 (.cons h25 (.cons h29 .nil)))) .nil)) (evalF_sound hmix hC hF ((e137 fuel y7 y11 y15 y22 y26 y30).trans z12))
def C81 (fuel : Nat) : Oracle := (C80 fuel).add 58 (fun _ => true) (O137 fuel)
end Go.Eng.R13
