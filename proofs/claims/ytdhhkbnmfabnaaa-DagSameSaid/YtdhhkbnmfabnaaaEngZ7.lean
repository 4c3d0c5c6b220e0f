/-
 Functions with a loop over slices.Backward: how the printed texts speak of them; slices.Backward itself.
-/
import Derived.Test.YtdhhkbnmfabnaaaEngZ6
set_option linter.all false
namespace Go.Eng
open Go Go.RowKit
structure BwOk (P : Program) (fb gf : Nat) : Prop where
 it : ∃ tS tE tI tB, FFits P gf (bwF tS tE tI tB)
 den : ∀ kk fl n g, Den P fb [.v (sliV fl kk n g)] [.v (closV gf fl kk n g)]
def DOB (fb gf : Nat) (o : Ora) (C : Oracle) (f : Nat) (F : AF) : Prop := ∀ {P : Program}, P.follows .mixedOrders = true → Sound P C → BwOk P fb gf → FFitsB P fb f F → ∀ args res : List A, o.o args some = some res → Den P f args res
section
variable {α τ σ : Type} {R : RX α} {F : α → Option τ} {res : τ → List A} {C : Oracle} {f fb gf : Nat} {G : AF} (u : Nat)
theorem dWB {H : α → Option σ} {raw : σ → List A} {nrm : σ → τ} (e : ∀ a, evalF C u G (R.can a) = ob (H a) fun t => some (raw t)) (hF : ∀ a, F a = ob (H a) fun t => some (nrm t)) (w : ∀ t, WkL (raw t) (res (nrm t))) : DOB fb gf (mkO R F res) C f G := by
 intro P hmix hC hb hf args rs h
 obtain ⟨tS, tE, tI, tB, hI⟩ := hb.it
 obtain ⟨a, ha, hk⟩ := R.inv args _ rs h
 rw [hF] at hk
 obtain ⟨v, hv, hk⟩ := ob_inv hk
 obtain ⟨t, ht, hv⟩ := ob_inv hv
 cases hv
 cases hk
 exact Den.results (w t) (Den.weaken ha (evalFB_sound hmix hC hI hb.den hf ((e a).trans (by rw [ht]; rfl))))
end
def bwdF (t tf gf : Nat) : AF := ⟨4, [.tmp 2], .seq (.region 0 [o1 1 (.box 0 t (tm 0)), o1 2 (.assign (.const .nilFunc))] 1 none) [] (.seq (.region 1 [o1 3 (.mkfn gf [tm 1]), o1 2 (.assign (tm 3))] 0 none) [] (.ret []))⟩
theorem bwd_eval (t tf gf fuel : Nat) (kk : IntKind) (fl : Bool) (n : Nat) (g : Nat → Nat → CV) :
  evalF noO fuel (bwdF t tf gf) [.v (sliV fl kk n g)] = some [.v (.fn gf 1 (listF [.rp (rowOf [sliV fl kk n g]) (listF [sliV fl kk n g])]))] := rfl
theorem wk_clos (gf : Nat) (kk : IntKind) (fl : Bool) (n : Nat) (g : Nat → Nat → CV) : Wk (.fn gf 1 (listF [.rp (rowOf [sliV fl kk n g]) (listF [sliV fl kk n g])])) (closV gf fl kk n g) := by
 rintro ok w v ⟨cs, rfl, h1, h2⟩
 refine ⟨cs, rfl, h1, fun j hj => ?_⟩
 obtain ⟨u, hu, hr⟩ := h2 j hj
 have e : j = 0 := by omega
 subst e
 refine ⟨u, hu, ?_⟩
 obtain ⟨g', off, h3, h4, h5⟩ := hr
 refine ⟨g', off, h3, h4, fun j hj => ?_⟩
 obtain ⟨h6, u', h7, h8⟩ := h5 j hj
 have e : j = 0 := by
  have : j < 1 := hj
  omega
 subst e
 exact ⟨h6, u', h7, h8⟩
theorem bwd_den {P : Program} (hmix : P.follows .mixedOrders = true) {fb t tf gf : Nat} (hF : FFits P fb (bwdF t tf gf)) (kk : IntKind) (fl : Bool) (n : Nat) (g : Nat → Nat → CV) : Den P fb [.v (sliV fl kk n g)] [.v (closV gf fl kk n g)] :=
 Den.results (.cons (WkA.v (wk_clos gf kk fl n g)) .nil) (evalF_sound (fuel := 0) hmix noO_sound hF (bwd_eval t tf gf 0 kk fl n g))
end Go.Eng
