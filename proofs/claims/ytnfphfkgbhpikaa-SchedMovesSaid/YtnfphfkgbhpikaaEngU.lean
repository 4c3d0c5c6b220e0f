/-
 Words for the plain forms: counters,bounds,64-bit numbers;what came in.
-/
import Derived.Test.YtnfphfkgbhpikaaEngS
import Derived.IntWalk
set_option linter.all false
namespace Go.Eng
open Go Go.RowKit
theorem w64_of {n:Int} (h1 : -9223372036854775808≤n) (h2:n≤9223372036854775807):w64 n=n:=IntWalk.i64_in n ⟨h1,h2⟩
theorem inb_true {i:Int} {n:Nat} (h1:0≤i) (h2:i<n):inb i n=true:=by
 unfold inb;simp [h1,h2]
theorem inbe_true {i:Int} {n:Nat} (h1:0≤i) (h2:i≤n):inbe i n=true:=by
 unfold inbe;simp [h1,h2]
theorem bif_t {α:Type} {c:Bool} (h:c=true) (x y:α):(bif c then x else y)=x:=by rw [h];rfl
theorem i64_wf {n:Int} (h:(Lit.int .i64 n).wf=true) : -9223372036854775808≤n∧n≤9223372036854775807:=by
 have e1:IntKind.i64.min = -9223372036854775808:=rfl
 have e2:IntKind.i64.max=9223372036854775807:=rfl
 simpa [Lit.wf,e1,e2] using h
def I64 (n:Int):Prop:=-9223372036854775808≤n∧n≤9223372036854775807
def rowP:Kd:=.pr (.int .i64) (.pr (.int .i64) .nil)
theorem int_open {H:Type} {enc:TypeId × Value→H} {P:Program} {W:World} {sp:Nat→Bool} {held:Bool} {t:TypeId} {ok:Nat→Prop} (ht:P.underlying t=some (.int .i64)) {n:Int} {dd:DataW H} {ps:List MemPlace}
  (h:DataW.Trod enc P W 0 sp held t (.int .i64 n) dd ps):I64 n∧AR ok W (.v (.i .i64 n)) (.int .i64 n):=by
 obtain ⟨fuel,hf⟩:=h
 obtain ⟨m,h1,_,hw⟩:=DataW.trod_int ht hf
 have:Value.int .i64 n=.int .i64 m:=by simpa [Value.cells] using h1
 cases this
 exact ⟨i64_wf hw,rfl⟩
def SlIn (r:Kd) (n:Nat) (f:Nat→Nat→CV):Prop:=n≤maxLen∧∀ i j,i<n→j<r.len→(r.nth j).okP (f i j)∧(f i j).wf
end Go.Eng
