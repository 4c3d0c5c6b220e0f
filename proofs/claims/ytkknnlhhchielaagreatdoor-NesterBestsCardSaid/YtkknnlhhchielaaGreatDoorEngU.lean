/-
 Words for the plain forms: counters,bounds,64-bit numbers;what came in.
-/
import Derived.Test.YtkknnlhhchielaaGreatDoorEngS
import Derived.IntWalk
set_option linter.all false
namespace Go.Eng
open Go Go.RowKit
theorem aC {n:Int} (h1 : -9223372036854775808<=n) (h2:n<=9223372036854775807):w64 n=n:=IntWalk.i64_in n ⟨h1,h2⟩
theorem KW (n:Int):w64 (w64 n)=w64 n:=by
 unfold w64
 rw [IntKind.wrap_i64,IntKind.wrap_i64];omega
theorem ay {i:Nat} (h:i<9223372036854775807):w64 (Int.ofNat i+1)=Int.ofNat (i+1):=by
 rw [aC]<;>simp<;>omega
theorem ax (i n:Nat):inb (Int.ofNat i) n=decide (i<n):=by
 unfold inb
 have:(0:Int)<=Int.ofNat i:=rgZ i
 simp
theorem dx {i:Int} {n:Nat} (h1:0<=i) (h2:i<n):inb i n=true:=by
 unfold inb;simp [h1,h2]
theorem CO {i:Int} {n:Nat} (h1:0<=i) (h2:i<=n):oH i n=true:=by
 unfold oH;simp [h1,h2]
theorem aE (i n:Nat):decide (Int.ofNat i<Int.ofNat n)=decide (i<n):=by simp
theorem aq (i:Nat):Int.toNat (Int.ofNat i)=i:=rfl
theorem ae {α:Type} {c:Bool} (h:c=true) (x y:α):(bif c then x else y)=x:=by rw [h];rfl
theorem ai {α:Type} {c:Bool} (h:c=false) (x y:α):(bif c then x else y)=y:=by rw [h];rfl
theorem Oj {n:Int} (h:(Lit.int .i64 n).wf=true) : -9223372036854775808<=n/\n<=9223372036854775807:=by
 have e1:IntKind.i64.min = -9223372036854775808:=rfl
 have e2:IntKind.i64.max=9223372036854775807:=rfl
 simpa [Lit.wf,e1,e2] using h
def I64 (n:Int):Prop:=-9223372036854775808<=n/\n<=9223372036854775807
def DD:Kd:=.pr (.int .i64) (.pr (.int .i64) .nil)
def Jm (n:Nat) (f:Nat->Nat->CV):Prop:=∀ i j,i<n->j<2->∃ z,f i j=.i .i64 z/\-9223372036854775808<=z/\z<=9223372036854775807
theorem EH {n:Nat} {f:Nat->Nat->CV} (h:∀ i j,i<n->j<DD.len->(DD.nth j).okP (f i j)/\(f i j).wf):Jm n f:=by
 intro i j hi hj
 obtain ⟨h1,h2⟩:=h i j hi (by simpa [DD,Kd.len] using hj)
 have:DD.nth j=.int .i64:=by
  match j,hj with
  | 0,_=>rfl
  | 1,_=>rfl
 rw [this] at h1
 obtain ⟨z,hz⟩:=h1
 rw [hz] at h2
 exact ⟨z,hz,Oj h2⟩
def XM:Kd:=.pr (.sl DD) .nil
structure Rr (n1:Nat) (f1:Nat->Nat->CV) (n2:Nat) (f2:Nat->Nat->CV):Prop where
 l1:n1<=maxLen
 l2:n2<=maxLen
 outer:Jm n1 f1
 holes:∀ i,i<n2->∃ fl n f,f2 i 0=.ro fl DD n f/\n<=maxLen/\Jm n f
theorem Of {H:Type} {enc:TypeId × Value->H} {P:Program} {W:World} {sp:Nat->Bool} {held:Bool} {t:TypeId} {ok:Nat->Prop} (ht:P.underlying t=some (.int .i64)) {n:Int} {dd:DataW H} {ps:List MemPlace}
  (h:DataW.Trod enc P W 0 sp held t (.int .i64 n) dd ps):I64 n/\AR ok W (.v (.i .i64 n)) (.int .i64 n):=by
 obtain ⟨fuel,hf⟩:=h
 obtain ⟨m,h1,_,hw⟩:=DataW.trod_int ht hf
 have:Value.int .i64 n=.int .i64 m:=by simpa [Value.cells] using h1
 cases this
 exact ⟨Oj hw,rfl⟩
def OV (r:Kd) (n:Nat) (f:Nat->Nat->CV):Prop:=n<=maxLen/\∀ i j,i<n->j<r.len->(r.nth j).okP (f i j)/\(f i j).wf
theorem OV.pts {n:Nat} {f:Nat->Nat->CV} (h:OV DD n f):Jm n f:=EH h.2
theorem OV.shape {n1 n2:Nat} {f1 f2:Nat->Nat->CV} (h1:OV DD n1 f1) (h2:OV XM n2 f2):Rr n1 f1 n2 f2:=by
 refine ⟨h1.1,h2.1,h1.pts,fun i hi=>?_⟩
 obtain ⟨h5,h6⟩:=h2.2 i 0 hi (by decide)
 obtain ⟨fl,n,f,e⟩:=(show ∃ fl n f,f2 i 0=.ro fl DD n f from h5)
 rw [e] at h6
 exact ⟨fl,n,f,e,h6.1,EH h6.2⟩
end Go.Eng
