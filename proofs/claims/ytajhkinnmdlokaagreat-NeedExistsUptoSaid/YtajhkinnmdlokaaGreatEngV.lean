/-
 Functions that return a slice of their own making;slices.Clone.
-/
import Derived.Test.YtajhkinnmdlokaaGreatEngU
import Derived.Lib.SliceRun
set_option linter.all false
namespace Go.Eng
open Go Go.RowKit
variable {df : DF}
def FreshPost (w:World) (r:Kd) (n:Nat) (g:Nat→Nat→CV) (v:Value) (w' : World):Prop :=
 ∃ cap,n≤cap∧cap≤maxLen ∧
   ((n=0∧∃ a,v=.slice a 0 0)∨∃ gb cur e,w.heap.size≤gb∧v=.slice (some ⟨gb,0,none⟩) n cap∧w'.heap[gb]?=some (.cells cur e (0,0))∧cur.size=cap*r.len ∧
    ∀ i j,i<n→j<r.len→(r.nth j).okP (g i j)∧∃ u,cur[i*r.len+j]?=some u∧CR (fun _=>False) w' (g i j) u)
theorem FreshDen.of {P:Program} {f:FuncId} {r:Kd} {args:List A} {n:Nat} {g:Nat→Nat→CV} (hok:callOk P f=true)
  (h:∀ (w:World) (okA:Nat→Prop) (vs:Array Value),(∀ g,okA g→g<w.heap.size)→GlobR okA w→ARs okA w args vs →
   Calls P f vs w fun e w'=>∃ v,e=.returned v∧Below w.heap.size w w'∧FreshPost w r n g v w'):FreshDen P f r args n g :=
 ⟨hok,fun w okA vs h1 h2 h3=>(h w okA vs h1 h2 h3).mono fun e w' hh=>by
  obtain ⟨v,h4,h5,cap,h6,h7,h8⟩:=hh
  exact ⟨v,cap,h4,h5,h6,h7,h8⟩⟩
theorem FreshPost.congr {w w' : World} {r:Kd} {n:Nat} {g g' : Nat→Nat→CV} {v:Value} (h:FreshPost w r n g v w') (e:∀ i j,i<n→j<r.len→g i j=g' i j):FreshPost w r n g' v w':=by
 obtain ⟨cap,h1,h2,h3⟩:=h
 refine ⟨cap,h1,h2,h3.imp id fun h4=>?_⟩
 obtain ⟨gb,cur,ee,a1,a2,a3,a4,a5⟩:=h4
 refine ⟨gb,cur,ee,a1,a2,a3,a4,fun i j hi hj=>?_⟩
 rw [← e i j hi hj]
 exact a5 i j hi hj
section
variable {P : Program} {C : Oracle} {okA : Nat → Prop} {μ : Nat → Option Nat} {ok : Nat → Prop} {st : St} {a : Act} {w w' : World}
end
end Go.Eng
