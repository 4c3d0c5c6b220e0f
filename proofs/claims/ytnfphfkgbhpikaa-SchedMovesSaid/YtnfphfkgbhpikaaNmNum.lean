/-
 need.numbers: the map from the identifiers of blocks to their numbers.
-/
import Derived.Test.YtnfphfkgbhpikaaEngZ8
import Derived.Test.YtnfphfkgbhpikaaProg
set_option linter.all false
namespace Go.Eng.R13
open Go Go.RowKit Go.Eng Go.Proofs
theorem num_infoI:(Try.prog.info? 3).map (fun i=>(i.zero,i.size,i.bytes))=some (some (.int .i64 0),1,8):=by kernel_rfl
theorem num_infoS:(Try.prog.info? 73).map (fun i=>(i.zero,i.size,i.bytes))=some (some (.slice none 0 0),1,24):=by kernel_rfl
set_option maxRecDepth 100000 in
theorem numbers_none (a:Option Addr) (cap:Nat) (w:World) :
  Calls Try.prog 72 #[.slice a 0 cap] w fun e w'=>e=.returned (.map (some w.heap.size))∧∀ f,NI 3 w w.heap.size 0 f w':=by
 have hmm:=@run_makeMap Try.prog
 go_enter Try.func72,Try.ntmps72
 go_wp2
 refine wp_loop_rounds 1 ?_
 rw [rounds_succ]
 go_wp2
 go_ret
 exact ⟨rfl,fun f=>NI.made⟩
set_option maxRecDepth 100000 in
theorem numbers_any (b off n cap:Nat) (f:Nat→Nat→CV) (w:World) (hn:n≤1073741824) (hb:b<w.heap.size) (hc:∀ j,j<n→∃ s,f j 0=.s s∧w.cell? ⟨b,off+j,none⟩=some (.string s)) :
  Calls Try.prog 72 #[.slice (some ⟨b,off,none⟩) n cap] w fun e w'=>e=.returned (.map (some w.heap.size))∧NI 3 w w.heap.size n f w':=by
 have hmm:=@run_makeMap Try.prog
 obtain ⟨i0,hi,hz0,hz1,hz2⟩:=info_parts num_infoI
 obtain ⟨iS,hiS,hzS0,hzS1,hzS2⟩:=info_parts num_infoS
 go_enter Try.func72,Try.ntmps72
 go_wp2
 go_loopw [9] (fun i wr=>∃ k:Nat,k≤n∧i=.int .i64 k∧NI 3 w w.heap.size k f wr)
  (fun i _=>n-(intOf i).toNat)
 case atStart=>exact ⟨0,Nat.zero_le _,rfl,NI.made⟩
 case round =>
  obtain ⟨k,hk,rfl,hni⟩:=hrel
  have hex:∃ y,k<n→f k 0=.s y∧wr.cell? ⟨b,off+k,none⟩=some (.string y):=by
   by_cases hlt:k<n
   ·obtain ⟨s,h1,h2⟩:=hc k hlt
    exact ⟨s,fun _=>⟨h1,(World.cell?_of_block (hni.bel.block b hb)).trans h2⟩⟩
   ·exact ⟨ByteArray.empty,fun h=>absurd h hlt⟩
  obtain ⟨y,hy⟩:=hex
  by_cases hlt:k<n
  ·obtain ⟨hy1,hcx⟩:=hy hlt
   obtain ⟨v,hlook,hrest⟩:=hni.step (P:=Try.prog) (ty:=73) Try.underlying115 Try.underlying9 hiS hzS0 Try.underlying73 hi hz0 hz1 hz2 rfl (by omega) hy1
   obtain ⟨v',w1,happ,w2,hupd,hni2⟩:=hrest 3
   go_wp2_with (first
    | (at_lookup;refine wpList_lookup_at rfl _ _ _ rfl _ _ v rfl rfl hlook ?_)
    | (at_builtin;refine wpList_append_at rfl _ _ _ rfl _ _ v' rfl rfl happ ?_)
    | (at_mapUpdate;refine wpList_update_at rfl _ _ _ _ rfl _ _ _ rfl rfl rfl hupd ?_)
    | go_in)
   ·go_roundw
    case rel=>exact ⟨k+1,by omega,by go_num,hni2⟩
    case measure=>simp [intOf];omega
  ·go_wp2
   have:k=n:=by omega
   subst this
   go_ret
   exact ⟨rfl,hni⟩
theorem numbers_law (fl:Bool) (n:Nat) (f:Nat→Nat→CV) (hn:n≤1073741824):Den Try.prog 72 [.v (.ro fl strK n f)] [.v (.mp n f)] :=
 numbers_den (callOk_num Try.func72 (by kernel_rfl) rfl) numbers_none numbers_any fl n f hn
end Go.Eng.R13
