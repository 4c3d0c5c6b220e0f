/-
 Several texts in one.
-/
import Derived.Test.YtngjgbhdhaopmaaGeo6
import Derived.Test.YtngjgbhdhaopmaaPlShift
import Derived.Test.YtngjgbhdhaopmaaPlSums
import Derived.Test.YtngjgbhdhaopmaaPySort
/-
 The examples of the chapter;Check,Where.
-/
set_option linter.all false
set_option maxRecDepth 100000
namespace Go.Eng.R13
open Go Go.RowKit Go.Eng Geo
theorem awake_law : F207 100 = some true:=by kernel_rfl
end Go.Eng.R13
/-
 One side of the hull: what chain returns.
-/
set_option linter.all false
namespace Go.Eng.R13
open Go Go.RowKit Go.Eng Geo
structure Sgn (sg : Pt → Pt) : Prop where
 cr : ∀ a b c,cross (sg a) (sg b) (sg c) = cross a b c
 inj : ∀ a b,sg a = sg b → a = b
theorem pop204 {ρ : Type} {sg : Pt → Pt} (hs : Sgn sg) {P : Nat → Pt} {N t K : Nat} (hP : ∀ i j,i < j → j < N → fw (P i) (P j)) (ht : t < N) {g : FF} (C : Chn P t K (fun i => sg (pt g i))) (hK : K ≤ 60) (hnr : ∀ i,i < K → nr (CV.int (g i 0)) (CV.int (g i 1)))
  (a : Nat) (b : FF) (c d : Int) (e : Nat) {qx qy : Int} (hq : nr qx qy) (hqP : P t = sg (qx,qy)) (k0 : Nat → Option ρ) : ∀ (m k : Nat),k < m → Pop P t K (fun i => sg (pt g i)) k →
  ∃ k',L204v2 100 a b c d e g qx qy m k k0 = k0 k' ∧ Pop P t K (fun i => sg (pt g i)) k' ∧ (1 < k' → 0 < cross (sg (pt g (k' - 2))) (sg (pt g (k' - 1))) (P t)):=by
 intro m
 induction m with
 | zero => intro k h;omega
 | succ m ih =>
  intro k hm O
  have hk := O.size
  unfold L204v2
  by_cases h1 : 1 < k
  ·have e1 : w64 (Int.ofNat k - 2) = Int.ofNat (k - 2):=by rw [w64_of] <;> simp <;> omega
   have e2 : w64 (Int.ofNat k - 1) = Int.ofNat (k - 1):=by rw [w64_of] <;> simp <;> omega
   rw [bif_t (by simp;omega),e1,e2,inb_nat,inb_nat,bif_t (by simp;omega),bif_t (by simp;omega),toNat_nat,toNat_nat,Nat.zero_add,Nat.zero_add]
   rw [cross79 (hnr _ (by omega)) (hnr _ (by omega)) hq,ob_some]
   have ec : cross (CV.int (g (k - 2) 0),CV.int (g (k - 2) 1)) (CV.int (g (k - 1) 0),CV.int (g (k - 1) 1)) (qx,qy) = cross (sg (pt g (k - 2))) (sg (pt g (k - 1))) (P t):=by
    rw [hqP,hs.cr]
   rw [ec]
   by_cases h2 : cross (sg (pt g (k - 2))) (sg (pt g (k - 1))) (P t) ≤ 0
   ·rw [bif_t (decide_eq_true h2),bif_t (inbe_true (by simp) (by simp)),Nat.sub_zero]
    exact ih (k - 1) (by omega) (O.step hP ht C h1 h2)
   ·rw [bif_f (decide_eq_false h2)]
    exact ⟨k,rfl,O,fun _ => by omega⟩
  ·rw [bif_f (by simp;omega)]
   exact ⟨k,rfl,O,fun h => absurd h h1⟩
theorem pop_none {ρ : Type} (m a : Nat) (b : FF) (c d : Int) (e : Nat) (g : FF) (qx qy : Int) (k0 : Nat → Option ρ) : L204v2 100 a b c d e g qx qy (m + 1) 0 k0 = k0 0:=by
 unfold L204v2
 rw [bif_f (by rfl)]
theorem chain_loop {ρ : Type} {sg : Pt → Pt} (hs : Sgn sg) {N : Nat} {F : FF} (hN : N ≤ 60) (hnr : ∀ i,i < N → nr (CV.int (F i 0)) (CV.int (F i 1))) (hP : ∀ i j,i < j → j < N → fw (sg (pt F i)) (sg (pt F j))) (k0 : Nat → FF → Option ρ) :
  ∀ (m t k : Nat) (g : FF),N < m + t → t ≤ N → (t = 0 ∧ k = 0 ∨ 0 < t ∧ Chn (fun i => sg (pt F i)) t k (fun i => sg (pt g i))) →
   ∃ k' g',L204v3 100 N F (Int.ofNat N) m k (Int.ofNat t) g k0 = k0 k' g' ∧ (N = 0 ∧ k' = 0 ∨ 0 < N ∧ Chn (fun i => sg (pt F i)) N k' (fun i => sg (pt g' i))):=by
 intro m
 induction m with
 | zero => intro t k g h1 h2;omega
 | succ m ih =>
  intro t k g h1 h2 hC
  unfold L204v3
  rw [lt_nat,inb_nat,toNat_nat]
  by_cases h : t < N
  ·have new : ∀ (k' : Nat) (g' : FF),g' = joinF k' g (rowsF 2 [(.i .i64 (CV.int (F t 0))),(.i .i64 (CV.int (F t 1)))]) → (∀ i,i < k' → pt g' i = pt g i) ∧ pt g' k' = pt F t:=by
    intro k' g' hg
    subst hg
    refine ⟨fun i hi => ?_,?_⟩
    ·show (CV.int _,CV.int _) = (CV.int _,CV.int _)
     rw [joinF_old _ _ _ _ _ hi,joinF_old _ _ _ _ _ hi]
    ·show (CV.int _,CV.int _) = (CV.int _,CV.int _)
     rw [joinF_new _ _ _ _ _ (Nat.le_refl _),joinF_new _ _ _ _ _ (Nat.le_refl _),Nat.sub_self]
     rfl
   rw [bif_t (decide_eq_true h),bif_t (decide_eq_true h),w64_succ (by omega)]
   rcases hC with ⟨rfl,rfl⟩ | ⟨h0,C⟩
   ·rw [pop_none 99 N F (Int.ofNat N) (Int.ofNat 0) 0 g (CV.int (F 0 0)) (CV.int (F 0 1))]
    rw [bif_t (by rfl)]
    obtain ⟨n1,n2⟩ := new 0 _ rfl
    refine ih (0 + 1) (0 + 1) _ (by omega) (by omega) (.inr ⟨by omega,?_⟩)
    have := chn_one (P:=fun i => sg (pt F i))
    refine ⟨by omega,by omega,congrArg sg n2,congrArg sg n2,fun i hi => by omega,fun i hi => ⟨0,by omega,?_⟩,fun i hi => by omega,fun i hi => by omega⟩
    have : i = 0:=by omega
    subst this
    exact congrArg sg n2
   ·have hk := C.size
    have hpos := C.pos
    have hq := hnr t h
    have hg : ∀ i,i < k → nr (CV.int (g i 0)) (CV.int (g i 1)):=by
     intro i hi
     obtain ⟨j,hj,e⟩ := C.mem i hi
     have e2 := hs.inj _ _ e
     rw [show CV.int (g i 0) = CV.int (F j 0) from congrArg Prod.fst e2,show CV.int (g i 1) = CV.int (F j 1) from congrArg Prod.snd e2]
     exact hnr j (by omega)
    obtain ⟨k',p1,p2,p3⟩ := pop204 (P:=fun i => sg (pt F i)) hs hP h C (by omega) hg N F (Int.ofNat N) (Int.ofNat t) k hq rfl
     (fun x37 => (bif (Nat.ble (x37 + 1) 1073741824) then (L204v3 100 N F (Int.ofNat N) m (x37 + 1) (Int.ofNat (t + 1)) (joinF x37 g (rowsF 2 [(.i .i64 (CV.int (F t 0))),(.i .i64 (CV.int (F t 1)))])) k0) else none)) 100 k (by omega) (C.pop hP h)
    have hk' := p2.size
    rw [p1,bif_t (ble_ok (by omega))]
    obtain ⟨n1,n2⟩ := new k' _ rfl
    exact ih (t + 1) (k' + 1) _ (by omega) (by omega) (.inr ⟨by omega,p2.push hP h C p3 (fun i hi => congrArg sg (n1 i hi)) (congrArg sg n2)⟩)
  ·have : t = N:=by omega
   subst this
   rw [bif_f (by simp)]
   exact ⟨k,g,rfl,hC⟩
theorem chain_law {sg : Pt → Pt} (hs : Sgn sg) {N : Nat} {F : FF} (h0 : 0 < N) (hN : N ≤ 60) (hnr : ∀ i,i < N → nr (CV.int (F i 0)) (CV.int (F i 1))) (hP : ∀ i j,i < j → j < N → fw (sg (pt F i)) (sg (pt F j))) :
  ∃ k g,F204 100 N F = some (k,g) ∧ Chn (fun i => sg (pt F i)) N k (fun i => sg (pt g i)):=by
 unfold F204 D204
 obtain ⟨k,g,h1,h2⟩ := chain_loop hs hN hnr hP (fun x40 x41 => some (x40,x41)) 100 0 0 (fun _ _ => .any) (by omega) (by omega) (.inl ⟨rfl,rfl⟩)
 rcases h2 with ⟨h3,_⟩ | ⟨_,h4⟩
 ·omega
 ·exact ⟨k,g,h1,h4⟩
theorem sgn_id : Sgn (fun p => p) := ⟨fun _ _ _ => rfl,fun _ _ h => h⟩
theorem sgn_ng : Sgn ng := ⟨cross_ng,fun _ _ h => ng_inj h⟩
end Go.Eng.R13
/-
 Hull: what the program returns.
-/
set_option linter.all false
set_option maxRecDepth 100000
namespace Go.Eng.R13
open Go Go.RowKit Go.Eng Geo
theorem toI_int (c : CV) : toI c = CV.int c:=by cases c <;> rfl
theorem prP_pt (g : FF) (i : Nat) : prP g i = pt g i:=by
 show (toI _,toI _) = (CV.int _,CV.int _)
 rw [toI_int,toI_int]
theorem pairs_pt {l : List (Int × Int)} {i : Nat} (h : i < l.length) : pt (pairsF l) i = l[i]:=by
 have hq : l[i]? = some l[i] := List.getElem?_eq_getElem h
 show (CV.int _,CV.int _) = _
 rw [(pairsF_at hq).1,(pairsF_at hq).2];rfl
theorem prs_pairs (l : List (Int × Int)) : prsP l.length (pairsF l) = l:=by
 apply List.ext_getElem
 ·rw [prsP_len]
 ·intro i h1 h2
  have := prsP_at (g := pairsF l) (show i < l.length by rwa [prsP_len] at h1)
  rw [List.getElem?_eq_getElem h1] at this
  rw [Option.some.inj this,prP_pt,pairs_pt]
theorem leP_fw {a b : Int × Int} (h : leP a b = true) (hne : b ≠ a) : fw a b:=by
 rw [leP_iff] at h
 unfold fw
 have : ¬ (b.1 = a.1 ∧ b.2 = a.2):=fun hh => hne (Prod.ext hh.1 hh.2)
 omega
theorem compG_sorted : ∀ (l : List (Int × Int)) (a : Int × Int),(a :: l).Pairwise (fun x y => leP x y = true) → (a :: compG a l).Pairwise fw ∧ ∀ x,x ∈ a :: compG a l ↔ x ∈ a :: l
 | [],a,_ => ⟨List.pairwise_singleton _ _,fun x => Iff.rfl⟩
 | b :: l,a,h => by
  unfold compG
  have h1 := List.pairwise_cons.1 h
  cases hq : (b.1 == a.1 && b.2 == a.2) with
  | true =>
   have e : b = a:=by simp at hq;exact Prod.ext hq.1 hq.2
   subst e
   obtain ⟨k1,k2⟩ := compG_sorted l b h1.2
   refine ⟨k1,fun x => (k2 x).trans ?_⟩
   simp
  | false =>
   have e : b ≠ a:=fun hh => by subst hh;simp at hq
   obtain ⟨k1,k2⟩ := compG_sorted l b h1.2
   have hab : fw a b := leP_fw (h1.1 b (by simp)) e
   refine ⟨List.pairwise_cons.2 ⟨fun x hx => ?_,k1⟩,fun x => ?_⟩
   ·rcases List.mem_cons.1 hx with rfl | hx
    ·exact hab
    ·exact hab.trans ((List.pairwise_cons.1 k1).1 x hx)
   ·show x ∈ a :: b :: compG b l ↔ _
    rw [List.mem_cons,k2 x,List.mem_cons (a := x) (b := a)]
theorem compP_sorted {l : List (Int × Int)} (h : l.Pairwise (fun x y => leP x y = true)) : (compP l).Pairwise fw ∧ ∀ x,x ∈ compP l ↔ x ∈ l:=by
 cases l with
 | nil => exact ⟨List.Pairwise.nil,fun x => Iff.rfl⟩
 | cons a l => exact compG_sorted l a h
def dsP (n : Nat) (f : FF) : List (Int × Int) := compP (sortP (prsP n f))
theorem sort_len (n : Nat) (f : FF) : (sortP (prsP n f)).length = n:=by rw [(sortP_perm _).length_eq,prsP_len]
theorem cut_sort (n : Nat) (f : FF) : cutN n (sortF n f) = (dsP n f).length ∧ cutF n (sortF n f) = pairsF (dsP n f):=by
 have : prsP n (sortF n f) = sortP (prsP n f):=by
  have := prs_pairs (sortP (prsP n f))
  rw [sort_len] at this;exact this
 unfold cutN cutF dsP
 rw [this]
 exact ⟨rfl,rfl⟩
theorem ds_mem {n : Nat} {f : FF} (x : Int × Int) : x ∈ dsP n f ↔ ∃ r,r < n ∧ pt f r = x:=by
 unfold dsP
 rw [(compP_sorted (sortP_sorted _)).2 x,(sortP_perm _).mem_iff]
 unfold prsP
 simp only [List.mem_map,List.mem_range,prP_pt]
theorem ds_fw {n : Nat} {f : FF} {i j : Nat} (hij : i < j) (hj : j < (dsP n f).length) : fw (pt (pairsF (dsP n f)) i) (pt (pairsF (dsP n f)) j):=by
 rw [pairs_pt hj,pairs_pt (Nat.lt_trans hij hj)]
 exact (List.pairwise_iff_getElem.1 (compP_sorted (sortP_sorted (prsP n f))).1) i j _ _ hij
theorem ds_cov {n : Nat} {f : FF} {r : Nat} (hr : r < n) : ∃ j,j < (dsP n f).length ∧ pt f r = pt (pairsF (dsP n f)) j:=by
 obtain ⟨j,hj,e⟩ := List.getElem_of_mem ((ds_mem (pt f r)).2 ⟨r,hr,rfl⟩)
 exact ⟨j,hj,by rw [pairs_pt hj,e]⟩
theorem ds_bck {n : Nat} {f : FF} {j : Nat} (hj : j < (dsP n f).length) : ∃ r,r < n ∧ pt (pairsF (dsP n f)) j = pt f r:=by
 obtain ⟨r,hr,e⟩:=(ds_mem _).1 (List.getElem_mem hj)
 exact ⟨r,hr,by rw [pairs_pt hj,e]⟩
theorem ds_len_le (n : Nat) (f : FF) : (dsP n f).length ≤ n:=by
 have := compP_len (sortP (prsP n f))
 rwa [sort_len] at this
theorem sortable_nr {n : Nat} {f : FF} (hn : n ≤ 60) (hA : AllNr n f) : sortable n f = true:=by
 unfold sortable
 rw [Bool.and_eq_true]
 refine ⟨by rw [Nat.ble_eq];omega,List.all_eq_true.2 fun x hx => ?_⟩
 unfold prsP at hx
 simp only [List.mem_map,List.mem_range] at hx
 obtain ⟨r,hr,e⟩ := hx
 subst e
 have := hA r hr
 unfold nr at this
 rw [prP_pt]
 have hl : sortLim = 2305843009213693952 := rfl
 simp only [inB,Bool.and_eq_true,decide_eq_true_eq]
 rw [hl]
 show ((_ < CV.int (f r 0) ∧ CV.int (f r 0) < _) ∧ _ < CV.int (f r 1)) ∧ CV.int (f r 1) < _
 omega
theorem hull205 (n : Nat) (f : FF) (h0 : 0 < n) (hn : n ≤ 60) (hA : AllNr n f) : ∃ m g,F205 100 n f = some (m,g) ∧ Hul n (pt f) m (pt g):=by
 have hN := ds_len_le n f
 obtain ⟨c1,c2⟩ := cut_sort n f
 obtain ⟨b,hb1,hb2⟩ := far50 n f hn
 have hb := hb2.2 hA
 subst hb
 have hsT : F203 100 n f = some (sortF n f):=by
  unfold F203 sortT
  rw [sortable_nr hn hA];rfl
 have hbn : Nat.beq n n = true:=by simp
 have hb0 : Nat.beq n 0 = false:=by
  cases n with
  | zero => omega
  | succ n => rfl
 unfold F205 FT205
 rw [hb1,ob_some,bif_f (by rfl),bif_t (ble_ok (by omega)),hsT,ob_some,bif_t hbn,bif_f hb0,c1,c2]
 have hNb : Nat.ble (dsP n f).length n = true:=by rw [Nat.ble_eq];exact hN
 rw [hbn,hNb,bif_t (by rfl)]
 have hnr : ∀ j,j < (dsP n f).length → nr (CV.int (pairsF (dsP n f) j 0)) (CV.int (pairsF (dsP n f) j 1)):=by
  intro j hj
  obtain ⟨r,hr,e⟩ := ds_bck hj
  rw [show CV.int (pairsF (dsP n f) j 0) = CV.int (f r 0) from congrArg Prod.fst e,show CV.int (pairsF (dsP n f) j 1) = CV.int (f r 1) from congrArg Prod.snd e]
  exact hA r hr
 have hP : ∀ i j,i < j → j < (dsP n f).length → fw (pt (pairsF (dsP n f)) i) (pt (pairsF (dsP n f)) j):=fun i j hij hj => ds_fw hij hj
 have cov : ∀ r,r < n → ∃ j,j < (dsP n f).length ∧ pt f r = pt (pairsF (dsP n f)) j:=fun r hr => ds_cov hr
 have bck : ∀ j,j < (dsP n f).length → ∃ r,r < n ∧ pt (pairsF (dsP n f)) j = pt f r:=fun j hj => ds_bck hj
 generalize hD : pairsF (dsP n f) = D at *
 generalize hL : (dsP n f).length = N at *
 by_cases h3 : N < 3
 ·rw [bif_t (by simp;omega),ob_some]
  refine ⟨N,D,rfl,?_⟩
  obtain ⟨j,hj,_⟩ := cov 0 h0
  match N,h3,hj with
  | 1,_,_ => exact hul_one h0 (fun r hr => by
    obtain ⟨j,hj,e⟩ := cov r hr
    rw [e];congr 1;omega)
  | 2,_,_ => exact hul_two (hP 0 1 (by omega) (by omega)) cov bck
 ·obtain ⟨k1,g1,p1,C1⟩ := chain_law sgn_id (N := N) (F := D) (by omega) (by omega) hnr hP
  have hrev : ∀ i,i < N → pt (revF N D) i = pt D (N - 1 - i):=fun i hi => rfl
  obtain ⟨k2,g2,p2,C2⟩ := chain_law sgn_ng (N := N) (F := revF N D) (by omega) (by omega) (fun i hi => hnr (N - 1 - i) (by omega)) (fun i j hij hj => by
   rw [hrev i (by omega),hrev j hj]
   exact fw_ng.2 (hP _ _ (by omega) (by omega)))
  have q1 : Nat.beq N N = true:=by simp
  have q2 : Nat.beq N 0 = false:=by
   cases N with
   | zero => omega
   | succ N => rfl
  have t1 := C1.two hP (by omega)
  have t2 := C2.two (N := N) (P:=fun i => ng (pt (revF N D) i)) (fun i j hij hj => by
   show fw (ng (pt (revF N D) i)) (ng (pt (revF N D) j))
   rw [hrev i (by omega),hrev j hj]
   exact fw_ng.2 (hP _ _ (by omega) (by omega))) (by omega)
  have z1 := C1.size
  have z2 := C2.size
  have w1 : w64 (Int.ofNat k1 - 1) = Int.ofNat (k1 - 1):=by rw [w64_of] <;> simp <;> omega
  have w2 : w64 (Int.ofNat k2 - 1) = Int.ofNat (k2 - 1):=by rw [w64_of] <;> simp <;> omega
  rw [bif_f (by simp;omega),p1,ob_some]
  dsimp only
  rw [bif_t (ble_ok (by omega)),bif_t q1,bif_f q2,p2,ob_some]
  dsimp only
  rw [w1,w2,bif_t (ble_ok (by omega)),bif_t (inbe_true (by simp) (by simp <;> omega)),bif_t (inbe_true (by simp) (by simp <;> omega)),toNat_nat,toNat_nat,Nat.sub_zero,Nat.sub_zero,bif_t (ble_ok (by omega)),ob_some]
  refine ⟨_,_,rfl,?_⟩
  refine hul_of (P := pt D) hP (by omega) C1 (s2 := pt g2) ?_ cov bck (fun i hi => ?_) (fun i hi => ?_)
  ·exact C2
  ·show (CV.int (joinF _ _ _ _ _),CV.int (joinF _ _ _ _ _)) = _
   rw [joinF_old _ _ _ _ _ hi,joinF_old _ _ _ _ _ hi]
  ·show (CV.int (joinF _ _ _ _ _),CV.int (joinF _ _ _ _ _)) = _
   rw [joinF_new _ _ _ _ _ (by omega),joinF_new _ _ _ _ _ (by omega),show k1 - 1 + i - (k1 - 1) = i by omega]
end Go.Eng.R13
/-
 Hull: what the reference returns.
-/
set_option linter.all false
set_option maxRecDepth 100000
namespace Go.Eng.R13
open Go Go.RowKit Go.Eng Geo
theorem before212 (a b c d : Int) : ∃ z,F212 100 a b c d = some z ∧ (z = true ↔ fw (a,b) (c,d)):=by
 unfold F212 fw
 by_cases h1 : a < c
 ·rw [bif_f (by simp;omega)]
  exact ⟨true,rfl,fun _ => .inl h1,fun _ => rfl⟩
 ·rw [bif_t (by simp;omega)]
  by_cases h2 : a = c
  ·rw [bif_t (by simp [h2])]
   refine ⟨_,rfl,?_⟩
   rw [decide_eq_true_eq]
   exact ⟨fun h => .inr ⟨h2,h⟩,fun h => h.elim (fun k => absurd k h1) (·.2)⟩
  ·rw [bif_f (by simp [h2])]
   refine ⟨false,rfl,?_⟩
   simp only [Bool.false_eq_true,false_iff]
   rintro (h | ⟨h,_⟩)
   ·exact h1 h
   ·exact h2 h
def spn (a b : Pt) : Int:=(a.1 - b.1) * (a.1 - b.1) + (a.2 - b.2) * (a.2 - b.2)
theorem span213 {a b c d : Int} (h1 : nr a b) (h2 : nr c d) : F213 100 a b c d = some (spn (a,b) (c,d)):=by
 unfold F213 spn
 unfold nr at h1 h2
 have k1 := mul_bd (x := a - c) (y := a - c) (A := 65536) (B := 65536) (by omega) (by omega) (by omega) (by omega)
 have k2 := mul_bd (x := b - d) (y := b - d) (A := 65536) (B := 65536) (by omega) (by omega) (by omega) (by omega)
 rw [w64_of (n := a - c) (by omega) (by omega),w64_of (n := b - d) (by omega) (by omega),w64_of (n:=(a - c) * (a - c)) (by omega) (by omega),w64_of (n:=(b - d) * (b - d)) (by omega) (by omega),w64_of (by omega) (by omega)]
theorem sq_btw {a b q : Int} (h : btw a b q) : (a - q) * (a - q) ≤ (a - b) * (a - b) ∧ (q ≠ b → (a - q) * (a - q) < (a - b) * (a - b)):=by
 unfold btw at h
 have e : (a - b) * (a - b) - (a - q) * (a - q) = (q - b) * (q - b) + 2 * ((a - q) * (q - b)):=by grind
 have k0 : 0 ≤ (a - q) * (q - b):=by
  rcases h with ⟨h1,h2⟩ | ⟨h1,h2⟩
  ·have := Int.mul_nonneg (show 0 ≤ q - a by omega) (show 0 ≤ b - q by omega)
   have e2 : (q - a) * (b - q) = (a - q) * (q - b):=by grind
   omega
  ·exact Int.mul_nonneg (by omega) (by omega)
 have k1 : 0 ≤ (q - b) * (q - b):=by
  rcases Int.lt_or_le (q - b) 0 with h3 | h3
  ·have := Int.mul_pos (show 0 < b - q by omega) (show 0 < b - q by omega)
   have e2 : (b - q) * (b - q) = (q - b) * (q - b):=by grind
   omega
  ·exact Int.mul_nonneg h3 h3
 refine ⟨by omega,fun hne => ?_⟩
 have : 0 < (q - b) * (q - b):=by
  rcases Int.lt_or_le (q - b) 0 with h3 | h3
  ·have := Int.mul_pos (show 0 < b - q by omega) (show 0 < b - q by omega)
   have e2 : (b - q) * (b - q) = (q - b) * (q - b):=by grind
   omega
  ·exact Int.mul_pos (by omega) (by omega)
 omega
theorem span_on {a b q : Pt} (h : On q a b) : spn a q ≤ spn a b ∧ (q ≠ b → spn a q < spn a b):=by
 obtain ⟨_,h1,h2⟩ := h
 have k1 := sq_btw h1
 have k2 := sq_btw h2
 unfold spn
 refine ⟨by omega,fun hne => ?_⟩
 by_cases e1 : q.1 = b.1
 ·have := k2.2 (fun e2 => hne (Prod.ext e1 e2));omega
 ·have := k1.2 e1;omega
theorem first214 {ρ : Type} (n : Nat) (f : FF) (hn : n ≤ 60) (k0 : Int → Int → Option ρ) : ∀ (M i : Nat) (z : Pt),n < M + i → i ≤ n → (∃ j,j < n ∧ z = pt f j) → (∀ r,r < i → z = pt f r ∨ fw z (pt f r)) →
  ∃ z',L214v1 100 n f M (Int.ofNat i) z.1 z.2 k0 = k0 z'.1 z'.2 ∧ (∃ j,j < n ∧ z' = pt f j) ∧ ∀ r,r < n → z' = pt f r ∨ fw z' (pt f r):=by
 intro M
 induction M with
 | zero => intro i z h1 h2;omega
 | succ M ih =>
  intro i z h1 h2 h3 h4
  unfold L214v1
  rw [lt_nat,inb_nat,toNat_nat]
  by_cases h : i < n
  ·obtain ⟨b,hb,hb2⟩ := before212 (CV.int (f i 0)) (CV.int (f i 1)) z.1 z.2
   rw [bif_t (decide_eq_true h),bif_t (decide_eq_true h),hb,ob_some,w64_succ (by omega)]
   cases b with
   | true =>
    have hfw : fw (pt f i) z := hb2.1 rfl
    rw [bif_t rfl,bif_t (decide_eq_true h)]
    refine ih (i + 1) (pt f i) (by omega) (by omega) ⟨i,h,rfl⟩ fun r hr => ?_
    by_cases hri : r = i
    ·rw [hri];exact .inl rfl
    ·rcases h4 r (by omega) with k | k
     ·rw [← k];exact .inr hfw
     ·exact .inr (hfw.trans k)
   | false =>
    have hfw : ¬ fw (pt f i) z:=fun k => by have := hb2.2 k;cases this
    rw [bif_f rfl]
    refine ih (i + 1) z (by omega) (by omega) h3 fun r hr => ?_
    by_cases hri : r = i
    ·rw [hri]
     by_cases e : z = pt f i
     ·exact .inl e
     ·right
      have h3 : ¬ (z.1 = (pt f i).1 ∧ z.2 = (pt f i).2):=fun hh => e (Prod.ext hh.1 hh.2)
      unfold fw at hfw ⊢
      omega
    ·exact h4 r (by omega)
  ·have : i = n:=by omega
   subst this
   rw [bif_f (by simp)]
   exact ⟨z,rfl,h3,h4⟩
theorem next214 {ρ : Type} {n m : Nat} {f : FF} {h : Nat → Pt} (H : Hul n (pt f) m h) (hm : 1 < m) (hn : n ≤ 60) (hA : AllNr n f) {c : Nat} (hc : c < m) (a : Nat) (u v : Int) (w : FF) (k0 : Int → Int → Option ρ) : ∀ (M i : Nat) (z : Pt),n < M + i → i ≤ n → (∃ j,j < n ∧ z = pt f j) → ((∃ j,j < i ∧ pt f j = h (nx m c)) → z = h (nx m c)) →
  L214v3 100 n f a u v w (h c).1 (h c).2 M (Int.ofNat i) z.1 z.2 k0 = k0 (h (nx m c)).1 (h (nx m c)).2:=by
 have hx : nx m c < m := Nat.mod_lt _ (by omega)
 obtain ⟨rl,hrl,el⟩ := H.mem c hc
 obtain ⟨rb,hrb,eb⟩ := H.mem _ hx
 have hne := H.step hm hc
 have nl : nr (h c).1 (h c).2:=by rw [el];exact hA rl hrl
 intro M
 induction M with
 | zero => intro i z h1 h2;omega
 | succ M ih =>
  intro i z h1 h2 h3 h4
  unfold L214v3
  rw [lt_nat,inb_nat,toNat_nat]
  by_cases hi : i < n
  ·have hq := hA i hi
   obtain ⟨j0,hj0,ez⟩ := h3
   have nz : nr z.1 z.2:=by rw [ez];exact hA j0 hj0
   have edge := H.edge hm c hc
   have takeq : ((∃ j,j < i + 1 ∧ pt f j = h (nx m c)) → z = h (nx m c) → pt f i = h (nx m c)) → L214v3 100 n f a u v w (h c).1 (h c).2 M (Int.ofNat (i + 1)) (CV.int (f i 0)) (CV.int (f i 1)) k0 = k0 (h (nx m c)).1 (h (nx m c)).2:=by
    intro hh
    refine ih (i + 1) (pt f i) (by omega) (by omega) ⟨i,hi,rfl⟩ fun ⟨j,hj,e⟩ => ?_
    by_cases hji : j = i
    ·rw [← hji];exact e
    ·exact hh ⟨j,hj,e⟩ (h4 ⟨j,by omega,e⟩)
   have keepz : (pt f i = h (nx m c) → z = h (nx m c)) → L214v3 100 n f a u v w (h c).1 (h c).2 M (Int.ofNat (i + 1)) z.1 z.2 k0 = k0 (h (nx m c)).1 (h (nx m c)).2:=by
    intro hh
    refine ih (i + 1) z (by omega) (by omega) ⟨j0,hj0,ez⟩ fun ⟨j,hj,e⟩ => ?_
    by_cases hji : j = i
    ·exact hh (by rw [← hji];exact e)
    ·exact h4 ⟨j,by omega,e⟩
   have et : cross ((h c).1,(h c).2) (z.1,z.2) (CV.int (f i 0),CV.int (f i 1)) = cross (h c) z (pt f i) := rfl
   rw [bif_t (decide_eq_true hi),bif_t (decide_eq_true hi),cross71 nl nz hq,ob_some,w64_succ (by omega),et,eqB]
   by_cases hzl : z = h c
   ·rw [bif_f (by simp [hzl]),bif_t (decide_eq_true hi)]
    refine takeq fun _ e => ?_
    rw [hzl] at e
    exact absurd e.symm hne
   ·have hzl' : ¬ ((z.1,z.2) : Pt) = ((h c).1,(h c).2) := hzl
    rw [bif_t (by rw [decide_eq_false hzl'];rfl)]
    by_cases ht : cross (h c) z (pt f i) < 0
    ·rw [bif_f (by rw [decide_eq_true ht];rfl),bif_t (decide_eq_true hi)]
     refine takeq fun _ e => ?_
     rw [e] at ht
     have:=(edge i hi).nonneg
     omega
    ·rw [bif_t (by rw [decide_eq_false ht];rfl)]
     have opp : cross (h c) z (h (nx m c)) = - cross (h c) (h (nx m c)) z:=by unfold cross;grind
     have ed := edge j0 hj0
     rw [← ez] at ed
     by_cases h0 : cross (h c) z (pt f i) = 0
     ·rw [bif_t (by simp [h0]),bif_t (decide_eq_true hi),span213 nl hq,ob_some,span213 nl nz,ob_some]
      have es1 : spn ((h c).1,(h c).2) (CV.int (f i 0),CV.int (f i 1)) = spn (h c) (pt f i) := rfl
      have es2 : spn ((h c).1,(h c).2) (z.1,z.2) = spn (h c) z := rfl
      rw [es1,es2]
      by_cases hs : spn (h c) (pt f i) > spn (h c) z
      ·rw [bif_t (decide_eq_true hs),bif_t (decide_eq_true hi)]
       refine takeq fun _ e => ?_
       rw [e] at hs h0
       rcases edge i hi with k | k
       ·omega
       ·have:=(span_on k).1;omega
      ·rw [bif_f (decide_eq_false hs)]
       refine keepz fun e => ?_
       rw [e,opp] at h0
       rw [e] at hs
       rcases ed with k | k
       ·omega
       ·by_cases hzb : z = h (nx m c)
        ·exact hzb
        ·have:=(span_on k).2 hzb;omega
     ·rw [bif_f (by simp [h0])]
      refine keepz fun e => ?_
      rw [e,opp] at h0 ht
      have := ed.nonneg
      omega
  ·have : i = n:=by omega
   subst this
   rw [bif_f (by simp)]
   rw [h4 ⟨rb,hrb,eb.symm⟩]
theorem wrap214 {ρ : Type} {n m : Nat} {f : FF} {h : Nat → Pt} (H : Hul n (pt f) m h) (hm : 1 < m) (hn : n ≤ 60) (hA : AllNr n f) (k0 : Nat → FF → Int → Int → Int → Int → Option ρ) (k1 : Nat → FF → Option ρ) : ∀ (M c : Nat) (g : FF),m < M + c → 0 < c → c ≤ m → (∀ i,i < c → pt g i = h i) →
  ∃ g' a b c' d,L214v4 100 n f (h 0).1 (h 0).2 M c g k0 k1 = k0 m g' a b c' d ∧ ∀ i,i < m → pt g' i = h i:=by
 have hsz := H.size
 intro M
 induction M with
 | zero => intro c g h1 h2;omega
 | succ M ih =>
  intro c g h1 h2 h3 hg
  unfold L214v4
  have e1 : w64 (Int.ofNat c - 1) = Int.ofNat (c - 1):=by rw [w64_of] <;> simp <;> omega
  have hl := hg (c - 1) (by omega)
  have hl1 : CV.int (g (0 + Int.toNat (Int.ofNat (c - 1))) 0) = (h (c - 1)).1:=by rw [Nat.zero_add,toNat_nat];exact congrArg Prod.fst hl
  have hl2 : CV.int (g (0 + Int.toNat (Int.ofNat (c - 1))) 1) = (h (c - 1)).2:=by rw [Nat.zero_add,toNat_nat];exact congrArg Prod.snd hl
  rw [bif_t (by simp;omega),e1,inb_nat,bif_t (by simp;omega),hl1,hl2]
  obtain ⟨r,hr,er⟩ := H.mem (c - 1) (by omega)
  rw [show (0 : Int) = Int.ofNat 0 from rfl,next214 H hm hn hA (show c - 1 < m by omega) c _ _ g _ 100 0 (h (c - 1)) (by omega) (by omega) ⟨r,hr,er⟩ (fun ⟨j,hj,_⟩ => by omega)]
  rw [eqB,eqB]
  by_cases hend : c = m
  ·subst hend
   have ex : nx c (c - 1) = 0:=by unfold nx;rw [show c - 1 + 1 = c by omega,Nat.mod_self]
   rw [ex,bif_f (by simp)]
   exact ⟨g,_,_,_,_,rfl,hg⟩
  ·have ex : nx m (c - 1) = c:=by unfold nx;rw [show c - 1 + 1 = c by omega,Nat.mod_eq_of_lt (by omega)]
   rw [ex]
   have n0 : ¬ (((h c).1,(h c).2) : Pt) = ((h 0).1,(h 0).2) := H.back c h2 (by omega)
   have n1 : ¬ (((h c).1,(h c).2) : Pt) = ((h (c - 1)).1,(h (c - 1)).2):=fun e => H.inj (show c - 1 < c by omega) (by omega) e.symm
   rw [decide_eq_false n0,decide_eq_false n1,bif_t (by rfl),bif_f (by rfl),bif_t (ble_ok (by omega))]
   refine ih (c + 1) _ (by omega) (by omega) (by omega) fun i hi => ?_
   show (CV.int (joinF _ _ _ _ _),CV.int (joinF _ _ _ _ _)) = _
   by_cases hic : i < c
   ·rw [joinF_old _ _ _ _ _ hic,joinF_old _ _ _ _ _ hic]
    exact hg i hic
   ·have : i = c:=by omega
    subst this
    rw [joinF_new _ _ _ _ _ (Nat.le_refl _),joinF_new _ _ _ _ _ (Nat.le_refl _),Nat.sub_self]
    rfl
end Go.Eng.R13
/-
 Hull and Bounds: the program's and the reference's.
-/
set_option linter.all false
set_option maxRecDepth 100000
namespace Go.Eng.R13
open Go Go.RowKit Go.Eng Geo
theorem same214 {ρ : Type} {n : Nat} {f : FF} (hn : n ≤ 60) (hA : AllNr n f) {z : Pt} (hz : nr z.1 z.2) (h : ∀ r,r < n → pt f r = z) (a : Nat) (u v : Int) (w : FF) (k0 : Int → Int → Option ρ) : ∀ (M i : Nat),n < M + i → i ≤ n →
  L214v3 100 n f a u v w z.1 z.2 M (Int.ofNat i) z.1 z.2 k0 = k0 z.1 z.2:=by
 intro M
 induction M with
 | zero => intro i h1 h2;omega
 | succ M ih =>
  intro i h1 h2
  unfold L214v3
  rw [lt_nat,inb_nat,toNat_nat]
  by_cases hi : i < n
  ·have e := h i hi
   have e1 : CV.int (f i 0) = z.1 := congrArg Prod.fst e
   have e2 : CV.int (f i 1) = z.2 := congrArg Prod.snd e
   rw [bif_t (decide_eq_true hi),bif_t (decide_eq_true hi),e1,e2,cross71 hz hz hz,ob_some,w64_succ (by omega),bif_f (by simp),bif_t (decide_eq_true hi)]
   exact ih (i + 1) (by omega) (by omega)
  ·rw [bif_f (by simp;omega)]
theorem hull214 {n m : Nat} {f : FF} {h : Nat → Pt} (h0 : 0 < n) (hn : n ≤ 60) (hA : AllNr n f) (H : Hul n (pt f) m h) : ∃ g,F214 100 n f = some (m,g) ∧ ∀ i,i < m → pt g i = h i:=by
 obtain ⟨b,hb1,hb2⟩ := near66 n f hn
 have hb := hb2.2 hA
 subst hb
 have hpos := H.pos
 have en : (Int.ofNat n == 0) = false := ofNat_ne0 h0
 unfold F214 FT214
 rw [bif_t (by rw [en];rfl),hb1,ob_some,bif_f (by rfl),show inb 0 n = inb (Int.ofNat 0) n from rfl,inb_nat,bif_t (decide_eq_true h0)]
 obtain ⟨z,e1,⟨j,hj,e2⟩,e3⟩ := first214 (ρ := Bool × Nat × FF) n f hn (fun x18 x19 => (L214v4 100 n f x18 x19 100 1 (rowsF 2 [(.i .i64 x18),(.i .i64 x19)])
  (fun x98 x99 x100 x101 x102 x103 => (some (false,x98,x99)))
  (fun x104 x105 => (some (false,x104,x105))))) 100 0 (pt f 0) (by omega) (by omega) ⟨0,h0,rfl⟩ (fun r hr => by omega)
 have ez : z = h 0:=by
  obtain ⟨r,hr,er⟩ := H.mem 0 hpos
  rcases e3 r hr with k | k
  ·rw [k,er]
  ·exfalso
   rw [← er] at k
   rcases H.first j hj with k2 | k2
   ·rw [← e2] at k2;rw [k2] at k;exact k.irr
   ·rw [← e2] at k2;exact k.asymm k2
 subst ez
 rw [show (0 : Int) = Int.ofNat 0 from rfl,show CV.int (f 0 0) = (pt f 0).1 from rfl,show CV.int (f 0 1) = (pt f 0).2 from rfl,e1]
 have hg0 : pt (rowsF 2 [(.i .i64 (h 0).1),(.i .i64 (h 0).2)]) 0 = h 0 := rfl
 generalize rowsF 2 [(.i .i64 (h 0).1),(.i .i64 (h 0).2)] = g0 at hg0
 by_cases hm : 1 < m
 ·obtain ⟨g',a,b,c',d,p1,p2⟩ := wrap214 (ρ := Bool × Nat × FF) H hm hn hA (fun x98 x99 x100 x101 x102 x103 => (some (false,x98,x99)))
   (fun x104 x105 => (some (false,x104,x105))) 100 1 g0 (by have := H.size;omega) (by omega) (by omega) (fun i hi => by
    have : i = 0:=by omega
    subst this;exact hg0)
  rw [p1,ob_some]
  exact ⟨g',rfl,p2⟩
 ·have em : m = 1:=by omega
  subst em
  have hall := H.one rfl
  obtain ⟨r,hr,er⟩ := H.mem 0 hpos
  have hz : nr (h 0).1 (h 0).2:=by rw [er];exact hA r hr
  refine ⟨g0,?_,fun i hi => by
    have : i = 0:=by omega
    subst this;exact hg0⟩
  have step : ∀ (k0 : Nat → FF → Int → Int → Int → Int → Option (Bool × Nat × FF)) (k1 : Nat → FF → Option (Bool × Nat × FF)),L214v4 100 n f (h 0).1 (h 0).2 (99 + 1) 1 g0 k0 k1 = k0 1 g0 (h 0).1 (h 0).2 (h 0).1 (h 0).2:=by
   intro k0 k1
   unfold L214v4
   have w1 : w64 (Int.ofNat 1 - 1) = Int.ofNat 0 := rfl
   have q1 : CV.int (g0 (0 + Int.toNat (Int.ofNat 0)) 0) = (h 0).1 := congrArg Prod.fst hg0
   have q2 : CV.int (g0 (0 + Int.toNat (Int.ofNat 0)) 1) = (h 0).2 := congrArg Prod.snd hg0
   rw [bif_t (by simp;omega),w1,inb_nat,bif_t (by rfl),q1,q2,show (0 : Int) = Int.ofNat 0 from rfl,same214 hn hA hz hall 1 _ _ g0 _ 100 0 (by omega) (by omega),bif_f (by simp)]
  rw [show L214v4 100 n f (h 0).1 (h 0).2 100 1 g0 _ _ = _ from step _ _,ob_some]
  rfl
theorem same206 (m : Nat) (g g' : FF) (hm : m ≤ 60) (h : ∀ i,i < m → pt g' i = pt g i) : F206 100 m g m g' = some true:=by
 unfold F206
 rw [bif_f (by simp)]
 have key : ∀ (M i : Nat),m < M + i → i ≤ m → L206v1 100 m g m g' M (Int.ofNat i) (some false) (some true) = some true:=by
  intro M
  induction M with
  | zero => intro i h1 h2;omega
  | succ M ih =>
   intro i h1 h2
   unfold L206v1
   rw [lt_nat,inb_nat,toNat_nat]
   by_cases hi : i < m
   ·have e := h i hi
    rw [bif_t (decide_eq_true hi),bif_t (decide_eq_true hi),bif_t (decide_eq_true hi),eqB,w64_succ (by omega)]
    have e2 : ((CV.int (g i 0),CV.int (g i 1)) : Pt) = (CV.int (g' i 0),CV.int (g' i 1)) := e.symm
    rw [bif_f (by rw [decide_eq_true e2];rfl)]
    exact ih (i + 1) (by omega) (by omega)
   ·rw [bif_f (by simp;omega)]
 exact key 100 0 (by omega) (by omega)
theorem bounds_loop215 {ρ : Type} (n : Nat) (f : FF) (k0 : Int → Int → Int → Int → Option ρ) (hn : n ≤ 60) : ∀ (m i : Nat) (p q r s : Int),n < m + i → i ≤ n → (0 < i → Bds f i p q r s) →
  ∃ p' q' r' s',L215v1 100 n f m (Int.ofNat i) p q r s k0 = k0 p' q' r' s' ∧ (0 < n → Bds f n p' q' r' s') ∧ (n = 0 → p' = p ∧ q' = q ∧ r' = r ∧ s' = s):=by
 intro m
 induction m with
 | zero => intro i p q r s h1 h2;omega
 | succ m ih =>
  intro i p q r s h1 h2 hB
  unfold L215v1
  rw [lt_nat,inb_nat,toNat_nat]
  by_cases h : i < n
  ·rw [bif_t (by simpa using h),w64_succ (by omega)]
   have hd := decide_eq_true h
   by_cases h0 : i = 0
   ·subst h0
    have hd0 : inb 0 n = true:=by rw [show inb 0 n = inb (Int.ofNat 0) n from rfl,inb_nat];exact hd
    rw [bif_t (by simp),bif_t hd0,bif_t hd0,bif_t hd,bif_t hd,bif_t hd,bif_t hd]
    obtain ⟨p',q',r',s',a1,a2,a3⟩ := ih 1 (if (CV.int (f 0 0)) < (CV.int (f 0 0)) then (CV.int (f 0 0)) else (CV.int (f 0 0))) (if (CV.int (f 0 1)) < (CV.int (f 0 1)) then (CV.int (f 0 1)) else (CV.int (f 0 1))) (if (CV.int (f 0 0)) > (CV.int (f 0 0)) then (CV.int (f 0 0)) else (CV.int (f 0 0))) (if (CV.int (f 0 1)) > (CV.int (f 0 1)) then (CV.int (f 0 1)) else (CV.int (f 0 1))) (by omega) (by omega) (fun _ => by
     simp only [gt_iff_lt,ite_self]
     refine ⟨fun j hj => ?_,fun _ => ⟨⟨0,by omega,rfl⟩,⟨0,by omega,rfl⟩,⟨0,by omega,rfl⟩,⟨0,by omega,rfl⟩⟩⟩
     have : j = 0:=by omega
     subst this
     exact ⟨Int.le_refl _,Int.le_refl _,Int.le_refl _,Int.le_refl _⟩)
    exact ⟨p',q',r',s',a1,a2,fun hh => by omega⟩
   ·rw [bif_f (by simp [h0]),bif_t hd,bif_t hd,bif_t hd,bif_t hd]
    obtain ⟨p',q',r',s',a1,a2,a3⟩ := ih (i + 1) _ _ _ _ (by omega) (by omega) fun _ => (hB (by omega)).step (by omega) rfl rfl rfl rfl
    exact ⟨p',q',r',s',a1,a2,fun hh => by omega⟩
  ·rw [bif_f (by simpa using h)]
   have : i = n:=by omega
   subst this
   exact ⟨p,q,r,s,rfl,hB,fun _ => ⟨rfl,rfl,rfl,rfl⟩⟩
theorem bounds_same (n : Nat) (f : FF) (hn : n ≤ 60) : ∃ p q r s,F46 100 n f = some (p,q,r,s) ∧ F215 100 n f = some (p,q,r,s):=by
 obtain ⟨p,q,r,s,h1,h2,h3⟩ := bounds46 n f hn
 refine ⟨p,q,r,s,h1,?_⟩
 unfold F215
 obtain ⟨p',q',r',s',a1,a2,a3⟩ := bounds_loop215 n f (fun x16 x17 x18 x19 => (some (x16,x17,x18,x19))) hn 100 0 0 0 0 0 (by omega) (by omega) (fun h => absurd h (by omega))
 rw [show (0 : Int) = Int.ofNat 0 from rfl,show Int.ofNat 0 = (0 : Int) from rfl]
 refine Eq.trans a1 ?_
 rcases Nat.eq_zero_or_pos n with h0 | h0
 ·obtain ⟨b1,b2,b3,b4⟩ := h3 h0
  obtain ⟨c1,c2,c3,c4⟩ := a3 h0
  rw [b1,b2,b3,b4,c1,c2,c3,c4]
 ·obtain ⟨b1,b2,b3,b4⟩ := Bds.unique h0 (h2 h0) (a2 h0)
  rw [b1,b2,b3,b4]
theorem hulls12 (n : Nat) (f : Nat → Nat → CV) (_ : SlIn (.pr (.int .i64) (.pr (.int .i64) .nil)) n f) : F216 100 n f = some true:=by
 unfold F216
 rw [awake_law]
 by_cases hn : n ≤ 60
 ·rw [bif_t (by simp;omega)]
  obtain ⟨p,q,r,s,b1,b2⟩ := bounds_same n f hn
  have key : ∃ m g g',F205 100 n f = some (m,g) ∧ F214 100 n f = some (m,g') ∧ F206 100 m g m g' = some true:=by
   obtain ⟨c,hc1,hc2⟩ := near66 n f hn
   obtain ⟨d,hd1,hd2⟩ := far50 n f hn
   by_cases hA : AllNr n f
   ·rcases Nat.eq_zero_or_pos n with h0 | h0
    ·subst h0
     exact ⟨0,_,_,rfl,rfl,rfl⟩
    ·obtain ⟨m,g,h1,H⟩ := hull205 n f h0 hn hA
     obtain ⟨g',h2,h3⟩ := hull214 h0 hn hA H
     have := H.size
     exact ⟨m,g,g',h1,h2,same206 m g g' (by omega) h3⟩
   ·have hc : c = false:=by
     cases c with
     | false => rfl
     | true => exact absurd (hc2.1 rfl) hA
    have hd : d = true:=by
     cases d with
     | true => rfl
     | false => exact absurd (hd2.1 rfl) hA
    subst hc;subst hd
    refine ⟨0,fun _ _ => .any,fun _ _ => .any,?_,?_,rfl⟩
    ·unfold F205 FT205
     rw [hd1,ob_some,bif_t (by rfl),ob_some];rfl
    ·unfold F214 FT214
     cases (Int.ofNat n == 0) with
     | true => rfl
     | false => rw [bif_t (by rfl),hc1,ob_some,bif_t (by rfl),ob_some];rfl
  obtain ⟨m,g,g',h1,h2,h3⟩ := key
  simp only [h1,h2,h3,b1,b2,ob_some]
  simp
 ·rw [bif_f (by simp;omega)]
  rfl
end Go.Eng.R13
