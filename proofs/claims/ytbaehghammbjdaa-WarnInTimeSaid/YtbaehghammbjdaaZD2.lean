/- Part 2 of the texts on which the proof rests. Conditions: none. -/
import Derived.Below
import Derived.Maps.RangeRun
import Derived.Test.YtbaehghammbjdaaProg
import Derived.Shelf.SlIterI.Nil
import Derived.Shelf.SortM.Plain
import Derived.Shelf.SortM.SortNone
import Derived.WideKeyRuns
import Derived.Test.YtbaehghammbjdaaZD1
set_option linter.unusedVariables false
set_option linter.unusedSimpArgs false
set_option linter.unusedSectionVars false
namespace Go.Nm
open Go
/-! ### Numbers in order -/
def insI (x : Int) : List Int -> List Int
  | [] => [x]
  | y :: l => bif decide (x <= y) then x :: y :: l else y :: insI x l
def isort (l : List Int) : List Int := l.foldr insI []
theorem insI_perm (x : Int) : ∀ l : List Int, (insI x l).Perm (x :: l)
  | [] => .refl _
  | y :: l => by
    unfold insI
    cases decide (x <= y) with
    | true => exact .refl _
    | false => exact ((insI_perm x l).cons y).trans (.swap x y l)
theorem isort_perm : ∀ l : List Int, (isort l).Perm l
  | [] => .refl _
  | x :: l => (insI_perm x _).trans ((isort_perm l).cons x)
theorem insI_asc (x : Int) : ∀ l : List Int, l.Pairwise (· <= ·) -> (insI x l).Pairwise (· <= ·)
  | [], _ => by simp [insI]
  | y :: l, h => by
    rw [List.pairwise_cons] at h
    unfold insI
    cases hc : decide (x <= y) with
    | true =>
      have hc := of_decide_eq_true hc
      show (x :: y :: l).Pairwise _
      rw [List.pairwise_cons, List.pairwise_cons]
      refine ⟨fun z hz => ?_, h⟩
      rcases List.mem_cons.1 hz with rfl | hz
      · exact hc
      · exact Int.le_trans hc (h.1 z hz)
    | false =>
      have hc := of_decide_eq_false hc
      show (y :: insI x l).Pairwise _
      rw [List.pairwise_cons]
      refine ⟨fun z hz => ?_, insI_asc x l h.2⟩
      rcases List.mem_cons.1 ((insI_perm x l).mem_iff.1 hz) with rfl | hz
      · omega
      · exact h.1 z hz
theorem isort_asc : ∀ l : List Int, (isort l).Pairwise (· <= ·)
  | [] => .nil
  | x :: l => insI_asc x _ (isort_asc l)
theorem asc_uniq : ∀ {l m : List Int}, l.Pairwise (· <= ·) -> m.Pairwise (· <= ·) -> l.Perm m -> l = m
  | [], m, _, _, p => (List.nil_perm.1 p).symm
  | x :: l, [], _, _, p => by have := p.length_eq; simp at this
  | x :: l, y :: m, h, k, p => by
    rw [List.pairwise_cons] at h k
    have h1 : x <= y := by
      rcases List.mem_cons.1 (p.mem_iff.2 (List.mem_cons_self (a := y) (l := m))) with e | e
      · omega
      · exact h.1 y e
    have h2 : y <= x := by
      rcases List.mem_cons.1 (p.mem_iff.1 (List.mem_cons_self (a := x) (l := l))) with e | e
      · omega
      · exact k.1 x e
    obtain rfl : x = y := by omega
    rw [asc_uniq h.2 k.2 (List.perm_cons x |>.1 p)]
theorem merge_isort {ss ks : List Int} (p : ss.Perm ks) : ss.mergeSort (fun x y => decide (x <= y)) = isort ks := by
  refine asc_uniq ?_ (isort_asc ks) (((List.mergeSort_perm ss _).trans p).trans (isort_perm ks).symm)
  have := List.pairwise_mergeSort (le := fun x y : Int => decide (x <= y)) (fun a b c h1 h2 => by simp only [decide_eq_true_eq] at *; omega) (fun a b => by simp only [Bool.or_eq_true, decide_eq_true_eq]; omega) ss
  exact this.imp fun h => of_decide_eq_true h
/-! ### Maps, told entry by entry -/
def MapL {κ ν : Type} (kenc : κ -> Value) (venc : ν -> Value) (es : Array MapEntry) (clk : Nat) (m : List (κ × ν)) : Prop :=
  es.toList.map (fun e => (e.key, e.val)) = m.map (fun p => (kenc p.1, venc p.2)) /\ (es.toList.map (·.born)).Nodup /\ ∀ e ∈ es.toList, e.born < clk
section
variable {P : Program} {w w0 : World} {L L' R : List Chunk} {t kt et : TypeId} {b : Nat} {es : Array MapEntry} {clk : Nat} {ks : List Int}
variable {all rest : List Oper} {Q : Post} {σ : Env} {d : Nat} {ty : TypeId} {pos : String} {af : Array Edge} {g : Option (Nat × Bool)}
end
end Go.Nm
namespace Go.Nm
open Go
/-! ### What is reckoned entry by entry -/
namespace M
variable {κ ν : Type}
def mapL (body : κ -> ν -> M ν) : List (κ × ν) -> M (List (κ × ν))
  | [] => pure []
  | p :: m => bind (body p.1 p.2) fun v => bind (mapL body m) fun m' => pure ((p.1, v) :: m')
theorem mapL_at {body : κ -> ν -> M ν} : ∀ {m m' : List (κ × ν)}, (mapL body m).Ends m' -> m'.length = m.length /\ ∀ (i : Nat) (k : κ) (v : ν), m[i]? = some (k, v) -> ∃ v', (body k v).Ends v' /\ m'[i]? = some (k, v')
  | [], m', h => by
    obtain rfl := e_pure h
    exact ⟨rfl, fun i k v h => by simp at h⟩
  | p :: m, m', h => by
    obtain ⟨v1, h1, h⟩ := e_bind h
    obtain ⟨m1, h2, h⟩ := e_bind h
    obtain rfl := e_pure h
    obtain ⟨l, ih⟩ := mapL_at h2
    refine ⟨by simp [l], fun i k v hi => ?_⟩
    cases i with
    | zero =>
      simp only [List.getElem?_cons_zero, Option.some.injEq] at hi
      subst hi
      exact ⟨v1, h1, rfl⟩
    | succ i => exact ih i k v (by simpa using hi)
end M
/-! ### In memory -/
section
variable {κ ν : Type} [DecidableEq κ] {kenc : κ -> Value} {venc : ν -> Value}
def cMl (kenc : κ -> Value) (venc : ν -> Value) (b : Nat) (m : List (κ × ν)) : Chunk where
  D k := k = b
  ex := true
  ok w := ∃ es n, w.heap[b]? = some (.map es n) /\ MapL kenc venc es n m /\ (m.map Prod.fst).Nodup
  st w w' := fun ⟨es, n, h1, h2⟩ _ k => ⟨es, n, (k b rfl).trans h1, h2⟩
  bd w k := fun ⟨_, _, h, _⟩ e => by rw [e]; exact heap_lt h
variable {P : Program} {w w0 : World} {L L' R : List Chunk} {t kt et : TypeId} {b r : Nat} {es : Array MapEntry} {clk : Nat} {m : List (κ × ν)}
variable {all rest : List Oper} {Q : Post} {σ : Env} {d : Nat} {ty : TypeId} {pos : String} {af : Array Edge} {g : Option (Nat × Bool)}
omit [DecidableEq κ] in theorem t_mkMl {t' : TypeId} (kenc : κ -> Value) (venc : ν -> Value) (H : St w0 w L R) (k : ∀ b w', St w0 w' (cMl kenc venc b [] :: L) R -> SL P all Q rest (upd σ d (.map (some b))) w') : SL P all Q (⟨some d, .makeMap t' none, ty, pos, af, none⟩ :: rest) σ w :=
  s_mkmap fun b w' hn => k b w' (H.push (c := cMl kenc venc b []) hn.ext ⟨_, _, hn.same, ⟨rfl, List.nodup_nil, fun e h => by simp at h⟩, List.nodup_nil⟩ (fun j hj => by rw [show j = b from hj]; exact hn.ge))
end
/-- How far a loop over a map has come: what is left is as it was, what was met is as it will be. -/
def ItR {κ ν : Type} (m m' m1 : List (κ × ν)) (left : List Bool) : Prop := m1.length = m.length /\ m'.length = m.length /\ left.length = m.length /\ ∀ i, i < m.length -> m1[i]? = if left.getD i false then m[i]? else m'[i]?
namespace ItR
variable {κ ν : Type} {m m' m1 : List (κ × ν)} {left : List Bool} {body : κ -> ν -> M ν}
theorem fin (h : ItR m m' m1 left) (hl : ∀ j : Nat, left.getD j false = false) : m1 = m' := by
  apply List.ext_getElem?
  intro i
  by_cases hi : i < m.length
  · rw [h.2.2.2 i hi, hl i]; rfl
  · rw [List.getElem?_eq_none (by have := h.1; omega), List.getElem?_eq_none (by have := h.2.1; omega)]
theorem lt (h : ItR m m' m1 left) {j : Nat} (hj : left.getD j false = true) : j < m.length := by
  rw [← h.2.2.1]
  refine Nat.lt_of_not_le fun hn => ?_
  rw [List.getD_eq_getElem?_getD, List.getElem?_eq_none hn] at hj
  cases hj
theorem at_ (h : ItR m m' m1 left) (hb : (M.mapL body m).Ends m') {j : Nat} {k : κ} {v : ν} (hj : left.getD j false = true) (hm : m1[j]? = some (k, v)) : ∃ v', (body k v).Ends v' /\ m'[j]? = some (k, v') := by
  have := h.2.2.2 j (h.lt hj)
  rw [hj, hm] at this
  exact (M.mapL_at hb).2 j k v (by simpa using this.symm)
theorem step (h : ItR m m' m1 left) {j : Nat} {k : κ} {v v' : ν} (hj : left.getD j false = true) (hm : m1[j]? = some (k, v)) (hv : m'[j]? = some (k, v')) : ItR m m' (m1.set j (k, v')) (left.set j false) := by
  have hjl := h.lt hj
  have hl := h.2.2.1
  have h1 := h.1
  refine ⟨by rw [List.length_set]; exact h.1, h.2.1, by rw [List.length_set]; exact h.2.2.1, fun i hi => ?_⟩
  by_cases e : j = i
  · subst e
    rw [List.getElem?_set_self (by omega), List.getD_eq_getElem?_getD, List.getElem?_set_self (by omega), hv]
    rfl
  · rw [List.getElem?_set_ne e, List.getD_eq_getElem?_getD, List.getElem?_set_ne e, ← List.getD_eq_getElem?_getD]
    exact h.2.2.2 i hi
theorem keep (h : ItR m m' m1 left) {j : Nat} {k : κ} {v : ν} (hj : left.getD j false = true) (hm : m1[j]? = some (k, v)) (hv : m'[j]? = some (k, v)) : ItR m m' m1 (left.set j false) := by
  have := h.step hj hm hv
  rwa [show m1.set j (k, v) = m1 from by
    obtain ⟨hl, e⟩ := List.getElem?_eq_some_iff.1 hm
    rw [← e, List.set_getElem_self]] at this
theorem less {j : Nat} (hj : left.getD j false = true) : (left.set j false).count true < left.count true := by
  have hl : j < left.length := Nat.lt_of_not_le fun hn => by
    rw [List.getD_eq_getElem?_getD, List.getElem?_eq_none hn] at hj
    cases hj
  have hg : left[j] = true := by
    rw [List.getD_eq_getElem?_getD, List.getElem?_eq_getElem hl] at hj
    exact hj
  rw [List.count_set hl, hg]
  have : 0 < left.count true := List.count_pos_iff.2 (by rw [← hg]; exact List.getElem_mem hl)
  simp
  omega
end ItR
end Go.Nm
namespace Go.Proofs
open Go.RowKit Go.Maps Go.Sort Go.Shelf
def Try.sortA_ren : Go.Shelf.Ren := ⟨fun | 5 => 73 | 7 => 88 | 8 => 89 | 10 => 93 | 11 => 94 | 12 => 95 | 13 => 96 | 14 => 97 | 15 => 98 | 16 => 99 | 17 => 100 | 18 => 101 | 19 => 102 | 20 => 103 | 30 => 105 | 31 => 106 | 32 => 107 | 33 => 108 | 34 => 109 | 35 => 87 | 40 => 111 | n => n, fun | 0 => 0 | 3 => 3 | 4 => 4 | 5 => 5 | 9 => 9 | 22 => 23 | 23 => 23 | 25 => 3 | 32 => 126 | 35 => 130 | 36 => 131 | 41 => 135 | 44 => 138 | 46 => 140 | 53 => 141 | 57 => 145 | 63 => 147 | 64 => 148 | n => n, fun | n => n⟩
theorem Try.sortA : Go.Proofs.SlLaysM.n5 Try.prog Try.sortA_ren := {
  mixed := by kernel_rfl
  f5 := ⟨"slices.Sort[[]int,int]", by kernel_rfl, Try.func73.trans (congrArg some (by kernel_rfl))⟩
  f7 := ⟨"slices.pdqsortOrdered[int]", by kernel_rfl, Try.func88.trans (congrArg some (by kernel_rfl))⟩
  f8 := Try.func89.trans (congrArg some (by kernel_rfl))
  f10 := ⟨"slices.insertionSortOrdered[int]", by kernel_rfl, Try.func93.trans (congrArg some (by kernel_rfl))⟩
  f11 := ⟨"slices.heapSortOrdered[int]", by kernel_rfl, Try.func94.trans (congrArg some (by kernel_rfl))⟩
  f12 := ⟨"slices.breakPatternsOrdered[int]", by kernel_rfl, Try.func95.trans (congrArg some (by kernel_rfl))⟩
  f13 := ⟨"slices.choosePivotOrdered[int]", by kernel_rfl, Try.func96.trans (congrArg some (by kernel_rfl))⟩
  f14 := ⟨"slices.reverseRangeOrdered[int]", by kernel_rfl, Try.func97.trans (congrArg some (by kernel_rfl))⟩
  f15 := ⟨"slices.partialInsertionSortOrdered[int]", by kernel_rfl, Try.func98.trans (congrArg some (by kernel_rfl))⟩
  f16 := ⟨"cmp.Less[int]", by kernel_rfl, Try.func99.trans (congrArg some (by kernel_rfl))⟩
  f17 := ⟨"slices.partitionEqualOrdered[int]", by kernel_rfl, Try.func100.trans (congrArg some (by kernel_rfl))⟩
  f18 := ⟨"slices.partitionOrdered[int]", by kernel_rfl, Try.func101.trans (congrArg some (by kernel_rfl))⟩
  f19 := Try.func102.trans (congrArg some (by kernel_rfl))
  f20 := Try.func103.trans (congrArg some (by kernel_rfl))
  f30 := ⟨"slices.siftDownOrdered[int]", by kernel_rfl, Try.func105.trans (congrArg some (by kernel_rfl))⟩
  f31 := Try.func106.trans (congrArg some (by kernel_rfl))
  f32 := Try.func107.trans (congrArg some (by kernel_rfl))
  f33 := ⟨"slices.medianAdjacentOrdered[int]", by kernel_rfl, Try.func108.trans (congrArg some (by kernel_rfl))⟩
  f34 := ⟨"slices.medianOrdered[int]", by kernel_rfl, Try.func109.trans (congrArg some (by kernel_rfl))⟩
  f35 := ⟨"cmp.isNaN[int]", by kernel_rfl, Try.func87.trans (congrArg some (by kernel_rfl))⟩
  f40 := ⟨"slices.order2Ordered[int]", by kernel_rfl, Try.func111.trans (congrArg some (by kernel_rfl))⟩
  t0 := Try.underlying0
  a0 := Try.isAgg0
  z0 := Try.sizeOf0
  v0 := Try.zeroValue0
  t3 := Try.underlying3
  a3 := Try.isAgg3
  z3 := Try.sizeOf3
  v3 := Try.zeroValue3
  t4 := Try.underlying4
  a4 := Try.isAgg4
  z4 := Try.sizeOf4
  v4 := Try.zeroValue4
  t5 := Try.underlying5
  a5 := Try.isAgg5
  z5 := Try.sizeOf5
  v5 := Try.zeroValue5
  t9 := Try.underlying9
  a9 := Try.isAgg9
  z9 := Try.sizeOf9
  v9 := Try.zeroValue9
  t22 := Try.underlying23
  a22 := Try.isAgg23
  z22 := Try.sizeOf23
  v22 := Try.zeroValue23
  t23 := Try.underlying23
  a23 := Try.isAgg23
  z23 := Try.sizeOf23
  v23 := Try.zeroValue23
  t25 := Try.underlying3
  a25 := Try.isAgg3
  z25 := Try.sizeOf3
  v25 := Try.zeroValue3
  t32 := Try.underlying126
  a32 := Try.isAgg126
  z32 := Try.sizeOf126
  v32 := Try.zeroValue126
  t35 := Try.underlying130
  a35 := Try.isAgg130
  z35 := Try.sizeOf130
  v35 := Try.zeroValue130
  t36 := Try.underlying131
  a36 := Try.isAgg131
  z36 := Try.sizeOf131
  v36 := Try.zeroValue131
  t41 := Try.underlying135
  a41 := Try.isAgg135
  z41 := Try.sizeOf135
  v41 := Try.zeroValue135
  t44 := Try.underlying138
  a44 := Try.isAgg138
  z44 := Try.sizeOf138
  v44 := Try.zeroValue138
  t46 := Try.underlying140
  a46 := Try.isAgg140
  z46 := Try.sizeOf140
  v46 := Try.zeroValue140
  t53 := Try.underlying141
  a53 := Try.isAgg141
  z53 := Try.sizeOf141
  v53 := Try.zeroValue141
  t57 := Try.underlying145
  a57 := Try.isAgg145
  z57 := Try.sizeOf145
  v57 := Try.zeroValue145
  t63 := Try.underlying147
  a63 := Try.isAgg147
  z63 := Try.sizeOf147
  v63 := Try.zeroValue147
  t64 := Try.underlying148
  a64 := Try.isAgg148
  z64 := Try.sizeOf148
  v64 := Try.zeroValue148 }

end Go.Proofs
namespace Go.Nm
open Go
theorem OwnF.row {B : Nat} {e : TypeId} {w : World} {l : List Int} {g cap : Nat} {cur : Array Value} (ho : OwnF B e w (.slice (some ⟨g, 0, none⟩) l.length cap) l) (hg : w.heap[g]? = some (.cells cur e (0, 0)))
    (hcs : l.length <= cap) (hsz : cur.size = cap) (hb : B <= g) (hm : cap <= maxLen) (d : Array Int) (hl : d.size = l.length) (q : Nat) :
    OwnF B e (Sort.putRow (Value.int .i64) (Sort.ahead w q) g 0 d) (.slice (some ⟨g, 0, none⟩) l.length cap) d.toList /\ Grow B (.slice (some ⟨g, 0, none⟩) l.length cap) w (Sort.putRow (Value.int .i64) (Sort.ahead w q) g 0 d) := by
  have hs1 : Elt.sz Int = 1 := rfl
  have h1 : (Sort.putRow (Value.int .i64) (Sort.ahead w q) g 0 d).heap[g]? = some (.cells (Sort.putCells (Value.int .i64) 0 d cur) e (0, 0)) := by
    show (w.heap.modify g _)[g]? = _
    rw [Array.getElem?_modify, if_pos rfl, hg]
    rfl
  have h2 : ∀ k, k ≠ g -> (Sort.putRow (Value.int .i64) (Sort.ahead w q) g 0 d).heap[k]? = w.heap[k]? := by
    intro k hk
    show (w.heap.modify g _)[k]? = _
    rw [Array.getElem?_modify, if_neg (fun h => hk h.symm)]
  refine ⟨⟨by rw [enc_ints]; simp [hs1], .inr ⟨g, cap, _, by simp [hl], hb, h1, by simp [hl]; omega, hm, by simp [hs1, Sort.putCells]; omega, ?_⟩⟩, ⟨rfl, rfl, by simp [Sort.putRow, Sort.mapBlock, Sort.ahead], fun k _ hk => ?_, fun g' hg' => (ho.lt g' hg').1, fun a => by simp⟩⟩
  · rw [enc_ints, hs1]
    apply List.ext_getElem?
    intro i
    rw [List.getElem?_take, List.getElem?_map]
    by_cases hi : i < d.toList.length * 1
    · rw [if_pos hi]
      have hi' : i < d.size := by simpa using hi
      have hc : i < cur.size := by omega
      simp [Sort.putCells, hi', hc]
    · rw [if_neg hi, List.getElem?_eq_none (by simpa using hi)]
      rfl
  · refine h2 k (fun e' => hk ?_)
    rw [e']
    rfl
end Go.Nm
namespace Go.Proofs.Ytbaehghammbjdaa
open Go Go.Nm Go.Proofs
theorem sort_any {w : World} {v : Value} {l : List Int} (ho : OwnF 0 3 w v l) (hl : l.length <= 1000000) : Ret Try.prog 73 #[v] w fun u w' => u = .tuple #[] /\ OwnF 0 3 w' v (isort l) /\ Keep w w' /\ ∀ b, b < w.heap.size -> v.ownBlock ≠ some b -> w'.heap[b]? = w.heap[b]? := by
  have ho' := ho
  rcases ho.2 with ⟨rfl, hn⟩ | ⟨g, cap, cur, rfl, hb, hg, hc, hm, hcs, htake⟩
  · obtain rfl := List.length_eq_zero_iff.1 hn
    have h := AnyM.slices_Sort_int_none Try.sortA none 0 w
    refine Calls.mono h ?_
    rintro _ w' ⟨rfl, rfl⟩
    exact ⟨_, rfl, rfl, ho, Keep.refl _, fun _ _ _ => rfl⟩
  · have hs1 : Elt.sz Int = 1 := rfl
    rw [hs1] at hcs htake
    rw [enc_ints] at htake
    have hcell : ∀ j, j < l.length -> w.cell? ⟨g, 0 + j, none⟩ = some (.int .i64 (l.getD j 0)) := by
      intro j hj
      rw [Nat.zero_add, cell_of_row w g j cur 3 (0, 0) hg]
      have h1 : (cur.toList.take (l.length * 1))[j]? = (l.map I)[j]? := by rw [htake]
      rw [List.getElem?_take, if_pos (by omega), List.getElem?_map, getD_some l hj 0] at h1
      simpa using h1
    have hH : Sort.Holds (Value.int .i64) w g 0 l.toArray := by
      intro j hj
      have hj : j < l.length := by simpa using hj
      refine ⟨?_, by simp [World.frozen?, hg]⟩
      rw [hcell j hj]
      have : l.getD j 0 = l.toArray[j]! := by
        rw [List.getD_eq_getElem?_getD, List.getElem?_eq_getElem hj]
        simp [getElem!_pos, hj]
      rw [this]
    have h := AnyM.slices_Sort_int Try.sortA g 0 cap l w hH (heap_lt hg) (by omega)
    refine Calls.mono h ?_
    rintro _ w' ⟨rfl, q, os, rfl⟩
    rw [merge_isort (List.Perm.refl l)]
    have hlen : (isort l).length = l.length := (isort_perm l).length_eq
    obtain ⟨h1, h2⟩ := OwnF.row ho hg hc (by omega) hb hm (isort l).toArray (by simp [hlen]) q
    have hlt : g < (Sort.putRow (Value.int .i64) (Sort.ahead w q) g 0 (isort l).toArray).heap.size := Nat.lt_of_lt_of_le (heap_lt hg) h2.size
    refine ⟨_, rfl, rfl, ?_, ⟨h2.os, h2.out, by rw [Sort.size_grow]; exact Nat.le_trans h2.size (Nat.le_add_right _ _)⟩, fun b hb' hne => ?_⟩
    · rcases h1 with ⟨h3, h4 | ⟨g', cap', cur', h5, h6, h7, h8⟩⟩
      · exact absurd h4.1 (by simp)
      · simp only [Value.slice.injEq, Option.some.injEq, Addr.mk.injEq, and_true] at h5
        obtain ⟨rfl, _, rfl⟩ := h5
        refine ⟨h3, .inr ⟨g, cap, cur', by simp [hlen], h6, by rw [Sort.heap_grow_old _ _ hlt]; exact h7, h8⟩⟩
    · rw [Sort.heap_grow_old _ _ (Nat.lt_of_lt_of_le hb' h2.size)]
      exact h2.blk b hb' hne
end Go.Proofs.Ytbaehghammbjdaa
namespace Go.Nm
open Go
theorem St.sorted {w0 w w' : World} {L L' R : List Chunk} {k : Nat} {v : Value} {l l' : List Int} {e : TypeId} (H : St w0 w L R) (hk : L[k]? = some (cOwn (α := Int) e v l)) (ho : OwnF 0 e w' v l') (kp : Keep w w') (hs : ∀ b, b < w.heap.size -> v.ownBlock ≠ some b -> w'.heap[b]? = w.heap[b]?)
    (hl : L.set k (cOwn (α := Int) e v l') = L') : St w0 w' L' R :=
  H.set (c' := cOwn (α := Int) e v l') hk rfl kp hs (fun b hb => .inl hb) ho hl
end Go.Nm
namespace Go.Nm
open Go
end Go.Nm
namespace Go.Nm
open Go
section
variable {P : Program} {w : World} {σ : Env} {d : Nat} {ty : TypeId} {pos : String} {af : Array Edge} {g : Option (Nat × Bool)}
end
end Go.Nm
namespace Go.Nm
open Go
section
variable {P : Program} {ops : Array Oper} {md : Region.Mode} {C : World -> Prop} {z : Nat}
end
section
variable {P : Program} {all : List Oper} {C : World -> Prop} {z : Nat} {Q : Post} {r : List Nat} {σ : Env} {w : World}
end
end Go.Nm
namespace Go.Nm
open Go
section
variable {P : Program} {ops : Array Oper} {md : Region.Mode} {C : World -> Prop} {z : Nat}
end
section
variable {P : Program} {all : List Oper} {C : World -> Prop} {z : Nat} {Q : Post} {r r2 : Ord} {σ : Env} {w : World}
end
end Go.Nm
namespace Go.Nm
open Go
section
set_option linter.unusedSectionVars false
variable {α β : Type} [Flat α] [Flat β] [Inhabited β] {iv : β -> Value} {e1 e2 : TypeId} {v : Value} {us : List β} {T : List (List α)} {w0 w : World} {L L' R : List Chunk}
variable {P : Program} {all rest : List Oper} {Q : Post} {σ : Env} {d : Nat} {ty : TypeId} {pos : String} {af : Array Edge}
end
end Go.Nm
namespace Go.Nm
open Go
/-- A map of slices, with the rows to which they lead (they are read on only). -/
def cMem {κ : Type} [DecidableEq κ] (kenc : κ -> Value) (b : Nat) (B : Base) (F : κ -> M (List Int)) : Chunk where
  D k := k = b ∨ (B.D k /\ k < B.w.heap.size)
  ex := true
  ok w := (∃ f : κ -> Option Value, (cMap kenc id b f).ok w /\ ∀ k v, f k = some v -> ∃ l, (F k).Ends l /\ Sl B.cells v l) /\ (cRo B).ok w /\ ¬ (B.D b /\ b < B.w.heap.size)
  st w w' h hs k := by
    obtain ⟨⟨f, h1, h2⟩, h3, h4⟩ := h
    exact ⟨⟨f, (cMap kenc id b f).st w w' h1 hs fun j hj => k j (.inl hj), h2⟩, (cRo B).st w w' h3 hs fun j hj => k j (.inr hj), h4⟩
  bd w k h e := by
    obtain ⟨⟨f, h1, h2⟩, h3, h4⟩ := h
    rcases e with e | e
    · exact (cMap kenc id b f).bd w k h1 e
    · exact (cRo B).bd w k h3 e
/-- A base that nothing else knows. -/
def cRx (B : Base) : Chunk where
  D b := B.D b /\ b < B.w.heap.size
  ex := true
  ok w := (cRo B).ok w
  st w w' h hs k := (cRo B).st w w' h hs k
  bd w b h hb := (cRo B).bd w b h hb
section
variable {κ : Type} [DecidableEq κ] {kenc : κ -> Value} {b : Nat} {B : Base} {F : κ -> M (List Int)} {P : Program} {w w0 : World} {L L' R : List Chunk} {kt et t : TypeId}
variable {all rest : List Oper} {Q : Post} {σ : Env} {d : Nat} {ty : TypeId} {pos : String} {af : Array Edge}
theorem memLe : ∀ w, (cMem kenc b B F).ok w -> B.cells.Le w.cell? := fun w h => roLe w h.2.1
/-- A new one. -/
theorem t_mkmem {t' : TypeId} (kenc : κ -> Value) (F : κ -> M (List Int)) (H : St w0 w L R) (k : ∀ b B w', St w0 w' (cMem kenc b B F :: L) R -> SL P all Q rest (upd σ d (.map (some b))) w') : SL P all Q (⟨some d, .makeMap t' none, ty, pos, af, none⟩ :: rest) σ w :=
  s_mkmap fun b w' hn => k b ⟨w', fun _ => False⟩ w' (H.push (c := cMem kenc b ⟨w', fun _ => False⟩ F) hn.ext
    ⟨⟨fun _ => none, ⟨_, _, hn.same, MapR.nil kenc id 0⟩, fun k v h => by cases h⟩, ⟨Nat.le_refl _, fun _ h => h.elim⟩, fun h => h.1.elim⟩ (fun j hj => by
      rcases hj with hj | hj
      · rw [hj]; exact hn.ge
      · exact hj.1.elim))
/-- The map by itself, the rows beside it. -/
theorem St.memOpen {i : Nat} (H : St w0 w L R) (hk : L[i]? = some (cMem kenc b B F)) : ∃ f : κ -> Option Value, St w0 w (cMap kenc id b f :: cRx B :: L.eraseIdx i) R /\ ∀ k v, f k = some v -> ∃ l, (F k).Ends l /\ Sl B.cells v l := by
  have hlt := (List.getElem?_eq_some_iff.1 hk).1
  have hp : (cMem kenc b B F :: L.eraseIdx i).Perm L := by
    have e : L.take i ++ cMem kenc b B F :: L.drop (i + 1) = L := by
      rw [← (List.getElem?_eq_some_iff.1 hk).2, ← List.drop_eq_getElem_cons hlt, List.take_append_drop]
    rw [List.eraseIdx_eq_take_drop_succ]
    exact List.Perm.trans List.perm_middle.symm (by rw [e])
  have hS : Sep w (cMem kenc b B F :: (L.eraseIdx i ++ R)) := H.sep.perm (by rw [← List.cons_append]; exact hp.append_right R)
  obtain ⟨⟨⟨f, h1, h2⟩, h3, h4⟩, ha, hr⟩ := hS
  refine ⟨f, ⟨H.kp, h1, ?_, h3, ?_, hr⟩, h2⟩
  · intro c hc _ j hj hj'
    rcases List.mem_cons.1 hc with rfl | hc
    · rw [show j = b from hj] at hj'
      exact h4 hj'
    · exact ha c hc (by simp [cMem]) j (.inl hj) hj'
  · intro c hc _ j hj hj'
    exact ha c hc (by simp [cMem]) j (.inr hj) hj'
theorem St.memShut {f : κ -> Option Value} (H : St w0 w (cMap kenc id b f :: cRx B :: L) R) (hF : ∀ k v, f k = some v -> ∃ l, (F k).Ends l /\ Sl B.cells v l) : St w0 w (cMem kenc b B F :: L) R := by
  obtain ⟨h1, ha, h3, hb, hr⟩ := H.sep
  refine ⟨H.kp, ⟨⟨f, h1, hF⟩, h3, fun h => ha (cRx B) (by simp) (by simp [cMap]) b rfl h⟩, fun c hc _ j hj hj' => ?_, hr⟩
  rcases hj with hj | hj
  · exact ha c (List.mem_cons_of_mem _ hc) (by simp [cMap]) j hj hj'
  · exact hb c hc (by simp [cRx]) j hj hj'
theorem St.memShut1 {f : κ -> Option Value} {k : κ} {e : TypeId} {v : Value} {l : List Int} (H : St w0 w (cMap kenc id b (updF f k v) :: cRx B :: cOwn (α := Int) e v l :: L) R) (hF : ∀ k v, f k = some v -> ∃ l, (F k).Ends l /\ Sl B.cells v l) (hE : (F k).Ends l) :
    ∃ B', B.cells.Le B'.cells /\ Sl B'.cells v l /\ St w0 w (cMem kenc b B' F :: L) R := by
  have hS := H.sep
  obtain ⟨h1, ha, h3, hb, hown, hc, hr⟩ := hS
  have hlt : ∀ j, B.D j /\ j < B.w.heap.size -> (cRo B).D j := fun j hj => hj
  have hBB : B.cells.Le (Base.cells ⟨w, fun j => (B.D j /\ j < B.w.heap.size) ∨ v.ownBlock = some j⟩) := fun a c hc => by
    have hd : B.D a.block := by
      unfold Base.cells at hc
      split at hc
      · assumption
      · cases hc
    have hlt : a.block < B.w.heap.size := by
      unfold Base.cells at hc
      rw [if_pos hd] at hc
      exact World.block_lt_of_cell? B.w a hc
    unfold Base.cells
    rw [if_pos (show (B.D a.block /\ a.block < B.w.heap.size) ∨ v.ownBlock = some a.block from .inl ⟨hd, hlt⟩)]
    exact roLe w h3 a c hc
  have hvl : Sl (Base.cells ⟨w, fun j => (B.D j /\ j < B.w.heap.size) ∨ v.ownBlock = some j⟩) v l := (ownSl hown).mono fun a c hc => by
    have h1 := ownLe w hown a c hc
    unfold Base.cells
    rw [if_pos (Or.inr ?_)]
    · exact h1
    · unfold rowC at hc
      split at hc
      · rename_i p _ _
        split at hc
        · rename_i ha
          rw [ha]; rfl
        · cases hc
      · cases hc
  refine ⟨⟨w, fun j => (B.D j /\ j < B.w.heap.size) ∨ v.ownBlock = some j⟩, hBB, hvl, H.kp, ⟨⟨updF f k v, h1, fun k' v' hk' => ?_⟩, ⟨Nat.le_refl _, fun _ _ _ => rfl⟩, fun h => ?_⟩, fun c hc' _ j hj hj' => ?_, hr⟩
  · unfold updF at hk'
    split at hk'
    · rename_i ek
      subst ek
      obtain rfl := Option.some.inj hk'
      exact ⟨l, hE, hvl⟩
    · obtain ⟨l', e1, e2⟩ := hF k' v' hk'
      exact ⟨l', e1, e2.mono hBB⟩
  · rcases h.1 with h | h
    · exact ha (cRx B) (by simp) (by simp [cMap]) b rfl h
    · exact ha (cOwn (α := Int) e v l) (by simp) (by simp [cMap]) b rfl h
  · rcases hj with hj | ⟨hj | hj, _⟩
    · exact ha c (List.mem_cons_of_mem _ (List.mem_cons_of_mem _ hc')) (by simp [cMap]) j hj hj'
    · exact hb c (List.mem_cons_of_mem _ hc') (by simp [cRx]) j hj hj'
    · exact hc c hc' (by simp [cOwn]) j hj hj'
end
end Go.Nm
namespace Go.Nm
open Go
section
variable {P : Program} {w : World}
/-- What lies behind a part of a row is made zero. -/
theorem clear_behind {t ty e sz by' : Nat} {z : Value} (T : SlT P t e sz by' z) (h1 : ∀ u ∈ z.cells.toList, u.oneCell' = true) {g m n c cap : Nat} {cur : Array Value} (hg : w.heap[g]? = some (.cells cur e (0, 0))) (hmn : m + n <= cap) (hcs : cur.size = cap * sz) (a : Option Addr)
    (ha : 0 < n -> a = some ⟨g, m * sz, none⟩) :
    ∃ cs : Array Value, (Builtin.clear_ #[t] ty #[.slice a n c]).run P w = .ok (.tuple #[]) (w.setRow g cs) /\ cs.size = cur.size /\ cs.toList.take (m * sz) = cur.toList.take (m * sz) := by
  obtain ⟨i, hi, hz, hsz, hby⟩ := T.parts
  cases n with
  | zero =>
    refine ⟨cur, ?_, rfl, rfl⟩
    rw [setRow_self w g cur e (0, 0) hg]
    cases a <;> simp [Builtin.clear_, run_underlying T.und]
  | succ n =>
    obtain rfl := ha (by omega)
    have hzv : ∀ w, (zeroValue e).run P w = .ok z w := fun w => by simp [zeroValue, typeInfo, hi, hz]
    have hl : (Builtin.zeroCells z.cells (n + 1)).toList.length = (n + 1) * sz := by rw [Array.length_toList, size_zeroCells, T.zs]
    have hle : (m + (n + 1)) * sz <= cap * sz := Nat.mul_le_mul_right _ hmn
    rw [Nat.add_mul] at hle
    have hst := run_storeCells_at P g (m * sz) e (Builtin.zeroCells z.cells (n + 1)).toList 0 cur w hg (by rw [hl, hcs]; simp only [Nat.add_zero]; exact hle) (by
      intro v hv
      have hp := T.pos
      rw [← T.zs] at hp
      simp only [Builtin.zeroCells, Array.toList_map, List.mem_map] at hv
      obtain ⟨k, _, rfl⟩ := hv
      have hk := Nat.mod_lt k hp
      rw [getElem!_pos z.cells _ hk]
      exact h1 _ (by simp))
    simp only [Nat.add_zero] at hst
    have q3 : ((cur.toList.take (m * sz) ++ (Builtin.zeroCells z.cells (n + 1)).toList ++ cur.toList.drop (m * sz + (Builtin.zeroCells z.cells (n + 1)).toList.length)).toArray).toList.take (m * sz) = cur.toList.take (m * sz) := by
      show (cur.toList.take (m * sz) ++ _ ++ _).take (m * sz) = _
      rw [List.append_assoc]
      exact List.take_left' (by rw [List.length_take, Array.length_toList]; omega)
    have q2 : ((cur.toList.take (m * sz) ++ (Builtin.zeroCells z.cells (n + 1)).toList ++ cur.toList.drop (m * sz + (Builtin.zeroCells z.cells (n + 1)).toList.length)).toArray).size = cur.size := by
      simp only [List.size_toArray, List.length_append, List.length_take, List.length_drop, Array.length_toList] at hl ⊢
      omega
    refine ⟨_, ?_, q2, q3⟩
    generalize w.setRow g (cur.toList.take (m * sz) ++ (Builtin.zeroCells z.cells (n + 1)).toList ++ cur.toList.drop (m * sz + (Builtin.zeroCells z.cells (n + 1)).toList.length)).toArray = W2 at hst ⊢
    simp [Builtin.clear_, run_underlying T.und, hzv]
    rw [hst]
    rfl
theorem slice_hi {t e : TypeId} {sz : Nat} (hu : P.underlying t = some (.slice e)) (hs : (P.info? e).map (·.size) = some sz) {g n c i : Nat} (h2 : i <= n) (h3 : n <= c) : (Instr.sliceAt t (.slice (some ⟨g, 0, none⟩) n c) none (some (I i)) none).run P w = .ok (.slice (some ⟨g, 0, none⟩) i c) w := by
  have e1 : i <= c := Nat.le_trans h2 h3
  simp [Instr.sliceAt, Instr.slice, Instr.sliceBounds, Instr.sliceBound, asIntOf, run_underlying hu, run_sizeOf hs, Addr.add]
  intro h
  omega

variable {all rest : List Oper} {Q : Post} {σ : Env} {w0 : World} {L R : List Chunk} {ty : TypeId} {pos : String} {af : Array Edge}
/-- What is behind a place is made zero: the row is cut there. -/
theorem t_clrT {α : Type} [Flat α] {dst : Option Nat} {t e by' k : Nat} {z u v : Value} {l : List α} {x : Operand} (T : SlT P t e (Elt.sz α) by' z) (hz : ∀ u ∈ z.cells.toList, u.oneCell' = true) (H : St w0 w L R) (hk : L[k]? = some (cOwn (α := α) e v l)) {i : Int} (h0 : 0 <= i) (h1 : i <= l.length)
    (hr : ∀ w, (Instr.sliceAt t v (some (.int .i64 i)) none none).run P w = .ok u w) (hx : ev σ x = u)
    (kk : ∀ vc w', (∀ w, (Instr.sliceAt t v none (some (.int .i64 i)) none).run P w = .ok vc w) -> vc.cells = #[vc] -> vc.oneCell' = true -> St w0 w' (L.set k (cOwn (α := α) e vc (l.take i.toNat))) R -> SL P all Q rest (updo σ dst (.tuple #[])) w') : SL P all Q (⟨dst, .call ⟨.builtin .clear, #[x], #[t]⟩, ty, pos, af, none⟩ :: rest) σ w := by
  obtain ⟨i, rfl⟩ := Int.eq_ofNat_of_zero_le h0
  have h1 : i <= l.length := by omega
  rw [Int.toNat_natCast] at kk
  have ho : OwnF 0 e w v l := H.get hk
  rcases ho.2 with ⟨hv, hn⟩ | ⟨g, cap, cur, hv, hb, hg, hc, hm, hcs, htake⟩
  · obtain rfl : l = [] := List.eq_nil_of_length_eq_zero hn
    obtain rfl : i = 0 := by simpa using h1
    subst hv
    have hu : u = .slice none 0 0 := by
      have := hr w
      simp [Instr.sliceAt, Instr.slice, Instr.sliceBounds, Instr.sliceBound, asIntOf, run_underlying T.und, run_sizeOf T.size] at this
      exact this.symm
    subst hu
    refine s_any (v := .tuple #[]) (w' := w) ?_ (kk (.slice none 0 0) w (fun w => ?_) rfl rfl ?_)
    · simp [execOp, resolve, invoke, builtin, hx, Builtin.clear_, run_underlying T.und]
    · simp [Instr.sliceAt, Instr.slice, Instr.sliceBounds, Instr.sliceBound, asIntOf, run_underlying T.und, run_sizeOf T.size]
    · exact H.own (B := 0) hk ho ⟨rfl, rfl, Nat.le_refl _, fun _ _ _ => rfl, fun g _ => Nat.zero_le _, fun _ => rfl⟩ (fun _ _ h => h) rfl
  · subst hv
    have hu : u = .slice (if cap = i then some ⟨g, 0, none⟩ else some ⟨g, i * Elt.sz α, none⟩) (l.length - i) (cap - i) := by
      have h2 := hr w
      have h3 : (Instr.sliceAt t (.slice (some ⟨g, 0, none⟩) l.length cap) (some (.int .i64 (i : Int))) none none).run P w = .ok (.slice (if cap = i then some ⟨g, 0, none⟩ else some ⟨g, i * Elt.sz α, none⟩) (l.length - i) (cap - i)) w := by
        simp [Instr.sliceAt, Instr.slice, Instr.sliceBounds, Instr.sliceBound, asIntOf, run_underlying T.und, run_sizeOf T.size]
        rw [if_pos (by omega)]
        simp only [Addr.add]
        by_cases h : i * Elt.sz α = 0
        · simp [h]
        · simp [h]
      rw [h3] at h2
      cases h2
      rfl
    subst hu
    have ht1 : cur.toList.take (i * Elt.sz α) = (l.take i).flatMap Flat.enc := by
      have hl1 : (l.take i).length = i := by rw [List.length_take]; omega
      have e1 : ((l.take i).flatMap Flat.enc : List Value).length = i * Elt.sz α := by rw [flat_len, hl1]
      have e2 : (l.flatMap Flat.enc : List Value) = (l.take i).flatMap Flat.enc ++ (l.drop i).flatMap Flat.enc := by rw [← List.flatMap_append, List.take_append_drop]
      rw [← e1]
      have e3 : cur.toList.take ((l.take i).flatMap Flat.enc : List Value).length = (cur.toList.take (l.length * Elt.sz α)).take ((l.take i).flatMap Flat.enc : List Value).length := by
        rw [List.take_take, e1, Nat.min_eq_left (Nat.mul_le_mul_right _ (by omega))]
      rw [e3, htake, e2, List.take_left]
    have hcl : ∀ ty, ∃ cs : Array Value, (Builtin.clear_ #[t] ty #[.slice (if cap = i then some ⟨g, 0, none⟩ else some ⟨g, i * Elt.sz α, none⟩) (l.length - i) (cap - i)]).run P w = .ok (.tuple #[]) (w.setRow g cs) /\ cs.size = cur.size /\ cs.toList.take (i * Elt.sz α) = cur.toList.take (i * Elt.sz α) := fun ty =>
      clear_behind (cap := cap) T hz hg (by omega) hcs _ (fun h => by rw [if_neg (by omega)])
    obtain ⟨cs, r1, r2, r3⟩ := hcl ty
    refine s_any (v := .tuple #[]) (w' := w.setRow g cs) ?_ (kk (.slice (some ⟨g, 0, none⟩) i cap) _ (fun w => slice_hi T.und T.size h1 hc) rfl rfl ?_)
    · simp [execOp, resolve, invoke, builtin, hx, r1]
    · refine H.own (B := 0) (v' := .slice (some ⟨g, 0, none⟩) i cap) (l' := l.take i) hk ?_ ⟨rfl, rfl, by simp, fun b _ hne => setRow_other w g b _ (fun e => hne (by rw [e]; rfl)), fun g' hg' => (ho.lt g' hg').1, frozen_setRow w g _⟩ (fun _ _ h => h) rfl
      refine ⟨by rw [flat_len], .inr ⟨g, cap, cs, by rw [List.length_take, Nat.min_eq_left h1], hb, setRow_heap _ _ _ _ _ _ hg, by rw [List.length_take]; omega, hm, by rw [r2]; exact hcs, ?_⟩⟩
      rw [List.length_take, Nat.min_eq_left h1, r3, ht1]
end
end Go.Nm
namespace Go.Nm
open Go
universe u
theorem qy1 {p : Prop} [Decidable p] : (decide p = true) = p := decide_eq_true_eq
theorem qy2 {p : Prop} [Decidable p] : (decide p = false) ↔ ¬p := decide_eq_false_iff_not
theorem qy3 {α : Type _} [BEq α] [LawfulBEq α] {a b : α} : (a == b) = true ↔ a = b := beq_iff_eq
theorem qy4 {α : Type _} [BEq α] [LawfulBEq α] {a b : α} : (a != b) = true ↔ a ≠ b := bne_iff_ne
theorem qy5 {α : Type _} [BEq α] [LawfulBEq α] {a b : α} : (a == b) = false ↔ a ≠ b := beq_eq_false_iff_ne
theorem qy6 {α : Type _} [BEq α] [LawfulBEq α] {a b : α} : (a != b) = false ↔ a = b := bne_eq_false_iff_eq
theorem qy7 {p : Prop} [Decidable p] : ¬¬p ↔ p := Decidable.not_not
abbrev Pq (b : Nat) : Value := .pointer (some ⟨b, 0, none⟩)
abbrev Oq (b o : Nat) : Value := .pointer (some ⟨b, o, none⟩)
class NthR {α : Type u} (l : List α) (i : Nat) (x : outParam α) : Prop where
  is : l[i]? = some x
instance {α : Type u} {l : List α} {x : α} : NthR (x :: l) 0 x := ⟨rfl⟩
instance {α : Type u} {l : List α} {x y : α} {i : Nat} [h : NthR l i x] : NthR (y :: l) (i + 1) x := ⟨h.is⟩
instance (priority := high) {α : Type u} {l : List α} {x a b c d : α} {i : Nat} [h : NthR l i x] : NthR (a :: b :: c :: d :: l) (i + 4) x := ⟨h.is⟩
class PickR {α : Type u} (l : List α) (i : List Nat) (o : outParam (List α)) : Prop where
  is : i.mapM (fun j => l[j]?) = some o
instance {α : Type u} {l : List α} : PickR l [] [] := ⟨rfl⟩
instance {α : Type u} {l o : List α} {i : Nat} {is : List Nat} {x : α} [h : NthR l i x] [k : PickR l is o] : PickR l (i :: is) (x :: o) := ⟨by rw [List.mapM_cons, h.is, k.is]; rfl⟩
class AppR {α : Type u} (a b : List α) (o : outParam (List α)) : Prop where
  is : a ++ b = o
instance {α : Type u} {b : List α} : AppR [] b b := ⟨rfl⟩
instance {α : Type u} {x : α} {a b o : List α} [h : AppR a b o] : AppR (x :: a) b (x :: o) := ⟨by rw [List.cons_append, h.is]⟩
class LenR {α : Type u} (l : List α) (n : Nat) : Prop where
  is : l.length = n
instance {α : Type u} : LenR ([] : List α) 0 := ⟨rfl⟩
instance {α : Type u} {l : List α} {x : α} {n : Nat} [h : LenR l n] : LenR (x :: l) (n + 1) := ⟨by rw [List.length_cons, h.is]⟩
class EndR {α : Type u} (n : Nat) (l : List α) (a b : outParam (List α)) : Prop where
  is : a ++ b = l
instance (priority := low) {α : Type u} {x : α} {n : Nat} {l a b : List α} [h : EndR n l a b] : EndR n (x :: l) (x :: a) b := ⟨by rw [List.cons_append, h.is]⟩
instance {α : Type u} {n : Nat} {l : List α} [LenR l n] : EndR n l [] l := ⟨rfl⟩
class SetR {α : Type u} (l : List α) (k : Nat) (x : α) (o : outParam (List α)) : Prop where
  is : l.set k x = o
instance {α : Type u} {l : List α} {x y : α} : SetR (y :: l) 0 x (x :: l) := ⟨rfl⟩
instance {α : Type u} {l o : List α} {x y : α} {k : Nat} [h : SetR l k x o] : SetR (y :: l) (k + 1) x (y :: o) := ⟨by rw [List.set_cons_succ, h.is]⟩
class NfR {α : Type u} (l : List α) (o : outParam (List α)) : Prop where
  is : l = o
instance {α : Type u} : NfR ([] : List α) [] := ⟨rfl⟩
instance {α : Type u} {x : α} {l o : List α} [h : NfR l o] : NfR (x :: l) (x :: o) := ⟨by rw [← h.is]⟩
instance {α : Type u} {l o p : List α} {k : Nat} {x : α} [h : NfR l o] [s : SetR o k x p] : NfR (l.set k x) p := ⟨by rw [h.is, s.is]⟩
instance {α : Type u} {a b a' b' o : List α} [h : NfR a a'] [h' : NfR b b'] [s : AppR a' b' o] : NfR (a ++ b) o := ⟨by rw [h.is, h'.is, s.is]⟩
instance {α : Type u} {x : α} {l o : List α} [h : NfR l o] : NfR ((x :: l).eraseIdx 0) o := ⟨by rw [← h.is]; rfl⟩
instance {α : Type u} {x : α} {l o : List α} {k : Nat} [h : NfR (l.eraseIdx k) o] : NfR ((x :: l).eraseIdx (k + 1)) (x :: o) := ⟨by rw [List.eraseIdx_cons_succ, h.is]⟩
class OverR {α : Type u} (cs : List α) (off : Nat) (vs : List α) (o : outParam (List α)) : Prop where
  is : cs.take off ++ vs ++ cs.drop (off + vs.length) = o
instance {α : Type u} {cs : List α} : OverR cs 0 [] cs := ⟨by simp⟩
instance {α : Type u} {c v : α} {cs vs o : List α} [h : OverR cs 0 vs o] : OverR (c :: cs) 0 (v :: vs) (v :: o) := ⟨by
  have := h.is
  simp only [List.take_zero, List.nil_append, Nat.zero_add] at this ⊢
  simp [this]⟩
instance {α : Type u} {c : α} {cs vs o : List α} {n : Nat} [h : OverR cs n vs o] : OverR (c :: cs) (n + 1) vs (c :: o) := ⟨by
  have := h.is
  rw [List.take_succ_cons, show n + 1 + vs.length = n + vs.length + 1 by omega, List.drop_succ_cons, List.cons_append, List.cons_append, this]⟩
section
variable {w0 w w' : World} {L L' L1 R A T : List Chunk}
theorem St.os {α : Type} [Flat α] {e : TypeId} {v : Value} {l : List α} (h : St w0 w L R) (k : Nat) [n : NthR L k (cOwn e v l)] : Sl (rowC v (l.flatMap Flat.enc)) v l := ownSl (h.get n.is)
theorem St.ol {α : Type} [Flat α] {e : TypeId} {v : Value} {l : List α} (h : St w0 w L R) (k : Nat) [n : NthR L k (cOwn e v l)] : (rowC v (l.flatMap Flat.enc)).Le w.cell? := ownLe w (h.get n.is)
theorem rdo {α : Type} [Flat α] {e : TypeId} {v : Value} {l : List α} (k : Nat) [n : NthR L k (cOwn e v l)] : Reads (L ++ R) (rowC v (l.flatMap Flat.enc)) := Reads.of n.is ownLe
theorem St.bl {b : Nat} {cs : List Value} {t : TypeId} (h : St w0 w L R) (k : Nat) [n : NthR L k (cBlk b cs t)] : w.heap[b]? = some (.cells cs.toArray t (0, 0)) := h.blk n.is
theorem St.nf (h : St w0 w L R) [n : NfR L L'] : St w0 w L' R := by
  have := n.is
  subst this
  exact h
theorem St.pk (h : St w0 w L R) (i : List Nat) [n : NfR L L1] [p : PickR L1 i L'] (hn : i.Nodup := by decide) : St w0 w L' R := h.nf.pick i hn p.is
theorem St.bk (h : St w0 w L R) (h' : St w w' A (T ++ R)) [a : NfR (A ++ T) L'] : St w0 w' L' R := h.back h' a.is
theorem St.gt (h : St w0 w L R) (k : Nat) [n : NfR L L1] [s : EndR k L1 A T] : St w w A (T ++ R) := h.nf.give s.is
end
section
variable {P : Program} {all rest : List Oper} {Q : Post} {σ : Env} {w0 w : World} {L L' R : List Chunk} {ty : TypeId} {pos : String} {af : Array Edge}
theorem zM {d : Nat} {x : Operand} (v : Value) (h : ev σ x = v) (k : SL P all Q rest (upd σ d v) w) : SL P all Q (⟨some d, .move x, ty, pos, af, none⟩ :: rest) σ w := s_val (x_mv h) k
theorem zA {d : Nat} {x : Operand} (v : Value) (h : ev σ x = v) (k : SL P all Q rest (upd σ d v) w) : SL P all Q (⟨some d, .assign x, ty, pos, af, none⟩ :: rest) σ w := s_val (x_as h) k
theorem zC {d : Nat} {op : BinOp} {t yt : TypeId} {x y : Operand} (a b : Int) (r : Bool) (hx : ev σ x = .int .i64 a) (hy : ev σ y = .int .i64 b) (hr : cmpV op a b = some r) (k : SL P all Q rest (upd σ d (.bool r)) w) : SL P all Q (⟨some d, .binOp op t x y yt, ty, pos, af, none⟩ :: rest) σ w := s_val (x_cmp hx hy hr) k
theorem zR {d : Nat} {op : BinOp} {t yt : TypeId} {x y : Operand} (a b r : Int) (hx : ev σ x = .int .i64 a) (hy : ev σ y = .int .i64 b) (hr : ariV op a b = some r) (h : -9223372036854775808 <= r /\ r <= 9223372036854775807) (k : SL P all Q rest (upd σ d (.int .i64 r)) w) : SL P all Q (⟨some d, .binOp op t x y yt, ty, pos, af, none⟩ :: rest) σ w := s_val (x_ari hx hy hr h) k
theorem zX {d i : Nat} {x : Operand} (vs : List Value) (v : Value) (h : ev σ x = .tuple vs.toArray) (hv : vs[i]? = some v) (k : SL P all Q rest (upd σ d v) w) : SL P all Q (⟨some d, .extract x i, ty, pos, af, none⟩ :: rest) σ w := s_val (x_ext h hv) k
theorem t_sw {dst : Option Nat} {t : TypeId} {x y : Operand} {b n : Nat} {cs cs' : List Value} {et : TypeId} (k off : Nat) (vs : List Value) (v : Value) (H : St w0 w L R) [hk : NthR L k (cBlk b cs et)] [hc : OverR cs off vs cs'] [hL : SetR L k (cBlk b cs' et) L'] (hx : ev σ x = .pointer (some ⟨b, off, none⟩)) (hy : ev σ y = v)
    (hs : (P.info? t).map (·.size) = some n) (hv : v.cells = vs.toArray) (hn : vs.length = n) (hl : Nat.ble (off + n) cs.length = true) (h1 : vs.all (·.oneCell') = true)
    (kk : ∀ w', St w0 w' L' R -> SL P all Q rest (updo σ dst undef) w') : SL P all Q (⟨dst, .store t x y, ty, pos, af, none⟩ :: rest) σ w :=
  t_st H hk.is hx hy hs hv hn hl h1 (by rw [← hn]; exact hc.is) hL.is kk
end
end Go.Nm
namespace Go.Nm
open Go
section
variable {P : Program} {w : World} {σ : Env} {d : Nat} {ty : TypeId} {pos : String} {af : Array Edge} {g : Option (Nat × Bool)}
theorem x_pand0 {c x y : Operand} {b : Bool} (hc : ev σ c = .bool b) (hx : b = true -> ev σ x = .bool false) (hy : ev σ y = .bool false) :
    (execOp (ev σ) ⟨some d, .pick c x y, ty, pos, af, g⟩).run P w = .ok (.value (.bool false)) w := by
  have := x_pand (P := P) (w := w) (d := d) (ty := ty) (pos := pos) (af := af) (g := g) hc hx hy
  rwa [Bool.and_false] at this
end
end Go.Nm
namespace Go.Proofs.Ytbaehghammbjdaa
open Go Go.Nm
theorem cf8 : CF Try.prog 8 := ⟨_, Try.func8, rfl, by decide +kernel⟩
theorem cf9 : CF Try.prog 9 := ⟨_, Try.func9, rfl, by decide +kernel⟩
theorem cf10 : CF Try.prog 10 := ⟨_, Try.func10, rfl, by decide +kernel⟩
theorem cf11 : CF Try.prog 11 := ⟨_, Try.func11, rfl, by decide +kernel⟩
theorem cf12 : CF Try.prog 12 := ⟨_, Try.func12, rfl, by decide +kernel⟩
theorem cf13 : CF Try.prog 13 := ⟨_, Try.func13, rfl, by decide +kernel⟩
theorem cf15 : CF Try.prog 15 := ⟨_, Try.func15, rfl, by decide +kernel⟩
theorem cf17 : CF Try.prog 17 := ⟨_, Try.func17, rfl, by decide +kernel⟩
theorem cf18 : CF Try.prog 18 := ⟨_, Try.func18, rfl, by decide +kernel⟩
theorem cf22 : CF Try.prog 22 := ⟨_, Try.func22, rfl, by decide +kernel⟩
theorem cf23 : CF Try.prog 23 := ⟨_, Try.func23, rfl, by decide +kernel⟩
theorem cf24 : CF Try.prog 24 := ⟨_, Try.func24, rfl, by decide +kernel⟩
theorem cf25 : CF Try.prog 25 := ⟨_, Try.func25, rfl, by decide +kernel⟩
theorem cf26 : CF Try.prog 26 := ⟨_, Try.func26, rfl, by decide +kernel⟩
theorem cf27 : CF Try.prog 27 := ⟨_, Try.func27, rfl, by decide +kernel⟩
theorem cf28 : CF Try.prog 28 := ⟨_, Try.func28, rfl, by decide +kernel⟩
theorem cf31 : CF Try.prog 31 := ⟨_, Try.func31, rfl, by decide +kernel⟩
theorem cf32 : CF Try.prog 32 := ⟨_, Try.func32, rfl, by decide +kernel⟩
theorem cf33 : CF Try.prog 33 := ⟨_, Try.func33, rfl, by decide +kernel⟩
theorem cf34 : CF Try.prog 34 := ⟨_, Try.func34, rfl, by decide +kernel⟩
theorem cf35 : CF Try.prog 35 := ⟨_, Try.func35, rfl, by decide +kernel⟩
theorem cf36 : CF Try.prog 36 := ⟨_, Try.func36, rfl, by decide +kernel⟩
theorem cf37 : CF Try.prog 37 := ⟨_, Try.func37, rfl, by decide +kernel⟩
theorem cf38 : CF Try.prog 38 := ⟨_, Try.func38, rfl, by decide +kernel⟩
theorem cf39 : CF Try.prog 39 := ⟨_, Try.func39, rfl, by decide +kernel⟩
theorem cf40 : CF Try.prog 40 := ⟨_, Try.func40, rfl, by decide +kernel⟩
theorem cf41 : CF Try.prog 41 := ⟨_, Try.func41, rfl, by decide +kernel⟩
theorem cf42 : CF Try.prog 42 := ⟨_, Try.func42, rfl, by decide +kernel⟩
theorem cf43 : CF Try.prog 43 := ⟨_, Try.func43, rfl, by decide +kernel⟩
theorem cf44 : CF Try.prog 44 := ⟨_, Try.func44, rfl, by decide +kernel⟩
theorem cf45 : CF Try.prog 45 := ⟨_, Try.func45, rfl, by decide +kernel⟩
theorem cf46 : CF Try.prog 46 := ⟨_, Try.func46, rfl, by decide +kernel⟩
theorem cf47 : CF Try.prog 47 := ⟨_, Try.func47, rfl, by decide +kernel⟩
theorem cf49 : CF Try.prog 49 := ⟨_, Try.func49, rfl, by decide +kernel⟩
theorem cf50 : CF Try.prog 50 := ⟨_, Try.func50, rfl, by decide +kernel⟩
theorem cf51 : CF Try.prog 51 := ⟨_, Try.func51, rfl, by decide +kernel⟩
theorem cf52 : CF Try.prog 52 := ⟨_, Try.func52, rfl, by decide +kernel⟩
theorem cf53 : CF Try.prog 53 := ⟨_, Try.func53, rfl, by decide +kernel⟩
theorem cf54 : CF Try.prog 54 := ⟨_, Try.func54, rfl, by decide +kernel⟩
theorem cf55 : CF Try.prog 55 := ⟨_, Try.func55, rfl, by decide +kernel⟩
theorem cf56 : CF Try.prog 56 := ⟨_, Try.func56, rfl, by decide +kernel⟩
theorem cf57 : CF Try.prog 57 := ⟨_, Try.func57, rfl, by decide +kernel⟩
theorem cf58 : CF Try.prog 58 := ⟨_, Try.func58, rfl, by decide +kernel⟩
theorem cf59 : CF Try.prog 59 := ⟨_, Try.func59, rfl, by decide +kernel⟩
theorem cf60 : CF Try.prog 60 := ⟨_, Try.func60, rfl, by decide +kernel⟩
theorem cf62 : CF Try.prog 62 := ⟨_, Try.func62, rfl, by decide +kernel⟩
theorem cf63 : CF Try.prog 63 := ⟨_, Try.func63, rfl, by decide +kernel⟩
theorem cf64 : CF Try.prog 64 := ⟨_, Try.func64, rfl, by decide +kernel⟩
theorem cf65 : CF Try.prog 65 := ⟨_, Try.func65, rfl, by decide +kernel⟩
theorem cf66 : CF Try.prog 66 := ⟨_, Try.func66, rfl, by decide +kernel⟩
theorem cf67 : CF Try.prog 67 := ⟨_, Try.func67, rfl, by decide +kernel⟩
theorem cf68 : CF Try.prog 68 := ⟨_, Try.func68, rfl, by decide +kernel⟩
theorem cf69 : CF Try.prog 69 := ⟨_, Try.func69, rfl, by decide +kernel⟩
theorem cf70 : CF Try.prog 70 := ⟨_, Try.func70, rfl, by decide +kernel⟩
theorem cf71 : CF Try.prog 71 := ⟨_, Try.func71, rfl, by decide +kernel⟩
theorem cf72 : CF Try.prog 72 := ⟨_, Try.func72, rfl, by decide +kernel⟩
theorem cf73 : CF Try.prog 73 := ⟨_, Try.func73, rfl, by decide +kernel⟩
theorem cf74 : CF Try.prog 74 := ⟨_, Try.func74, rfl, by decide +kernel⟩
theorem cf75 : CF Try.prog 75 := ⟨_, Try.func75, rfl, by decide +kernel⟩
theorem cf76 : CF Try.prog 76 := ⟨_, Try.func76, rfl, by decide +kernel⟩
theorem cf77 : CF Try.prog 77 := ⟨_, Try.func77, rfl, by decide +kernel⟩
theorem cf78 : CF Try.prog 78 := ⟨_, Try.func78, rfl, by decide +kernel⟩
theorem cf79 : CF Try.prog 79 := ⟨_, Try.func79, rfl, by decide +kernel⟩
theorem cf80 : CF Try.prog 80 := ⟨_, Try.func80, rfl, by decide +kernel⟩
theorem cf81 : CF Try.prog 81 := ⟨_, Try.func81, rfl, by decide +kernel⟩
theorem cf82 : CF Try.prog 82 := ⟨_, Try.func82, rfl, by decide +kernel⟩
theorem cf83 : CF Try.prog 83 := ⟨_, Try.func83, rfl, by decide +kernel⟩
theorem cf84 : CF Try.prog 84 := ⟨_, Try.func84, rfl, by decide +kernel⟩
theorem cf85 : CF Try.prog 85 := ⟨_, Try.func85, rfl, by decide +kernel⟩
theorem cf86 : CF Try.prog 86 := ⟨_, Try.func86, rfl, by decide +kernel⟩
theorem cf87 : CF Try.prog 87 := ⟨_, Try.func87, rfl, by decide +kernel⟩
theorem cf90 : CF Try.prog 90 := ⟨_, Try.func90, rfl, by decide +kernel⟩
theorem cf91 : CF Try.prog 91 := ⟨_, Try.func91, rfl, by decide +kernel⟩
theorem cf92 : CF Try.prog 92 := ⟨_, Try.func92, rfl, by decide +kernel⟩
theorem cf104 : CF Try.prog 104 := ⟨_, Try.func104, rfl, by decide +kernel⟩
theorem cf110 : CF Try.prog 110 := ⟨_, Try.func110, rfl, by decide +kernel⟩
theorem T22 : SlT Try.prog 22 5 1 1 (.int .u8 0) := ⟨Try.underlying22, by kernel_rfl, rfl, by decide⟩
theorem T23 : SlT Try.prog 23 3 1 8 (I 0) := ⟨Try.underlying23, by kernel_rfl, rfl, by decide⟩
theorem T24 : SlT Try.prog 24 27 2 16 (.agg #[I 0, I 0]) := ⟨Try.underlying24, by kernel_rfl, rfl, by decide⟩
theorem T25 : SlT Try.prog 25 54 3 24 (.agg #[I 0, I 0, I 0]) := ⟨Try.underlying25, by kernel_rfl, rfl, by decide⟩
theorem T28 : SlT Try.prog 28 67 2 32 (.agg #[I 0, .slice none 0 0]) := ⟨Try.underlying28, by kernel_rfl, rfl, by decide⟩
theorem T57 : SlT Try.prog 57 62 2 16 (.agg #[I 0, I 0]) := ⟨Try.underlying57, by kernel_rfl, rfl, by decide⟩
theorem Sc3 : isSc (Try.prog.underlying 3) = true := by rw [Try.underlying3]; rfl
theorem Sc4 : isSc (Try.prog.underlying 4) = true := by rw [Try.underlying4]; rfl
theorem Sc5 : isSc (Try.prog.underlying 5) = true := by rw [Try.underlying5]; rfl
theorem Sc22 : isSc (Try.prog.underlying 22) = true := by rw [Try.underlying22]; rfl
theorem Sc23 : isSc (Try.prog.underlying 23) = true := by rw [Try.underlying23]; rfl
theorem Sc24 : isSc (Try.prog.underlying 24) = true := by rw [Try.underlying24]; rfl
theorem Sc25 : isSc (Try.prog.underlying 25) = true := by rw [Try.underlying25]; rfl
theorem Sc28 : isSc (Try.prog.underlying 28) = true := by rw [Try.underlying28]; rfl
theorem Sc72 : isSc (Try.prog.underlying 72) = true := by rw [Try.underlying72]; rfl
theorem Sc80 : isSc (Try.prog.underlying 80) = true := by rw [Try.underlying80]; rfl
theorem Sc84 : isSc (Try.prog.underlying 84) = true := by rw [Try.underlying84]; rfl
theorem Sc89 : isSc (Try.prog.underlying 89) = true := by rw [Try.underlying89]; rfl
theorem Sc105 : isSc (Try.prog.underlying 105) = true := by rw [Try.underlying105]; rfl
theorem Sc106 : isSc (Try.prog.underlying 106) = true := by rw [Try.underlying106]; rfl
theorem Sc111 : isSc (Try.prog.underlying 111) = true := by rw [Try.underlying111]; rfl
theorem Sc114 : isSc (Try.prog.underlying 114) = true := by rw [Try.underlying114]; rfl
theorem Sz3 : (Try.prog.info? 3).map (·.size) = some 1 := by kernel_rfl
theorem Sz4 : (Try.prog.info? 4).map (·.size) = some 1 := by kernel_rfl
theorem Sz22 : (Try.prog.info? 22).map (·.size) = some 1 := by kernel_rfl
theorem Sz23 : (Try.prog.info? 23).map (·.size) = some 1 := by kernel_rfl
theorem Sz24 : (Try.prog.info? 24).map (·.size) = some 1 := by kernel_rfl
theorem Sz25 : (Try.prog.info? 25).map (·.size) = some 1 := by kernel_rfl
theorem Ag27 : isAg (Try.prog.underlying 27) = true := by rw [Try.underlying27]; rfl
theorem Sz27 : (Try.prog.info? 27).map (·.size) = some 2 := by kernel_rfl
theorem Sz28 : (Try.prog.info? 28).map (·.size) = some 1 := by kernel_rfl
theorem Ag30 : isAg (Try.prog.underlying 30) = true := by rw [Try.underlying30]; rfl
theorem Sz30 : (Try.prog.info? 30).map (·.size) = some 7 := by kernel_rfl
theorem Ag54 : isAg (Try.prog.underlying 54) = true := by rw [Try.underlying54]; rfl
theorem Sz54 : (Try.prog.info? 54).map (·.size) = some 3 := by kernel_rfl
theorem Ag62 : isAg (Try.prog.underlying 62) = true := by rw [Try.underlying62]; rfl
theorem Sz62 : (Try.prog.info? 62).map (·.size) = some 2 := by kernel_rfl
theorem Ag67 : isAg (Try.prog.underlying 67) = true := by rw [Try.underlying67]; rfl
theorem Sz67 : (Try.prog.info? 67).map (·.size) = some 2 := by kernel_rfl
theorem Sz72 : (Try.prog.info? 72).map (·.size) = some 1 := by kernel_rfl
theorem Ag74 : isAg (Try.prog.underlying 74) = true := by rw [Try.underlying74]; rfl
theorem Sz74 : (Try.prog.info? 74).map (·.size) = some 12 := by kernel_rfl
theorem Ag79 : isAg (Try.prog.underlying 79) = true := by rw [Try.underlying79]; rfl
theorem Sz79 : (Try.prog.info? 79).map (·.size) = some 3 := by kernel_rfl
theorem Sz80 : (Try.prog.info? 80).map (·.size) = some 1 := by kernel_rfl
theorem Sz84 : (Try.prog.info? 84).map (·.size) = some 1 := by kernel_rfl
theorem Sz106 : (Try.prog.info? 106).map (·.size) = some 1 := by kernel_rfl
theorem Sz114 : (Try.prog.info? 114).map (·.size) = some 1 := by kernel_rfl
theorem Fd27_0 : (Try.prog.underlying 27).bind (fun d => match d with | .struct fs => (fs[0]?).map (fun f => (f.offset, f.type)) | _ => none) = some (0, 3) := by rw [Try.underlying27]; rfl
theorem Fd27_1 : (Try.prog.underlying 27).bind (fun d => match d with | .struct fs => (fs[1]?).map (fun f => (f.offset, f.type)) | _ => none) = some (1, 3) := by rw [Try.underlying27]; rfl
theorem Fd30_0 : (Try.prog.underlying 30).bind (fun d => match d with | .struct fs => (fs[0]?).map (fun f => (f.offset, f.type)) | _ => none) = some (0, 23) := by rw [Try.underlying30]; rfl
theorem Fd30_1 : (Try.prog.underlying 30).bind (fun d => match d with | .struct fs => (fs[1]?).map (fun f => (f.offset, f.type)) | _ => none) = some (1, 24) := by rw [Try.underlying30]; rfl
theorem Fd30_2 : (Try.prog.underlying 30).bind (fun d => match d with | .struct fs => (fs[2]?).map (fun f => (f.offset, f.type)) | _ => none) = some (2, 23) := by rw [Try.underlying30]; rfl
theorem Fd30_3 : (Try.prog.underlying 30).bind (fun d => match d with | .struct fs => (fs[3]?).map (fun f => (f.offset, f.type)) | _ => none) = some (3, 25) := by rw [Try.underlying30]; rfl
theorem Fd30_4 : (Try.prog.underlying 30).bind (fun d => match d with | .struct fs => (fs[4]?).map (fun f => (f.offset, f.type)) | _ => none) = some (4, 27) := by rw [Try.underlying30]; rfl
theorem Fd30_5 : (Try.prog.underlying 30).bind (fun d => match d with | .struct fs => (fs[5]?).map (fun f => (f.offset, f.type)) | _ => none) = some (6, 28) := by rw [Try.underlying30]; rfl
theorem Fd54_0 : (Try.prog.underlying 54).bind (fun d => match d with | .struct fs => (fs[0]?).map (fun f => (f.offset, f.type)) | _ => none) = some (0, 3) := by rw [Try.underlying54]; rfl
theorem Fd54_1 : (Try.prog.underlying 54).bind (fun d => match d with | .struct fs => (fs[1]?).map (fun f => (f.offset, f.type)) | _ => none) = some (1, 3) := by rw [Try.underlying54]; rfl
theorem Fd54_2 : (Try.prog.underlying 54).bind (fun d => match d with | .struct fs => (fs[2]?).map (fun f => (f.offset, f.type)) | _ => none) = some (2, 3) := by rw [Try.underlying54]; rfl
theorem Fd62_0 : (Try.prog.underlying 62).bind (fun d => match d with | .struct fs => (fs[0]?).map (fun f => (f.offset, f.type)) | _ => none) = some (0, 3) := by rw [Try.underlying62]; rfl
theorem Fd62_1 : (Try.prog.underlying 62).bind (fun d => match d with | .struct fs => (fs[1]?).map (fun f => (f.offset, f.type)) | _ => none) = some (1, 3) := by rw [Try.underlying62]; rfl
theorem Fd67_0 : (Try.prog.underlying 67).bind (fun d => match d with | .struct fs => (fs[0]?).map (fun f => (f.offset, f.type)) | _ => none) = some (0, 3) := by rw [Try.underlying67]; rfl
theorem Fd67_1 : (Try.prog.underlying 67).bind (fun d => match d with | .struct fs => (fs[1]?).map (fun f => (f.offset, f.type)) | _ => none) = some (1, 23) := by rw [Try.underlying67]; rfl
theorem Fd71_0 : (Try.prog.underlying 71).bind (fun d => match d with | .struct fs => (fs[0]?).map (fun f => (f.offset, f.type)) | _ => none) = some (0, 22) := by rw [Try.underlying71]; rfl
theorem Fd71_1 : (Try.prog.underlying 71).bind (fun d => match d with | .struct fs => (fs[1]?).map (fun f => (f.offset, f.type)) | _ => none) = some (1, 3) := by rw [Try.underlying71]; rfl
theorem Fd71_2 : (Try.prog.underlying 71).bind (fun d => match d with | .struct fs => (fs[2]?).map (fun f => (f.offset, f.type)) | _ => none) = some (2, 3) := by rw [Try.underlying71]; rfl
theorem Fd79_0 : (Try.prog.underlying 79).bind (fun d => match d with | .struct fs => (fs[0]?).map (fun f => (f.offset, f.type)) | _ => none) = some (0, 3) := by rw [Try.underlying79]; rfl
theorem Fd79_1 : (Try.prog.underlying 79).bind (fun d => match d with | .struct fs => (fs[1]?).map (fun f => (f.offset, f.type)) | _ => none) = some (1, 3) := by rw [Try.underlying79]; rfl
theorem Fd79_2 : (Try.prog.underlying 79).bind (fun d => match d with | .struct fs => (fs[2]?).map (fun f => (f.offset, f.type)) | _ => none) = some (2, 4) := by rw [Try.underlying79]; rfl
theorem Fd82_0 : (Try.prog.underlying 82).bind (fun d => match d with | .struct fs => (fs[0]?).map (fun f => (f.offset, f.type)) | _ => none) = some (0, 80) := by rw [Try.underlying82]; rfl
theorem Fd86_0 : (Try.prog.underlying 86).bind (fun d => match d with | .struct fs => (fs[0]?).map (fun f => (f.offset, f.type)) | _ => none) = some (0, 30) := by rw [Try.underlying86]; rfl
theorem Fd86_1 : (Try.prog.underlying 86).bind (fun d => match d with | .struct fs => (fs[1]?).map (fun f => (f.offset, f.type)) | _ => none) = some (7, 84) := by rw [Try.underlying86]; rfl
theorem Al3 : (Try.prog.info? 3).map (·.zero) = some (some (I 0)) := by kernel_rfl
theorem Al4 : (Try.prog.info? 4).map (·.zero) = some (some (B false)) := by kernel_rfl
theorem Al23 : (Try.prog.info? 23).map (·.zero) = some (some (.slice none 0 0)) := by kernel_rfl
theorem Al24 : (Try.prog.info? 24).map (·.zero) = some (some (.slice none 0 0)) := by kernel_rfl
theorem Al27 : (Try.prog.info? 27).map (·.zero) = some (some (.agg #[I 0, I 0])) := by kernel_rfl
theorem Al30 : (Try.prog.info? 30).map (·.zero) = some (some (.agg #[.slice none 0 0, .slice none 0 0, .slice none 0 0, .slice none 0 0, I 0, I 0, .slice none 0 0])) := by kernel_rfl
theorem Al54 : (Try.prog.info? 54).map (·.zero) = some (some (.agg #[I 0, I 0, I 0])) := by kernel_rfl
theorem Al62 : (Try.prog.info? 62).map (·.zero) = some (some (.agg #[I 0, I 0])) := by kernel_rfl
theorem Al67 : (Try.prog.info? 67).map (·.zero) = some (some (.agg #[I 0, .slice none 0 0])) := by kernel_rfl
theorem Al71 : (Try.prog.info? 71).map (·.zero) = some (some (.agg #[.slice none 0 0, I 0, I 0])) := by kernel_rfl
theorem Al72 : (Try.prog.info? 72).map (·.zero) = some (some (.pointer none)) := by kernel_rfl
theorem Al74 : (Try.prog.info? 74).map (·.zero) = some (some (.agg #[B false, B false, B false, B false, B false, B false, B false, B false, B false, B false, B false, B false])) := by kernel_rfl
theorem Al79 : (Try.prog.info? 79).map (·.zero) = some (some (.agg #[I 0, I 0, B false])) := by kernel_rfl
theorem Al80 : (Try.prog.info? 80).map (·.zero) = some (some (.nilFunc)) := by kernel_rfl
theorem Al82 : (Try.prog.info? 82).map (·.zero) = some (some (.agg #[.nilFunc])) := by kernel_rfl
theorem Al86 : (Try.prog.info? 86).map (·.zero) = some (some (.agg #[.slice none 0 0, .slice none 0 0, .slice none 0 0, .slice none 0 0, I 0, I 0, .slice none 0 0, .map none])) := by kernel_rfl
theorem Al106 : (Try.prog.info? 106).map (·.zero) = some (some (.nilFunc)) := by kernel_rfl
theorem Al114 : (Try.prog.info? 114).map (·.zero) = some (some (.nilFunc)) := by kernel_rfl
theorem Bd27 {fs : Array Field} (h : Try.prog.underlying 27 = some (.struct fs)) : fs.toList.mapM (fun f => (Try.prog.info? f.type).map fun i => (f.offset, i.size)) = some [(0, 1), (1, 1)] := by rw [Try.underlying27] at h; simp only [Option.some.injEq, TypeDesc.struct.injEq] at h; subst h; kernel_rfl
theorem Bd30 {fs : Array Field} (h : Try.prog.underlying 30 = some (.struct fs)) : fs.toList.mapM (fun f => (Try.prog.info? f.type).map fun i => (f.offset, i.size)) = some [(0, 1), (1, 1), (2, 1), (3, 1), (4, 2), (6, 1)] := by rw [Try.underlying30] at h; simp only [Option.some.injEq, TypeDesc.struct.injEq] at h; subst h; kernel_rfl
theorem Bd54 {fs : Array Field} (h : Try.prog.underlying 54 = some (.struct fs)) : fs.toList.mapM (fun f => (Try.prog.info? f.type).map fun i => (f.offset, i.size)) = some [(0, 1), (1, 1), (2, 1)] := by rw [Try.underlying54] at h; simp only [Option.some.injEq, TypeDesc.struct.injEq] at h; subst h; kernel_rfl
theorem Bd62 {fs : Array Field} (h : Try.prog.underlying 62 = some (.struct fs)) : fs.toList.mapM (fun f => (Try.prog.info? f.type).map fun i => (f.offset, i.size)) = some [(0, 1), (1, 1)] := by rw [Try.underlying62] at h; simp only [Option.some.injEq, TypeDesc.struct.injEq] at h; subst h; kernel_rfl
theorem Bd67 {fs : Array Field} (h : Try.prog.underlying 67 = some (.struct fs)) : fs.toList.mapM (fun f => (Try.prog.info? f.type).map fun i => (f.offset, i.size)) = some [(0, 1), (1, 1)] := by rw [Try.underlying67] at h; simp only [Option.some.injEq, TypeDesc.struct.injEq] at h; subst h; kernel_rfl
theorem Bd71 {fs : Array Field} (h : Try.prog.underlying 71 = some (.struct fs)) : fs.toList.mapM (fun f => (Try.prog.info? f.type).map fun i => (f.offset, i.size)) = some [(0, 1), (1, 1), (2, 1)] := by rw [Try.underlying71] at h; simp only [Option.some.injEq, TypeDesc.struct.injEq] at h; subst h; kernel_rfl
theorem Bd79 {fs : Array Field} (h : Try.prog.underlying 79 = some (.struct fs)) : fs.toList.mapM (fun f => (Try.prog.info? f.type).map fun i => (f.offset, i.size)) = some [(0, 1), (1, 1), (2, 1)] := by rw [Try.underlying79] at h; simp only [Option.some.injEq, TypeDesc.struct.injEq] at h; subst h; kernel_rfl
theorem Bd82 {fs : Array Field} (h : Try.prog.underlying 82 = some (.struct fs)) : fs.toList.mapM (fun f => (Try.prog.info? f.type).map fun i => (f.offset, i.size)) = some [(0, 1)] := by rw [Try.underlying82] at h; simp only [Option.some.injEq, TypeDesc.struct.injEq] at h; subst h; kernel_rfl
theorem Bd86 {fs : Array Field} (h : Try.prog.underlying 86 = some (.struct fs)) : fs.toList.mapM (fun f => (Try.prog.info? f.type).map fun i => (f.offset, i.size)) = some [(0, 7), (7, 1)] := by rw [Try.underlying86] at h; simp only [Option.some.injEq, TypeDesc.struct.injEq] at h; subst h; kernel_rfl
theorem mixed : Try.prog.follows .mixedOrders = true := by kernel_rfl

end Go.Proofs.Ytbaehghammbjdaa
namespace Go.Nm
open Go
abbrev encDm (d : Dem) : Value := .agg #[I d.spring, I d.town]
end Go.Nm
namespace Go.Proofs.Ytbaehghammbjdaa
open Go Go.Nm Go.Proofs
theorem findAskDm {ν : Type} (k : Dem) (w : World) : ∀ (es : List MapEntry) (m : List (Dem × ν)) (venc : ν -> Value) (j : Nat), es.map (fun e => (e.key, e.val)) = m.map (fun p => (encDm p.1, venc p.2)) →
    (Instr.findAsking 62 (encDm k) es j).run Try.prog w = .ok ((idxM m k).bind fun i => (es[i]?).map fun e => (i + j, e.val)) w
  | [], [], _, _, _ => rfl
  | [], _ :: _, _, _, h => by simp at h
  | _ :: _, [], _, _, h => by simp at h
  | e :: es, p :: m, venc, j, h => by
    simp only [List.map_cons, List.cons.injEq, Prod.mk.injEq] at h
    have ih := findAskDm k w es m venc (j + 1) h.2
    unfold Instr.findAsking
    rw [h.1.1]
    have he := eqT62 k p.1 w
    unfold idxM
    by_cases hp : p.1 = k
    · rw [if_pos hp]
      have : decide (k = p.1) = true := by simp [hp]
      rw [this] at he
      simp [Op.equal, Op.maxDepth, he]
    · rw [if_neg hp]
      have : decide (k = p.1) = false := by simp; exact fun e => hp e.symm
      rw [this] at he
      simp only [Op.equal, Op.maxDepth, Sem.run_bind, he, Result.andThen_ok, Bool.false_eq_true, if_false, ih]
      cases hi : idxM m k with
      | none => rfl
      | some i =>
        simp only [Option.map_some, Option.bind_some, List.getElem?_cons_succ]
        cases es[i]? with
        | none => rfl
        | some e' => simp; omega
theorem keyDem {ν : Type} : KeyL (ν := ν) Try.prog 62 encDm := by
  refine ⟨fun e w k => ?_, fun w es m venc k h => ?_, fun k => ?_⟩
  · have u3 := Try.underlying3
    have a3 := Try.isAgg3
    have z3 := Try.sizeOf3
    have h1 : ∀ (n : Nat) (x : Int), (Instr.checkKey e (n + 1) 3 (I x)).run Try.prog w = .ok () w := fun n x => MapKept.run_checkKey u3 (show MapKept.IsKey (.int .i64) (I x) from rfl) e n
    have key : ∀ n : Nat, (Instr.checkKey e (n + 1 + 1) 62 (encDm k)).run Try.prog w = .ok () w := by
      intro n
      rw [Instr.checkKey]
      simp only [Sem.run_bind, run_underlying Try.underlying62, Result.andThen_ok]
      rw [← Array.forIn_toList]
      simp only [List.forIn_cons, List.forIn_nil]
      go_simp
    exact key 9998
  · rw [run_findKey_eq w (by rw [Try.underlying62]), findAskDm k w es m venc 0 h]
    rfl
  · simp [Instr.sameBits]
end Go.Proofs.Ytbaehghammbjdaa
namespace Go.Nm
open Go
theorem x_eqnilA {P : Program} {w : World} {σ : Env} {d : Nat} {ty : TypeId} {pos : String} {af : Array Edge} {g : Option (Nat × Bool)} {t e yt : TypeId} {x y : Operand} {a : Option Addr} {n c : Nat} (ht : P.underlying t = some (.slice e)) (hx : ev σ x = .slice a n c) (hy : ev σ y = .slice none 0 0) :
    (execOp (ev σ) ⟨some d, .binOp .eql t x y yt, ty, pos, af, g⟩).run P w = .ok (.value (.bool a.isNone)) w := by
  simp [execOp, hx, hy, eqGuard, binOp, run_equal_slice_nil w t e a n c ht]
end Go.Nm
namespace Go.Proofs.Ytbaehghammbjdaa
open Go Go.Nm
set_option maxRecDepth 100000 in
theorem clone_any {R : List Chunk} {C_s : Cells} {v_s : Value} (s : List Int) (hC_s : Reads R C_s) (hs_s : Sl C_s v_s s) (hlen : s.length * 8 <= 140737488355328) (w : World) (hsep : Sep w R) :
    Ret Try.prog 53 #[v_s] w fun v w' => St w w' [cOwn (α := Int) 3 v s] R := by
 have H : St w w [] R := St.refl hsep
 obtain ⟨a, c, hv, hc, hm, hk⟩ := hs_s.ex
 refine ret_of_W Try.func53 rfl rfl rfl ?_
 refine W.seq ?_
 refine W.region rfl ?_
 refine s_val (x_as (v := .slice none 0 0) rfl) ?_
 refine s_nil ?_
 refine W.seq ?_
 refine W.seq ?_
 refine W.region rfl ?_
 refine s_val (x_mv (v := v_s) rfl) ?_
 refine s_val (v := B a.isNone) (x_eqnilA (a := a) (n := s.length) (c := c) Try.underlying23 hv rfl) ?_
 refine s_nil ?_
 refine W.cond a.isNone rfl (fun h => ?_) (fun h => ?_)
 ·have e : s = [] := by
   cases s with
   | nil => rfl
   | cons x s =>
    obtain ⟨b, o, cs, ha, _⟩ := hk 0 x rfl
    subst ha
    cases h
  subst e
  refine W.seq ?_
  refine W.region rfl ?_
  refine s_val (x_as (v := .slice none 0 0) rfl) ?_
  refine s_nil ?_
  refine W.ret ?_
  exact ⟨_, resE_tmp rfl, H.nilOwn (α := Int) 3⟩
 ·refine W.skip ?_
  refine W.seq ?_
  refine W.region rfl ?_
  refine t_bs0 (α := Int) T23 H ?_
  intro v3z w4z H
  refine s_val (x_mv (v := v_s) rfl) ?_
  refine t_app (α := Int) (k := 0) (l := []) (l2 := s) (l' := s) (vy := v_s) T23 rfl H rfl rfl rfl hs_s (hC_s.at H) (List.nil_append _) (by simp only [List.length_nil]; omega) ?_
  intro v6z w7z H
  refine s_val (x_as (v := v6z) rfl) ?_
  refine s_nil ?_
  refine W.ret ?_
  exact ⟨_, resE_tmp rfl, H⟩
end Go.Proofs.Ytbaehghammbjdaa
section
set_option maxRecDepth 100000
set_option maxHeartbeats 16000000
namespace Go.Proofs.Ytbaehghammbjdaa
open Go Go.Nm
def zai (ac : List Int) (ae : List Span) (ah : List Int) (ai : List Town) (aa : Int) (ab : Int) (aj : List Flood) (station : Int) : M (Int × Int × Int) :=
  M.pure (station, aa, ab)
theorem za8 {R : List Chunk} {am : Cells} {aa : Value} {ao : Cells} {ab : Value} {aq : Cells} {ac : Value} {au : Cells} {ae : Value} {av : Cells} {ah : Value} (aw : List Int) (ax : List Span) (ay : List Int) (az : List Town) (ai : Int) (aj : Int) (aA : List Flood) (station : Int) (aE : Reads R am) (aF : Sl am aa aw) (aG : Reads R ao) (aH : Sl ao ab ax) (aI : Reads R aq) (aJ : Sl aq ac ay) (aK : Reads R au) (aL : Sl au ae az) (aM : Reads R av) (aN : Sl av ah aA) {r : (Int × Int × Int)} (hM : (zai aw ax ay az ai aj aA station).Ends r) (w : World) (H : St w w [] R) : Ret Try.prog 46 #[.agg #[aa, ab, ac, ae, I ai, I aj, ah], I station] w fun v w' => ∃ (y0 : Int) (y1 : Int) (y2 : Int) (aB : Nat) (aC : Nat), (y0, y1, y2) = r /\ v = .func (.func 67) #[] #[Pq aB, Pq aC] /\ St w w' [cBlk aB [I y0] 3, cBlk aC [aa, ab, ac, ae, I y1, I y2, ah] 30] R := by
 refine ret_of_W Try.func46 rfl rfl rfl ?_
 refine W.seq ?_
 refine W.region rfl ?_
 refine t_box (v := .agg #[aa, ab, ac, ae, I ai, I aj, ah]) (cs := [aa, ab, ac, ae, I ai, I aj, ah]) H rfl rfl ?_
 intro ak aO H
 refine t_box (v := I station) (cs := [I station]) H rfl rfl ?_
 intro al aP H
 refine zA .nilFunc rfl ?_
 refine s_nil ?_
 refine W.seq ?_
 refine W.region rfl ?_
 refine s_val (x_mf (fs := []) (cs := [Pq al, Pq ak]) rfl rfl) ?_
 refine zA (.func (.func 67) #[] #[Pq al, Pq ak]) rfl ?_
 refine s_nil ?_
 refine W.ret ?_
 have aD := M.e_pure hM
 exact ⟨_, resE_tmp rfl, ⟨station, ai, aj, al, ak, aD, rfl, H⟩⟩

def zaV {T_ : Type} (ab : T_ -> (Int × Int) -> M (Bool × T_)) (aa : List Int) : (Int × Nat × T_) -> M ((Int × Nat × T_) ⊕ ((T_ × Int) ⊕ (T_ × Int))) := fun (s, s2, t2) =>
  bif ((s != (-1)) && (decide (s < (aa.length : Int)))) then (
  M.bind (ab t2 ((s2 : Int), s)) fun (go, t) =>
  bif !go then (
  M.pure (.inr (.inl (t, s))))
  else (
  M.grd (decide ((0 : Int) <= s) && decide (s < (aa.length : Int))) <|
  M.grd (decide ((-9223372036854775808 : Int) <= ((s2 : Int) + 1)) && decide (((s2 : Int) + 1) <= (9223372036854775807 : Int))) <|
  M.pure (.inl (aa.getD (Int.toNat s) 0, s2 + 1, t))))
  else (
  M.pure (.inr (.inr (t2, s))))
def zaj {T_ : Type} (aa : T_ -> (Int × Int) -> M (Bool × T_)) (t_ : T_) (ab : Int) (ac : List Int) (ae : List Span) (ah : List Int) (ai : List Town) (aj : Int) (ak : Int) (al : List Flood) : M (T_ × Int) :=
  M.bind (M.iter (zaV aa ac) (ab, 0, t_)) fun x_ => match x_ with
  | (.inl (t3, s3)) => (
  M.pure (t3, s3))
  | (.inr (t4, s4)) => (
  M.pure (t4, s4))
theorem zaP {R : List Chunk} {T_ : Type} {Y_ : T_ -> List Chunk -> Prop} {ah : Value} {aj : List Chunk} {ab : Nat} {ac : Nat} {aw : Cells} {ae : Value} {ax : Cells} {ay : Value} {az : Cells} {aA : Value} {aB : Cells} {aC : Value} {aD : Cells} {aE : Value} (ak : T_ -> (Int × Int) -> M (Bool × T_)) (t_ : T_) (al : Int) (aa : List Int) (aF : List Span) (aG : List Int) (aH : List Town) (aI : Int) (aJ : Int) (aK : List Flood) (aQ : YieldC Try.prog R arII Y_ ah ak) (aR : Y_ t_ aj) (aS : Reads R aw) (ai : Sl aw ae aa) (ba : Reads R ax) (bb : Sl ax ay aF) (bc : Reads R az) (bf : Sl az aA aG) (bg : Reads R aB) (bh : Sl aB aC aH) (bi : Reads R aD) (bj : Sl aD aE aK) (aL : Has R (cBlk ac [ae, ay, aA, aC, I aI, I aJ, aE] 30)) {r : (T_ × Int)} (hM : (zaj ak t_ al aa aF aG aH aI aJ aK).Ends r) (w : World) (H : St w w [cAll aj, cBlk ab [I al] 3] R) : Ret Try.prog 67 #[ah, Pq ab, Pq ac] w fun v w' => ∃ (y0 : T_) (y1 : Int) (Ls0 : List Chunk), (y0, y1) = r /\ v = .tuple #[] /\ St w w' [cAll Ls0, cBlk ab [I y1] 3] R /\ Y_ y0 Ls0 := by
 refine ret_of_W Try.func67 rfl rfl rfl ?_
 refine W.seq ?_
 refine W.region rfl ?_
 refine zA (I 0) rfl ?_
 refine s_nil ?_
 refine W.block ?_
 obtain ⟨aT, am, aM⟩ := M.e_bind hM
 obtain ⟨bm, am⟩ := M.e_iter am
 refine W.loop (fun m σ W => ∃ (s : Int) (s2 : Nat) (t2 : T_) (Ls_t2 : List Chunk) (ρ : Env), σ = upds ρ [(0, ah), (1, Pq ab), (2, Pq ac), (4, I (s2 : Int))] /\ M.iterN (zaV ak aa) m (s, s2, t2) = some aT /\ St w W [cAll Ls_t2, cBlk ab [I s] 3] R /\ Y_ t2 Ls_t2) ?_ ?_
 ·exact ⟨_, al, 0, t_, aj, _, upds_of _ _ ⟨rfl, rfl, rfl, rfl, trivial⟩, am, H, aR⟩
 rintro bn σ bo ⟨s, s2, t2, Ls_t2, ρ, rfl, aN, H, hY_t2⟩
 obtain ⟨aU, aV, bp, hM, ao⟩ := M.e_iterN aN
 simp only [zaV] at hM
 clear aN
 refine W.seq ?_
 refine W.seq ?_
 refine W.region rfl ?_
 refine s_val (x_ld (p := Pq ab) (v := I s) rfl (ldb_sc Sc3 (H.bl 1) rfl)) ?_
 refine zC s (-1) (s != (-1)) rfl rfl rfl ?_
 refine zM (B (s != (-1))) rfl ?_
 refine g_val (s != (-1)) (gy_t rfl) (fun hg => x_ld (p := Pq ab) (v := I s) rfl (ldb_sc Sc3 (H.bl 1) rfl)) ?_
 refine g_val (s != (-1)) (gy_t rfl) (fun hg => x_fa (a := Pq ac) (v := Pq ac) rfl (fa_blk (o := 0) Fd30_0 Sz23)) ?_
 refine g_val (s != (-1)) (gy_t rfl) (fun hg => x_ld (p := Pq ac) (v := ae) (gd_of (c := s != (-1)) hg (Pq ac)) (ldb_sc Sc23 (aL.blk H) rfl)) ?_
 have bq := (ai).len_le
 refine g_val (s != (-1)) (gy_t rfl) (fun hg => x_lenS T23.und (gd_of (c := s != (-1)) hg (ae)) ai) ?_
 refine g_val (s != (-1)) (gy_t rfl) (fun hg => x_cmp (kd := .i64) (a := s) (b := (aa.length : Int)) (r := decide (s < (aa.length : Int))) (gd_of (c := s != (-1)) hg (I s)) (gd_of (c := s != (-1)) hg (I (aa.length : Int))) rfl) ?_
 refine s_val (x_pand (b := s != (-1)) (r := decide (s < (aa.length : Int))) rfl (fun hb => gd_of (c := s != (-1)) (by first | exact hb | (rw [hb]; rfl) | simp_all) (B (decide (s < (aa.length : Int))))) rfl) ?_
 refine s_nil ?_
 refine W.cond ((s != (-1)) && (decide (s < (aa.length : Int)))) rfl (fun aq => ?_) (fun aq => ?_)
 ·replace hM := M.e_t hM aq
  refine W.skip ?_
  refine W.seq ?_
  refine W.block ?_
  refine W.seq ?_
  refine W.seq ?_
  refine W.region rfl ?_
  refine zM ah rfl ?_
  refine zM (I (s2 : Int)) rfl ?_
  refine s_val (x_ld (p := Pq ab) (v := I s) rfl (ldb_sc Sc3 (H.bl 1) rfl)) ?_
  obtain ⟨⟨go, t⟩, aW, hM⟩ := M.e_bind hM
  try dsimp only at hM
  refine t_yield (L := [cBlk ab [I s] 3]) H aQ hY_t2 rfl [I (s2 : Int), I s] rfl ((s2 : Int), s) Reads.none rfl aW ?_
  intro aO br aP H
  replace H := H.nf
  refine s_val (x_not (b := go) rfl) ?_
  refine s_nil ?_
  refine W.cond (!go) rfl (fun au => ?_) (fun au => ?_)
  ·replace hM := M.e_t hM au
   refine W.ret ?_
   have aX := M.e_inr hM ao
   subst aX
   replace hM := aM
   try dsimp only at hM
   have av := M.e_pure hM
   exact ⟨_, resE_tmp0 rfl, ⟨t, s, aO, av, rfl, H, aP⟩⟩
  replace hM := M.e_f hM au
  refine W.skip ?_
  refine W.region rfl ?_
  refine s_val (x_fa (a := Pq ac) (v := Pq ac) rfl (fa_blk (o := 0) Fd30_0 Sz23)) ?_
  refine s_val (x_ld (p := Pq ac) (v := ae) rfl (ldb_sc Sc23 (aL.blk H) rfl)) ?_
  refine s_val (x_ld (p := Pq ab) (v := I s) rfl (ldb_sc Sc3 (H.bl 1) rfl)) ?_
  obtain ⟨aY, hM⟩ := M.e_grd hM
  simp only [Bool.and_eq_true, decide_eq_true_eq] at aY
  refine s_val (x_ix (a := ae) (b := I s) (v := vat ae 1 (Int.toNat s)) rfl rfl (Sl.ix (α := Int) T23.und T23.size ai (by omega) (by omega))) ?_
  refine s_val (x_ld (p := vat ae 1 (Int.toNat s)) (v := I (aa.getD (Int.toNat s) 0)) rfl (ld_sc Sc3 (At.mono (Int_at ai (i := s) (by omega) (by omega)) (aS.at H)))) ?_
  refine t_sw 1 0 [I (aa.getD (Int.toNat s) 0)] (I (aa.getD (Int.toNat s) 0)) H rfl rfl Sz3 rfl rfl rfl rfl ?_
  intro bt H
  refine s_nil ?_
  refine W.region rfl ?_
  refine zM (I (s2 : Int)) rfl ?_
  obtain ⟨aZ, hM⟩ := M.e_grd hM
  simp only [Bool.and_eq_true, decide_eq_true_eq] at aZ
  refine zR (s2 : Int) 1 ((s2 : Int) + 1) rfl rfl rfl (by omega) ?_
  refine zA (I ((s2 : Int) + 1)) rfl ?_
  refine s_nil ?_
  exact ⟨aU, aV, aa.getD (Int.toNat s) 0, s2 + 1, t, aO, _, upds_of _ _ ⟨rfl, rfl, rfl, rfl, trivial⟩, M.e_inl hM ao, H, aP⟩
 replace hM := M.e_f hM aq
 refine W.exit ?_
 have a8 := M.e_inr hM ao
 subst a8
 replace hM := aM
 try dsimp only at hM
 have av := M.e_pure hM
 exact ⟨_, resE_tmp0 rfl, ⟨t2, s, Ls_t2, av, rfl, H, hY_t2⟩⟩
theorem zdJ {T_ : Type} {n_ : Nat} {y y' : T_ -> (Int × Int) -> M (Bool × T_)} (h : ∀ s a, M.LeN n_ (y s a) (y' s a)) (t_ : T_) (aa : Int) (ab : List Int) (ac : List Span) (ae : List Int) (ah : List Town) (ai : Int) (aj : Int) (ak : List Flood) : M.LeN n_ (zaj y t_ aa ab ac ae ah ai aj ak) (zaj y' t_ aa ab ac ae ah ai aj ak) := by
  simp only [zaj, zaV]
  repeat' (first | exact M.le_same _ _ | exact h _ _ | refine M.le_grd ?_ | refine M.le_if ?_ ?_ | refine M.le_bind ?_ (fun x => ?_) | refine M.le_opt ?_ | refine M.le_iter (fun x => ?_) _ | (rename_i x; cases x) | (rename_i x; obtain ⟨_, _⟩ := x))

def zbD (l : List Span) : (Int × Int × Nat) -> M ((Int × Int × Nat) ⊕ (Int × Int)) := fun (s, s2, s3) =>
  bif decide ((s3 : Int) < (l.length : Int)) then (
  M.grd (decide ((s3 : Int) < (l.length : Int))) <|
  M.grd (decide ((-9223372036854775808 : Int) <= (s + ((l.getD s3 default).lo))) && decide ((s + ((l.getD s3 default).lo)) <= (9223372036854775807 : Int))) <|
  M.grd (decide ((-9223372036854775808 : Int) <= (s2 + ((l.getD s3 default).hi))) && decide ((s2 + ((l.getD s3 default).hi)) <= (9223372036854775807 : Int))) <|
  M.pure (.inl (s + ((l.getD s3 default).lo), s2 + ((l.getD s3 default).hi), s3 + 1)))
  else (
  M.pure (.inr (s, s2)))
def zbE (l : List Span) : M (Int × Int) :=
  M.bind (M.iter (zbD l) (0, 0, 0)) fun (s4, s5) =>
  M.pure (s4, s5)
theorem zc1 {R : List Chunk} {aj : Cells} {ab : Value} (l : List Span) (ao : Reads R aj) (ah : Sl aj ab l) {r : (Int × Int)} (hM : (zbE l).Ends r) (w : World) (H : St w w [] R) : Ret Try.prog 59 #[ab] w fun v w' => ∃ (y0 : Int) (y1 : Int), (y0, y1) = r /\ v = .agg #[I y0, I y1] /\ St w w' [] R := by
 refine ret_of_W Try.func59 rfl rfl rfl ?_
 refine W.seq ?_
 refine W.region rfl ?_
 refine t_alloc (cs := [I 0, I 0]) H Al27 rfl ?_
 intro ak aD H
 refine s_nil ?_
 refine W.seq ?_
 refine W.region rfl ?_
 refine t_alloc (cs := [I 0, I 0]) H Al27 rfl ?_
 intro aa aE H
 refine s_nil ?_
 refine W.seq ?_
 refine W.seq ?_
 refine W.region rfl ?_
 refine zM ab rfl ?_
 have aF := (ah).len_le
 refine s_val (x_lenS T24.und rfl ah) ?_
 refine zM (I 0) rfl ?_
 refine s_nil ?_
 refine W.block ?_
 obtain ⟨aq, ai, au⟩ := M.e_bind hM
 obtain ⟨aG, ai⟩ := M.e_iter ai
 refine W.loop (fun m σ W => ∃ (s : Int) (s2 : Int) (s3 : Nat) (ρ : Env), σ = upds ρ [(2, Pq ak), (3, Pq aa), (6, ab), (7, I (l.length : Int)), (8, I (s3 : Int))] /\ M.iterN (zbD l) m (s, s2, s3) = some aq /\ St w W [cBlk aa [I s, I s2] 27, cBlk ak [I 0, I 0] 27] R) ?_ ?_
 ·exact ⟨_, 0, 0, 0, _, upds_of _ _ ⟨rfl, rfl, rfl, rfl, rfl, trivial⟩, ai, H⟩
 rintro aH σ aI ⟨s, s2, s3, ρ, rfl, al, H⟩
 obtain ⟨av, aw, aJ, hM, am⟩ := M.e_iterN al
 simp only [zbD] at hM
 clear al
 refine W.seq ?_
 refine W.region rfl ?_
 refine zC (s3 : Int) (l.length : Int) (decide ((s3 : Int) < (l.length : Int))) rfl rfl rfl ?_
 refine s_nil ?_
 refine W.seq ?_
 refine W.cond (decide ((s3 : Int) < (l.length : Int))) rfl (fun ae => ?_) (fun ae => ?_)
 ·replace hM := M.e_t hM ae
  simp only [qy1, qy2, qy3, qy4, qy5, qy6, ne_eq, qy7] at ae
  refine W.skip ?_
  refine W.seq ?_
  refine W.block ?_
  refine W.seq ?_
  refine W.region rfl ?_
  obtain ⟨ax, hM⟩ := M.e_grd hM
  simp only [Bool.and_eq_true, decide_eq_true_eq] at ax
  refine s_val (x_ix (a := ab) (b := I (s3 : Int)) (v := vat ab 2 (Int.toNat (s3 : Int))) rfl rfl (Sl.ix (α := Span) T24.und T24.size ah (by omega) (by omega))) ?_
  refine s_val (x_ld (p := vat ab 2 (Int.toNat (s3 : Int))) (v := .agg #[I ((l.getD s3 default).lo), I ((l.getD s3 default).hi)]) rfl (ld_ag Ag27 Sz27 (At.mono (Span_atA ah (i := (s3 : Int)) (by omega) (by omega)) (ao.at H)))) ?_
  refine t_alloc (cs := [I 0, I 0]) H Al27 rfl ?_
  intro ac aK H
  refine t_sw 0 0 [I ((l.getD s3 default).lo), I ((l.getD s3 default).hi)] (.agg #[I ((l.getD s3 default).lo), I ((l.getD s3 default).hi)]) H rfl rfl Sz27 rfl rfl rfl rfl ?_
  intro aL H
  refine s_nil ?_
  refine W.region rfl ?_
  refine s_val (x_fa (a := Pq aa) (v := Pq aa) rfl (fa_blk (o := 0) Fd27_0 Sz3)) ?_
  refine s_val (x_ld (p := Pq aa) (v := I s) rfl (ldb_sc Sc3 (H.bl 1) rfl)) ?_
  refine s_val (x_fa (a := Pq ac) (v := Pq ac) rfl (fa_blk (o := 0) Fd27_0 Sz3)) ?_
  refine s_val (x_ld (p := Pq ac) (v := I ((l.getD s3 default).lo)) rfl (ldb_sc Sc3 (H.bl 0) rfl)) ?_
  obtain ⟨ay, hM⟩ := M.e_grd hM
  simp only [Bool.and_eq_true, decide_eq_true_eq] at ay
  refine zR s ((l.getD s3 default).lo) (s + ((l.getD s3 default).lo)) rfl rfl rfl (by omega) ?_
  refine s_val (x_fa (a := Pq aa) (v := Oq aa 1) rfl (fa_blk (o := 0) Fd27_1 Sz3)) ?_
  refine s_val (x_ld (p := Oq aa 1) (v := I s2) rfl (ldb_sc Sc3 (H.bl 1) rfl)) ?_
  refine s_val (x_fa (a := Pq ac) (v := Oq ac 1) rfl (fa_blk (o := 0) Fd27_1 Sz3)) ?_
  refine s_val (x_ld (p := Oq ac 1) (v := I ((l.getD s3 default).hi)) rfl (ldb_sc Sc3 (H.bl 0) rfl)) ?_
  obtain ⟨az, hM⟩ := M.e_grd hM
  simp only [Bool.and_eq_true, decide_eq_true_eq] at az
  refine zR s2 ((l.getD s3 default).hi) (s2 + ((l.getD s3 default).hi)) rfl rfl rfl (by omega) ?_
  refine s_val (x_bld (ps := [(0, I (s + ((l.getD s3 default).lo))), (1, I (s2 + ((l.getD s3 default).hi)))]) (zs := [I 0, I 0]) (L' := [I (s + ((l.getD s3 default).lo)), I (s2 + ((l.getD s3 default).hi))]) rfl Try.underlying27 Al27 rfl (Bd27 Try.underlying27) (.cons (cs := [I (s + ((l.getD s3 default).lo))]) rfl rfl rfl rfl rfl <| .cons (cs := [I (s2 + ((l.getD s3 default).hi))]) rfl rfl rfl rfl rfl <| .nil)) ?_
  refine t_sw 1 0 [I (s + ((l.getD s3 default).lo)), I (s2 + ((l.getD s3 default).hi))] (.agg #[I (s + ((l.getD s3 default).lo)), I (s2 + ((l.getD s3 default).hi))]) H rfl rfl Sz27 rfl rfl rfl rfl ?_
  intro aM H
  refine s_nil ?_
  refine W.region rfl ?_
  refine zR (s3 : Int) 1 ((s3 : Int) + 1) rfl rfl rfl (by omega) ?_
  refine zM (I ((s3 : Int) + 1)) rfl ?_
  refine s_nil ?_
  exact ⟨av, aw, s + ((l.getD s3 default).lo), s2 + ((l.getD s3 default).hi), s3 + 1, _, upds_of _ _ ⟨rfl, rfl, rfl, rfl, rfl, trivial⟩, M.e_inl hM am, (H.pk [1, 2])⟩
 replace hM := M.e_f hM ae
 simp only [qy1, qy2, qy3, qy4, qy5, qy6, ne_eq, qy7] at ae
 refine W.exit ?_
 have aA := M.e_inr hM am
 subst aA
 replace hM := au
 try dsimp only at hM
 refine W.seq ?_
 refine W.region rfl ?_
 refine s_val (x_ld (p := Pq aa) (v := .agg #[I s, I s2]) rfl (ldb_ag (ds := [I s, I s2]) Ag27 Sz27 (H.bl 0) rfl rfl)) ?_
 refine t_sw 1 0 [I s, I s2] (.agg #[I s, I s2]) H rfl rfl Sz27 rfl rfl rfl rfl ?_
 intro aN H
 refine s_nil ?_
 refine W.ret ?_
 have aB := (H.bl 1)
 have aC := M.e_pure hM
 exact ⟨_, (resE_of1 (v := .agg #[I s, I s2]) rfl (.cell (v := .agg #[I s, I s2]) rfl (run_loadVar_ag (ds := [I s, I s2]) Ag27 Sz27 aB rfl rfl) <| .nil)), ⟨s, s2, aC, rfl, (H.pk [])⟩⟩

def zaL (aa : List Span) (ab : Int) : (List Span) -> (Int × Int) -> M ((List Span) ⊕ ((List Span) × (List Span) × Int × Int)) := fun l (x, x2) =>
  bif x2 == ab then (
  M.bind (zbE l) fun (r0, r1) =>
  M.pure (.inr (l, l, r0, r1)))
  else (
  M.grd (decide ((0 : Int) <= x2) && decide (x2 < (aa.length : Int))) <|
  M.grd (decide ((l.length + ([(aa.getD (Int.toNat x2) default)]).length) * 16 <= 140737488355328)) <|
  M.pure (.inl (l ++ ([(aa.getD (Int.toNat x2) default)]))))
def zaF (ab : List Int) (aa : List Span) (ac : List Int) (ae : List Town) (ai : Int) (aj : Int) (ah : List Flood) (ak : Int) (al : Int) : M (Int × Int × Bool) :=
  M.bind (zai ab aa ac ae ai aj ah ak) fun (am, ao, aq) =>
  M.bind (zaj (M.yl (zaL aa al)) (.inl ([])) am ab aa ac ae ao aq ah) fun x_ => match x_ with
  | (.inl l, q0) => (
  M.pure (0, 0, false))
  | (.inr (l2, l3, s, s2), q0) => (
  M.pure (s, s2, true))
theorem zco {R : List Chunk} {ab : Nat} {bg : Cells} {al : Value} {bh : Cells} {ae : Value} {bi : Cells} {am : Value} {bj : Cells} {ao : Value} {bm : Cells} {aq : Value} {bp : Nat} (aM : List Int) (aa : List Span) (aN : List Int) (aO : List Town) (aC : Int) (aD : Int) (aP : List Flood) (aG : Int) (ac : Int) (aQ : Reads R bg) (aY : Sl bg al aM) (aH : Reads R bh) (aI : Sl bh ae aa) (aR : Reads R bi) (aZ : Sl bi am aN) (aS : Reads R bj) (a8 : Sl bj ao aO) (aT : Reads R bm) (ba : Sl bm aq aP) (aU : Has R (cBlk ab [al, ae, am, ao, I aC, I aD, aq, .map (some bp)] 86)) {r : (Int × Int × Bool)} (hM : (zaF aM aa aN aO aC aD aP aG ac).Ends r) (w : World) (H : St w w [] R) : Ret Try.prog 47 #[Pq ab, I aG, I ac] w fun v w' => ∃ (y0 : Int) (y1 : Int) (y2 : Bool), (y0, y1, y2) = r /\ v = .tuple #[.agg #[I y0, I y1], B y2] /\ St w w' [] R := by
 refine ret_of_WD Try.func47 rfl rfl rfl ?_
 replace H : St w w [cMk ([])] R := H.mk0
 have bM := aY.len_le
 have bN := aI.len_le
 have bO := aZ.len_le
 have bP := a8.len_le
 have bQ := ba.len_le
 unfold zaF at hM
 refine WD.seq ?_
 refine WD.of ?_
 refine W.region rfl ?_
 refine t_box (v := Pq ab) (cs := [Pq ab]) H rfl rfl ?_
 intro au bR H
 refine t_box (v := I ac) (cs := [I ac]) H rfl rfl ?_
 intro av bS H
 refine t_alloc (cs := [I 0, I 0]) H Al27 rfl ?_
 intro aj bT H
 refine t_alloc (cs := [B false]) H Al4 rfl ?_
 intro ak bU H
 refine s_nil ?_
 refine WD.seq ?_
 refine WD.of ?_
 refine W.region rfl ?_
 refine t_alloc (cs := [.slice none 0 0]) H Al24 rfl ?_
 intro ai bV H
 refine s_nil ?_
 refine WD.seq ?_
 refine WD.seq ?_
 refine WD.of ?_
 refine W.region rfl ?_
 refine s_val (x_ld (p := Pq au) (v := Pq ab) rfl (ldb_sc Sc72 (H.bl 4) rfl)) ?_
 refine s_val (x_nc (a := ⟨ab, 0, none⟩) rfl) ?_
 refine s_val (x_fa (a := Pq ab) (v := Pq ab) rfl (fa_blk (o := 0) Fd86_0 Sz30)) ?_
 refine s_val (x_ld (p := Pq ab) (v := .agg #[al, ae, am, ao, I aC, I aD, aq]) rfl (ldb_ag (ds := [al, ae, am, ao, I aC, I aD, aq]) Ag30 Sz30 (aU.blk H) rfl rfl)) ?_
 refine zM (I aG) rfl ?_
 obtain ⟨bW, bq, hM⟩ := M.e_bind hM
 refine s_call cf46 [.agg #[al, ae, am, ao, I aC, I aD, aq], I aG] rfl (za8 aM aa aN aO aC aD aP aG (aQ.app _) aY (aH.app _) aI (aR.app _) aZ (aS.app _) a8 (aT.app _) ba bq _ (H.gt 6)) ?_
 rintro vq bX ⟨aV, aw, ax, aE, ay, br, hvq, az⟩
 subst br
 subst vq
 try dsimp only at hM
 replace H := H.bk az
 clear az
 refine s_nil ?_
 refine WD.block ?_
 replace H := H.nilOwn (α := Span) 27
 obtain ⟨bY, bt, hM⟩ := M.e_bind hM
 refine WD.range (L := [cOwn (α := Span) 27 (.slice none 0 0) ([]), cBlk ai [(.slice none 0 0)] 24, cBlk ak [B false] 4, cBlk aj [I 0, I 0] 27, cBlk ay [al, ae, am, ao, I aw, I ax, aq] 30, cBlk av [I ac] 3, cBlk au [Pq ab] 72, cBlk aE [I aV] 3]) [Pq aE, Pq ay] (H.pk [8, 0, 3, 4, 5, 2, 6, 7, 1]) rfl cf67 ?_
 intro aW aX bb bu bc H
 have hYC : YieldC Try.prog ([cMk (aX :: ([])), cBlk ay [al, ae, am, ao, I aw, I ax, aq] 30, cBlk av [I ac] 3, cBlk au [Pq ab] 72] ++ R) arII (yJ aW bb (fun l aA => ∃ (ah : Value), aA = [cOwn (α := Span) 27 ah l, cBlk ai [ah] 24, cBlk ak [B false] 4, cBlk aj [I 0, I 0] 27]) (fun (l2, l3, s, s2) aA => ∃ (aB : Value), aA = [cOwn (α := Span) 27 aB l3, cBlk ai [aB] 24, cBlk ak [B true] 4, cBlk aj [I s, I s2] 27]) (fun _ => .ret)) (.func (.yield aW) #[] #[]) (M.yl (zaL aa ac)) := by
  refine YieldC.mk bc (fun l aA => ∃ (ah : Value), aA = [cOwn (α := Span) 27 ah l, cBlk ai [ah] 24, cBlk ak [B false] 4, cBlk aj [I 0, I 0] 27]) (fun (l2, l3, s, s2) aA => ∃ (aB : Value), aA = [cOwn (α := Span) 27 aB l3, cBlk ai [aB] 24, cBlk ak [B true] 4, cBlk aj [I s, I s2] 27]) (fun _ => .ret) (zaL aa ac) (by rintro l _ h_; obtain ⟨_, rfl⟩ := h_; rfl) (by rintro ⟨l2, l3, s, s2⟩ _ h_; (obtain ⟨_, rfl⟩ := h_; rfl)) rfl (arII_len rfl) ?_
  intro C_ bZ x_ W_ bv
  obtain ⟨x, x2⟩ := x_
  obtain rfl := bv
  refine W.region rfl ?_
  refine zA (I x2) rfl ?_
  refine s_nil ?_
  refine ⟨rfl, rfl, ?_⟩
  intro w R aF aA s_ r bw hM H
  skip
  obtain ⟨l, bx⟩ : ∃ y_, y_ = s_ := ⟨_, rfl⟩
  subst bx
  obtain ⟨ah, rfl⟩ := bw
  replace aQ := aQ.sub aF
  replace aH := aH.sub aF
  replace aR := aR.sub aF
  replace aS := aS.sub aF
  replace aT := aT.sub aF
  replace aU := aU.sub aF
  replace hM : (zaL aa ac l (x, x2)).Ends r := hM
  simp only [zaL] at hM
  replace H := H.pk [0, 1, 2, 3, 5, 6, 7, 4]
  refine W.block ?_
  refine W.seq ?_
  refine W.seq ?_
  refine W.region rfl ?_
  refine zM (I x2) rfl ?_
  refine s_val (x_ld (p := Pq av) (v := I ac) rfl (ldb_sc Sc3 (H.bl 5) rfl)) ?_
  refine zC x2 ac (x2 == ac) rfl rfl rfl ?_
  refine s_nil ?_
  refine W.cond (x2 == ac) rfl (fun aJ => ?_) (fun aJ => ?_)
  ·replace hM := M.e_t hM aJ
   simp only [qy1, qy2, qy3, qy4, qy5, qy6, ne_eq, qy7] at aJ
   refine W.seq ?_
   refine W.region rfl ?_
   refine s_val (x_ld (p := Pq ai) (v := ah) rfl (ldb_sc Sc24 (H.bl 1) rfl)) ?_
   obtain ⟨b4, bz, hM⟩ := M.e_bind hM
   refine s_call cf59 [ah] rfl (zc1 l (rdo 0) (H.os 0) bz _ (H.gt 8)) ?_
   rintro vq b5 ⟨r0, r1, bA, hvq, az⟩
   subst bA
   subst vq
   try dsimp only at hM
   replace H := H.bk az
   clear az
   refine t_sw 3 0 [I r0, I r1] (.agg #[I r0, I r1]) H rfl rfl Sz27 rfl rfl rfl rfl ?_
   intro b6 H
   refine t_sw 2 0 [B true] (B true) H rfl rfl Sz4 rfl rfl rfl rfl ?_
   intro b7 H
   refine s_nil ?_
   refine W.ret ?_
   exact ⟨(l, l, r0, r1), [cOwn (α := Span) 27 ah l, cBlk ai [ah] 24, cBlk ak [B true] 4, cBlk aj [I r0, I r1] 27], (M.e_pure hM).symm, ⟨ah, rfl⟩, H.pick [0, 1, 2, 3, 7, 4, 5, 6] (by decide) rfl, rfl⟩
  replace hM := M.e_f hM aJ
  simp only [qy1, qy2, qy3, qy4, qy5, qy6, ne_eq, qy7] at aJ
  refine W.skip ?_
  refine W.drawT (fun W => St w W [cBlk ak [B false] 4, cBlk aj [I 0, I 0] 27, cBlk ay [al, ae, am, ao, I aw, I ax, aq] 30, cBlk av [I ac] 3, cBlk au [Pq ab] 72, cMk (aX :: ([]))] R) (.q 1 (.q 2 (.q 3 (.q 4 (.q 5 (.q 6 (.q 7 (.q 8 (.l2 0 (.l 9 (.l 10 (.l 11 .nil))) 9 (.l 0 (.l 10 (.l 11 .nil)))))))))))) mixed (by decide +kernel) rfl ?_
  intro b8 bn
  replace H := H.ext bn
  clear bn
  refine ⟨(H.pk [2, 3, 4, 5, 6, 7]), ?_⟩
  refine t_q rfl (fun w' H => x_ld (p := Pq au) (v := Pq ab) rfl (ldb_sc Sc72 (H.bl 4) rfl)) ?_
  refine t_q rfl (fun w' H => x_nc (a := ⟨ab, 0, none⟩) rfl) ?_
  refine t_q rfl (fun w' H => x_fa (a := Pq ab) (v := Pq ab) rfl (fa_blk (o := 0) Fd86_0 Sz30)) ?_
  refine t_q rfl (fun w' H => x_fa (a := Pq ab) (v := Oq ab 1) rfl (fa_blk (o := 0) Fd30_1 Sz24)) ?_
  refine t_q rfl (fun w' H => x_ld (p := Oq ab 1) (v := ae) rfl (ldb_sc Sc24 (aU.blk H) rfl)) ?_
  refine t_q rfl (fun w' H => x_mv (v := I x2) rfl) ?_
  obtain ⟨bB, hM⟩ := M.e_grd hM
  simp only [Bool.and_eq_true, decide_eq_true_eq] at bB
  refine t_q rfl (fun w' H => x_ix (a := ae) (b := I x2) (v := vat ae 2 (Int.toNat x2)) rfl rfl (Sl.ix (α := Span) T24.und T24.size aI (by omega) (by omega))) ?_
  refine t_q rfl (fun w' H => x_ld (p := vat ae 2 (Int.toNat x2)) (v := .agg #[I ((aa.getD (Int.toNat x2) default).lo), I ((aa.getD (Int.toNat x2) default).hi)]) rfl (ld_ag Ag27 Sz27 (At.mono (Span_atA aI (i := x2) (by omega) (by omega)) (aH.at H)))) ?_
  obtain ⟨bC, hM⟩ := M.e_grd hM
  simp only [Bool.and_eq_true, decide_eq_true_eq] at bC
  refine t_l2 rfl rfl ?_ ?_
  ·skip
   refine s_val (x_ld (p := Pq ai) (v := ah) rfl (ldb_sc Sc24 (H.bl 1) rfl)) ?_
   have b9 := Sl.cells (H.os 0)
   have ca := Sl.oc (H.os 0)
   refine s_nil ⟨(H.pk [2, 3, 4, 5, 6, 7]), ?_⟩
   refine t_l rfl ?_
   refine t_bs (α := Span) T24 [.agg #[I ((aa.getD (Int.toNat x2) default).lo), I ((aa.getD (Int.toNat x2) default).hi)]] [(aa.getD (Int.toNat x2) default)] H rfl (.cons rfl (Flat.rep_enc _ (aa.getD (Int.toNat x2) default)) <| .nil) rfl rfl rfl ?_
   intro bD cb H
   have cc := Sl.cells (H.os 0)
   have cd := Sl.oc (H.os 0)
   refine s_nil ⟨(H.pk [3, 4, 5, 6, 7, 8]), ?_⟩
   refine t_l rfl ?_
   refine t_app (α := Span) (k := 1) (l := l) (l2 := [(aa.getD (Int.toNat x2) default)]) (l' := l ++ ([(aa.getD (Int.toNat x2) default)])) (vy := bD) T24 rfl H rfl rfl rfl (H.os 0) (H.ol 0) (rfl) (by first | omega | (simp only [List.length_nil] at *; omega)) ?_
   intro aK ce H
   replace H := H.nf
   have cf := Sl.cells (H.os 1)
   have cg := Sl.oc (H.os 1)
   refine s_nil ⟨(H.pk [3, 4, 5, 6, 7, 8]), ?_⟩
   refine t_l rfl ?_
   refine t_sw 2 0 [aK] aK H rfl rfl Sz24 (Sl.cells (H.os 1)) rfl rfl (by simp only [List.all_cons, List.all_nil, Bool.true_and, Bool.and_true, Sl.oc (H.os 1)]; try rfl) ?_
   intro ch H
   refine s_nil ⟨(H.pk [3, 4, 5, 6, 7, 8]), ?_⟩
   refine t_nil ?_
   exact ⟨l ++ ([(aa.getD (Int.toNat x2) default)]), [cOwn (α := Span) 27 aK (l ++ ([(aa.getD (Int.toNat x2) default)])), cBlk ai [aK] 24, cBlk ak [B false] 4, cBlk aj [I 0, I 0] 27], (M.e_pure hM).symm, ⟨aK, rfl⟩, H.pick [1, 2, 3, 4, 8, 5, 6, 7] (by decide) rfl⟩
  skip
  refine t_bs (α := Span) T24 [.agg #[I ((aa.getD (Int.toNat x2) default).lo), I ((aa.getD (Int.toNat x2) default).hi)]] [(aa.getD (Int.toNat x2) default)] H rfl (.cons rfl (Flat.rep_enc _ (aa.getD (Int.toNat x2) default)) <| .nil) rfl rfl rfl ?_
  intro bE ck H
  have cl := Sl.cells (H.os 0)
  have cm := Sl.oc (H.os 0)
  have cn := Sl.cells (H.os 1)
  have co := Sl.oc (H.os 1)
  refine s_nil ⟨(H.pk [3, 4, 5, 6, 7, 8]), ?_⟩
  refine t_l rfl ?_
  refine s_val (x_ld (p := Pq ai) (v := ah) rfl (ldb_sc Sc24 (H.bl 2) rfl)) ?_
  refine s_nil ⟨(H.pk [3, 4, 5, 6, 7, 8]), ?_⟩
  refine t_l rfl ?_
  refine t_app (α := Span) (k := 1) (l := l) (l2 := [(aa.getD (Int.toNat x2) default)]) (l' := l ++ ([(aa.getD (Int.toNat x2) default)])) (vy := bE) T24 rfl H rfl rfl rfl (H.os 0) (H.ol 0) (rfl) (by first | omega | (simp only [List.length_nil] at *; omega)) ?_
  intro aL cp H
  replace H := H.nf
  have cq := Sl.cells (H.os 1)
  have ct := Sl.oc (H.os 1)
  refine s_nil ⟨(H.pk [3, 4, 5, 6, 7, 8]), ?_⟩
  refine t_l rfl ?_
  refine t_sw 2 0 [aL] aL H rfl rfl Sz24 (Sl.cells (H.os 1)) rfl rfl (by simp only [List.all_cons, List.all_nil, Bool.true_and, Bool.and_true, Sl.oc (H.os 1)]; try rfl) ?_
  intro cu H
  refine s_nil ⟨(H.pk [3, 4, 5, 6, 7, 8]), ?_⟩
  refine t_nil ?_
  exact ⟨l ++ ([(aa.getD (Int.toNat x2) default)]), [cOwn (α := Span) 27 aL (l ++ ([(aa.getD (Int.toNat x2) default)])), cBlk ai [aL] 24, cBlk ak [B false] 4, cBlk aj [I 0, I 0] 27], (M.e_pure hM).symm, ⟨aL, rfl⟩, H.pick [1, 2, 3, 4, 8, 5, 6, 7] (by decide) rfl⟩
 replace H : St w bu (cAll (cObj aW (.loop bb) :: [cOwn (α := Span) 27 (.slice none 0 0) ([]), cBlk ai [(.slice none 0 0)] 24, cBlk ak [B false] 4, cBlk aj [I 0, I 0] 27]) :: [cBlk aE [I aV] 3, cMk (aX :: ([])), cBlk ay [al, ae, am, ao, I aw, I ax, aq] 30, cBlk av [I ac] 3, cBlk au [Pq ab] 72]) R := St.bundleB (A := cObj aW (.loop bb) :: [cOwn (α := Span) 27 (.slice none 0 0) ([]), cBlk ai [(.slice none 0 0)] 24, cBlk ak [B false] 4, cBlk aj [I 0, I 0] 27]) (T := [cBlk aE [I aV] 3, cMk (aX :: ([])), cBlk ay [al, ae, am, ao, I aw, I ax, aq] 30, cBlk av [I ac] 3, cBlk au [Pq ab] 72]) rfl (H.pk [0, 2, 3, 4, 5, 9, 1, 6, 7, 8])
 refine (zaP (M.yl (zaL aa ac)) (.inl ([])) aV aM aa aN aO aw ax aP hYC ⟨_, rfl, ⟨(.slice none 0 0), rfl⟩⟩ (aQ.app _) aY (aH.app _) aI (aR.app _) aZ (aS.app _) a8 (aT.app _) ba (Has.here (k := 1) rfl) bt _ (H.gt 4)).mono ?_
 rintro vq cw ⟨bF, q0, cx, bG, hvq, az, bo⟩
 subst bG
 replace H := H.back az rfl
 clear az hYC
 rcases bF with l | ⟨l2, l3, s, s2⟩
 ·try dsimp only at hM
  obtain ⟨_, rfl, ah, rfl⟩ := bo
  refine ⟨_, [cOwn (α := Span) 27 ah l, cBlk ai [ah] 24, cBlk ak [B false] 4, cBlk aj [I 0, I 0] 27, cBlk ay [al, ae, am, ao, I aw, I ax, aq] 30, cBlk av [I ac] 3, cBlk au [Pq ab] 72, cBlk aE [I q0] 3], H.unbundle.pick [0, 6, 1, 2, 3, 4, 7, 8, 9, 5] (by decide) rfl, bc.nb, ?_⟩
  intro bH H
  rw [bc.pd]
  replace H := H.nf
  try simp only []
  replace H := H.pk [0, 3, 4]
  refine WD.seq ?_
  refine WD.of ?_
  refine W.region rfl ?_
  refine s_val (x_bld (ps := []) (zs := [I 0, I 0]) (L' := [I 0, I 0]) rfl Try.underlying27 Al27 rfl (Bd27 Try.underlying27) (.nil)) ?_
  refine t_sw 2 0 [I 0, I 0] (.agg #[I 0, I 0]) H rfl rfl Sz27 rfl rfl rfl rfl ?_
  intro cy H
  refine t_sw 1 0 [B false] (B false) H rfl rfl Sz4 rfl rfl rfl rfl ?_
  intro cz H
  refine s_nil ?_
  refine WD.of ?_
  refine W.ret ?_
  refine bodyD_r (H.pk [0, 1, 2]) ?_
  intro cA H
  replace H := H.nf
  have bI := (H.bl 1)
  have bJ := (H.bl 0)
  have bf := M.e_pure hM
  exact ⟨_, (resE_ofn (vs := [.agg #[I 0, I 0], B false]) rfl rfl (.cell (v := .agg #[I 0, I 0]) rfl (run_loadVar_ag (ds := [I 0, I 0]) Ag27 Sz27 bI rfl rfl) <| .cell (v := B false) rfl (run_loadVar_sc Sc4 bJ rfl) <| .nil)), ⟨0, 0, false, bf, rfl, (H.pk [])⟩⟩
 try dsimp only at hM
 obtain ⟨_, rfl, aB, rfl⟩ := bo
 refine ⟨_, [cOwn (α := Span) 27 aB l3, cBlk ai [aB] 24, cBlk ak [B true] 4, cBlk aj [I s, I s2] 27, cBlk ay [al, ae, am, ao, I aw, I ax, aq] 30, cBlk av [I ac] 3, cBlk au [Pq ab] 72, cBlk aE [I q0] 3], H.unbundle.pick [0, 6, 1, 2, 3, 4, 7, 8, 9, 5] (by decide) rfl, nofun, ?_⟩
 intro bH H
 show WD _ _ _ (.ret) _ _ _
 refine WD.of ?_
 refine W.ret ?_
 replace H := H.nf
 refine bodyD_r (H.pk [0, 1, 2, 3, 4, 5, 6, 7, 8]) ?_
 intro cB H
 replace H := H.nf
 have bK := (H.bl 3)
 have bL := (H.bl 2)
 have bf := M.e_pure hM
 exact ⟨_, (resE_ofn (vs := [.agg #[I s, I s2], B true]) rfl rfl (.cell (v := .agg #[I s, I s2]) rfl (run_loadVar_ag (ds := [I s, I s2]) Ag27 Sz27 bK rfl rfl) <| .cell (v := B true) rfl (run_loadVar_sc Sc4 bL rfl) <| .nil)), ⟨s, s2, true, bf, rfl, (H.pk [])⟩⟩

def zaE (ac : List Int) (ae : List Span) (ah : List Int) (aa : List Town) (ai : Int) (ab : Int) (aj : List Flood) (d : Dem) : (List Int) -> (Int × Int) -> M ((List Int) ⊕ Unit) := fun l (x, x2) =>
  M.bind (zaF ac ae ah aa ai ab aj x2 ((aa.getD (Int.toNat d.town) default).station)) fun (ak, al, r1) =>
  M.grd ((!r1 || (decide ((-9223372036854775808 : Int) <= (((aa.getD (Int.toNat d.town) default).lead) + ab)) && decide ((((aa.getD (Int.toNat d.town) default).lead) + ab) <= (9223372036854775807 : Int))))) <|
  bif (r1 && (decide ((((aa.getD (Int.toNat d.town) default).lead) + ab) <= ak))) then (
  M.grd (decide ((l.length + ([(x2 : Int)]).length) * 8 <= 140737488355328)) <|
  M.pure (.inl (l ++ ([(x2 : Int)]))))
  else (
  M.pure (.inl l))
def zaa (ab : List Int) (ac : List Span) (ae : List Int) (aa : List Town) (ai : Int) (aj : Int) (ah : List Flood) (d : Dem) : M (List Int) :=
  M.grd (decide ((0 : Int) <= d.town) && decide (d.town < (aa.length : Int))) <|
  M.bind (zai ab ac ae aa ai aj ah d.spring) fun (ak, al, am) =>
  M.bind (zaj (M.yl (zaE ab ac ae aa ai aj ah d)) (.inl ([])) ak ab ac ae aa al am ah) fun x_ => match x_ with
  | (.inl l, q0) => (
  M.pure l)
  | (.inr _, _) => M.fail
theorem zbG {R : List Chunk} {aa : Nat} {bq : Cells} {aB : Value} {br : Cells} {aC : Value} {bt : Cells} {aD : Value} {bu : Cells} {am : Value} {bv : Cells} {aE : Value} {ak : Nat} {ao : Base} (ax : List Int) (ay : List Span) (az : List Int) (ab : List Town) (aq : Int) (ae : Int) (aA : List Flood) (d : Dem) (aQ : Reads R bq) (aX : Sl bq aB ax) (aR : Reads R br) (aY : Sl br aC ay) (aS : Reads R bt) (aZ : Sl bt aD az) (aM : Reads R bu) (aN : Sl bu am ab) (aT : Reads R bv) (a8 : Sl bv aE aA) (aG : Has R (cBlk aa [aB, aC, aD, am, I aq, I ae, aE, .map (some ak)] 86)) {r : (List Int)} (hM : (zaa ax ay az ab aq ae aA d).Ends r) (w : World) (H : St w w [cMem encDm ak ao (zaa ax ay az ab aq ae aA)] R) : Ret Try.prog 54 #[Pq aa, .agg #[I d.spring, I d.town]] w fun v w' => ∃ (y0 : List Int) (u0 : Value) (bw : Base), y0 = r /\ v = u0 /\ St w w' [cMem encDm ak bw (zaa ax ay az ab aq ae aA)] R /\ Sl bw.cells u0 y0 := by
 refine ret_of_WD Try.func54 rfl rfl rfl ?_
 replace H : St w w [cMk ([]), cMem encDm ak ao (zaa ax ay az ab aq ae aA)] R := H.mk0
 have bT := aX.len_le
 have bU := aY.len_le
 have bV := aZ.len_le
 have bW := aN.len_le
 have bX := a8.len_le
 unfold zaa at hM
 have hM0 := hM
 obtain ⟨aw, H, bg⟩ := St.memOpen H (i := 1) rfl
 replace H := H.nf
 cases bh : aw d with
 | none =>
  refine WD.seq ?_
  refine WD.of ?_
  refine W.region rfl ?_
  refine t_box (v := Pq aa) (cs := [Pq aa]) H rfl rfl ?_
  intro ai bY H
  refine t_box (v := .agg #[I d.spring, I d.town]) (cs := [I d.spring, I d.town]) H rfl rfl ?_
  intro ah bZ H
  refine zA (.slice none 0 0) rfl ?_
  refine s_nil ?_
  refine WD.seq ?_
  refine WD.seq ?_
  refine WD.of ?_
  refine W.draw (fun W => St w W [cBlk ah [I d.spring, I d.town] 62, cBlk ai [Pq aa] 72, cRx ao, cMk ([])] R) [(0, true), (1, true), (2, true), (3, true), (4, true), (5, false), (6, true), (7, true), (8, true), (9, true), (10, true)] mixed (by decide +kernel) rfl ?_
  intro b4 aj
  replace H := H.ext aj
  clear aj
  refine ⟨(H.pk [0, 1, 3, 4]), ?_⟩
  refine d_q rfl (fun w' H => x_ld (p := Pq ai) (v := Pq aa) rfl (ldb_sc Sc72 (H.bl 1) rfl)) ?_
  refine d_q rfl (fun w' H => x_nc (a := ⟨aa, 0, none⟩) rfl) ?_
  refine d_q rfl (fun w' H => x_fa (a := Pq aa) (v := Oq aa 7) rfl (fa_blk (o := 0) Fd86_1 Sz84)) ?_
  refine d_q rfl (fun w' H => x_ld (p := Oq aa 7) (v := .map (some ak)) rfl (ldb_sc Sc84 (aG.blk H) rfl)) ?_
  refine d_q rfl (fun w' H => x_ld (p := Pq ah) (v := .agg #[I d.spring, I d.town]) rfl (ldb_ag (ds := [I d.spring, I d.town]) Ag62 Sz62 (H.bl 0) rfl rfl)) ?_
  refine d_l rfl ?_
  refine s_val (q_look (kenc := encDm) (venc := id) (f := aw) (k := d) (z := .slice none 0 0) (v := .tuple #[.slice none 0 0, B false]) keyDem Try.underlying84 (by kernel_rfl) rfl rfl (H.get (k := 2) rfl) true (by simp [bh])) ?_
  refine s_nil ⟨(H.pk [0, 1, 3, 4]), ?_⟩
  refine d_q rfl (fun w' H => x_mv (v := .tuple #[.slice none 0 0, B false]) rfl) ?_
  refine d_q rfl (fun w' H => x_ext (vs := [.slice none 0 0, B false]) (v := .slice none 0 0) rfl rfl) ?_
  refine d_q rfl (fun w' H => x_ext (vs := [.slice none 0 0, B false]) (v := B false) rfl rfl) ?_
  refine d_q rfl (fun w' H => x_as (v := .slice none 0 0) rfl) ?_
  refine d_q rfl (fun w' H => x_as (v := B false) rfl) ?_
  refine d_nil ?_
  refine WD.seq ?_
  refine WD.of ?_
  refine W.region rfl ?_
  refine zM (B false) rfl ?_
  refine s_nil ?_
  refine WD.cond false rfl (fun bx => ?_) (fun bx => ?_)
  ·skip
   exact absurd bx (by decide)
  skip
  refine WD.of ?_
  refine W.skip ?_
  refine WD.seq ?_
  refine WD.of ?_
  refine W.region rfl ?_
  refine t_alloc (cs := [.slice none 0 0]) H Al23 rfl ?_
  intro al b5 H
  refine s_nil ?_
  refine WD.seq ?_
  refine WD.of ?_
  refine W.draw (fun W => St w W [cBlk al [.slice none 0 0] 23, cBlk ah [I d.spring, I d.town] 62, cBlk ai [Pq aa] 72, cMap encDm id ak aw, cRx ao, cMk ([])] R) [(0, true), (1, true), (2, true), (3, true), (4, true), (5, true), (6, true), (7, true), (8, true), (9, false), (10, false)] mixed (by decide +kernel) rfl ?_
  intro b6 aj
  replace H := H.ext aj
  clear aj
  refine ⟨(H.pk [0, 1, 2, 3, 4, 5]), ?_⟩
  refine d_q rfl (fun w' H => x_ld (p := Pq ai) (v := Pq aa) rfl (ldb_sc Sc72 (H.bl 2) rfl)) ?_
  refine d_q rfl (fun w' H => x_nc (a := ⟨aa, 0, none⟩) rfl) ?_
  refine d_q rfl (fun w' H => x_fa (a := Pq aa) (v := Pq aa) rfl (fa_blk (o := 0) Fd86_0 Sz30)) ?_
  refine d_q rfl (fun w' H => x_fa (a := Pq aa) (v := Oq aa 3) rfl (fa_blk (o := 0) Fd30_3 Sz25)) ?_
  refine d_q rfl (fun w' H => x_ld (p := Oq aa 3) (v := am) rfl (ldb_sc Sc25 (aG.blk H) rfl)) ?_
  refine d_q rfl (fun w' H => x_fa (a := Pq ah) (v := Oq ah 1) rfl (fa_blk (o := 0) Fd62_1 Sz3)) ?_
  refine d_q rfl (fun w' H => x_ld (p := Oq ah 1) (v := I d.town) rfl (ldb_sc Sc3 (H.bl 1) rfl)) ?_
  obtain ⟨bB, hM⟩ := M.e_grd hM
  simp only [Bool.and_eq_true, decide_eq_true_eq] at bB
  refine d_q rfl (fun w' H => x_ix (a := am) (b := I d.town) (v := vat am 3 (Int.toNat d.town)) rfl rfl (Sl.ix (α := Town) T25.und T25.size aN (by omega) (by omega))) ?_
  refine d_q rfl (fun w' H => x_ld (p := vat am 3 (Int.toNat d.town)) (v := .agg #[I ((ab.getD (Int.toNat d.town) default).station), I ((ab.getD (Int.toNat d.town) default).lead), I ((ab.getD (Int.toNat d.town) default).alarm)]) rfl (ld_ag Ag54 Sz54 (At.mono (Town_atA aN (i := d.town) (by omega) (by omega)) (aM.at H)))) ?_
  refine d_l rfl ?_
  refine t_alloc (cs := [I 0, I 0, I 0]) H Al54 rfl ?_
  intro au b7 H
  refine s_nil ⟨(H.pk [1, 2, 3, 4, 5, 6]), ?_⟩
  refine d_l rfl ?_
  refine t_sw 0 0 [I ((ab.getD (Int.toNat d.town) default).station), I ((ab.getD (Int.toNat d.town) default).lead), I ((ab.getD (Int.toNat d.town) default).alarm)] (.agg #[I ((ab.getD (Int.toNat d.town) default).station), I ((ab.getD (Int.toNat d.town) default).lead), I ((ab.getD (Int.toNat d.town) default).alarm)]) H rfl rfl Sz54 rfl rfl rfl rfl ?_
  intro b8 H
  refine s_nil ⟨(H.pk [1, 2, 3, 4, 5, 6]), ?_⟩
  refine d_nil ?_
  refine WD.seq ?_
  refine WD.seq ?_
  refine WD.of ?_
  refine W.draw (fun W => St w W [cBlk au [I ((ab.getD (Int.toNat d.town) default).station), I ((ab.getD (Int.toNat d.town) default).lead), I ((ab.getD (Int.toNat d.town) default).alarm)] 54, cBlk al [.slice none 0 0] 23, cBlk ah [I d.spring, I d.town] 62, cBlk ai [Pq aa] 72, cMap encDm id ak aw, cRx ao, cMk ([])] R) [(0, true), (1, true), (2, true), (3, true), (4, true), (5, true), (6, false)] mixed (by decide +kernel) rfl ?_
  intro b9 aj
  replace H := H.ext aj
  clear aj
  refine ⟨(H.pk [0, 1, 2, 3, 4, 5, 6]), ?_⟩
  refine d_q rfl (fun w' H => x_ld (p := Pq ai) (v := Pq aa) rfl (ldb_sc Sc72 (H.bl 3) rfl)) ?_
  refine d_q rfl (fun w' H => x_nc (a := ⟨aa, 0, none⟩) rfl) ?_
  refine d_q rfl (fun w' H => x_fa (a := Pq aa) (v := Pq aa) rfl (fa_blk (o := 0) Fd86_0 Sz30)) ?_
  refine d_q rfl (fun w' H => x_ld (p := Pq aa) (v := .agg #[aB, aC, aD, am, I aq, I ae, aE]) rfl (ldb_ag (ds := [aB, aC, aD, am, I aq, I ae, aE]) Ag30 Sz30 (aG.blk H) rfl rfl)) ?_
  refine d_q rfl (fun w' H => x_fa (a := Pq ah) (v := Pq ah) rfl (fa_blk (o := 0) Fd62_0 Sz3)) ?_
  refine d_q rfl (fun w' H => x_ld (p := Pq ah) (v := I d.spring) rfl (ldb_sc Sc3 (H.bl 2) rfl)) ?_
  refine d_l rfl ?_
  obtain ⟨ca, bC, hM⟩ := M.e_bind hM
  refine s_call cf46 [.agg #[aB, aC, aD, am, I aq, I ae, aE], I d.spring] rfl (za8 ax ay az ab aq ae aA d.spring (aQ.app _) aX (aR.app _) aY (aS.app _) aZ (aM.app _) aN (aT.app _) a8 bC _ (H.gt 7)) ?_
  rintro vq cb ⟨ba, aI, aJ, aU, aK, bD, hvq, aH⟩
  subst bD
  subst vq
  try dsimp only at hM
  replace H := H.bk aH
  clear aH
  refine s_nil ⟨(H.pk [2, 3, 4, 5, 6, 7, 8]), ?_⟩
  refine d_nil ?_
  refine WD.block ?_
  replace H := H.nilOwn (α := Int) 3
  obtain ⟨cc, bE, hM⟩ := M.e_bind hM
  refine WD.range (L := [cOwn (α := Int) 3 (.slice none 0 0) ([]), cBlk al [(.slice none 0 0)] 23, cBlk aK [aB, aC, aD, am, I aI, I aJ, aE] 30, cBlk au [I ((ab.getD (Int.toNat d.town) default).station), I ((ab.getD (Int.toNat d.town) default).lead), I ((ab.getD (Int.toNat d.town) default).alarm)] 54, cBlk ah [I d.spring, I d.town] 62, cBlk ai [Pq aa] 72, cMap encDm id ak aw, cRx ao, cBlk aU [I ba] 3]) [Pq aU, Pq aK] (H.pk [9, 0, 4, 2, 3, 5, 6, 7, 8, 1]) rfl cf67 ?_
  intro bb aO bi bF bj H
  have hYC : YieldC Try.prog ([cMk (aO :: ([])), cBlk aK [aB, aC, aD, am, I aI, I aJ, aE] 30, cBlk au [I ((ab.getD (Int.toNat d.town) default).station), I ((ab.getD (Int.toNat d.town) default).lead), I ((ab.getD (Int.toNat d.town) default).alarm)] 54, cBlk ah [I d.spring, I d.town] 62, cBlk ai [Pq aa] 72, cMap encDm id ak aw, cRx ao] ++ R) arII (yJ bb bi (fun l bc => ∃ (ac : Value), bc = [cOwn (α := Int) 3 ac l, cBlk al [ac] 23]) (fun (_ : Unit) _ => False) (fun _ => .ret)) (.func (.yield bb) #[] #[]) (M.yl (zaE ax ay az ab aq ae aA d)) := by
   refine YieldC.mk bj (fun l bc => ∃ (ac : Value), bc = [cOwn (α := Int) 3 ac l, cBlk al [ac] 23]) (fun (_ : Unit) _ => False) (fun _ => .ret) (zaE ax ay az ab aq ae aA d) (by rintro l _ h_; obtain ⟨_, rfl⟩ := h_; rfl) (fun _ _ h_ => h_.elim) rfl (arII_len rfl) ?_
   intro C_ cd x_ W_ bG
   obtain ⟨x, x2⟩ := x_
   obtain rfl := bG
   refine W.region rfl ?_
   refine zA (I x2) rfl ?_
   refine s_nil ?_
   refine ⟨rfl, rfl, ?_⟩
   intro w R aP bc s_ r bH hM H
   skip
   obtain ⟨l, bI⟩ : ∃ y_, y_ = s_ := ⟨_, rfl⟩
   subst bI
   obtain ⟨ac, rfl⟩ := bH
   replace aQ := aQ.sub aP
   replace aR := aR.sub aP
   replace aS := aS.sub aP
   replace aM := aM.sub aP
   replace aT := aT.sub aP
   replace aG := aG.sub aP
   replace hM : (zaE ax ay az ab aq ae aA d l (x, x2)).Ends r := hM
   simp only [zaE] at hM
   replace H := H.pk [0, 1, 3, 4, 5, 6, 7, 8, 2]
   refine W.block ?_
   refine W.seq ?_
   refine W.region rfl ?_
   refine s_val (x_ld (p := Pq ai) (v := Pq aa) rfl (ldb_sc Sc72 (H.bl 5) rfl)) ?_
   refine zM (I x2) rfl ?_
   refine s_val (x_fa (a := Pq au) (v := Pq au) rfl (fa_blk (o := 0) Fd54_0 Sz3)) ?_
   refine s_val (x_ld (p := Pq au) (v := I ((ab.getD (Int.toNat d.town) default).station)) rfl (ldb_sc Sc3 (H.bl 3) rfl)) ?_
   obtain ⟨ce, bJ, hM⟩ := M.e_bind hM
   refine s_call cf47 [Pq aa, I x2, I ((ab.getD (Int.toNat d.town) default).station)] rfl (zco ax ay az ab aq ae aA x2 ((ab.getD (Int.toNat d.town) default).station) (aQ.app _) aX (aR.app _) aY (aS.app _) aZ (aM.app _) aN (aT.app _) a8 (aG.app _) bJ _ (H.gt 9)) ?_
   rintro vq cf ⟨av, aL, r1, bK, hvq, aH⟩
   subst bK
   subst vq
   try dsimp only at hM
   replace H := H.bk aH
   clear aH
   refine zM (.tuple #[.agg #[I av, I aL], B r1]) rfl ?_
   refine zX [.agg #[I av, I aL], B r1] (.agg #[I av, I aL]) rfl rfl ?_
   refine zX [.agg #[I av, I aL], B r1] (B r1) rfl rfl ?_
   refine t_alloc (cs := [I 0, I 0]) H Al27 rfl ?_
   intro aV cg H
   refine t_sw 0 0 [I av, I aL] (.agg #[I av, I aL]) H rfl rfl Sz27 rfl rfl rfl rfl ?_
   intro ch H
   refine zA (B r1) rfl ?_
   refine s_nil ?_
   refine W.seq ?_
   refine W.draw (fun W => St w W [cBlk aV [I av, I aL] 27, cOwn (α := Int) 3 ac l, cBlk al [ac] 23, cBlk aK [aB, aC, aD, am, I aI, I aJ, aE] 30, cBlk au [I ((ab.getD (Int.toNat d.town) default).station), I ((ab.getD (Int.toNat d.town) default).lead), I ((ab.getD (Int.toNat d.town) default).alarm)] 54, cBlk ah [I d.spring, I d.town] 62, cBlk ai [Pq aa] 72, cMap encDm id ak aw, cRx ao, cMk (aO :: ([]))] R) [(0, true), (1, true), (2, true), (3, true), (4, true), (5, true), (6, true), (7, true), (8, true), (9, true), (10, true), (11, true), (12, true), (13, true), (14, true)] mixed (by decide +kernel) rfl ?_
   intro ck aj
   replace H := H.ext aj
   clear aj
   refine ⟨(H.pk [0, 1, 2, 3, 4, 5, 6, 7, 8, 9]), ?_⟩
   refine d_q rfl (fun w' H => x_mv (v := B r1) rfl) ?_
   refine d_q rfl (fun w' H => x_mv (v := B r1) rfl) ?_
   refine d_qg r1 rfl (gy_t rfl) (fun hg => (fun w' H => x_fa (a := Pq aV) (v := Pq aV) rfl (fa_blk (o := 0) Fd27_0 Sz3))) ?_
   refine d_qg r1 rfl (gy_t rfl) (fun hg => (fun w' H => x_ld (p := Pq aV) (v := I av) (gd_of (c := r1) hg (Pq aV)) (ldb_sc Sc3 (H.bl 0) rfl))) ?_
   refine d_qg r1 rfl (gy_t rfl) (fun hg => (fun w' H => x_fa (a := Pq au) (v := Oq au 1) rfl (fa_blk (o := 0) Fd54_1 Sz3))) ?_
   refine d_qg r1 rfl (gy_t rfl) (fun hg => (fun w' H => x_ld (p := Oq au 1) (v := I ((ab.getD (Int.toNat d.town) default).lead)) (gd_of (c := r1) hg (Oq au 1)) (ldb_sc Sc3 (H.bl 4) rfl))) ?_
   refine d_qg r1 rfl (gy_t rfl) (fun hg => (fun w' H => x_ld (p := Pq ai) (v := Pq aa) rfl (ldb_sc Sc72 (H.bl 6) rfl))) ?_
   refine d_qg r1 rfl (gy_t rfl) (fun hg => (fun w' H => x_nc (a := ⟨aa, 0, none⟩) (gd_of (c := r1) hg (Pq aa)))) ?_
   refine d_qg r1 rfl (gy_t rfl) (fun hg => (fun w' H => x_fa (a := Pq aa) (v := Pq aa) (gd_of (c := r1) hg (Pq aa)) (fa_blk (o := 0) Fd86_0 Sz30))) ?_
   refine d_qg r1 rfl (gy_t rfl) (fun hg => (fun w' H => x_fa (a := Pq aa) (v := Oq aa 4) (gd_of (c := r1) hg (Pq aa)) (fa_blk (o := 0) Fd30_4 Sz27))) ?_
   refine d_qg r1 rfl (gy_t rfl) (fun hg => (fun w' H => x_fa (a := Oq aa 4) (v := Oq aa 5) (gd_of (c := r1) hg (Oq aa 4)) (fa_blk (o := 4) Fd27_1 Sz3))) ?_
   refine d_qg r1 rfl (gy_t rfl) (fun hg => (fun w' H => x_ld (p := Oq aa 5) (v := I ae) (gd_of (c := r1) hg (Oq aa 5)) (ldb_sc Sc3 (aG.blk H) rfl))) ?_
   obtain ⟨bf, hM⟩ := M.e_grd hM
   replace bf := M.imp_of bf
   simp only [Bool.and_eq_true, decide_eq_true_eq] at bf
   refine d_qg r1 rfl (gy_t rfl) (fun hg => (fun w' H => x_ari (a := (ab.getD (Int.toNat d.town) default).lead) (b := ae) (r := ((ab.getD (Int.toNat d.town) default).lead) + ae) (gd_of (c := r1) hg (I ((ab.getD (Int.toNat d.town) default).lead))) (gd_of (c := r1) hg (I ae)) rfl (by have bm := bf.resolve_left (by rw [hg]; decide); first | exact bm | exact bm.1 | exact bm.2 | omega | (have aj := hg; simp at aj; omega)))) ?_
   refine d_qg r1 rfl (gy_t rfl) (fun hg => (fun w' H => x_cmp (kd := .i64) (a := av) (b := ((ab.getD (Int.toNat d.town) default).lead) + ae) (r := decide ((((ab.getD (Int.toNat d.town) default).lead) + ae) <= av)) (gd_of (c := r1) hg (I av)) (gd_of (c := r1) hg (I (((ab.getD (Int.toNat d.town) default).lead) + ae))) rfl)) ?_
   refine d_q rfl (fun w' H => x_pand (b := r1) (r := decide ((((ab.getD (Int.toNat d.town) default).lead) + ae) <= av)) rfl (fun hb => gd_of (c := r1) (by first | exact hb | (rw [hb]; rfl) | simp_all) (B (decide ((((ab.getD (Int.toNat d.town) default).lead) + ae) <= av)))) rfl) ?_
   refine d_nil ?_
   refine W.cond (r1 && (decide ((((ab.getD (Int.toNat d.town) default).lead) + ae) <= av))) rfl (fun bn => ?_) (fun bn => ?_)
   ·replace hM := M.e_t hM bn
    refine W.region rfl ?_
    refine s_val (x_ld (p := Pq al) (v := ac) rfl (ldb_sc Sc23 (H.bl 2) rfl)) ?_
    refine zM (I x2) rfl ?_
    refine t_bs (α := Int) T23 [I x2] [(x2 : Int)] H rfl (.cons rfl (Flat.rep_enc _ (x2 : Int)) <| .nil) rfl rfl rfl ?_
    intro bL cl H
    obtain ⟨bM, hM⟩ := M.e_grd hM
    simp only [Bool.and_eq_true, decide_eq_true_eq] at bM
    refine t_app (α := Int) (k := 2) (l := l) (l2 := [(x2 : Int)]) (l' := l ++ ([(x2 : Int)])) (vy := bL) T23 rfl H rfl rfl rfl (H.os 0) (H.ol 0) (rfl) (by first | omega | (simp only [List.length_nil] at *; omega)) ?_
    intro aW cm H
    replace H := H.nf
    refine t_sw 3 0 [aW] aW H rfl rfl Sz23 (Sl.cells (H.os 2)) rfl rfl (by simp only [List.all_cons, List.all_nil, Bool.true_and, Bool.and_true, Sl.oc (H.os 2)]; try rfl) ?_
    intro cn H
    refine s_nil ?_
    exact ⟨l ++ ([(x2 : Int)]), [cOwn (α := Int) 3 aW (l ++ ([(x2 : Int)])), cBlk al [aW] 23], (M.e_pure hM).symm, ⟨aW, rfl⟩, H.pick [2, 3, 10, 4, 5, 6, 7, 8, 9] (by decide) rfl⟩
   replace hM := M.e_f hM bn
   refine W.skip ?_
   exact ⟨l, [cOwn (α := Int) 3 ac l, cBlk al [ac] 23], (M.e_pure hM).symm, ⟨ac, rfl⟩, H.pick [1, 2, 9, 3, 4, 5, 6, 7, 8] (by decide) rfl⟩
  replace H : St w bF (cAll (cObj bb (.loop bi) :: [cOwn (α := Int) 3 (.slice none 0 0) ([]), cBlk al [(.slice none 0 0)] 23]) :: [cBlk aU [I ba] 3, cMk (aO :: ([])), cBlk aK [aB, aC, aD, am, I aI, I aJ, aE] 30, cBlk au [I ((ab.getD (Int.toNat d.town) default).station), I ((ab.getD (Int.toNat d.town) default).lead), I ((ab.getD (Int.toNat d.town) default).alarm)] 54, cBlk ah [I d.spring, I d.town] 62, cBlk ai [Pq aa] 72, cMap encDm id ak aw, cRx ao]) R := St.bundleB (A := cObj bb (.loop bi) :: [cOwn (α := Int) 3 (.slice none 0 0) ([]), cBlk al [(.slice none 0 0)] 23]) (T := [cBlk aU [I ba] 3, cMk (aO :: ([])), cBlk aK [aB, aC, aD, am, I aI, I aJ, aE] 30, cBlk au [I ((ab.getD (Int.toNat d.town) default).station), I ((ab.getD (Int.toNat d.town) default).lead), I ((ab.getD (Int.toNat d.town) default).alarm)] 54, cBlk ah [I d.spring, I d.town] 62, cBlk ai [Pq aa] 72, cMap encDm id ak aw, cRx ao]) rfl (H.pk [0, 2, 3, 10, 1, 4, 5, 6, 7, 8, 9])
  refine (zaP (M.yl (zaE ax ay az ab aq ae aA d)) (.inl ([])) ba ax ay az ab aI aJ aA hYC ⟨_, rfl, ⟨(.slice none 0 0), rfl⟩⟩ (aQ.app _) aX (aR.app _) aY (aS.app _) aZ (aM.app _) aN (aT.app _) a8 (Has.here (k := 1) rfl) bE _ (H.gt 7)).mono ?_
  rintro vq co ⟨bN, q0, cp, bO, hvq, aH, bz⟩
  subst bO
  replace H := H.back aH rfl
  clear aH hYC
  rcases bN with l | _
  ·try dsimp only at hM
   obtain ⟨_, rfl, ac, rfl⟩ := bz
   refine ⟨_, [cOwn (α := Int) 3 ac l, cBlk al [ac] 23, cBlk aK [aB, aC, aD, am, I aI, I aJ, aE] 30, cBlk au [I ((ab.getD (Int.toNat d.town) default).station), I ((ab.getD (Int.toNat d.town) default).lead), I ((ab.getD (Int.toNat d.town) default).alarm)] 54, cBlk ah [I d.spring, I d.town] 62, cBlk ai [Pq aa] 72, cMap encDm id ak aw, cRx ao, cBlk aU [I q0] 3], H.unbundle.pick [0, 4, 1, 2, 5, 6, 7, 8, 9, 10, 3] (by decide) rfl, bj.nb, ?_⟩
   intro cq H
   rw [bj.pd]
   replace H := H.nf
   try simp only []
   replace H := H.pk [0, 1, 2, 5, 6, 7, 8]
   refine WD.seq ?_
   refine WD.of ?_
   refine W.draw (fun W => St w W [cMk (aO :: ([])), cOwn (α := Int) 3 ac l, cBlk al [ac] 23, cBlk ah [I d.spring, I d.town] 62, cBlk ai [Pq aa] 72, cRx ao] R) [(0, true), (1, true), (2, true), (3, true), (4, true), (5, true), (6, false)] mixed (by decide +kernel) rfl ?_
   intro ct aj
   replace H := H.ext aj
   clear aj
   refine ⟨(H.pk [0, 1, 2, 3, 4, 6]), ?_⟩
   refine d_q rfl (fun w' H => x_ld (p := Pq ai) (v := Pq aa) rfl (ldb_sc Sc72 (H.bl 4) rfl)) ?_
   refine d_q rfl (fun w' H => x_nc (a := ⟨aa, 0, none⟩) rfl) ?_
   refine d_q rfl (fun w' H => x_fa (a := Pq aa) (v := Oq aa 7) rfl (fa_blk (o := 0) Fd86_1 Sz84)) ?_
   refine d_q rfl (fun w' H => x_ld (p := Oq aa 7) (v := .map (some ak)) rfl (ldb_sc Sc84 (aG.blk H) rfl)) ?_
   refine d_q rfl (fun w' H => x_ld (p := Pq ah) (v := .agg #[I d.spring, I d.town]) rfl (ldb_ag (ds := [I d.spring, I d.town]) Ag62 Sz62 (H.bl 3) rfl rfl)) ?_
   refine d_q rfl (fun w' H => x_ld (p := Pq al) (v := ac) rfl (ldb_sc Sc23 (H.bl 2) rfl)) ?_
   refine d_l rfl ?_
   refine t_mapu (i := 5) (kenc := encDm) (venc := id) (f := aw) (k := d) (v := ac) (L' := [cMk (aO :: ([])), cOwn (α := Int) 3 ac l, cBlk al [ac] 23, cBlk ah [I d.spring, I d.town] 62, cBlk ai [Pq aa] 72, cMap encDm id ak (updF aw d ac), cRx ao]) keyDem Try.underlying84 H rfl rfl rfl rfl rfl ?_
   intro cu H
   refine s_nil ⟨(H.pk [0, 1, 2, 3, 4, 6]), ?_⟩
   refine d_nil ?_
   replace H := H.pk [0, 1, 2, 5, 6]
   refine WD.seq ?_
   refine WD.of ?_
   refine W.region rfl ?_
   refine s_val (x_ld (p := Pq al) (v := ac) rfl (ldb_sc Sc23 (H.bl 2) rfl)) ?_
   refine zA ac rfl ?_
   refine s_nil ?_
   refine WD.of ?_
   refine W.ret ?_
   refine bodyD_r (H.pk [0, 1, 2, 3, 4]) ?_
   intro cw H
   replace H := H.nf
   obtain ⟨bP, cx, bQ, H⟩ := St.memShut1 (H.pk [2, 3, 0, 1]) bg (by rw [M.e_pure hM]; exact hM0)
   replace H := H.nf
   have bo := M.e_pure hM
   exact ⟨_, resE_tmp rfl, ⟨l, ac, bP, bo, rfl, (H.pk [0]), bQ⟩⟩
  obtain ⟨_, _, h_⟩ := bz; exact h_.elim
 | some aF =>
  obtain ⟨bp, bR, bS⟩ := bg d aF bh
  obtain rfl := M.Ends.det bR hM0
  replace hM : (M.pure bp).Ends bp := M.i_pure
  refine WD.seq ?_
  refine WD.of ?_
  refine W.region rfl ?_
  refine t_box (v := Pq aa) (cs := [Pq aa]) H rfl rfl ?_
  intro ai cy H
  refine t_box (v := .agg #[I d.spring, I d.town]) (cs := [I d.spring, I d.town]) H rfl rfl ?_
  intro ah cz H
  refine zA (.slice none 0 0) rfl ?_
  refine s_nil ?_
  refine WD.seq ?_
  refine WD.seq ?_
  refine WD.of ?_
  refine W.draw (fun W => St w W [cBlk ah [I d.spring, I d.town] 62, cBlk ai [Pq aa] 72, cRx ao, cMk ([])] R) [(0, true), (1, true), (2, true), (3, true), (4, true), (5, false), (6, true), (7, true), (8, true), (9, true), (10, true)] mixed (by decide +kernel) rfl ?_
  intro cA aj
  replace H := H.ext aj
  clear aj
  refine ⟨(H.pk [0, 1, 3, 4]), ?_⟩
  refine d_q rfl (fun w' H => x_ld (p := Pq ai) (v := Pq aa) rfl (ldb_sc Sc72 (H.bl 1) rfl)) ?_
  refine d_q rfl (fun w' H => x_nc (a := ⟨aa, 0, none⟩) rfl) ?_
  refine d_q rfl (fun w' H => x_fa (a := Pq aa) (v := Oq aa 7) rfl (fa_blk (o := 0) Fd86_1 Sz84)) ?_
  refine d_q rfl (fun w' H => x_ld (p := Oq aa 7) (v := .map (some ak)) rfl (ldb_sc Sc84 (aG.blk H) rfl)) ?_
  refine d_q rfl (fun w' H => x_ld (p := Pq ah) (v := .agg #[I d.spring, I d.town]) rfl (ldb_ag (ds := [I d.spring, I d.town]) Ag62 Sz62 (H.bl 0) rfl rfl)) ?_
  refine d_l rfl ?_
  refine s_val (q_look (kenc := encDm) (venc := id) (f := aw) (k := d) (z := .slice none 0 0) (v := .tuple #[aF, B true]) keyDem Try.underlying84 (by kernel_rfl) rfl rfl (H.get (k := 2) rfl) true (by simp [bh])) ?_
  refine s_nil ⟨(H.pk [0, 1, 3, 4]), ?_⟩
  refine d_q rfl (fun w' H => x_mv (v := .tuple #[aF, B true]) rfl) ?_
  refine d_q rfl (fun w' H => x_ext (vs := [aF, B true]) (v := aF) rfl rfl) ?_
  refine d_q rfl (fun w' H => x_ext (vs := [aF, B true]) (v := B true) rfl rfl) ?_
  refine d_q rfl (fun w' H => x_as (v := aF) rfl) ?_
  refine d_q rfl (fun w' H => x_as (v := B true) rfl) ?_
  refine d_nil ?_
  refine WD.seq ?_
  refine WD.of ?_
  refine W.region rfl ?_
  refine zM (B true) rfl ?_
  refine s_nil ?_
  refine WD.cond true rfl (fun bA => ?_) (fun bA => ?_)
  ·skip
   refine WD.seq ?_
   refine WD.of ?_
   refine W.region rfl ?_
   refine zM aF rfl ?_
   refine zA aF rfl ?_
   refine s_nil ?_
   replace H := H.pk [2, 3, 4]
   refine WD.of ?_
   refine W.ret ?_
   refine bodyD_r (H.pk [2, 0, 1]) ?_
   intro cB H
   replace H := H.nf
   replace H := St.memShut (H.pk [0, 1]) bg
   replace H := H.nf
   have bo := M.e_pure hM
   exact ⟨_, resE_tmp rfl, ⟨bp, aF, ao, bo, rfl, H, bS⟩⟩
  skip
  exact absurd bA (by decide)

def zbb (lo : Int) (hi : Int) : M (Int × Int) :=
  M.pure (lo, hi)
theorem zbi {R : List Chunk}  (lo : Int) (hi : Int)  {r : (Int × Int)} (hM : (zbb lo hi).Ends r) (w : World) (H : St w w [] R) : Ret Try.prog 43 #[I lo, I hi] w fun v w' => ∃ (y0 : Int) (y1 : Int), (y0, y1) = r /\ v = .agg #[I y0, I y1] /\ St w w' [] R := by
 refine ret_of_W Try.func43 rfl rfl rfl ?_
 refine W.seq ?_
 refine W.region rfl ?_
 refine t_alloc (cs := [I 0, I 0]) H Al27 rfl ?_
 intro ac ae H
 refine s_nil ?_
 refine W.seq ?_
 refine W.region rfl ?_
 refine zM (I lo) rfl ?_
 refine zM (I hi) rfl ?_
 refine s_val (x_bld (ps := [(0, I lo), (1, I hi)]) (zs := [I 0, I 0]) (L' := [I lo, I hi]) rfl Try.underlying27 Al27 rfl (Bd27 Try.underlying27) (.cons (cs := [I lo]) rfl rfl rfl rfl rfl <| .cons (cs := [I hi]) rfl rfl rfl rfl rfl <| .nil)) ?_
 refine t_sw 0 0 [I lo, I hi] (.agg #[I lo, I hi]) H rfl rfl Sz27 rfl rfl rfl rfl ?_
 intro ah H
 refine s_nil ?_
 refine W.ret ?_
 have aa := (H.bl 0)
 have ab := M.e_pure hM
 exact ⟨_, (resE_of1 (v := .agg #[I lo, I hi]) rfl (.cell (v := .agg #[I lo, I hi]) rfl (run_loadVar_ag (ds := [I lo, I hi]) Ag27 Sz27 aa rfl rfl) <| .nil)), ⟨lo, hi, ab, rfl, (H.pk [])⟩⟩

def zae (aa : Int) : M ((List Int) × (List Span) × (List Int) × (List Town) × Int × Int × (List Flood)) :=
  M.bind (zbb 5 6) fun (r0, r1) =>
  M.bind (zbb 2 4) fun (ab, ac) =>
  M.bind (zbb 3 5) fun (ae, ah) =>
  M.bind (zbb 1 2) fun (ai, aj) =>
  M.pure (([(2 : Int), (2 : Int), (3 : Int), (-1 : Int)]), ([(⟨(r0 : Int), (r1 : Int)⟩ : Span), (⟨(ab : Int), (ac : Int)⟩ : Span), (⟨(ae : Int), (ah : Int)⟩ : Span), (⟨(0 : Int), (0 : Int)⟩ : Span)]), ([(0 : Int), (1 : Int)]), ([(⟨(3 : Int), (aa : Int), (300 : Int)⟩ : Town)]), ai, aj, ([(⟨(0 : Int), ([(200 : Int), (250 : Int), (310 : Int)])⟩ : Flood), (⟨(1 : Int), ([(280 : Int), (240 : Int), (290 : Int)])⟩ : Flood), (⟨(0 : Int), ([(100 : Int), (260 : Int), (300 : Int)])⟩ : Flood)]))
theorem zaf {R : List Chunk}  (ab : Int)  {r : ((List Int) × (List Span) × (List Int) × (List Town) × Int × Int × (List Flood))} (hM : (zae ab).Ends r) (w : World) (H : St w w [] R) : Ret Try.prog 42 #[I ab] w fun v w' => ∃ (y0 : List Int) (y1 : List Span) (y2 : List Int) (y3 : List Town) (y4 : Int) (y5 : Int) (y6 : List Flood) (u0 : Value) (u1 : Value) (u2 : Value) (u3 : Value) (u4 : Value) (rr5 : List (Raw 1)) (aF : Base), (y0, y1, y2, y3, y4, y5, y6) = r /\ v = .agg #[u0, u1, u2, u3, I y4, I y5, u4] /\ St w w' [cOwn (α := Int) 3 u0 y0, cOwn (α := Span) 27 u1 y1, cOwn (α := Int) 3 u2 y2, cOwn (α := Town) 54 u3 y3, cOwn (α := Raw 1) 67 u4 rr5, cRo aF] R /\ RepR (α := Flood) aF.cells rr5 y6 := by
 refine ret_of_W Try.func42 rfl rfl rfl ?_
 refine W.seq ?_
 refine W.region rfl ?_
 refine t_alloc (cs := [.slice none 0 0, .slice none 0 0, .slice none 0 0, .slice none 0 0, I 0, I 0, .slice none 0 0]) H Al30 rfl ?_
 intro bb bc H
 refine s_nil ?_
 refine W.seq ?_
 refine W.region rfl ?_
 refine t_bs (α := Int) T23 [I 2, I 2, I 3, I (-1)] [(2 : Int), (2 : Int), (3 : Int), (-1 : Int)] H rfl (.cons rfl (Flat.rep_enc _ (2 : Int)) <| .cons rfl (Flat.rep_enc _ (2 : Int)) <| .cons rfl (Flat.rep_enc _ (3 : Int)) <| .cons rfl (Flat.rep_enc _ (-1 : Int)) <| .nil) rfl rfl rfl ?_
 intro ac bf H
 obtain ⟨bg, aL, hM⟩ := M.e_bind hM
 refine s_call cf43 [I 5, I 6] rfl (zbi 5 6 aL _ (H.gt 2)) ?_
 rintro vq bh ⟨r0, r1, aM, hvq, aa⟩
 subst aM
 subst vq
 try dsimp only at hM
 replace H := H.bk aa
 clear aa
 obtain ⟨bi, aN, hM⟩ := M.e_bind hM
 refine s_call cf43 [I 2, I 4] rfl (zbi 2 4 aN _ (H.gt 2)) ?_
 rintro vq bj ⟨az, aA, aO, hvq, aa⟩
 subst aO
 subst vq
 try dsimp only at hM
 replace H := H.bk aa
 clear aa
 obtain ⟨bm, aP, hM⟩ := M.e_bind hM
 refine s_call cf43 [I 3, I 5] rfl (zbi 3 5 aP _ (H.gt 2)) ?_
 rintro vq bn ⟨aB, aC, aQ, hvq, aa⟩
 subst aQ
 subst vq
 try dsimp only at hM
 replace H := H.bk aa
 clear aa
 refine s_val (x_bld (ps := []) (zs := [I 0, I 0]) (L' := [I 0, I 0]) rfl Try.underlying27 Al27 rfl (Bd27 Try.underlying27) (.nil)) ?_
 refine t_bs (α := Span) T24 [.agg #[I r0, I r1], .agg #[I az, I aA], .agg #[I aB, I aC], .agg #[I 0, I 0]] [(⟨(r0 : Int), (r1 : Int)⟩ : Span), (⟨(az : Int), (aA : Int)⟩ : Span), (⟨(aB : Int), (aC : Int)⟩ : Span), (⟨(0 : Int), (0 : Int)⟩ : Span)] H rfl (.cons rfl (Flat.rep_enc _ (⟨(r0 : Int), (r1 : Int)⟩ : Span)) <| .cons rfl (Flat.rep_enc _ (⟨(az : Int), (aA : Int)⟩ : Span)) <| .cons rfl (Flat.rep_enc _ (⟨(aB : Int), (aC : Int)⟩ : Span)) <| .cons rfl (Flat.rep_enc _ (⟨(0 : Int), (0 : Int)⟩ : Span)) <| .nil) rfl rfl rfl ?_
 intro ae bo H
 refine t_bs (α := Int) T23 [I 0, I 1] [(0 : Int), (1 : Int)] H rfl (.cons rfl (Flat.rep_enc _ (0 : Int)) <| .cons rfl (Flat.rep_enc _ (1 : Int)) <| .nil) rfl rfl rfl ?_
 intro ah bp H
 refine zM (I ab) rfl ?_
 refine s_val (x_bld (ps := [(0, I 3), (1, I ab), (2, I 300)]) (zs := [I 0, I 0, I 0]) (L' := [I 3, I ab, I 300]) rfl Try.underlying54 Al54 rfl (Bd54 Try.underlying54) (.cons (cs := [I 3]) rfl rfl rfl rfl rfl <| .cons (cs := [I ab]) rfl rfl rfl rfl rfl <| .cons (cs := [I 300]) rfl rfl rfl rfl rfl <| .nil)) ?_
 refine t_bs (α := Town) T25 [.agg #[I 3, I ab, I 300]] [(⟨(3 : Int), (ab : Int), (300 : Int)⟩ : Town)] H rfl (.cons rfl (Flat.rep_enc _ (⟨(3 : Int), (ab : Int), (300 : Int)⟩ : Town)) <| .nil) rfl rfl rfl ?_
 intro ai bq H
 obtain ⟨br, aR, hM⟩ := M.e_bind hM
 refine s_call cf43 [I 1, I 2] rfl (zbi 1 2 aR _ (H.gt 5)) ?_
 rintro vq bt ⟨aj, ak, aS, hvq, aa⟩
 subst aS
 subst vq
 try dsimp only at hM
 replace H := H.bk aa
 clear aa
 refine t_bs (α := Int) T23 [I 200, I 250, I 310] [(200 : Int), (250 : Int), (310 : Int)] H rfl (.cons rfl (Flat.rep_enc _ (200 : Int)) <| .cons rfl (Flat.rep_enc _ (250 : Int)) <| .cons rfl (Flat.rep_enc _ (310 : Int)) <| .nil) rfl rfl rfl ?_
 intro ao bu H
 refine s_val (x_bld (ps := [(0, I 0), (1, ao)]) (zs := [I 0, .slice none 0 0]) (L' := [I 0, ao]) rfl Try.underlying67 Al67 rfl (Bd67 Try.underlying67) (.cons (cs := [I 0]) rfl rfl rfl rfl rfl <| .cons (cs := [ao]) (Sl.cells (H.os 0)) rfl rfl rfl rfl <| .nil)) ?_
 refine t_bs (α := Int) T23 [I 280, I 240, I 290] [(280 : Int), (240 : Int), (290 : Int)] H rfl (.cons rfl (Flat.rep_enc _ (280 : Int)) <| .cons rfl (Flat.rep_enc _ (240 : Int)) <| .cons rfl (Flat.rep_enc _ (290 : Int)) <| .nil) rfl rfl rfl ?_
 intro aq bv H
 refine s_val (x_bld (ps := [(0, I 1), (1, aq)]) (zs := [I 0, .slice none 0 0]) (L' := [I 1, aq]) rfl Try.underlying67 Al67 rfl (Bd67 Try.underlying67) (.cons (cs := [I 1]) rfl rfl rfl rfl rfl <| .cons (cs := [aq]) (Sl.cells (H.os 0)) rfl rfl rfl rfl <| .nil)) ?_
 refine t_bs (α := Int) T23 [I 100, I 260, I 300] [(100 : Int), (260 : Int), (300 : Int)] H rfl (.cons rfl (Flat.rep_enc _ (100 : Int)) <| .cons rfl (Flat.rep_enc _ (260 : Int)) <| .cons rfl (Flat.rep_enc _ (300 : Int)) <| .nil) rfl rfl rfl ?_
 intro au bw H
 refine s_val (x_bld (ps := [(0, I 0), (1, au)]) (zs := [I 0, .slice none 0 0]) (L' := [I 0, au]) rfl Try.underlying67 Al67 rfl (Bd67 Try.underlying67) (.cons (cs := [I 0]) rfl rfl rfl rfl rfl <| .cons (cs := [au]) (Sl.cells (H.os 0)) rfl rfl rfl rfl <| .nil)) ?_
 obtain ⟨bx, H⟩ := H.emptyE
 obtain ⟨bz, H, aT⟩ := H.freezeE (k := 3) rfl
 replace H := H.nf
 have am := aT
 obtain ⟨bA, H, bB, aU⟩ := H.joinE (i := 0) (j := 3) rfl rfl
 replace am := am.mono aU
 obtain ⟨bC, H, aV⟩ := H.freezeE (k := 3) rfl
 replace H := H.nf
 have av := aV
 obtain ⟨bD, H, aW, aX⟩ := H.joinE (i := 0) (j := 3) rfl rfl
 replace am := am.mono aW
 replace av := av.mono aX
 obtain ⟨bE, H, aY⟩ := H.freezeE (k := 3) rfl
 replace H := H.nf
 have aD := aY
 obtain ⟨aG, H, aH, aZ⟩ := H.joinE (i := 0) (j := 3) rfl rfl
 replace am := am.mono aH
 replace av := av.mono aH
 replace aD := aD.mono aZ
 obtain ⟨aw, aI⟩ : ∃ r : Raw 1, r.cs = [I 0, ao] := ⟨Raw.of [I 0, ao] rfl (by simp only [List.all_cons, List.all_nil, Bool.true_and, Bool.and_true, Sl.oc am]; try rfl), rfl⟩
 obtain ⟨ax, aJ⟩ : ∃ r : Raw 1, r.cs = [I 1, aq] := ⟨Raw.of [I 1, aq] rfl (by simp only [List.all_cons, List.all_nil, Bool.true_and, Bool.and_true, Sl.oc av]; try rfl), rfl⟩
 obtain ⟨ay, aK⟩ : ∃ r : Raw 1, r.cs = [I 0, au] := ⟨Raw.of [I 0, au] rfl (by simp only [List.all_cons, List.all_nil, Bool.true_and, Bool.and_true, Sl.oc aD]; try rfl), rfl⟩
 have aE : RepR (α := Flood) aG.cells [aw, ax, ay] [(⟨(0 : Int), ([(200 : Int), (250 : Int), (310 : Int)])⟩ : Flood), (⟨(1 : Int), ([(280 : Int), (240 : Int), (290 : Int)])⟩ : Flood), (⟨(0 : Int), ([(100 : Int), (260 : Int), (300 : Int)])⟩ : Flood)] := .cons (by rw [aI]; exact ⟨_, rfl, am⟩) <| .cons (by rw [aJ]; exact ⟨_, rfl, av⟩) <| .cons (by rw [aK]; exact ⟨_, rfl, aD⟩) <| .nil
 refine t_bs (α := Raw 1) T28 [.agg #[I 0, ao], .agg #[I 1, aq], .agg #[I 0, au]] [aw, ax, ay] H rfl (.cons (by rw [show (Flat.enc aw : List Value) = aw.cs from rfl, aI]; rfl) (Flat.rep_enc _ _) <| .cons (by rw [show (Flat.enc ax : List Value) = ax.cs from rfl, aJ]; rfl) (Flat.rep_enc _ _) <| .cons (by rw [show (Flat.enc ay : List Value) = ay.cs from rfl, aK]; rfl) (Flat.rep_enc _ _) <| .nil) rfl rfl rfl ?_
 intro al bF H
 replace H := H.nf
 refine s_val (x_bld (ps := [(0, ac), (1, ae), (2, ah), (3, ai), (4, .agg #[I aj, I ak]), (5, al)]) (zs := [.slice none 0 0, .slice none 0 0, .slice none 0 0, .slice none 0 0, I 0, I 0, .slice none 0 0]) (L' := [ac, ae, ah, ai, I aj, I ak, al]) rfl Try.underlying30 Al30 rfl (Bd30 Try.underlying30) (.cons (cs := [ac]) (Sl.cells (H.os 11)) rfl rfl rfl rfl <| .cons (cs := [ae]) (Sl.cells (H.os 10)) rfl rfl rfl rfl <| .cons (cs := [ah]) (Sl.cells (H.os 9)) rfl rfl rfl rfl <| .cons (cs := [ai]) (Sl.cells (H.os 8)) rfl rfl rfl rfl <| .cons (cs := [I aj, I ak]) rfl rfl rfl rfl rfl <| .cons (cs := [al]) (Sl.cells (rowSl rfl (H.get (k := 0) rfl) (roLe _ (H.get (k := 1) rfl)) aE)) rfl rfl rfl rfl <| .nil)) ?_
 refine t_sw 12 0 [ac, ae, ah, ai, I aj, I ak, al] (.agg #[ac, ae, ah, ai, I aj, I ak, al]) H rfl rfl Sz30 rfl rfl rfl (by simp only [List.all_cons, List.all_nil, Bool.true_and, Bool.and_true, Sl.oc (H.os 11), Sl.oc (H.os 10), Sl.oc (H.os 9), Sl.oc (H.os 8), Sl.oc (rowSl rfl (H.get (k := 0) rfl) (roLe _ (H.get (k := 1) rfl)) aE)]; try rfl) ?_
 intro bG H
 refine s_nil ?_
 replace H := H.pk [0, 1, 8, 9, 10, 11, 12]
 refine W.ret ?_
 have a8 := (H.bl 6)
 have ba := M.e_pure hM
 exact ⟨_, (resE_of1 (v := .agg #[ac, ae, ah, ai, I aj, I ak, al]) rfl (.cell (v := .agg #[ac, ae, ah, ai, I aj, I ak, al]) rfl (run_loadVar_ag (ds := [ac, ae, ah, ai, I aj, I ak, al]) Ag30 Sz30 a8 rfl rfl) <| .nil)), ⟨([(2 : Int), (2 : Int), (3 : Int), (-1 : Int)]), ([(⟨(r0 : Int), (r1 : Int)⟩ : Span), (⟨(az : Int), (aA : Int)⟩ : Span), (⟨(aB : Int), (aC : Int)⟩ : Span), (⟨(0 : Int), (0 : Int)⟩ : Span)]), ([(0 : Int), (1 : Int)]), ([(⟨(3 : Int), (ab : Int), (300 : Int)⟩ : Town)]), aj, ak, ([(⟨(0 : Int), ([(200 : Int), (250 : Int), (310 : Int)])⟩ : Flood), (⟨(1 : Int), ([(280 : Int), (240 : Int), (290 : Int)])⟩ : Flood), (⟨(0 : Int), ([(100 : Int), (260 : Int), (300 : Int)])⟩ : Flood)]), ac, ae, ah, ai, al, [aw, ax, ay], aG, ba, rfl, (H.pk [5, 4, 3, 2, 0, 1]), aE⟩⟩

def zac (n : Int) (aa : Int) (greatest : Int) : M Bool :=
  M.pure ((decide (aa <= n)) && (decide (n <= greatest)))
theorem zag {R : List Chunk}  (n : Int) (aa : Int) (greatest : Int)  {r : Bool} (hM : (zac n aa greatest).Ends r) (w : World) (H : St w w [] R) : Ret Try.prog 37 #[I n, I aa, I greatest] w fun v w' => ∃ (y0 : Bool), y0 = r /\ v = B y0 /\ St w w' [] R := by
 refine ret_of_W Try.func37 rfl rfl rfl ?_
 refine W.seq ?_
 refine W.region rfl ?_
 refine zA (B false) rfl ?_
 refine s_nil ?_
 refine W.seq ?_
 refine W.region rfl ?_
 refine zM (I n) rfl ?_
 refine zM (I aa) rfl ?_
 refine zC n aa (decide (aa <= n)) rfl rfl rfl ?_
 refine zM (B (decide (aa <= n))) rfl ?_
 refine g_val (decide (aa <= n)) (gy_t rfl) (fun hg => x_mv (v := I n) rfl) ?_
 refine g_val (decide (aa <= n)) (gy_t rfl) (fun hg => x_mv (v := I greatest) rfl) ?_
 refine g_val (decide (aa <= n)) (gy_t rfl) (fun hg => x_cmp (kd := .i64) (a := n) (b := greatest) (r := decide (n <= greatest)) (gd_of (c := decide (aa <= n)) hg (I n)) (gd_of (c := decide (aa <= n)) hg (I greatest)) rfl) ?_
 refine s_val (x_pand (b := decide (aa <= n)) (r := decide (n <= greatest)) rfl (fun hb => gd_of (c := decide (aa <= n)) (by first | exact hb | (rw [hb]; rfl) | simp_all) (B (decide (n <= greatest)))) rfl) ?_
 refine zA (B ((decide (aa <= n)) && (decide (n <= greatest)))) rfl ?_
 refine s_nil ?_
 refine W.ret ?_
 have ab := M.e_pure hM
 exact ⟨_, resE_tmp rfl, ⟨((decide (aa <= n)) && (decide (n <= greatest))), ab, rfl, H⟩⟩

def zbt (s : Span) : M Bool :=
  M.bind (zac s.lo 0 s.hi) fun r2 =>
  M.bind (M.opt r2 (zac s.hi 0 1000) false) fun r3 =>
  M.pure (r2 && r3)
theorem zcU {R : List Chunk}  (s : Span)  {r : Bool} (hM : (zbt s).Ends r) (w : World) (H : St w w [] R) : Ret Try.prog 80 #[.agg #[I s.lo, I s.hi]] w fun v w' => ∃ (y0 : Bool), y0 = r /\ v = B y0 /\ St w w' [] R := by
 refine ret_of_W Try.func80 rfl rfl rfl ?_
 refine W.seq ?_
 refine W.region rfl ?_
 refine t_box (v := .agg #[I s.lo, I s.hi]) (cs := [I s.lo, I s.hi]) H rfl rfl ?_
 intro aa ak H
 refine zA (B false) rfl ?_
 refine s_nil ?_
 refine W.seq ?_
 refine W.region rfl ?_
 refine s_val (x_fa (a := Pq aa) (v := Pq aa) rfl (fa_blk (o := 0) Fd27_0 Sz3)) ?_
 refine s_val (x_ld (p := Pq aa) (v := I s.lo) rfl (ldb_sc Sc3 (H.bl 0) rfl)) ?_
 refine s_val (x_fa (a := Pq aa) (v := Oq aa 1) rfl (fa_blk (o := 0) Fd27_1 Sz3)) ?_
 refine s_val (x_ld (p := Oq aa 1) (v := I s.hi) rfl (ldb_sc Sc3 (H.bl 0) rfl)) ?_
 obtain ⟨al, ae, hM⟩ := M.e_bind hM
 refine s_call cf37 [I s.lo, I 0, I s.hi] rfl (zag s.lo 0 s.hi ae _ (H.gt 1)) ?_
 rintro vq am ⟨r2, ah, hvq, ac⟩
 subst ah
 subst vq
 try dsimp only at hM
 replace H := H.bk ac
 clear ac
 refine zM (B r2) rfl ?_
 refine g_val r2 (gy_t rfl) (fun hg => x_fa (a := Pq aa) (v := Oq aa 1) rfl (fa_blk (o := 0) Fd27_1 Sz3)) ?_
 refine g_val r2 (gy_t rfl) (fun hg => x_ld (p := Oq aa 1) (v := I s.hi) (gd_of (c := r2) hg (Oq aa 1)) (ldb_sc Sc3 (H.bl 0) rfl)) ?_
 obtain ⟨r3, ai, hM⟩ := M.e_bind hM
 refine t_gcall r2 (gy_t rfl) cf37 (B r3) (fun _ => [I s.hi, I 0, I 1000]) (fun hg => lst3 (gd_of (c := r2) hg (I s.hi)) rfl rfl) H (fun hg => (zag s.hi 0 1000 (M.e_opt ai hg) _ (H.give (A := []) rfl)).mono fun v_ w_ ⟨y_, ab, aj, H_⟩ => by subst ab; exact ⟨aj, H.via H_⟩) ?_
 intro ao H
 refine s_val (x_pand (b := r2) (r := r3) rfl (fun hb => gd_of (c := r2) (by first | exact hb | (rw [hb]; rfl) | simp_all) (B r3)) rfl) ?_
 refine zA (B (r2 && r3)) rfl ?_
 refine s_nil ?_
 refine W.ret ?_
 have ab := M.e_pure hM
 exact ⟨_, resE_tmp rfl, ⟨(r2 && r3), ab, rfl, (H.pk [])⟩⟩

def zbf (l : List Int) (aa : Int) : (Int × Nat) -> M ((Int × Nat) ⊕ (Unit ⊕ Unit)) := fun (last, s) =>
  bif decide ((s : Int) < (l.length : Int)) then (
  M.grd (decide ((s : Int) < (l.length : Int))) <|
  M.grd (decide ((-9223372036854775808 : Int) <= (last + 1)) && decide ((last + 1) <= (9223372036854775807 : Int))) <|
  M.grd (decide ((-9223372036854775808 : Int) <= (aa - 1)) && decide ((aa - 1) <= (9223372036854775807 : Int))) <|
  M.bind (zac (l.getD s 0) (last + 1) (aa - 1)) fun r2 =>
  bif !r2 then (
  M.pure (.inr (.inl ())))
  else (
  M.pure (.inl (l.getD s 0, s + 1))))
  else (
  M.pure (.inr (.inr ())))
def za7 (l : List Int) (aa : Int) : M Bool :=
  M.bind (M.iter (zbf l aa) (-1, 0)) fun x_ => match x_ with
  | (.inl (_ : Unit)) => (
  M.pure false)
  | (.inr (_ : Unit)) => (
  M.pure true)
theorem zcF {R : List Chunk} {al : Cells} {ab : Value} (l : List Int) (aa : Int) (au : Reads R al) (ae : Sl al ab l) {r : Bool} (hM : (za7 l aa).Ends r) (w : World) (H : St w w [] R) : Ret Try.prog 62 #[ab, I aa] w fun v w' => ∃ (y0 : Bool), y0 = r /\ v = B y0 /\ St w w' [] R := by
 refine ret_of_W Try.func62 rfl rfl rfl ?_
 refine W.seq ?_
 refine W.region rfl ?_
 refine zA (B false) rfl ?_
 refine s_nil ?_
 refine W.seq ?_
 refine W.region rfl ?_
 refine zA (I (-1)) rfl ?_
 refine s_nil ?_
 refine W.seq ?_
 refine W.seq ?_
 refine W.region rfl ?_
 refine zM ab rfl ?_
 have aF := (ae).len_le
 refine s_val (x_lenS T23.und rfl ae) ?_
 refine zM (I 0) rfl ?_
 refine s_nil ?_
 refine W.block ?_
 obtain ⟨av, ah, am⟩ := M.e_bind hM
 obtain ⟨aG, ah⟩ := M.e_iter ah
 refine W.loop (fun m σ W => ∃ (last : Int) (s : Nat) (ρ : Env), σ = upds ρ [(1, I aa), (5, I last), (8, ab), (9, I (l.length : Int)), (10, I (s : Int))] /\ M.iterN (zbf l aa) m (last, s) = some av /\ St w W [] R) ?_ ?_
 ·exact ⟨_, -1, 0, _, upds_of _ _ ⟨rfl, rfl, rfl, rfl, rfl, trivial⟩, ah, H⟩
 rintro aH σ aI ⟨last, s, ρ, rfl, ao, H⟩
 obtain ⟨aw, ax, aJ, hM, ai⟩ := M.e_iterN ao
 simp only [zbf] at hM
 clear ao
 refine W.seq ?_
 refine W.region rfl ?_
 refine zC (s : Int) (l.length : Int) (decide ((s : Int) < (l.length : Int))) rfl rfl rfl ?_
 refine s_nil ?_
 refine W.seq ?_
 refine W.cond (decide ((s : Int) < (l.length : Int))) rfl (fun ac => ?_) (fun ac => ?_)
 ·replace hM := M.e_t hM ac
  simp only [qy1, qy2, qy3, qy4, qy5, qy6, ne_eq, qy7] at ac
  refine W.skip ?_
  refine W.seq ?_
  refine W.block ?_
  refine W.seq ?_
  refine W.region rfl ?_
  obtain ⟨ay, hM⟩ := M.e_grd hM
  simp only [Bool.and_eq_true, decide_eq_true_eq] at ay
  refine s_val (x_ix (a := ab) (b := I (s : Int)) (v := vat ab 1 (Int.toNat (s : Int))) rfl rfl (Sl.ix (α := Int) T23.und T23.size ae (by omega) (by omega))) ?_
  refine s_val (x_ld (p := vat ab 1 (Int.toNat (s : Int))) (v := I (l.getD s 0)) rfl (ld_sc Sc3 (At.mono (Int_at ae (i := (s : Int)) (by omega) (by omega)) (au.at H)))) ?_
  refine zA (I (l.getD s 0)) rfl ?_
  refine s_nil ?_
  refine W.seq ?_
  refine W.seq ?_
  refine W.region rfl ?_
  refine zM (I (l.getD s 0)) rfl ?_
  refine zM (I last) rfl ?_
  obtain ⟨az, hM⟩ := M.e_grd hM
  simp only [Bool.and_eq_true, decide_eq_true_eq] at az
  refine zR last 1 (last + 1) rfl rfl rfl (by omega) ?_
  refine zM (I aa) rfl ?_
  obtain ⟨aA, hM⟩ := M.e_grd hM
  simp only [Bool.and_eq_true, decide_eq_true_eq] at aA
  refine zR aa 1 (aa - 1) rfl rfl rfl (by omega) ?_
  obtain ⟨aK, aB, hM⟩ := M.e_bind hM
  refine s_call cf37 [I (l.getD s 0), I (last + 1), I (aa - 1)] rfl (zag (l.getD s 0) (last + 1) (aa - 1) aB _ (H.gt 0)) ?_
  rintro vq aL ⟨r2, aC, hvq, aq⟩
  subst aC
  subst vq
  try dsimp only at hM
  replace H := H.bk aq
  clear aq
  refine s_val (x_not (b := r2) rfl) ?_
  refine s_nil ?_
  refine W.cond (!r2) rfl (fun aj => ?_) (fun aj => ?_)
  ·replace hM := M.e_t hM aj
   refine W.seq ?_
   refine W.region rfl ?_
   refine zA (B false) rfl ?_
   refine s_nil ?_
   refine W.ret ?_
   have aD := M.e_inr hM ai
   subst aD
   replace hM := am
   try dsimp only at hM
   have ak := M.e_pure hM
   exact ⟨_, resE_tmp rfl, ⟨false, ak, rfl, H⟩⟩
  replace hM := M.e_f hM aj
  refine W.skip ?_
  refine W.region rfl ?_
  refine zM (I (l.getD s 0)) rfl ?_
  refine zA (I (l.getD s 0)) rfl ?_
  refine s_nil ?_
  refine W.region rfl ?_
  refine zR (s : Int) 1 ((s : Int) + 1) rfl rfl rfl (by omega) ?_
  refine zM (I ((s : Int) + 1)) rfl ?_
  refine s_nil ?_
  exact ⟨aw, ax, l.getD s 0, s + 1, _, upds_of _ _ ⟨rfl, rfl, rfl, rfl, rfl, trivial⟩, M.e_inl hM ai, H⟩
 replace hM := M.e_f hM ac
 simp only [qy1, qy2, qy3, qy4, qy5, qy6, ne_eq, qy7] at ac
 refine W.exit ?_
 have aE := M.e_inr hM ai
 subst aE
 replace hM := am
 try dsimp only at hM
 refine W.seq ?_
 refine W.region rfl ?_
 refine zA (B true) rfl ?_
 refine s_nil ?_
 refine W.ret ?_
 have ak := M.e_pure hM
 exact ⟨_, resE_tmp rfl, ⟨true, ak, rfl, H⟩⟩

def zaB (s : List Town) (f : Town -> M Bool) : Nat -> M (Nat ⊕ (Int ⊕ Unit)) := fun s2 =>
  bif decide ((s2 : Int) < (s.length : Int)) then (
  M.grd (decide ((s2 : Int) < (s.length : Int))) <|
  M.bind (f (s.getD s2 default)) fun r2 =>
  bif r2 then (
  M.pure (.inr (.inl (s2 : Int))))
  else (
  M.pure (.inl (s2 + 1))))
  else (
  M.pure (.inr (.inr ())))
def zbT (s : List Town) (f : Town -> M Bool) : M Int :=
  M.bind (M.iter (zaB s f) 0) fun x_ => match x_ with
  | (.inl s3) => (
  M.pure s3)
  | (.inr (_ : Unit)) => (
  M.pure (-1))
theorem zc9 {R : List Chunk} {al : Cells} {aa : Value} {ac : Value} (s : List Town) (f : Town -> M Bool) (aq : Reads R al) (ae : Sl al aa s) (au : FnM Try.prog R ac f) {r : Int} (hM : (zbT s f).Ends r) (w : World) (H : St w w [] R) : Ret Try.prog 79 #[aa, ac] w fun v w' => ∃ (y0 : Int), y0 = r /\ v = I y0 /\ St w w' [] R := by
 refine ret_of_W Try.func79 rfl rfl rfl ?_
 refine W.seq ?_
 refine W.region rfl ?_
 refine zA (I 0) rfl ?_
 refine s_nil ?_
 refine W.seq ?_
 refine W.seq ?_
 refine W.region rfl ?_
 refine zM aa rfl ?_
 have aC := (ae).len_le
 refine s_val (x_lenS T25.und rfl ae) ?_
 refine zM (I 0) rfl ?_
 refine s_nil ?_
 refine W.block ?_
 obtain ⟨av, ah, am⟩ := M.e_bind hM
 obtain ⟨aD, ah⟩ := M.e_iter ah
 refine W.loop (fun m σ W => ∃ (s2 : Nat) (ρ : Env), σ = upds ρ [(0, aa), (1, ac), (7, I (s.length : Int)), (8, I (s2 : Int))] /\ M.iterN (zaB s f) m s2 = some av /\ St w W [] R) ?_ ?_
 ·exact ⟨_, 0, _, upds_of _ _ ⟨rfl, rfl, rfl, rfl, trivial⟩, ah, H⟩
 rintro aE σ aF ⟨s2, ρ, rfl, ao, H⟩
 obtain ⟨aw, ax, aG, hM, ai⟩ := M.e_iterN ao
 simp only [zaB] at hM
 clear ao
 refine W.seq ?_
 refine W.region rfl ?_
 refine zC (s2 : Int) (s.length : Int) (decide ((s2 : Int) < (s.length : Int))) rfl rfl rfl ?_
 refine s_nil ?_
 refine W.seq ?_
 refine W.cond (decide ((s2 : Int) < (s.length : Int))) rfl (fun ab => ?_) (fun ab => ?_)
 ·replace hM := M.e_t hM ab
  simp only [qy1, qy2, qy3, qy4, qy5, qy6, ne_eq, qy7] at ab
  refine W.skip ?_
  refine W.seq ?_
  refine W.block ?_
  refine W.seq ?_
  refine W.region rfl ?_
  refine zM (I (s2 : Int)) rfl ?_
  refine zA (I (s2 : Int)) rfl ?_
  refine s_nil ?_
  refine W.seq ?_
  refine W.region rfl ?_
  refine zM ac rfl ?_
  refine zM aa rfl ?_
  refine zM (I (s2 : Int)) rfl ?_
  obtain ⟨ay, hM⟩ := M.e_grd hM
  simp only [Bool.and_eq_true, decide_eq_true_eq] at ay
  refine s_val (x_ix (a := aa) (b := I (s2 : Int)) (v := vat aa 3 (Int.toNat (s2 : Int))) rfl rfl (Sl.ix (α := Town) T25.und T25.size ae (by omega) (by omega))) ?_
  refine s_val (x_ld (p := vat aa 3 (Int.toNat (s2 : Int))) (v := .agg #[I ((s.getD s2 default).station), I ((s.getD s2 default).lead), I ((s.getD s2 default).alarm)]) rfl (ld_ag Ag54 Sz54 (At.mono (Town_atA ae (i := (s2 : Int)) (by omega) (by omega)) (aq.at H)))) ?_
  obtain ⟨r2, az, hM⟩ := M.e_bind hM
  refine t_callM H au rfl rfl (s.getD s2 default) Reads.none ⟨_, rfl, rfl⟩ az ?_
  intro aH H
  refine s_nil ?_
  refine W.cond r2 rfl (fun aj => ?_) (fun aj => ?_)
  ·replace hM := M.e_t hM aj
   refine W.seq ?_
   refine W.region rfl ?_
   refine zM (I (s2 : Int)) rfl ?_
   refine zA (I (s2 : Int)) rfl ?_
   refine s_nil ?_
   refine W.ret ?_
   have aA := M.e_inr hM ai
   subst aA
   replace hM := am
   try dsimp only at hM
   have ak := M.e_pure hM
   exact ⟨_, resE_tmp rfl, ⟨(s2 : Int), ak, rfl, H⟩⟩
  replace hM := M.e_f hM aj
  refine W.skip ?_
  refine W.region rfl ?_
  refine zR (s2 : Int) 1 ((s2 : Int) + 1) rfl rfl rfl (by omega) ?_
  refine zM (I ((s2 : Int) + 1)) rfl ?_
  refine s_nil ?_
  exact ⟨aw, ax, s2 + 1, _, upds_of _ _ ⟨rfl, rfl, rfl, rfl, trivial⟩, M.e_inl hM ai, H⟩
 replace hM := M.e_f hM ab
 simp only [qy1, qy2, qy3, qy4, qy5, qy6, ne_eq, qy7] at ab
 refine W.exit ?_
 have aB := M.e_inr hM ai
 subst aB
 replace hM := am
 try dsimp only at hM
 refine W.seq ?_
 refine W.region rfl ?_
 refine zA (I (-1)) rfl ?_
 refine s_nil ?_
 refine W.ret ?_
 have ak := M.e_pure hM
 exact ⟨_, resE_tmp rfl, ⟨(-1), ak, rfl, H⟩⟩

def zaq (s : List Town) (f : Town -> M Bool) : M Bool :=
  M.bind (zbT s f) fun r2 =>
  M.pure (decide (0 <= r2))
theorem zck {R : List Chunk} {ac : Cells} {aa : Value} {ab : Value} (s : List Town) (f : Town -> M Bool) (ah : Reads R ac) (ai : Sl ac aa s) (aj : FnM Try.prog R ab f) {r : Bool} (hM : (zaq s f).Ends r) (w : World) (H : St w w [] R) : Ret Try.prog 63 #[aa, ab] w fun v w' => ∃ (y0 : Bool), y0 = r /\ v = B y0 /\ St w w' [] R := by
 refine ret_of_W Try.func63 rfl rfl rfl ?_
 refine W.seq ?_
 refine W.region rfl ?_
 refine zA (B false) rfl ?_
 refine s_nil ?_
 refine W.seq ?_
 refine W.region rfl ?_
 refine zM aa rfl ?_
 refine zM ab rfl ?_
 obtain ⟨ao, ak, hM⟩ := M.e_bind hM
 refine s_call cf79 [aa, ab] rfl (zc9 s f (ah.app _) ai (aj.app _) ak _ (H.gt 0)) ?_
 rintro vq aq ⟨r2, al, hvq, ae⟩
 subst al
 subst vq
 try dsimp only at hM
 replace H := H.bk ae
 clear ae
 refine zC r2 0 (decide (0 <= r2)) rfl rfl rfl ?_
 refine zA (B (decide (0 <= r2))) rfl ?_
 refine s_nil ?_
 refine W.ret ?_
 have am := M.e_pure hM
 exact ⟨_, resE_tmp rfl, ⟨(decide (0 <= r2)), am, rfl, H⟩⟩

def zb8 (x : Town) (aa : Town -> M Bool) : M Bool :=
  M.bind (aa x) fun r2 =>
  M.pure (!r2)
theorem zdK {R : List Chunk} {aa : Nat} {ab : Value} (x : Town) (ac : Town -> M Bool) (ae : FnM Try.prog R ab ac) (ah : Has R (cBlk aa [ab] 111)) {r : Bool} (hM : (zb8 x ac).Ends r) (w : World) (H : St w w [] R) : Ret Try.prog 90 #[.agg #[I x.station, I x.lead, I x.alarm], Pq aa] w fun v w' => ∃ (y0 : Bool), y0 = r /\ v = B y0 /\ St w w' [] R := by
 refine ret_of_W Try.func90 rfl rfl rfl ?_
 refine W.seq ?_
 refine W.region rfl ?_
 refine t_box (v := .agg #[I x.station, I x.lead, I x.alarm]) (cs := [I x.station, I x.lead, I x.alarm]) H rfl rfl ?_
 intro ai al H
 refine zA (B false) rfl ?_
 refine s_nil ?_
 refine W.seq ?_
 refine W.region rfl ?_
 refine s_val (x_ld (p := Pq aa) (v := ab) rfl (ldb_sc Sc111 (ah.blk H) rfl)) ?_
 refine s_val (x_ld (p := Pq ai) (v := .agg #[I x.station, I x.lead, I x.alarm]) rfl (ldb_ag (ds := [I x.station, I x.lead, I x.alarm]) Ag54 Sz54 (H.bl 0) rfl rfl)) ?_
 obtain ⟨r2, aj, hM⟩ := M.e_bind hM
 refine t_callM H ae rfl rfl x Reads.none ⟨_, rfl, rfl⟩ aj ?_
 intro am H
 refine s_val (x_not (b := r2) rfl) ?_
 refine zA (B (!r2)) rfl ?_
 refine s_nil ?_
 refine W.ret ?_
 have ak := M.e_pure hM
 exact ⟨_, resE_tmp rfl, ⟨(!r2), ak, rfl, (H.pk [])⟩⟩

def zbx (l : List Town) (so : Town -> M Bool) : M Bool :=
  M.bind (zaq l (fun aa => zb8 aa so)) fun r2 =>
  M.pure (!r2)
theorem zcO {R : List Chunk} {ah : Cells} {aa : Value} {ab : Value} (l : List Town) (so : Town -> M Bool) (al : Reads R ah) (am : Sl ah aa l) (ai : FnM Try.prog R ab so) {r : Bool} (hM : (zbx l so).Ends r) (w : World) (H : St w w [] R) : Ret Try.prog 81 #[aa, ab] w fun v w' => ∃ (y0 : Bool), y0 = r /\ v = B y0 /\ St w w' [] R := by
 refine ret_of_W Try.func81 rfl rfl rfl ?_
 refine W.seq ?_
 refine W.region rfl ?_
 refine t_box (v := ab) (cs := [ab]) H rfl (FnM.cells ai) ?_
 intro ac aC H
 refine zA (B false) rfl ?_
 refine s_nil ?_
 refine W.seq ?_
 refine W.region rfl ?_
 refine zM aa rfl ?_
 refine s_val (x_mf (fs := []) (cs := [Pq ac]) rfl rfl) ?_
 obtain ⟨aD, ao, hM⟩ := M.e_bind hM
 refine s_call cf63 [aa, .func (.func 90) #[] #[Pq ac]] rfl (zck l (fun ae => zb8 ae so) (al.app _) am ⟨90, [Pq ac], rfl, cf90, fun aj aE aF aq ae aG au aH av aw => by obtain rfl := Town_arg av; exact (zdK ae so (FnM.app (ai.app _) _) (Has.app (Has.here (k := 0) rfl) _) aw aj (St.refl au)).mono fun aq aj ⟨aI, ax, ay, az⟩ => by subst ax; exact ⟨ay, az⟩⟩ ao _ (H.gt 1)) ?_
 rintro vq aJ ⟨r2, aA, hvq, ak⟩
 subst aA
 subst vq
 try dsimp only at hM
 replace H := H.bk ak
 clear ak
 refine s_val (x_not (b := r2) rfl) ?_
 refine zA (B (!r2)) rfl ?_
 refine s_nil ?_
 refine W.ret ?_
 have aB := M.e_pure hM
 exact ⟨_, resE_tmp rfl, ⟨(!r2), aB, rfl, (H.pk [])⟩⟩

def zba (n : Int) : M Bool :=
  M.bind (zac n 0 2000) fun r2 =>
  M.pure r2
theorem zc2 {R : List Chunk}  (n : Int)  {r : Bool} (hM : (zba n).Ends r) (w : World) (H : St w w [] R) : Ret Try.prog 85 #[I n] w fun v w' => ∃ (y0 : Bool), y0 = r /\ v = B y0 /\ St w w' [] R := by
 refine ret_of_W Try.func85 rfl rfl rfl ?_
 refine W.seq ?_
 refine W.region rfl ?_
 refine zA (B false) rfl ?_
 refine s_nil ?_
 refine W.seq ?_
 refine W.region rfl ?_
 refine zM (I n) rfl ?_
 obtain ⟨ah, ab, hM⟩ := M.e_bind hM
 refine s_call cf37 [I n, I 0, I 2000] rfl (zag n 0 2000 ab _ (H.gt 0)) ?_
 rintro vq ai ⟨r2, ac, hvq, aa⟩
 subst ac
 subst vq
 try dsimp only at hM
 replace H := H.bk aa
 clear aa
 refine zA (B r2) rfl ?_
 refine s_nil ?_
 refine W.ret ?_
 have ae := M.e_pure hM
 exact ⟨_, resE_tmp rfl, ⟨r2, ae, rfl, H⟩⟩

def zb4 (t : Town) : M Bool :=
  M.bind (zac t.lead 0 1000) fun r2 =>
  M.bind (M.opt r2 (zba t.alarm) false) fun r3 =>
  M.pure (r2 && r3)
theorem zdw {R : List Chunk}  (t : Town)  {r : Bool} (hM : (zb4 t).Ends r) (w : World) (H : St w w [] R) : Ret Try.prog 82 #[.agg #[I t.station, I t.lead, I t.alarm]] w fun v w' => ∃ (y0 : Bool), y0 = r /\ v = B y0 /\ St w w' [] R := by
 refine ret_of_W Try.func82 rfl rfl rfl ?_
 refine W.seq ?_
 refine W.region rfl ?_
 refine t_box (v := .agg #[I t.station, I t.lead, I t.alarm]) (cs := [I t.station, I t.lead, I t.alarm]) H rfl rfl ?_
 intro aa ak H
 refine zA (B false) rfl ?_
 refine s_nil ?_
 refine W.seq ?_
 refine W.region rfl ?_
 refine s_val (x_fa (a := Pq aa) (v := Oq aa 1) rfl (fa_blk (o := 0) Fd54_1 Sz3)) ?_
 refine s_val (x_ld (p := Oq aa 1) (v := I t.lead) rfl (ldb_sc Sc3 (H.bl 0) rfl)) ?_
 obtain ⟨al, ae, hM⟩ := M.e_bind hM
 refine s_call cf37 [I t.lead, I 0, I 1000] rfl (zag t.lead 0 1000 ae _ (H.gt 1)) ?_
 rintro vq am ⟨r2, ah, hvq, ac⟩
 subst ah
 subst vq
 try dsimp only at hM
 replace H := H.bk ac
 clear ac
 refine zM (B r2) rfl ?_
 refine g_val r2 (gy_t rfl) (fun hg => x_fa (a := Pq aa) (v := Oq aa 2) rfl (fa_blk (o := 0) Fd54_2 Sz3)) ?_
 refine g_val r2 (gy_t rfl) (fun hg => x_ld (p := Oq aa 2) (v := I t.alarm) (gd_of (c := r2) hg (Oq aa 2)) (ldb_sc Sc3 (H.bl 0) rfl)) ?_
 obtain ⟨r3, ai, hM⟩ := M.e_bind hM
 refine t_gcall r2 (gy_t rfl) cf85 (B r3) (fun _ => [I t.alarm]) (fun hg => lst1 (gd_of (c := r2) hg (I t.alarm))) H (fun hg => (zc2 t.alarm (M.e_opt ai hg) _ (H.give (A := []) rfl)).mono fun v_ w_ ⟨y_, ab, aj, H_⟩ => by subst ab; exact ⟨aj, H.via H_⟩) ?_
 intro ao H
 refine s_val (x_pand (b := r2) (r := r3) rfl (fun hb => gd_of (c := r2) (by first | exact hb | (rw [hb]; rfl) | simp_all) (B r3)) rfl) ?_
 refine zA (B (r2 && r3)) rfl ?_
 refine s_nil ?_
 refine W.ret ?_
 have ab := M.e_pure hM
 exact ⟨_, resE_tmp rfl, ⟨(r2 && r3), ab, rfl, (H.pk [])⟩⟩

def zbJ (t : Town) (aa : Int) : M Bool :=
  M.grd (decide ((-9223372036854775808 : Int) <= (aa - 1)) && decide ((aa - 1) <= (9223372036854775807 : Int))) <|
  M.bind (zac t.station 0 (aa - 1)) fun r2 =>
  M.pure r2
theorem zdA {R : List Chunk} {ab : Nat} (t : Town) (aa : Int) (ah : Has R (cBlk ab [I aa] 3)) {r : Bool} (hM : (zbJ t aa).Ends r) (w : World) (H : St w w [] R) : Ret Try.prog 83 #[.agg #[I t.station, I t.lead, I t.alarm], Pq ab] w fun v w' => ∃ (y0 : Bool), y0 = r /\ v = B y0 /\ St w w' [] R := by
 refine ret_of_W Try.func83 rfl rfl rfl ?_
 refine W.seq ?_
 refine W.region rfl ?_
 refine t_box (v := .agg #[I t.station, I t.lead, I t.alarm]) (cs := [I t.station, I t.lead, I t.alarm]) H rfl rfl ?_
 intro ac am H
 refine zA (B false) rfl ?_
 refine s_nil ?_
 refine W.seq ?_
 refine W.region rfl ?_
 refine s_val (x_fa (a := Pq ac) (v := Pq ac) rfl (fa_blk (o := 0) Fd54_0 Sz3)) ?_
 refine s_val (x_ld (p := Pq ac) (v := I t.station) rfl (ldb_sc Sc3 (H.bl 0) rfl)) ?_
 refine s_val (x_ld (p := Pq ab) (v := I aa) rfl (ldb_sc Sc3 (ah.blk H) rfl)) ?_
 obtain ⟨ai, hM⟩ := M.e_grd hM
 simp only [Bool.and_eq_true, decide_eq_true_eq] at ai
 refine zR aa 1 (aa - 1) rfl rfl rfl (by omega) ?_
 obtain ⟨ao, aj, hM⟩ := M.e_bind hM
 refine s_call cf37 [I t.station, I 0, I (aa - 1)] rfl (zag t.station 0 (aa - 1) aj _ (H.gt 1)) ?_
 rintro vq aq ⟨r2, ak, hvq, ae⟩
 subst ak
 subst vq
 try dsimp only at hM
 replace H := H.bk ae
 clear ae
 refine zA (B r2) rfl ?_
 refine s_nil ?_
 refine W.ret ?_
 have al := M.e_pure hM
 exact ⟨_, resE_tmp rfl, ⟨r2, al, rfl, (H.pk [])⟩⟩

def zbq (s : List Int) (v : Int) : Nat -> M (Nat ⊕ (Int ⊕ Unit)) := fun s2 =>
  bif decide ((s2 : Int) < (s.length : Int)) then (
  M.grd (decide ((s2 : Int) < (s.length : Int))) <|
  bif v == (s.getD s2 0) then (
  M.pure (.inr (.inl (s2 : Int))))
  else (
  M.pure (.inl (s2 + 1))))
  else (
  M.pure (.inr (.inr ())))
def zbh (s : List Int) (v : Int) : M Int :=
  M.bind (M.iter (zbq s v) 0) fun x_ => match x_ with
  | (.inl s3) => (
  M.pure s3)
  | (.inr (_ : Unit)) => (
  M.pure (-1))
theorem zcK {R : List Chunk} {ak : Cells} {aa : Value} (s : List Int) (v : Int) (ao : Reads R ak) (ae : Sl ak aa s) {r : Int} (hM : (zbh s v).Ends r) (w : World) (H : St w w [] R) : Ret Try.prog 39 #[aa, I v] w fun v w' => ∃ (y0 : Int), y0 = r /\ v = I y0 /\ St w w' [] R := by
 refine ret_of_W Try.func39 rfl rfl rfl ?_
 refine W.seq ?_
 refine W.region rfl ?_
 refine zA (I 0) rfl ?_
 refine s_nil ?_
 refine W.seq ?_
 refine W.seq ?_
 refine W.region rfl ?_
 refine zM aa rfl ?_
 have az := (ae).len_le
 refine s_val (x_lenS T23.und rfl ae) ?_
 refine zM (I 0) rfl ?_
 refine s_nil ?_
 refine W.block ?_
 obtain ⟨aq, ah, al⟩ := M.e_bind hM
 obtain ⟨aA, ah⟩ := M.e_iter ah
 refine W.loop (fun m σ W => ∃ (s2 : Nat) (ρ : Env), σ = upds ρ [(0, aa), (1, I v), (7, I (s.length : Int)), (8, I (s2 : Int))] /\ M.iterN (zbq s v) m s2 = some aq /\ St w W [] R) ?_ ?_
 ·exact ⟨_, 0, _, upds_of _ _ ⟨rfl, rfl, rfl, rfl, trivial⟩, ah, H⟩
 rintro aB σ aC ⟨s2, ρ, rfl, am, H⟩
 obtain ⟨au, av, aD, hM, ai⟩ := M.e_iterN am
 simp only [zbq] at hM
 clear am
 refine W.seq ?_
 refine W.region rfl ?_
 refine zC (s2 : Int) (s.length : Int) (decide ((s2 : Int) < (s.length : Int))) rfl rfl rfl ?_
 refine s_nil ?_
 refine W.seq ?_
 refine W.cond (decide ((s2 : Int) < (s.length : Int))) rfl (fun ab => ?_) (fun ab => ?_)
 ·replace hM := M.e_t hM ab
  simp only [qy1, qy2, qy3, qy4, qy5, qy6, ne_eq, qy7] at ab
  refine W.skip ?_
  refine W.seq ?_
  refine W.block ?_
  refine W.seq ?_
  refine W.region rfl ?_
  refine zM (I (s2 : Int)) rfl ?_
  refine zA (I (s2 : Int)) rfl ?_
  refine s_nil ?_
  refine W.seq ?_
  refine W.region rfl ?_
  refine zM (I v) rfl ?_
  refine zM aa rfl ?_
  refine zM (I (s2 : Int)) rfl ?_
  obtain ⟨aw, hM⟩ := M.e_grd hM
  simp only [Bool.and_eq_true, decide_eq_true_eq] at aw
  refine s_val (x_ix (a := aa) (b := I (s2 : Int)) (v := vat aa 1 (Int.toNat (s2 : Int))) rfl rfl (Sl.ix (α := Int) T23.und T23.size ae (by omega) (by omega))) ?_
  refine s_val (x_ld (p := vat aa 1 (Int.toNat (s2 : Int))) (v := I (s.getD s2 0)) rfl (ld_sc Sc3 (At.mono (Int_at ae (i := (s2 : Int)) (by omega) (by omega)) (ao.at H)))) ?_
  refine zC v (s.getD s2 0) (v == (s.getD s2 0)) rfl rfl rfl ?_
  refine s_nil ?_
  refine W.cond (v == (s.getD s2 0)) rfl (fun ac => ?_) (fun ac => ?_)
  ·replace hM := M.e_t hM ac
   simp only [qy1, qy2, qy3, qy4, qy5, qy6, ne_eq, qy7] at ac
   refine W.seq ?_
   refine W.region rfl ?_
   refine zM (I (s2 : Int)) rfl ?_
   refine zA (I (s2 : Int)) rfl ?_
   refine s_nil ?_
   refine W.ret ?_
   have ax := M.e_inr hM ai
   subst ax
   replace hM := al
   try dsimp only at hM
   have aj := M.e_pure hM
   exact ⟨_, resE_tmp rfl, ⟨(s2 : Int), aj, rfl, H⟩⟩
  replace hM := M.e_f hM ac
  simp only [qy1, qy2, qy3, qy4, qy5, qy6, ne_eq, qy7] at ac
  refine W.skip ?_
  refine W.region rfl ?_
  refine zR (s2 : Int) 1 ((s2 : Int) + 1) rfl rfl rfl (by omega) ?_
  refine zM (I ((s2 : Int) + 1)) rfl ?_
  refine s_nil ?_
  exact ⟨au, av, s2 + 1, _, upds_of _ _ ⟨rfl, rfl, rfl, rfl, trivial⟩, M.e_inl hM ai, H⟩
 replace hM := M.e_f hM ab
 simp only [qy1, qy2, qy3, qy4, qy5, qy6, ne_eq, qy7] at ab
 refine W.exit ?_
 have ay := M.e_inr hM ai
 subst ay
 replace hM := al
 try dsimp only at hM
 refine W.seq ?_
 refine W.region rfl ?_
 refine zA (I (-1)) rfl ?_
 refine s_nil ?_
 refine W.ret ?_
 have aj := M.e_pure hM
 exact ⟨_, resE_tmp rfl, ⟨(-1), aj, rfl, H⟩⟩

def zbU (s : List Int) (v : Int) : M Bool :=
  M.bind (zbh s v) fun r2 =>
  M.pure (decide (0 <= r2))
theorem zdB {R : List Chunk} {ab : Cells} {aa : Value} (s : List Int) (v : Int) (ae : Reads R ab) (ah : Sl ab aa s) {r : Bool} (hM : (zbU s v).Ends r) (w : World) (H : St w w [] R) : Ret Try.prog 84 #[aa, I v] w fun v w' => ∃ (y0 : Bool), y0 = r /\ v = B y0 /\ St w w' [] R := by
 refine ret_of_W Try.func84 rfl rfl rfl ?_
 refine W.seq ?_
 refine W.region rfl ?_
 refine zA (B false) rfl ?_
 refine s_nil ?_
 refine W.seq ?_
 refine W.region rfl ?_
 refine zM aa rfl ?_
 refine zM (I v) rfl ?_
 obtain ⟨al, ai, hM⟩ := M.e_bind hM
 refine s_call cf39 [aa, I v] rfl (zcK s v (ae.app _) ah ai _ (H.gt 0)) ?_
 rintro vq am ⟨r2, aj, hvq, ac⟩
 subst aj
 subst vq
 try dsimp only at hM
 replace H := H.bk ac
 clear ac
 refine zC r2 0 (decide (0 <= r2)) rfl rfl rfl ?_
 refine zA (B (decide (0 <= r2))) rfl ?_
 refine s_nil ?_
 refine W.ret ?_
 have ak := M.e_pure hM
 exact ⟨_, resE_tmp rfl, ⟨(decide (0 <= r2)), ak, rfl, H⟩⟩

def zaK (s : List Int) (f : Int -> M Bool) : Nat -> M (Nat ⊕ (Int ⊕ Unit)) := fun s2 =>
  bif decide ((s2 : Int) < (s.length : Int)) then (
  M.grd (decide ((s2 : Int) < (s.length : Int))) <|
  M.bind (f (s.getD s2 0)) fun r2 =>
  bif r2 then (
  M.pure (.inr (.inl (s2 : Int))))
  else (
  M.pure (.inl (s2 + 1))))
  else (
  M.pure (.inr (.inr ())))
def zbM (s : List Int) (f : Int -> M Bool) : M Int :=
  M.bind (M.iter (zaK s f) 0) fun x_ => match x_ with
  | (.inl s3) => (
  M.pure s3)
  | (.inr (_ : Unit)) => (
  M.pure (-1))
theorem zdm {R : List Chunk} {al : Cells} {aa : Value} {ac : Value} (s : List Int) (f : Int -> M Bool) (aq : Reads R al) (ae : Sl al aa s) (au : FnM Try.prog R ac f) {r : Int} (hM : (zbM s f).Ends r) (w : World) (H : St w w [] R) : Ret Try.prog 77 #[aa, ac] w fun v w' => ∃ (y0 : Int), y0 = r /\ v = I y0 /\ St w w' [] R := by
 refine ret_of_W Try.func77 rfl rfl rfl ?_
 refine W.seq ?_
 refine W.region rfl ?_
 refine zA (I 0) rfl ?_
 refine s_nil ?_
 refine W.seq ?_
 refine W.seq ?_
 refine W.region rfl ?_
 refine zM aa rfl ?_
 have aC := (ae).len_le
 refine s_val (x_lenS T23.und rfl ae) ?_
 refine zM (I 0) rfl ?_
 refine s_nil ?_
 refine W.block ?_
 obtain ⟨av, ah, am⟩ := M.e_bind hM
 obtain ⟨aD, ah⟩ := M.e_iter ah
 refine W.loop (fun m σ W => ∃ (s2 : Nat) (ρ : Env), σ = upds ρ [(0, aa), (1, ac), (7, I (s.length : Int)), (8, I (s2 : Int))] /\ M.iterN (zaK s f) m s2 = some av /\ St w W [] R) ?_ ?_
 ·exact ⟨_, 0, _, upds_of _ _ ⟨rfl, rfl, rfl, rfl, trivial⟩, ah, H⟩
 rintro aE σ aF ⟨s2, ρ, rfl, ao, H⟩
 obtain ⟨aw, ax, aG, hM, ai⟩ := M.e_iterN ao
 simp only [zaK] at hM
 clear ao
 refine W.seq ?_
 refine W.region rfl ?_
 refine zC (s2 : Int) (s.length : Int) (decide ((s2 : Int) < (s.length : Int))) rfl rfl rfl ?_
 refine s_nil ?_
 refine W.seq ?_
 refine W.cond (decide ((s2 : Int) < (s.length : Int))) rfl (fun ab => ?_) (fun ab => ?_)
 ·replace hM := M.e_t hM ab
  simp only [qy1, qy2, qy3, qy4, qy5, qy6, ne_eq, qy7] at ab
  refine W.skip ?_
  refine W.seq ?_
  refine W.block ?_
  refine W.seq ?_
  refine W.region rfl ?_
  refine zM (I (s2 : Int)) rfl ?_
  refine zA (I (s2 : Int)) rfl ?_
  refine s_nil ?_
  refine W.seq ?_
  refine W.region rfl ?_
  refine zM ac rfl ?_
  refine zM aa rfl ?_
  refine zM (I (s2 : Int)) rfl ?_
  obtain ⟨ay, hM⟩ := M.e_grd hM
  simp only [Bool.and_eq_true, decide_eq_true_eq] at ay
  refine s_val (x_ix (a := aa) (b := I (s2 : Int)) (v := vat aa 1 (Int.toNat (s2 : Int))) rfl rfl (Sl.ix (α := Int) T23.und T23.size ae (by omega) (by omega))) ?_
  refine s_val (x_ld (p := vat aa 1 (Int.toNat (s2 : Int))) (v := I (s.getD s2 0)) rfl (ld_sc Sc3 (At.mono (Int_at ae (i := (s2 : Int)) (by omega) (by omega)) (aq.at H)))) ?_
  obtain ⟨r2, az, hM⟩ := M.e_bind hM
  refine t_callM H au rfl rfl (s.getD s2 0) Reads.none (Arg.mkI (fun _ => none) _) az ?_
  intro aH H
  refine s_nil ?_
  refine W.cond r2 rfl (fun aj => ?_) (fun aj => ?_)
  ·replace hM := M.e_t hM aj
   refine W.seq ?_
   refine W.region rfl ?_
   refine zM (I (s2 : Int)) rfl ?_
   refine zA (I (s2 : Int)) rfl ?_
   refine s_nil ?_
   refine W.ret ?_
   have aA := M.e_inr hM ai
   subst aA
   replace hM := am
   try dsimp only at hM
   have ak := M.e_pure hM
   exact ⟨_, resE_tmp rfl, ⟨(s2 : Int), ak, rfl, H⟩⟩
  replace hM := M.e_f hM aj
  refine W.skip ?_
  refine W.region rfl ?_
  refine zR (s2 : Int) 1 ((s2 : Int) + 1) rfl rfl rfl (by omega) ?_
  refine zM (I ((s2 : Int) + 1)) rfl ?_
  refine s_nil ?_
  exact ⟨aw, ax, s2 + 1, _, upds_of _ _ ⟨rfl, rfl, rfl, rfl, trivial⟩, M.e_inl hM ai, H⟩
 replace hM := M.e_f hM ab
 simp only [qy1, qy2, qy3, qy4, qy5, qy6, ne_eq, qy7] at ab
 refine W.exit ?_
 have aB := M.e_inr hM ai
 subst aB
 replace hM := am
 try dsimp only at hM
 refine W.seq ?_
 refine W.region rfl ?_
 refine zA (I (-1)) rfl ?_
 refine s_nil ?_
 refine W.ret ?_
 have ak := M.e_pure hM
 exact ⟨_, resE_tmp rfl, ⟨(-1), ak, rfl, H⟩⟩

def zaQ (s : List Int) (f : Int -> M Bool) : M Bool :=
  M.bind (zbM s f) fun r2 =>
  M.pure (decide (0 <= r2))
theorem zcM {R : List Chunk} {ac : Cells} {aa : Value} {ab : Value} (s : List Int) (f : Int -> M Bool) (ah : Reads R ac) (ai : Sl ac aa s) (aj : FnM Try.prog R ab f) {r : Bool} (hM : (zaQ s f).Ends r) (w : World) (H : St w w [] R) : Ret Try.prog 57 #[aa, ab] w fun v w' => ∃ (y0 : Bool), y0 = r /\ v = B y0 /\ St w w' [] R := by
 refine ret_of_W Try.func57 rfl rfl rfl ?_
 refine W.seq ?_
 refine W.region rfl ?_
 refine zA (B false) rfl ?_
 refine s_nil ?_
 refine W.seq ?_
 refine W.region rfl ?_
 refine zM aa rfl ?_
 refine zM ab rfl ?_
 obtain ⟨ao, ak, hM⟩ := M.e_bind hM
 refine s_call cf77 [aa, ab] rfl (zdm s f (ah.app _) ai (aj.app _) ak _ (H.gt 0)) ?_
 rintro vq aq ⟨r2, al, hvq, ae⟩
 subst al
 subst vq
 try dsimp only at hM
 replace H := H.bk ae
 clear ae
 refine zC r2 0 (decide (0 <= r2)) rfl rfl rfl ?_
 refine zA (B (decide (0 <= r2))) rfl ?_
 refine s_nil ?_
 refine W.ret ?_
 have am := M.e_pure hM
 exact ⟨_, resE_tmp rfl, ⟨(decide (0 <= r2)), am, rfl, H⟩⟩

def zcb (x : Int) (aa : Int -> M Bool) : M Bool :=
  M.bind (aa x) fun r2 =>
  M.pure (!r2)
theorem zdH {R : List Chunk} {aa : Nat} {ab : Value} (x : Int) (ac : Int -> M Bool) (ae : FnM Try.prog R ab ac) (ah : Has R (cBlk aa [ab] 89)) {r : Bool} (hM : (zcb x ac).Ends r) (w : World) (H : St w w [] R) : Ret Try.prog 65 #[I x, Pq aa] w fun v w' => ∃ (y0 : Bool), y0 = r /\ v = B y0 /\ St w w' [] R := by
 refine ret_of_W Try.func65 rfl rfl rfl ?_
 refine W.seq ?_
 refine W.region rfl ?_
 refine zA (B false) rfl ?_
 refine s_nil ?_
 refine W.seq ?_
 refine W.region rfl ?_
 refine s_val (x_ld (p := Pq aa) (v := ab) rfl (ldb_sc Sc89 (ah.blk H) rfl)) ?_
 refine zM (I x) rfl ?_
 obtain ⟨r2, ai, hM⟩ := M.e_bind hM
 refine t_callM H ae rfl rfl x Reads.none (Arg.mkI (fun _ => none) _) ai ?_
 intro ak H
 refine s_val (x_not (b := r2) rfl) ?_
 refine zA (B (!r2)) rfl ?_
 refine s_nil ?_
 refine W.ret ?_
 have aj := M.e_pure hM
 exact ⟨_, resE_tmp rfl, ⟨(!r2), aj, rfl, H⟩⟩

def zbF (l : List Int) (so : Int -> M Bool) : M Bool :=
  M.bind (zaQ l (fun aa => zcb aa so)) fun r2 =>
  M.pure (!r2)
theorem zcL {R : List Chunk} {ah : Cells} {aa : Value} {ab : Value} (l : List Int) (so : Int -> M Bool) (al : Reads R ah) (am : Sl ah aa l) (ai : FnM Try.prog R ab so) {r : Bool} (hM : (zbF l so).Ends r) (w : World) (H : St w w [] R) : Ret Try.prog 35 #[aa, ab] w fun v w' => ∃ (y0 : Bool), y0 = r /\ v = B y0 /\ St w w' [] R := by
 refine ret_of_W Try.func35 rfl rfl rfl ?_
 refine W.seq ?_
 refine W.region rfl ?_
 refine t_box (v := ab) (cs := [ab]) H rfl (FnM.cells ai) ?_
 intro ac aC H
 refine zA (B false) rfl ?_
 refine s_nil ?_
 refine W.seq ?_
 refine W.region rfl ?_
 refine zM aa rfl ?_
 refine s_val (x_mf (fs := []) (cs := [Pq ac]) rfl rfl) ?_
 obtain ⟨aD, ao, hM⟩ := M.e_bind hM
 refine s_call cf57 [aa, .func (.func 65) #[] #[Pq ac]] rfl (zcM l (fun ae => zcb ae so) (al.app _) am ⟨65, [Pq ac], rfl, cf65, fun aj aE aF aq ae aG au aH av aw => by obtain rfl := Arg.int av; exact (zdH ae so (FnM.app (ai.app _) _) (Has.app (Has.here (k := 0) rfl) _) aw aj (St.refl au)).mono fun aq aj ⟨aI, ax, ay, az⟩ => by subst ax; exact ⟨ay, az⟩⟩ ao _ (H.gt 1)) ?_
 rintro vq aJ ⟨r2, aA, hvq, ak⟩
 subst aA
 subst vq
 try dsimp only at hM
 replace H := H.bk ak
 clear ak
 refine s_val (x_not (b := r2) rfl) ?_
 refine zA (B (!r2)) rfl ?_
 refine s_nil ?_
 refine W.ret ?_
 have aB := M.e_pure hM
 exact ⟨_, resE_tmp rfl, ⟨(!r2), aB, rfl, (H.pk [])⟩⟩

end Go.Proofs.Ytbaehghammbjdaa
end
section
set_option maxRecDepth 100000
set_option maxHeartbeats 16000000
namespace Go.Proofs.Ytbaehghammbjdaa
open Go Go.Nm
def zbw (aa : List Int) (ab : List Span) : Nat -> M (Nat ⊕ (Int ⊕ Unit)) := fun s =>
  bif decide ((s : Int) < (aa.length : Int)) then (
  M.grd (decide ((s : Int) < (aa.length : Int))) <|
  M.bind (M.opt ((aa.getD s 0) != (-1)) (zac (aa.getD s 0) ((s : Int) + 1) ((aa.length : Int) - 1)) false) fun r4 =>
  bif (((aa.getD s 0) != (-1)) && (!r4)) then (
  M.pure (.inr (.inl 2)))
  else (
  M.grd (decide ((s : Int) < (ab.length : Int))) <|
  M.bind (zbt (ab.getD s default)) fun r5 =>
  bif !r5 then (
  M.pure (.inr (.inl 130)))
  else (
  M.pure (.inl (s + 1)))))
  else (
  M.pure (.inr (.inr ())))
def zax : Int -> (Int × Int) -> M (Int ⊕ Unit) := fun s3 (x, x2) =>
  M.grd (decide ((-9223372036854775808 : Int) <= (s3 + 1)) && decide ((s3 + 1) <= (9223372036854775807 : Int))) <|
  M.pure (.inl (s3 + 1))
def zbn (ac : List Int) (ae : List Span) (ab : List Int) (ah : List Town) (ai : Int) (aj : Int) (aa : List Flood) : Nat -> M (Nat ⊕ (Int ⊕ Unit)) := fun s4 =>
  bif decide ((s4 : Int) < (aa.length : Int)) then (
  M.grd (decide ((s4 : Int) < (aa.length : Int))) <|
  M.bind (zai ac ae ab ah ai aj aa (max 0 ((aa.getD s4 default).spring))) fun (ak, al, am) =>
  M.bind (zaj (M.yl zax) (.inl 0) ak ac ae ab ah al am aa) fun x_ => match x_ with
  | (.inl s3, q0) => (
  M.bind (zbU ab ((aa.getD s4 default).spring)) fun ao =>
  bif ((!ao) || ((((aa.getD s4 default).stages).length : Int) != s3)) then (
  M.pure (.inr (.inl 2)))
  else (
  M.bind (zbF ((aa.getD s4 default).stages) (fun aq => zba aq)) fun au =>
  bif !au then (
  M.pure (.inr (.inl 130)))
  else (
  M.pure (.inl (s4 + 1)))))
  | (.inr _, _) => M.fail)
  else (
  M.pure (.inr (.inr ())))
def zbl (aa : List Int) (ab : List Span) (ae : List Int) (ac : List Town) (ai : Int) (aj : Int) (ak : List Flood) : M Int :=
  M.bind (zac (aa.length : Int) 1 12) fun r2 =>
  M.bind (M.opt (!((!r2) || ((ab.length : Int) != (aa.length : Int)))) (zac (ae.length : Int) 1 8) false) fun r3 =>
  bif (((((!r2) || ((ab.length : Int) != (aa.length : Int))) || (!r3)) || (decide (8 < (ac.length : Int)))) || (decide (20 < (ak.length : Int)))) then (
  M.pure 3)
  else (
  M.bind (M.iter (zbw aa ab) 0) fun x_ => match x_ with
  | (.inl s2) => (
  M.pure s2)
  | (.inr (_ : Unit)) => (
  M.bind (za7 ae (aa.length : Int)) fun r6 =>
  bif !r6 then (
  M.pure 9)
  else (
  M.bind (zbx ac (fun ah => zb4 ah)) fun r7 =>
  M.bind (M.opt (!(!r7)) (zbx ac (fun ah => zbJ ah (aa.length : Int))) false) fun r8 =>
  M.bind (M.opt (!((!r7) || (!r8))) (zbt (⟨(ai : Int), (aj : Int)⟩ : Span)) false) fun r9 =>
  bif (((!r7) || (!r8)) || (!r9)) then (
  M.pure 130)
  else (
  M.bind (M.iter (zbn aa ab ae ac ai aj ak) 0) fun x_ => match x_ with
  | (.inl s5) => (
  M.pure s5)
  | (.inr (_ : Unit)) => (
  M.pure 0)))))
theorem zdE {R : List Chunk} {bF : Cells} {aj : Value} {bG : Cells} {ak : Value} {bH : Cells} {al : Value} {bI : Cells} {ah : Value} {bJ : Cells} {ai : Value} (aa : List Int) (ac : List Span) (aB : List Int) (am : List Town) (au : Int) (av : Int) (ae : List Flood) (aR : Reads R bF) (aC : Sl bF aj aa) (aS : Reads R bG) (aG : Sl bG ak ac) (aL : Reads R bH) (aH : Sl bH al aB) (aM : Reads R bI) (aI : Sl bI ah am) (aN : Reads R bJ) (aD : Sl bJ ai ae) {r : Int} (hM : (zbl aa ac aB am au av ae).Ends r) (w : World) (H : St w w [] R) : Ret Try.prog 66 #[.agg #[aj, ak, al, ah, I au, I av, ai]] w fun v w' => ∃ (y0 : Int), y0 = r /\ v = I y0 /\ St w w' [] R := by
 refine ret_of_WD Try.func66 rfl rfl rfl ?_
 replace H : St w w [cMk ([])] R := H.mk0
 have cJ := aC.len_le
 have cK := aG.len_le
 have cL := aH.len_le
 have cM := aI.len_le
 have cN := aD.len_le
 unfold zbl at hM
 refine WD.seq ?_
 refine WD.of ?_
 refine W.region rfl ?_
 refine t_box (v := .agg #[aj, ak, al, ah, I au, I av, ai]) (cs := [aj, ak, al, ah, I au, I av, ai]) H rfl rfl ?_
 intro ab cO H
 refine zA (I 0) rfl ?_
 refine s_nil ?_
 refine WD.seq ?_
 refine WD.of ?_
 refine W.region rfl ?_
 refine s_val (x_fa (a := Pq ab) (v := Pq ab) rfl (fa_blk (o := 0) Fd30_0 Sz23)) ?_
 refine s_val (x_ld (p := Pq ab) (v := aj) rfl (ldb_sc Sc23 (H.bl 0) rfl)) ?_
 have cP := (aC).len_le
 refine s_val (x_lenS T23.und rfl aC) ?_
 refine t_alloc (cs := [I 0]) H Al3 rfl ?_
 intro ax cQ H
 refine t_sw 0 0 [I (aa.length : Int)] (I (aa.length : Int)) H rfl rfl Sz3 rfl rfl rfl rfl ?_
 intro cR H
 refine s_nil ?_
 refine WD.seq ?_
 refine WD.seq ?_
 refine WD.of ?_
 refine W.region rfl ?_
 refine s_val (x_ld (p := Pq ax) (v := I (aa.length : Int)) rfl (ldb_sc Sc3 (H.bl 0) rfl)) ?_
 obtain ⟨cS, bT, hM⟩ := M.e_bind hM
 refine s_call cf37 [I (aa.length : Int), I 1, I 12] rfl (zag (aa.length : Int) 1 12 bT _ (H.gt 3)) ?_
 rintro vq cT ⟨r2, bU, hvq, ao⟩
 subst bU
 subst vq
 try dsimp only at hM
 replace H := H.bk ao
 clear ao
 refine s_val (x_not (b := r2) rfl) ?_
 refine zM (B (!r2)) rfl ?_
 refine g_val (!(!r2)) (gy_f rfl) (fun hg => x_fa (a := Pq ab) (v := Oq ab 1) rfl (fa_blk (o := 0) Fd30_1 Sz24)) ?_
 refine g_val (!(!r2)) (gy_f rfl) (fun hg => x_ld (p := Oq ab 1) (v := ak) (gd_of (c := !(!r2)) hg (Oq ab 1)) (ldb_sc Sc24 (H.bl 1) rfl)) ?_
 have cU := (aG).len_le
 refine g_val (!(!r2)) (gy_f rfl) (fun hg => x_lenS T24.und (gd_of (c := !(!r2)) hg (ak)) aG) ?_
 refine g_val (!(!r2)) (gy_f rfl) (fun hg => x_ld (p := Pq ax) (v := I (aa.length : Int)) rfl (ldb_sc Sc3 (H.bl 0) rfl)) ?_
 refine g_val (!(!r2)) (gy_f rfl) (fun hg => x_cmp (kd := .i64) (a := (ac.length : Int)) (b := (aa.length : Int)) (r := (ac.length : Int) != (aa.length : Int)) (gd_of (c := !(!r2)) hg (I (ac.length : Int))) (gd_of (c := !(!r2)) hg (I (aa.length : Int))) rfl) ?_
 refine s_val (x_por (b := !r2) (r := (ac.length : Int) != (aa.length : Int)) rfl rfl (fun hb => gd_of (c := !(!r2)) (by first | exact hb | (rw [hb]; rfl) | simp_all) (B ((ac.length : Int) != (aa.length : Int))))) ?_
 refine zM (B ((!r2) || ((ac.length : Int) != (aa.length : Int)))) rfl ?_
 refine g_val (!((!r2) || ((ac.length : Int) != (aa.length : Int)))) (gy_f rfl) (fun hg => x_fa (a := Pq ab) (v := Oq ab 2) rfl (fa_blk (o := 0) Fd30_2 Sz23)) ?_
 refine g_val (!((!r2) || ((ac.length : Int) != (aa.length : Int)))) (gy_f rfl) (fun hg => x_ld (p := Oq ab 2) (v := al) (gd_of (c := !((!r2) || ((ac.length : Int) != (aa.length : Int)))) hg (Oq ab 2)) (ldb_sc Sc23 (H.bl 1) rfl)) ?_
 have cV := (aH).len_le
 refine g_val (!((!r2) || ((ac.length : Int) != (aa.length : Int)))) (gy_f rfl) (fun hg => x_lenS T23.und (gd_of (c := !((!r2) || ((ac.length : Int) != (aa.length : Int)))) hg (al)) aH) ?_
 obtain ⟨r3, bV, hM⟩ := M.e_bind hM
 refine t_gcall (!((!r2) || ((ac.length : Int) != (aa.length : Int)))) (gy_f rfl) cf37 (B r3) (fun _ => [I (aB.length : Int), I 1, I 8]) (fun hg => lst3 (gd_of (c := !((!r2) || ((ac.length : Int) != (aa.length : Int)))) hg (I (aB.length : Int))) rfl rfl) H (fun hg => (zag (aB.length : Int) 1 8 (M.e_opt bV hg) _ (H.give (A := []) rfl)).mono fun v_ w_ ⟨y_, aq, aJ, H_⟩ => by subst aq; exact ⟨aJ, H.via H_⟩) ?_
 intro cW H
 refine g_val (!((!r2) || ((ac.length : Int) != (aa.length : Int)))) (gy_f rfl) (fun hg => x_not (b := r3) (gd_of (c := !((!r2) || ((ac.length : Int) != (aa.length : Int)))) hg (B r3))) ?_
 refine s_val (x_por (b := ((!r2) || ((ac.length : Int) != (aa.length : Int)))) (r := !r3) rfl rfl (fun hb => gd_of (c := !((!r2) || ((ac.length : Int) != (aa.length : Int)))) (by first | exact hb | (rw [hb]; rfl) | simp_all) (B (!r3)))) ?_
 refine zM (B (((!r2) || ((ac.length : Int) != (aa.length : Int))) || (!r3))) rfl ?_
 refine g_val (!(((!r2) || ((ac.length : Int) != (aa.length : Int))) || (!r3))) (gy_f rfl) (fun hg => x_fa (a := Pq ab) (v := Oq ab 3) rfl (fa_blk (o := 0) Fd30_3 Sz25)) ?_
 refine g_val (!(((!r2) || ((ac.length : Int) != (aa.length : Int))) || (!r3))) (gy_f rfl) (fun hg => x_ld (p := Oq ab 3) (v := ah) (gd_of (c := !(((!r2) || ((ac.length : Int) != (aa.length : Int))) || (!r3))) hg (Oq ab 3)) (ldb_sc Sc25 (H.bl 1) rfl)) ?_
 have cX := (aI).len_le
 refine g_val (!(((!r2) || ((ac.length : Int) != (aa.length : Int))) || (!r3))) (gy_f rfl) (fun hg => x_lenS T25.und (gd_of (c := !(((!r2) || ((ac.length : Int) != (aa.length : Int))) || (!r3))) hg (ah)) aI) ?_
 refine g_val (!(((!r2) || ((ac.length : Int) != (aa.length : Int))) || (!r3))) (gy_f rfl) (fun hg => x_cmp (kd := .i64) (a := (am.length : Int)) (b := 8) (r := decide (8 < (am.length : Int))) (gd_of (c := !(((!r2) || ((ac.length : Int) != (aa.length : Int))) || (!r3))) hg (I (am.length : Int))) rfl rfl) ?_
 refine s_val (x_por (b := (((!r2) || ((ac.length : Int) != (aa.length : Int))) || (!r3))) (r := decide (8 < (am.length : Int))) rfl rfl (fun hb => gd_of (c := !(((!r2) || ((ac.length : Int) != (aa.length : Int))) || (!r3))) (by first | exact hb | (rw [hb]; rfl) | simp_all) (B (decide (8 < (am.length : Int)))))) ?_
 refine zM (B ((((!r2) || ((ac.length : Int) != (aa.length : Int))) || (!r3)) || (decide (8 < (am.length : Int))))) rfl ?_
 refine g_val (!((((!r2) || ((ac.length : Int) != (aa.length : Int))) || (!r3)) || (decide (8 < (am.length : Int))))) (gy_f rfl) (fun hg => x_fa (a := Pq ab) (v := Oq ab 6) rfl (fa_blk (o := 0) Fd30_5 Sz28)) ?_
 refine g_val (!((((!r2) || ((ac.length : Int) != (aa.length : Int))) || (!r3)) || (decide (8 < (am.length : Int))))) (gy_f rfl) (fun hg => x_ld (p := Oq ab 6) (v := ai) (gd_of (c := !((((!r2) || ((ac.length : Int) != (aa.length : Int))) || (!r3)) || (decide (8 < (am.length : Int))))) hg (Oq ab 6)) (ldb_sc Sc28 (H.bl 1) rfl)) ?_
 have cY := (aD).len_le
 refine g_val (!((((!r2) || ((ac.length : Int) != (aa.length : Int))) || (!r3)) || (decide (8 < (am.length : Int))))) (gy_f rfl) (fun hg => x_lenS T28.und (gd_of (c := !((((!r2) || ((ac.length : Int) != (aa.length : Int))) || (!r3)) || (decide (8 < (am.length : Int))))) hg (ai)) aD) ?_
 refine g_val (!((((!r2) || ((ac.length : Int) != (aa.length : Int))) || (!r3)) || (decide (8 < (am.length : Int))))) (gy_f rfl) (fun hg => x_cmp (kd := .i64) (a := (ae.length : Int)) (b := 20) (r := decide (20 < (ae.length : Int))) (gd_of (c := !((((!r2) || ((ac.length : Int) != (aa.length : Int))) || (!r3)) || (decide (8 < (am.length : Int))))) hg (I (ae.length : Int))) rfl rfl) ?_
 refine s_val (x_por (b := ((((!r2) || ((ac.length : Int) != (aa.length : Int))) || (!r3)) || (decide (8 < (am.length : Int))))) (r := decide (20 < (ae.length : Int))) rfl rfl (fun hb => gd_of (c := !((((!r2) || ((ac.length : Int) != (aa.length : Int))) || (!r3)) || (decide (8 < (am.length : Int))))) (by first | exact hb | (rw [hb]; rfl) | simp_all) (B (decide (20 < (ae.length : Int)))))) ?_
 refine s_nil ?_
 refine WD.cond (((((!r2) || ((ac.length : Int) != (aa.length : Int))) || (!r3)) || (decide (8 < (am.length : Int)))) || (decide (20 < (ae.length : Int)))) rfl (fun bn => ?_) (fun bn => ?_)
 ·replace hM := M.e_t hM bn
  refine WD.seq ?_
  refine WD.of ?_
  refine W.region rfl ?_
  refine zA (I 3) rfl ?_
  refine s_nil ?_
  replace H := H.pk [2]
  refine WD.of ?_
  refine W.ret ?_
  refine bodyD_r (H.pk [0]) ?_
  intro cZ H
  replace H := H.nf
  have aq := M.e_pure hM
  exact ⟨_, resE_tmp rfl, ⟨3, aq, rfl, H⟩⟩
 replace hM := M.e_f hM bn
 refine WD.of ?_
 refine W.skip ?_
 refine WD.seq ?_
 refine WD.seq ?_
 refine WD.of ?_
 refine W.region rfl ?_
 refine s_val (x_fa (a := Pq ab) (v := Pq ab) rfl (fa_blk (o := 0) Fd30_0 Sz23)) ?_
 refine s_val (x_ld (p := Pq ab) (v := aj) rfl (ldb_sc Sc23 (H.bl 1) rfl)) ?_
 have c0 := (aC).len_le
 refine s_val (x_lenS T23.und rfl aC) ?_
 refine zM (I 0) rfl ?_
 refine s_nil ?_
 refine WD.block ?_
 obtain ⟨bW, bo, bp⟩ := M.e_bind hM
 obtain ⟨bX, bo⟩ := M.e_iter bo
 refine WD.loop (fun m bK σ W => ∃ (s : Nat) (ρ : Env), σ = upds ρ [(1, Pq ab), (3, Pq ax), (42, aj), (43, I (aa.length : Int)), (44, I (s : Int))] /\ M.iterN (zbw aa ac) m s = some bW /\ St w W [cBlk ax [I (aa.length : Int)] 3, cBlk ab [aj, ak, al, ah, I au, I av, ai] 30, cMk bK] R) ?_ ?_
 ·exact ⟨_, 0, _, upds_of _ _ ⟨rfl, rfl, rfl, rfl, rfl, trivial⟩, bo, H⟩
 rintro c6 bK σ c7 ⟨s, ρ, rfl, bL, H⟩
 obtain ⟨bY, bZ, c8, hM, bg⟩ := M.e_iterN bL
 simp only [zbw] at hM
 clear bL
 refine WD.seq ?_
 refine WD.of ?_
 refine W.region rfl ?_
 refine zC (s : Int) (aa.length : Int) (decide ((s : Int) < (aa.length : Int))) rfl rfl rfl ?_
 refine s_nil ?_
 refine WD.seq ?_
 refine WD.cond (decide ((s : Int) < (aa.length : Int))) rfl (fun aT => ?_) (fun aT => ?_)
 ·replace hM := M.e_t hM aT
  simp only [qy1, qy2, qy3, qy4, qy5, qy6, ne_eq, qy7] at aT
  refine WD.of ?_
  refine W.skip ?_
  refine WD.seq ?_
  refine WD.block ?_
  refine WD.seq ?_
  refine WD.of ?_
  refine W.region rfl ?_
  refine zM (I (s : Int)) rfl ?_
  obtain ⟨b4, hM⟩ := M.e_grd hM
  simp only [Bool.and_eq_true, decide_eq_true_eq] at b4
  refine s_val (x_ix (a := aj) (b := I (s : Int)) (v := vat aj 1 (Int.toNat (s : Int))) rfl rfl (Sl.ix (α := Int) T23.und T23.size aC (by omega) (by omega))) ?_
  refine s_val (x_ld (p := vat aj 1 (Int.toNat (s : Int))) (v := I (aa.getD s 0)) rfl (ld_sc Sc3 (At.mono (Int_at aC (i := (s : Int)) (by omega) (by omega)) (aR.at H)))) ?_
  refine zA (I (s : Int)) rfl ?_
  refine zA (I (aa.getD s 0)) rfl ?_
  refine s_nil ?_
  refine WD.block ?_
  refine WD.seq ?_
  refine WD.of ?_
  refine W.region rfl ?_
  refine zM (I (aa.getD s 0)) rfl ?_
  refine zC (aa.getD s 0) (-1) ((aa.getD s 0) != (-1)) rfl rfl rfl ?_
  refine zM (B ((aa.getD s 0) != (-1))) rfl ?_
  refine g_val ((aa.getD s 0) != (-1)) (gy_t rfl) (fun hg => x_mv (v := I (aa.getD s 0)) rfl) ?_
  refine g_val ((aa.getD s 0) != (-1)) (gy_t rfl) (fun hg => x_mv (v := I (s : Int)) rfl) ?_
  refine g_val ((aa.getD s 0) != (-1)) (gy_t rfl) (fun hg => x_ari (a := (s : Int)) (b := 1) (r := (s : Int) + 1) (gd_of (c := (aa.getD s 0) != (-1)) hg (I (s : Int))) rfl rfl (by first | omega | (have bq := hg; simp at bq; omega))) ?_
  refine g_val ((aa.getD s 0) != (-1)) (gy_t rfl) (fun hg => x_ld (p := Pq ax) (v := I (aa.length : Int)) rfl (ldb_sc Sc3 (H.bl 0) rfl)) ?_
  refine g_val ((aa.getD s 0) != (-1)) (gy_t rfl) (fun hg => x_ari (a := (aa.length : Int)) (b := 1) (r := (aa.length : Int) - 1) (gd_of (c := (aa.getD s 0) != (-1)) hg (I (aa.length : Int))) rfl rfl (by first | omega | (have bq := hg; simp at bq; omega))) ?_
  obtain ⟨r4, b5, hM⟩ := M.e_bind hM
  refine t_gcall ((aa.getD s 0) != (-1)) (gy_t rfl) cf37 (B r4) (fun _ => [I (aa.getD s 0), I ((s : Int) + 1), I ((aa.length : Int) - 1)]) (fun hg => lst3 (gd_of (c := (aa.getD s 0) != (-1)) hg (I (aa.getD s 0))) (gd_of (c := (aa.getD s 0) != (-1)) hg (I ((s : Int) + 1))) (gd_of (c := (aa.getD s 0) != (-1)) hg (I ((aa.length : Int) - 1)))) H (fun hg => (zag (aa.getD s 0) ((s : Int) + 1) ((aa.length : Int) - 1) (M.e_opt b5 hg) _ (H.give (A := []) rfl)).mono fun v_ w_ ⟨y_, aq, aJ, H_⟩ => by subst aq; exact ⟨aJ, H.via H_⟩) ?_
  intro c9 H
  refine g_val ((aa.getD s 0) != (-1)) (gy_t rfl) (fun hg => x_not (b := r4) (gd_of (c := (aa.getD s 0) != (-1)) hg (B r4))) ?_
  refine s_val (x_pand (b := (aa.getD s 0) != (-1)) (r := !r4) rfl (fun hb => gd_of (c := (aa.getD s 0) != (-1)) (by first | exact hb | (rw [hb]; rfl) | simp_all) (B (!r4))) rfl) ?_
  refine zA (B (((aa.getD s 0) != (-1)) && (!r4))) rfl ?_
  refine s_nil ?_
  refine WD.cond (((aa.getD s 0) != (-1)) && (!r4)) rfl (fun br => ?_) (fun br => ?_)
  ·replace hM := M.e_t hM br
   refine WD.seq ?_
   refine WD.of ?_
   refine W.region rfl ?_
   refine zA (I 2) rfl ?_
   refine s_nil ?_
   refine WD.of ?_
   refine W.ret ?_
   have b6 := M.e_inr hM bg
   subst b6
   replace hM := bp
   try dsimp only at hM
   refine bodyD_r (H.pk [2, 0, 1]) ?_
   intro da H
   replace H := H.nf
   have aq := M.e_pure hM
   exact ⟨_, resE_tmp rfl, ⟨2, aq, rfl, (H.pk [])⟩⟩
  replace hM := M.e_f hM br
  refine WD.seq ?_
  refine WD.of ?_
  refine W.region rfl ?_
  refine s_val (x_fa (a := Pq ab) (v := Oq ab 1) rfl (fa_blk (o := 0) Fd30_1 Sz24)) ?_
  refine s_val (x_ld (p := Oq ab 1) (v := ak) rfl (ldb_sc Sc24 (H.bl 1) rfl)) ?_
  refine zM (I (s : Int)) rfl ?_
  obtain ⟨b7, hM⟩ := M.e_grd hM
  simp only [Bool.and_eq_true, decide_eq_true_eq] at b7
  refine s_val (x_ix (a := ak) (b := I (s : Int)) (v := vat ak 2 (Int.toNat (s : Int))) rfl rfl (Sl.ix (α := Span) T24.und T24.size aG (by omega) (by omega))) ?_
  refine s_val (x_ld (p := vat ak 2 (Int.toNat (s : Int))) (v := .agg #[I ((ac.getD s default).lo), I ((ac.getD s default).hi)]) rfl (ld_ag Ag27 Sz27 (At.mono (Span_atA aG (i := (s : Int)) (by omega) (by omega)) (aS.at H)))) ?_
  obtain ⟨db, b8, hM⟩ := M.e_bind hM
  refine s_call cf80 [.agg #[I ((ac.getD s default).lo), I ((ac.getD s default).hi)]] rfl (zcU (ac.getD s default) b8 _ (H.gt 3)) ?_
  rintro vq dc ⟨r5, b9, hvq, ao⟩
  subst b9
  subst vq
  try dsimp only at hM
  replace H := H.bk ao
  clear ao
  refine s_val (x_not (b := r5) rfl) ?_
  refine zA (B (!r5)) rfl ?_
  refine s_nil ?_
  refine WD.cond (!r5) rfl (fun bt => ?_) (fun bt => ?_)
  ·replace hM := M.e_t hM bt
   refine WD.seq ?_
   refine WD.of ?_
   refine W.region rfl ?_
   refine zA (I 130) rfl ?_
   refine s_nil ?_
   refine WD.of ?_
   refine W.ret ?_
   have ca := M.e_inr hM bg
   subst ca
   replace hM := bp
   try dsimp only at hM
   refine bodyD_r (H.pk [2, 0, 1]) ?_
   intro dd H
   replace H := H.nf
   have aq := M.e_pure hM
   exact ⟨_, resE_tmp rfl, ⟨130, aq, rfl, (H.pk [])⟩⟩
  replace hM := M.e_f hM bt
  refine WD.of ?_
  refine W.skip ?_
  refine WD.of ?_
  refine W.region rfl ?_
  refine zR (s : Int) 1 ((s : Int) + 1) rfl rfl rfl (by omega) ?_
  refine zM (I ((s : Int) + 1)) rfl ?_
  refine s_nil ?_
  exact ⟨bY, bZ, s + 1, _, upds_of _ _ ⟨rfl, rfl, rfl, rfl, rfl, trivial⟩, M.e_inl hM bg, H⟩
 replace hM := M.e_f hM aT
 simp only [qy1, qy2, qy3, qy4, qy5, qy6, ne_eq, qy7] at aT
 refine WD.of ?_
 refine W.exit ?_
 have cb := M.e_inr hM bg
 subst cb
 replace hM := bp
 try dsimp only at hM
 refine WD.seq ?_
 refine WD.block ?_
 refine WD.seq ?_
 refine WD.of ?_
 refine W.region rfl ?_
 refine s_val (x_fa (a := Pq ab) (v := Oq ab 2) rfl (fa_blk (o := 0) Fd30_2 Sz23)) ?_
 refine s_val (x_ld (p := Oq ab 2) (v := al) rfl (ldb_sc Sc23 (H.bl 1) rfl)) ?_
 refine s_val (x_ld (p := Pq ax) (v := I (aa.length : Int)) rfl (ldb_sc Sc3 (H.bl 0) rfl)) ?_
 obtain ⟨de, cc, hM⟩ := M.e_bind hM
 refine s_call cf62 [al, I (aa.length : Int)] rfl (zcF aB (aa.length : Int) (aL.app _) aH cc _ (H.gt 3)) ?_
 rintro vq dg ⟨r6, cd, hvq, ao⟩
 subst cd
 subst vq
 try dsimp only at hM
 replace H := H.bk ao
 clear ao
 refine s_val (x_not (b := r6) rfl) ?_
 refine zA (B (!r6)) rfl ?_
 refine s_nil ?_
 refine WD.cond (!r6) rfl (fun bu => ?_) (fun bu => ?_)
 ·replace hM := M.e_t hM bu
  refine WD.seq ?_
  refine WD.of ?_
  refine W.region rfl ?_
  refine zA (I 9) rfl ?_
  refine s_nil ?_
  replace H := H.pk [2]
  refine WD.of ?_
  refine W.ret ?_
  refine bodyD_r (H.pk [0]) ?_
  intro di H
  replace H := H.nf
  have aq := M.e_pure hM
  exact ⟨_, resE_tmp rfl, ⟨9, aq, rfl, H⟩⟩
 replace hM := M.e_f hM bu
 refine WD.seq ?_
 refine WD.of ?_
 refine W.region rfl ?_
 refine s_val (x_fa (a := Pq ab) (v := Oq ab 3) rfl (fa_blk (o := 0) Fd30_3 Sz25)) ?_
 refine s_val (x_ld (p := Oq ab 3) (v := ah) rfl (ldb_sc Sc25 (H.bl 1) rfl)) ?_
 obtain ⟨dk, ce, hM⟩ := M.e_bind hM
 refine s_call cf81 [ah, .func (.func 82) #[] #[]] rfl (zcO am (fun aA => zb4 aA) (aM.app _) aI ⟨82, [], rfl, cf82, fun aF bM bN aU aA bO aV bP aW aX => by obtain rfl := Town_arg aW; exact (zdw aA aX aF (St.refl aV)).mono fun aU aF ⟨bQ, aY, aZ, a8⟩ => by subst aY; exact ⟨aZ, a8⟩⟩ ce _ (H.gt 3)) ?_
 rintro vq dm ⟨r7, cf, hvq, ao⟩
 subst cf
 subst vq
 try dsimp only at hM
 replace H := H.bk ao
 clear ao
 refine s_val (x_not (b := r7) rfl) ?_
 refine zM (B (!r7)) rfl ?_
 refine g_val (!(!r7)) (gy_f rfl) (fun hg => x_fa (a := Pq ab) (v := Oq ab 3) rfl (fa_blk (o := 0) Fd30_3 Sz25)) ?_
 refine g_val (!(!r7)) (gy_f rfl) (fun hg => x_ld (p := Oq ab 3) (v := ah) (gd_of (c := !(!r7)) hg (Oq ab 3)) (ldb_sc Sc25 (H.bl 1) rfl)) ?_
 refine g_val (!(!r7)) (gy_f rfl) (fun hg => x_mf (fs := []) (cs := [Pq ax]) rfl rfl) ?_
 obtain ⟨r8, cg, hM⟩ := M.e_bind hM
 refine t_gcall (!(!r7)) (gy_f rfl) cf81 (B r8) (fun _ => [ah, .func (.func 83) #[] #[Pq ax]]) (fun hg => lst2 (gd_of (c := !(!r7)) hg (ah)) (gd_of (c := !(!r7)) hg (.func (.func 83) #[] #[Pq ax]))) H (fun hg => (zcO am (fun aA => zbJ aA (aa.length : Int)) (aM.app _) aI ⟨83, [Pq ax], rfl, cf83, fun aF bM bN aU aA bO aV bP aW aX => by obtain rfl := Town_arg aW; exact (zdA aA (aa.length : Int) (Has.app (Has.here (k := 0) rfl) _) aX aF (St.refl aV)).mono fun aU aF ⟨bQ, aY, aZ, a8⟩ => by subst aY; exact ⟨aZ, a8⟩⟩ (M.e_opt cg hg) _ (H.give (A := []) rfl)).mono fun v_ w_ ⟨y_, aq, aJ, H_⟩ => by subst aq; exact ⟨aJ, H.via H_⟩) ?_
 intro dq H
 refine g_val (!(!r7)) (gy_f rfl) (fun hg => x_not (b := r8) (gd_of (c := !(!r7)) hg (B r8))) ?_
 refine s_val (x_por (b := !r7) (r := !r8) rfl rfl (fun hb => gd_of (c := !(!r7)) (by first | exact hb | (rw [hb]; rfl) | simp_all) (B (!r8)))) ?_
 refine zM (B ((!r7) || (!r8))) rfl ?_
 refine g_val (!((!r7) || (!r8))) (gy_f rfl) (fun hg => x_fa (a := Pq ab) (v := Oq ab 4) rfl (fa_blk (o := 0) Fd30_4 Sz27)) ?_
 refine g_val (!((!r7) || (!r8))) (gy_f rfl) (fun hg => x_ld (p := Oq ab 4) (v := .agg #[I au, I av]) (gd_of (c := !((!r7) || (!r8))) hg (Oq ab 4)) (ldb_ag (ds := [I au, I av]) Ag27 Sz27 (H.bl 1) rfl rfl)) ?_
 obtain ⟨r9, ch, hM⟩ := M.e_bind hM
 refine t_gcall (!((!r7) || (!r8))) (gy_f rfl) cf80 (B r9) (fun _ => [.agg #[I au, I av]]) (fun hg => lst1 (gd_of (c := !((!r7) || (!r8))) hg (.agg #[I au, I av]))) H (fun hg => (zcU (⟨(au : Int), (av : Int)⟩ : Span) (M.e_opt ch hg) _ (H.give (A := []) rfl)).mono fun v_ w_ ⟨y_, aq, aJ, H_⟩ => by subst aq; exact ⟨aJ, H.via H_⟩) ?_
 intro dr H
 refine g_val (!((!r7) || (!r8))) (gy_f rfl) (fun hg => x_not (b := r9) (gd_of (c := !((!r7) || (!r8))) hg (B r9))) ?_
 refine s_val (x_por (b := ((!r7) || (!r8))) (r := !r9) rfl rfl (fun hb => gd_of (c := !((!r7) || (!r8))) (by first | exact hb | (rw [hb]; rfl) | simp_all) (B (!r9)))) ?_
 refine zA (B (((!r7) || (!r8)) || (!r9))) rfl ?_
 refine s_nil ?_
 refine WD.cond (((!r7) || (!r8)) || (!r9)) rfl (fun bv => ?_) (fun bv => ?_)
 ·replace hM := M.e_t hM bv
  refine WD.seq ?_
  refine WD.of ?_
  refine W.region rfl ?_
  refine zA (I 130) rfl ?_
  refine s_nil ?_
  replace H := H.pk [2]
  refine WD.of ?_
  refine W.ret ?_
  refine bodyD_r (H.pk [0]) ?_
  intro dt H
  replace H := H.nf
  have aq := M.e_pure hM
  exact ⟨_, resE_tmp rfl, ⟨130, aq, rfl, H⟩⟩
 replace hM := M.e_f hM bv
 refine WD.of ?_
 refine W.skip ?_
 refine WD.seq ?_
 refine WD.seq ?_
 refine WD.of ?_
 refine W.region rfl ?_
 refine s_val (x_fa (a := Pq ab) (v := Oq ab 6) rfl (fa_blk (o := 0) Fd30_5 Sz28)) ?_
 refine s_val (x_ld (p := Oq ab 6) (v := ai) rfl (ldb_sc Sc28 (H.bl 1) rfl)) ?_
 have du := (aD).len_le
 refine s_val (x_lenS T28.und rfl aD) ?_
 refine zM (I 0) rfl ?_
 refine s_nil ?_
 refine WD.block ?_
 obtain ⟨ck, bw, bx⟩ := M.e_bind hM
 obtain ⟨bX, bw⟩ := M.e_iter bw
 refine WD.loop (fun m ba σ W => ∃ (s4 : Nat) (ρ : Env), σ = upds ρ [(1, Pq ab), (95, ai), (96, I (ae.length : Int)), (97, I (s4 : Int))] /\ M.iterN (zbn aa ac aB am au av ae) m s4 = some ck /\ St w W [cBlk ax [I (aa.length : Int)] 3, cBlk ab [aj, ak, al, ah, I au, I av, ai] 30, cMk ba] R) ?_ ?_
 ·exact ⟨_, 0, _, upds_of _ _ ⟨rfl, rfl, rfl, rfl, trivial⟩, bw, H⟩
 rintro dv ba σ dw ⟨s4, ρ, rfl, bR, H⟩
 obtain ⟨cl, cm, dx, hM, bh⟩ := M.e_iterN bR
 simp only [zbn] at hM
 clear bR
 refine WD.seq ?_
 refine WD.of ?_
 refine W.region rfl ?_
 refine zC (s4 : Int) (ae.length : Int) (decide ((s4 : Int) < (ae.length : Int))) rfl rfl rfl ?_
 refine s_nil ?_
 refine WD.seq ?_
 refine WD.cond (decide ((s4 : Int) < (ae.length : Int))) rfl (fun bb => ?_) (fun bb => ?_)
 ·replace hM := M.e_t hM bb
  simp only [qy1, qy2, qy3, qy4, qy5, qy6, ne_eq, qy7] at bb
  refine WD.of ?_
  refine W.skip ?_
  refine WD.seq ?_
  refine WD.block ?_
  refine WD.seq ?_
  refine WD.of ?_
  refine W.region rfl ?_
  obtain ⟨cn, hM⟩ := M.e_grd hM
  simp only [Bool.and_eq_true, decide_eq_true_eq] at cn
  refine s_val (x_ix (a := ai) (b := I (s4 : Int)) (v := vat ai 2 (Int.toNat (s4 : Int))) rfl rfl (Sl.ix (α := Flood) T28.und T28.size aD (by omega) (by omega))) ?_
  obtain ⟨az, co, aK⟩ := Flood_atA aD (i := (s4 : Int)) (by omega) (by omega)
  replace aK : Sl _ az (ae.getD s4 default).stages := aK
  have dy := aK.len_le
  refine s_val (x_ld (p := vat ai 2 (Int.toNat (s4 : Int))) (v := .agg #[I ((ae.getD s4 default).spring), az]) rfl (ld_ag Ag67 Sz67 (At.mono co (aN.at H)))) ?_
  refine t_alloc (cs := [I 0, .slice none 0 0]) H Al67 rfl ?_
  intro aw dz H
  refine t_sw 0 0 [I ((ae.getD s4 default).spring), az] (.agg #[I ((ae.getD s4 default).spring), az]) H rfl rfl Sz67 rfl rfl rfl (by simp only [List.all_cons, List.all_nil, Bool.true_and, Bool.and_true, Sl.oc aK]; try rfl) ?_
  intro dA H
  refine s_nil ?_
  refine WD.seq ?_
  refine WD.of ?_
  refine W.region rfl ?_
  refine t_alloc (cs := [I 0]) H Al3 rfl ?_
  intro aE dB H
  refine t_sw 0 0 [I 0] (I 0) H rfl rfl Sz3 rfl rfl rfl rfl ?_
  intro dC H
  refine s_nil ?_
  refine WD.seq ?_
  refine WD.seq ?_
  refine WD.of ?_
  refine W.region rfl ?_
  refine s_val (x_ld (p := Pq ab) (v := .agg #[aj, ak, al, ah, I au, I av, ai]) rfl (ldb_ag (ds := [aj, ak, al, ah, I au, I av, ai]) Ag30 Sz30 (H.bl 3) rfl rfl)) ?_
  refine s_val (x_fa (a := Pq aw) (v := Pq aw) rfl (fa_blk (o := 0) Fd67_0 Sz3)) ?_
  refine s_val (x_ld (p := Pq aw) (v := I ((ae.getD s4 default).spring)) rfl (ldb_sc Sc3 (H.bl 1) rfl)) ?_
  refine s_val (x_max (kd := .i64) (a := 0) (b := (ae.getD s4 default).spring) rfl rfl) ?_
  obtain ⟨dD, cp, hM⟩ := M.e_bind hM
  refine s_call cf46 [.agg #[aj, ak, al, ah, I au, I av, ai], I (max 0 ((ae.getD s4 default).spring))] rfl (za8 aa ac aB am au av ae (max 0 ((ae.getD s4 default).spring)) (aR.app _) aC (aS.app _) aG (aL.app _) aH (aM.app _) aI (aN.app _) aD cp _ (H.gt 5)) ?_
  rintro vq dE ⟨bi, aO, aP, bc, aQ, cq, hvq, ao⟩
  subst cq
  subst vq
  try dsimp only at hM
  replace H := H.bk ao
  clear ao
  refine s_nil ?_
  refine WD.block ?_
  obtain ⟨dF, ct, hM⟩ := M.e_bind hM
  refine WD.range (L := [cBlk aE [I 0] 3, cBlk aQ [aj, ak, al, ah, I aO, I aP, ai] 30, cBlk aw [I ((ae.getD s4 default).spring), az] 67, cBlk ax [I (aa.length : Int)] 3, cBlk ab [aj, ak, al, ah, I au, I av, ai] 30, cBlk bc [I bi] 3]) [Pq bc, Pq aQ] (H.pk [6, 2, 1, 3, 4, 5, 0]) rfl cf67 ?_
  intro bj bz bA cu bB H
  have hYC : YieldC Try.prog ([cMk (bz :: ba), cBlk aQ [aj, ak, al, ah, I aO, I aP, ai] 30, cBlk aw [I ((ae.getD s4 default).spring), az] 67, cBlk ax [I (aa.length : Int)] 3, cBlk ab [aj, ak, al, ah, I au, I av, ai] 30] ++ R) arII (yJ bj bA (fun s3 bm => bm = [cBlk aE [I s3] 3]) (fun (_ : Unit) _ => False) (fun _ => .ret)) (.func (.yield bj) #[] #[]) (M.yl zax) := by
   refine YieldC.mk bB (fun s3 bm => bm = [cBlk aE [I s3] 3]) (fun (_ : Unit) _ => False) (fun _ => .ret) zax (by rintro s3 _ h_; obtain ⟨rfl⟩ := h_; rfl) (fun _ _ h_ => h_.elim) rfl (arII_len rfl) ?_
   intro C_ dG x_ W_ cw
   obtain ⟨x, x2⟩ := x_
   obtain rfl := cw
   refine W.skip ?_
   refine ⟨rfl, rfl, ?_⟩
   intro w R bf bm s_ r cx hM H
   skip
   obtain ⟨s3, cy⟩ : ∃ y_, y_ = s_ := ⟨_, rfl⟩
   subst cy
   obtain ⟨rfl⟩ := cx
   replace aR := aR.sub bf
   replace aS := aS.sub bf
   replace aL := aL.sub bf
   replace aM := aM.sub bf
   replace aN := aN.sub bf
   replace hM : (zax s3 (x, x2)).Ends r := hM
   simp only [zax] at hM
   replace H := H.pk [0, 2, 3, 4, 5, 1]
   refine W.block ?_
   refine W.region rfl ?_
   refine s_val (x_ld (p := Pq aE) (v := I s3) rfl (ldb_sc Sc3 (H.bl 0) rfl)) ?_
   obtain ⟨cz, hM⟩ := M.e_grd hM
   simp only [Bool.and_eq_true, decide_eq_true_eq] at cz
   refine zR s3 1 (s3 + 1) rfl rfl rfl (by omega) ?_
   refine t_sw 0 0 [I (s3 + 1)] (I (s3 + 1)) H rfl rfl Sz3 rfl rfl rfl rfl ?_
   intro dH H
   refine s_nil ?_
   exact ⟨s3 + 1, [cBlk aE [I (s3 + 1)] 3], (M.e_pure hM).symm, rfl, H.pick [0, 5, 1, 2, 3, 4] (by decide) rfl⟩
  replace H : St w cu (cAll (cObj bj (.loop bA) :: [cBlk aE [I 0] 3]) :: [cBlk bc [I bi] 3, cMk (bz :: ba), cBlk aQ [aj, ak, al, ah, I aO, I aP, ai] 30, cBlk aw [I ((ae.getD s4 default).spring), az] 67, cBlk ax [I (aa.length : Int)] 3, cBlk ab [aj, ak, al, ah, I au, I av, ai] 30]) R := St.bundleB (A := cObj bj (.loop bA) :: [cBlk aE [I 0] 3]) (T := [cBlk bc [I bi] 3, cMk (bz :: ba), cBlk aQ [aj, ak, al, ah, I aO, I aP, ai] 30, cBlk aw [I ((ae.getD s4 default).spring), az] 67, cBlk ax [I (aa.length : Int)] 3, cBlk ab [aj, ak, al, ah, I au, I av, ai] 30]) rfl (H.pk [0, 2, 7, 1, 3, 4, 5, 6])
  refine (zaP (M.yl zax) (.inl 0) bi aa ac aB am aO aP ae hYC ⟨_, rfl, rfl⟩ (aR.app _) aC (aS.app _) aG (aL.app _) aH (aM.app _) aI (aN.app _) aD (Has.here (k := 1) rfl) ct _ (H.gt 5)).mono ?_
  rintro vq dI ⟨cA, q0, dJ, cB, hvq, ao, bS⟩
  subst cB
  replace H := H.back ao rfl
  clear ao hYC
  rcases cA with s3 | _
  ·try dsimp only at hM
   obtain ⟨_, rfl, rfl⟩ := bS
   refine ⟨_, [cBlk aE [I s3] 3, cBlk aQ [aj, ak, al, ah, I aO, I aP, ai] 30, cBlk aw [I ((ae.getD s4 default).spring), az] 67, cBlk ax [I (aa.length : Int)] 3, cBlk ab [aj, ak, al, ah, I au, I av, ai] 30, cBlk bc [I q0] 3], H.unbundle.pick [0, 3, 1, 4, 5, 6, 7, 2] (by decide) rfl, bB.nb, ?_⟩
   intro dK H
   rw [bB.pd]
   replace H := H.nf
   try simp only []
   replace H := H.pk [0, 1, 3, 4, 5]
   refine WD.block ?_
   refine WD.seq ?_
   refine WD.of ?_
   refine W.region rfl ?_
   refine s_val (x_fa (a := Pq ab) (v := Oq ab 2) rfl (fa_blk (o := 0) Fd30_2 Sz23)) ?_
   refine s_val (x_ld (p := Oq ab 2) (v := al) rfl (ldb_sc Sc23 (H.bl 4) rfl)) ?_
   refine s_val (x_fa (a := Pq aw) (v := Pq aw) rfl (fa_blk (o := 0) Fd67_0 Sz3)) ?_
   refine s_val (x_ld (p := Pq aw) (v := I ((ae.getD s4 default).spring)) rfl (ldb_sc Sc3 (H.bl 2) rfl)) ?_
   obtain ⟨dL, cC, hM⟩ := M.e_bind hM
   refine s_call cf84 [al, I ((ae.getD s4 default).spring)] rfl (zdB aB ((ae.getD s4 default).spring) (aL.app _) aH cC _ (H.gt 5)) ?_
   rintro vq dM ⟨ay, cD, hvq, ao⟩
   subst cD
   subst vq
   try dsimp only at hM
   replace H := H.bk ao
   clear ao
   refine s_val (x_not (b := ay) rfl) ?_
   refine zM (B (!ay)) rfl ?_
   refine g_val (!(!ay)) (gy_f rfl) (fun hg => x_fa (a := Pq aw) (v := Oq aw 1) rfl (fa_blk (o := 0) Fd67_1 Sz23)) ?_
   refine g_val (!(!ay)) (gy_f rfl) (fun hg => x_ld (p := Oq aw 1) (v := az) (gd_of (c := !(!ay)) hg (Oq aw 1)) (ldb_sc Sc23 (H.bl 2) rfl)) ?_
   have dN := (aK).len_le
   refine g_val (!(!ay)) (gy_f rfl) (fun hg => x_lenS T23.und (gd_of (c := !(!ay)) hg (az)) aK) ?_
   refine g_val (!(!ay)) (gy_f rfl) (fun hg => x_ld (p := Pq aE) (v := I s3) rfl (ldb_sc Sc3 (H.bl 1) rfl)) ?_
   refine g_val (!(!ay)) (gy_f rfl) (fun hg => x_cmp (kd := .i64) (a := (((ae.getD s4 default).stages).length : Int)) (b := s3) (r := (((ae.getD s4 default).stages).length : Int) != s3) (gd_of (c := !(!ay)) hg (I (((ae.getD s4 default).stages).length : Int))) (gd_of (c := !(!ay)) hg (I s3)) rfl) ?_
   refine s_val (x_por (b := !ay) (r := (((ae.getD s4 default).stages).length : Int) != s3) rfl rfl (fun hb => gd_of (c := !(!ay)) (by first | exact hb | (rw [hb]; rfl) | simp_all) (B ((((ae.getD s4 default).stages).length : Int) != s3)))) ?_
   refine zA (B ((!ay) || ((((ae.getD s4 default).stages).length : Int) != s3))) rfl ?_
   refine s_nil ?_
   refine WD.cond ((!ay) || ((((ae.getD s4 default).stages).length : Int) != s3)) rfl (fun bC => ?_) (fun bC => ?_)
   ·replace hM := M.e_t hM bC
    refine WD.seq ?_
    refine WD.of ?_
    refine W.region rfl ?_
    refine zA (I 2) rfl ?_
    refine s_nil ?_
    replace H := H.pk [0, 3, 4]
    refine WD.of ?_
    refine W.ret ?_
    have cE := M.e_inr hM bh
    subst cE
    replace hM := bx
    try dsimp only at hM
    refine bodyD_r (H.pk [0, 1, 2]) ?_
    intro dO H
    replace H := H.nf
    have aq := M.e_pure hM
    exact ⟨_, resE_tmp rfl, ⟨2, aq, rfl, (H.pk [])⟩⟩
   replace hM := M.e_f hM bC
   refine WD.seq ?_
   refine WD.of ?_
   refine W.region rfl ?_
   refine s_val (x_fa (a := Pq aw) (v := Oq aw 1) rfl (fa_blk (o := 0) Fd67_1 Sz23)) ?_
   refine s_val (x_ld (p := Oq aw 1) (v := az) rfl (ldb_sc Sc23 (H.bl 2) rfl)) ?_
   obtain ⟨dP, cF, hM⟩ := M.e_bind hM
   refine s_call cf35 [az, .func (.func 85) #[] #[]] rfl (zcL ((ae.getD s4 default).stages) (fun aA => zba aA) (aN.app _) aK ⟨85, [], rfl, cf85, fun aF bM bN aU aA bO aV bP aW aX => by obtain rfl := Arg.int aW; exact (zc2 aA aX aF (St.refl aV)).mono fun aU aF ⟨bQ, aY, aZ, a8⟩ => by subst aY; exact ⟨aZ, a8⟩⟩ cF _ (H.gt 5)) ?_
   rintro vq dQ ⟨bD, cG, hvq, ao⟩
   subst cG
   subst vq
   try dsimp only at hM
   replace H := H.bk ao
   clear ao
   refine s_val (x_not (b := bD) rfl) ?_
   refine zA (B (!bD)) rfl ?_
   refine s_nil ?_
   refine WD.cond (!bD) rfl (fun bE => ?_) (fun bE => ?_)
   ·replace hM := M.e_t hM bE
    refine WD.seq ?_
    refine WD.of ?_
    refine W.region rfl ?_
    refine zA (I 130) rfl ?_
    refine s_nil ?_
    replace H := H.pk [0, 3, 4]
    refine WD.of ?_
    refine W.ret ?_
    have cH := M.e_inr hM bh
    subst cH
    replace hM := bx
    try dsimp only at hM
    refine bodyD_r (H.pk [0, 1, 2]) ?_
    intro dR H
    replace H := H.nf
    have aq := M.e_pure hM
    exact ⟨_, resE_tmp rfl, ⟨130, aq, rfl, (H.pk [])⟩⟩
   replace hM := M.e_f hM bE
   refine WD.of ?_
   refine W.skip ?_
   refine WD.of ?_
   refine W.region rfl ?_
   refine zR (s4 : Int) 1 ((s4 : Int) + 1) rfl rfl rfl (by omega) ?_
   refine zM (I ((s4 : Int) + 1)) rfl ?_
   refine s_nil ?_
   exact ⟨cl, cm, s4 + 1, _, upds_of _ _ ⟨rfl, rfl, rfl, rfl, trivial⟩, M.e_inl hM bh, (H.pk [3, 4, 0])⟩
  obtain ⟨_, _, h_⟩ := bS; exact h_.elim
 replace hM := M.e_f hM bb
 simp only [qy1, qy2, qy3, qy4, qy5, qy6, ne_eq, qy7] at bb
 refine WD.of ?_
 refine W.exit ?_
 have cI := M.e_inr hM bh
 subst cI
 replace hM := bx
 try dsimp only at hM
 replace H := H.pk [2]
 refine WD.seq ?_
 refine WD.of ?_
 refine W.region rfl ?_
 refine zA (I 0) rfl ?_
 refine s_nil ?_
 refine WD.of ?_
 refine W.ret ?_
 refine bodyD_r (H.pk [0]) ?_
 intro dS H
 replace H := H.nf
 have aq := M.e_pure hM
 exact ⟨_, resE_tmp rfl, ⟨0, aq, rfl, H⟩⟩

def zao (ac : List Int) (ae : List Span) (ah : List Int) (ai : List Town) (aa : Int) (ab : Int) (aj : List Flood) : M (Int ⊕ (Int × Int × Int)) :=
  M.bind (zbl ac ae ah ai aa ab aj) fun r2 =>
  bif r2 != 0 then (
  M.pure (.inl r2))
  else (
  M.pure (.inr (aa, ab, 0)))
theorem za2 {R : List Chunk} {ax : Cells} {ac : Value} {ay : Cells} {ae : Value} {az : Cells} {ah : Value} {aA : Cells} {ai : Value} {aB : Cells} {aj : Value} (al : List Int) (am : List Span) (ao : List Int) (aq : List Town) (aa : Int) (ab : Int) (au : List Flood) (aH : Reads R ax) (aI : Sl ax ac al) (aJ : Reads R ay) (aK : Sl ay ae am) (aL : Reads R az) (aM : Sl az ah ao) (aN : Reads R aA) (aO : Sl aA ai aq) (aP : Reads R aB) (aQ : Sl aB aj au) {r : (Int ⊕ (Int × Int × Int))} (hM : (zao al am ao aq aa ab au).Ends r) (w : World) (H : St w w [] R) : Ret Try.prog 44 #[.agg #[ac, ae, ah, ai, I aa, I ab, aj]] w fun v w' => (∃ (y0 : Int), (.inl y0) = r /\ v = .tuple #[.pointer none, I y0] /\ St w w' [] R) ∨ (∃ (y0 : Int) (y1 : Int) (y2 : Int) (aC : Nat) (aD : Nat) (aR : Base), (.inr (y0, y1, y2)) = r /\ v = .tuple #[Pq aC, I y2] /\ St w w' [cBlk aC [ac, ae, ah, ai, I y0, I y1, aj, .map (some aD)] 86, cMem encDm aD aR (zaa al am ao aq y0 y1 au)] R) := by
 refine ret_of_W Try.func44 rfl rfl rfl ?_
 refine W.seq ?_
 refine W.region rfl ?_
 refine t_box (v := .agg #[ac, ae, ah, ai, I aa, I ab, aj]) (cs := [ac, ae, ah, ai, I aa, I ab, aj]) H rfl rfl ?_
 intro aE aV H
 refine zA (.pointer none) rfl ?_
 refine zA (I 0) rfl ?_
 refine s_nil ?_
 refine W.seq ?_
 refine W.seq ?_
 refine W.region rfl ?_
 refine s_val (x_ld (p := Pq aE) (v := .agg #[ac, ae, ah, ai, I aa, I ab, aj]) rfl (ldb_ag (ds := [ac, ae, ah, ai, I aa, I ab, aj]) Ag30 Sz30 (H.bl 0) rfl rfl)) ?_
 obtain ⟨aW, aS, hM⟩ := M.e_bind hM
 refine s_call cf66 [.agg #[ac, ae, ah, ai, I aa, I ab, aj]] rfl (zdE al am ao aq aa ab au (aH.app _) aI (aJ.app _) aK (aL.app _) aM (aN.app _) aO (aP.app _) aQ aS _ (H.gt 1)) ?_
 rintro vq aX ⟨r2, aT, hvq, aF⟩
 subst aT
 subst vq
 try dsimp only at hM
 replace H := H.bk aF
 clear aF
 refine zA (I r2) rfl ?_
 refine s_nil ?_
 refine W.seq ?_
 refine W.region rfl ?_
 refine zM (I r2) rfl ?_
 refine zC r2 0 (r2 != 0) rfl rfl rfl ?_
 refine s_nil ?_
 refine W.cond (r2 != 0) rfl (fun av => ?_) (fun av => ?_)
 ·replace hM := M.e_t hM av
  simp only [qy1, qy2, qy3, qy4, qy5, qy6, ne_eq, qy7] at av
  refine W.seq ?_
  refine W.region rfl ?_
  refine zM (I r2) rfl ?_
  refine zA (.pointer none) rfl ?_
  refine zA (I r2) rfl ?_
  refine s_nil ?_
  refine W.ret ?_
  have aw := M.e_pure hM
  exact ⟨_, resE_tmp2 rfl, .inl (⟨r2, aw, rfl, (H.pk [])⟩)⟩
 replace hM := M.e_f hM av
 simp only [qy1, qy2, qy3, qy4, qy5, qy6, ne_eq, qy7] at av
 refine W.skip ?_
 refine W.seq ?_
 refine W.region rfl ?_
 refine s_val (x_ld (p := Pq aE) (v := .agg #[ac, ae, ah, ai, I aa, I ab, aj]) rfl (ldb_ag (ds := [ac, ae, ah, ai, I aa, I ab, aj]) Ag30 Sz30 (H.bl 0) rfl rfl)) ?_
 refine t_mkmem encDm (zaa al am ao aq aa ab au) H ?_
 intro ak aU aY H
 refine s_val (x_bld (ps := [(0, .agg #[ac, ae, ah, ai, I aa, I ab, aj]), (1, .map (some ak))]) (zs := [.slice none 0 0, .slice none 0 0, .slice none 0 0, .slice none 0 0, I 0, I 0, .slice none 0 0, .map none]) (L' := [ac, ae, ah, ai, I aa, I ab, aj, .map (some ak)]) rfl Try.underlying86 Al86 rfl (Bd86 Try.underlying86) (.cons (cs := [ac, ae, ah, ai, I aa, I ab, aj]) rfl rfl rfl rfl rfl <| .cons (cs := [.map (some ak)]) rfl rfl rfl rfl rfl <| .nil)) ?_
 refine t_box (v := .agg #[ac, ae, ah, ai, I aa, I ab, aj, .map (some ak)]) (cs := [ac, ae, ah, ai, I aa, I ab, aj, .map (some ak)]) H rfl rfl ?_
 intro aG aZ H
 refine zA (Pq aG) rfl ?_
 refine zA (I 0) rfl ?_
 refine s_nil ?_
 refine W.ret ?_
 have aw := M.e_pure hM
 exact ⟨_, resE_tmp2 rfl, .inr (⟨aa, ab, 0, aG, ak, aU, aw, rfl, (H.pk [0, 1])⟩)⟩

def zbu (ac : List Int) (ae : List Span) (aa : List Int) (ab : List Town) (ah : Int) (ai : Int) (aj : List Flood) (s2 : Nat) : (Nat × (List Dem)) -> M ((Nat × (List Dem)) ⊕ ((List Dem) × (List Dem))) := fun (s, l4) =>
  bif decide ((s : Int) < (ab.length : Int)) then (
  M.grd (decide ((s : Int) < (ab.length : Int))) <|
  M.bind (zaF ac ae aa ab ah ai aj (aa.getD s2 0) ((ab.getD s default).station)) fun (ak, al, r1) =>
  bif r1 then (
  M.grd (decide ((l4.length + ([(⟨(aa.getD s2 0 : Int), (s : Int)⟩ : Dem)]).length) * 16 <= 140737488355328)) <|
  M.pure (.inl (s + 1, l4 ++ ([(⟨(aa.getD s2 0 : Int), (s : Int)⟩ : Dem)]))))
  else (
  M.pure (.inl (s + 1, l4))))
  else (
  M.pure (.inr (l4, l4)))
def zbd (ab : List Int) (ac : List Span) (aa : List Int) (ae : List Town) (ah : Int) (ai : Int) (aj : List Flood) : (Nat × (List Dem)) -> M ((Nat × (List Dem)) ⊕ ((List Dem) × (List Dem))) := fun (s2, l6) =>
  bif decide ((s2 : Int) < (aa.length : Int)) then (
  M.grd (decide ((s2 : Int) < (aa.length : Int))) <|
  M.bind (M.iter (zbu ab ac aa ae ah ai aj s2) (0, l6)) fun (l2, l5) =>
  M.pure (.inl (s2 + 1, l5)))
  else (
  M.pure (.inr (l6, l6)))
def zah (aa : List Int) (ab : List Span) (ac : List Int) (ae : List Town) (ah : Int) (ai : Int) (aj : List Flood) : M (List Dem) :=
  M.bind (M.iter (zbd aa ab ac ae ah ai aj) (0, [])) fun (l7, l8) =>
  M.pure l8
theorem zbP {R : List Chunk} {ac : Nat} {aG : Cells} {aH : Value} {aI : Cells} {aJ : Value} {aK : Cells} {ae : Value} {aL : Cells} {ah : Value} {aM : Cells} {aN : Value} {aX : Nat} (am : List Int) (ao : List Span) (aa : List Int) (ab : List Town) (aq : Int) (au : Int) (av : List Flood) (aY : Reads R aG) (aZ : Sl aG aH am) (a8 : Reads R aI) (ba : Sl aI aJ ao) (aO : Reads R aK) (aw : Sl aK ae aa) (aP : Reads R aL) (ax : Sl aL ah ab) (bb : Reads R aM) (bc : Sl aM aN av) (aA : Has R (cBlk ac [aH, aJ, ae, ah, I aq, I au, aN, .map (some aX)] 86)) {r : (List Dem)} (hM : (zah am ao aa ab aq au av).Ends r) (w : World) (H : St w w [] R) : Ret Try.prog 51 #[Pq ac] w fun v w' => ∃ (y0 : List Dem) (u0 : Value), y0 = r /\ v = u0 /\ St w w' [cOwn (α := Dem) 62 u0 y0] R := by
 refine ret_of_W Try.func51 rfl rfl rfl ?_
 refine W.seq ?_
 refine W.region rfl ?_
 refine zA (.slice none 0 0) rfl ?_
 refine s_nil ?_
 refine W.seq ?_
 refine W.region rfl ?_
 refine zA (.slice none 0 0) rfl ?_
 refine s_nil ?_
 refine W.seq ?_
 refine W.seq ?_
 refine W.region rfl ?_
 refine zM (Pq ac) rfl ?_
 refine s_val (x_nc (a := ⟨ac, 0, none⟩) rfl) ?_
 refine s_val (x_fa (a := Pq ac) (v := Pq ac) rfl (fa_blk (o := 0) Fd86_0 Sz30)) ?_
 refine s_val (x_fa (a := Pq ac) (v := Oq ac 2) rfl (fa_blk (o := 0) Fd30_2 Sz23)) ?_
 refine s_val (x_ld (p := Oq ac 2) (v := ae) rfl (ldb_sc Sc23 (aA.blk H) rfl)) ?_
 have bz := (aw).len_le
 refine s_val (x_lenS T23.und rfl aw) ?_
 refine zM (I 0) rfl ?_
 refine s_nil ?_
 refine W.block ?_
 replace H := H.nilOwn (α := Dem) 62
 obtain ⟨bf, aB, bg⟩ := M.e_bind hM
 obtain ⟨bh, aB⟩ := M.e_iter aB
 refine W.loop (fun m σ W => ∃ (s2 : Nat) (l6 : List Dem) (ai : Value) (ρ : Env), σ = upds ρ [(0, Pq ac), (3, ai), (14, ae), (15, I (aa.length : Int)), (16, I (s2 : Int))] /\ M.iterN (zbd am ao aa ab aq au av) m (s2, l6) = some bf /\ St w W [cOwn (α := Dem) 62 ai l6] R) ?_ ?_
 ·exact ⟨_, 0, [], (.slice none 0 0), _, upds_of _ _ ⟨rfl, rfl, rfl, rfl, rfl, trivial⟩, aB, H⟩
 rintro bA σ bB ⟨s2, l6, ai, ρ, rfl, aQ, H⟩
 obtain ⟨bi, bj, bC, hM, aR⟩ := M.e_iterN aQ
 simp only [zbd] at hM
 clear aQ
 refine W.seq ?_
 refine W.region rfl ?_
 refine zC (s2 : Int) (aa.length : Int) (decide ((s2 : Int) < (aa.length : Int))) rfl rfl rfl ?_
 refine s_nil ?_
 refine W.seq ?_
 refine W.cond (decide ((s2 : Int) < (aa.length : Int))) rfl (fun ay => ?_) (fun ay => ?_)
 ·replace hM := M.e_t hM ay
  simp only [qy1, qy2, qy3, qy4, qy5, qy6, ne_eq, qy7] at ay
  refine W.skip ?_
  refine W.seq ?_
  refine W.block ?_
  refine W.seq ?_
  refine W.region rfl ?_
  obtain ⟨bm, hM⟩ := M.e_grd hM
  simp only [Bool.and_eq_true, decide_eq_true_eq] at bm
  refine s_val (x_ix (a := ae) (b := I (s2 : Int)) (v := vat ae 1 (Int.toNat (s2 : Int))) rfl rfl (Sl.ix (α := Int) T23.und T23.size aw (by omega) (by omega))) ?_
  refine s_val (x_ld (p := vat ae 1 (Int.toNat (s2 : Int))) (v := I (aa.getD s2 0)) rfl (ld_sc Sc3 (At.mono (Int_at aw (i := (s2 : Int)) (by omega) (by omega)) (aO.at H)))) ?_
  refine zA (I (aa.getD s2 0)) rfl ?_
  refine s_nil ?_
  refine W.seq ?_
  refine W.region rfl ?_
  refine zM (Pq ac) rfl ?_
  refine s_val (x_nc (a := ⟨ac, 0, none⟩) rfl) ?_
  refine s_val (x_fa (a := Pq ac) (v := Pq ac) rfl (fa_blk (o := 0) Fd86_0 Sz30)) ?_
  refine s_val (x_fa (a := Pq ac) (v := Oq ac 3) rfl (fa_blk (o := 0) Fd30_3 Sz25)) ?_
  refine s_val (x_ld (p := Oq ac 3) (v := ah) rfl (ldb_sc Sc25 (aA.blk H) rfl)) ?_
  have bD := (ax).len_le
  refine s_val (x_lenS T25.und rfl ax) ?_
  refine zM (I 0) rfl ?_
  refine s_nil ?_
  refine W.block ?_
  obtain ⟨bn, aC, bo⟩ := M.e_bind hM
  obtain ⟨bh, aC⟩ := M.e_iter aC
  refine W.loop (fun m σ W => ∃ (s : Nat) (l4 : List Dem) (aj : Value) (ρ : Env), σ = upds ρ [(0, Pq ac), (3, aj), (5, I (aa.getD s2 0)), (14, ae), (15, I (aa.length : Int)), (16, I (s2 : Int)), (24, ah), (25, I (ab.length : Int)), (26, I (s : Int))] /\ M.iterN (zbu am ao aa ab aq au av s2) m (s, l4) = some bn /\ St w W [cOwn (α := Dem) 62 aj l4] R) ?_ ?_
  ·exact ⟨_, 0, l6, ai, _, upds_of _ _ ⟨rfl, rfl, rfl, rfl, rfl, rfl, rfl, rfl, rfl, trivial⟩, aC, H⟩
  rintro bE σ bF ⟨s, l4, aj, ρ, rfl, aS, H⟩
  obtain ⟨aT, aU, bG, hM, aD⟩ := M.e_iterN aS
  simp only [zbu] at hM
  clear aS
  refine W.seq ?_
  refine W.region rfl ?_
  refine zC (s : Int) (ab.length : Int) (decide ((s : Int) < (ab.length : Int))) rfl rfl rfl ?_
  refine s_nil ?_
  refine W.seq ?_
  refine W.cond (decide ((s : Int) < (ab.length : Int))) rfl (fun az => ?_) (fun az => ?_)
  ·replace hM := M.e_t hM az
   simp only [qy1, qy2, qy3, qy4, qy5, qy6, ne_eq, qy7] at az
   refine W.skip ?_
   refine W.seq ?_
   refine W.block ?_
   refine W.seq ?_
   refine W.region rfl ?_
   refine zM (I (s : Int)) rfl ?_
   obtain ⟨bp, hM⟩ := M.e_grd hM
   simp only [Bool.and_eq_true, decide_eq_true_eq] at bp
   refine s_val (x_ix (a := ah) (b := I (s : Int)) (v := vat ah 3 (Int.toNat (s : Int))) rfl rfl (Sl.ix (α := Town) T25.und T25.size ax (by omega) (by omega))) ?_
   refine s_val (x_ld (p := vat ah 3 (Int.toNat (s : Int))) (v := .agg #[I ((ab.getD s default).station), I ((ab.getD s default).lead), I ((ab.getD s default).alarm)]) rfl (ld_ag Ag54 Sz54 (At.mono (Town_atA ax (i := (s : Int)) (by omega) (by omega)) (aP.at H)))) ?_
   refine t_alloc (cs := [I 0, I 0, I 0]) H Al54 rfl ?_
   intro aE bH H
   refine zA (I (s : Int)) rfl ?_
   refine t_sw 0 0 [I ((ab.getD s default).station), I ((ab.getD s default).lead), I ((ab.getD s default).alarm)] (.agg #[I ((ab.getD s default).station), I ((ab.getD s default).lead), I ((ab.getD s default).alarm)]) H rfl rfl Sz54 rfl rfl rfl rfl ?_
   intro bI H
   refine s_nil ?_
   refine W.seq ?_
   refine W.region rfl ?_
   refine zM (Pq ac) rfl ?_
   refine zM (I (aa.getD s2 0)) rfl ?_
   refine s_val (x_fa (a := Pq aE) (v := Pq aE) rfl (fa_blk (o := 0) Fd54_0 Sz3)) ?_
   refine s_val (x_ld (p := Pq aE) (v := I ((ab.getD s default).station)) rfl (ldb_sc Sc3 (H.bl 0) rfl)) ?_
   obtain ⟨bJ, bq, hM⟩ := M.e_bind hM
   refine s_call cf47 [Pq ac, I (aa.getD s2 0), I ((ab.getD s default).station)] rfl (zco am ao aa ab aq au av (aa.getD s2 0) ((ab.getD s default).station) (aY.app _) aZ (a8.app _) ba (aO.app _) aw (aP.app _) ax (bb.app _) bc (aA.app _) bq _ (H.gt 2)) ?_
   rintro vq bK ⟨ak, al, r1, br, hvq, aV⟩
   subst br
   subst vq
   try dsimp only at hM
   replace H := H.bk aV
   clear aV
   refine zM (.tuple #[.agg #[I ak, I al], B r1]) rfl ?_
   refine zX [.agg #[I ak, I al], B r1] (.agg #[I ak, I al]) rfl rfl ?_
   refine zX [.agg #[I ak, I al], B r1] (B r1) rfl rfl ?_
   refine t_alloc (cs := [I 0, I 0]) H Al27 rfl ?_
   intro bL bM H
   refine t_sw 0 0 [I ak, I al] (.agg #[I ak, I al]) H rfl rfl Sz27 rfl rfl rfl rfl ?_
   intro bN H
   refine zA (B r1) rfl ?_
   refine s_nil ?_
   replace H := H.pk [2]
   refine W.seq ?_
   refine W.region rfl ?_
   refine zM (B r1) rfl ?_
   refine s_nil ?_
   refine W.cond r1 rfl (fun aF => ?_) (fun aF => ?_)
   ·replace hM := M.e_t hM aF
    refine W.region rfl ?_
    refine zM aj rfl ?_
    refine zM (I (aa.getD s2 0)) rfl ?_
    refine zM (I (s : Int)) rfl ?_
    refine s_val (x_bld (ps := [(0, I (aa.getD s2 0)), (1, I (s : Int))]) (zs := [I 0, I 0]) (L' := [I (aa.getD s2 0), I (s : Int)]) rfl Try.underlying62 Al62 rfl (Bd62 Try.underlying62) (.cons (cs := [I (aa.getD s2 0)]) rfl rfl rfl rfl rfl <| .cons (cs := [I (s : Int)]) rfl rfl rfl rfl rfl <| .nil)) ?_
    refine t_bs (α := Dem) T57 [.agg #[I (aa.getD s2 0), I (s : Int)]] [(⟨(aa.getD s2 0 : Int), (s : Int)⟩ : Dem)] H rfl (.cons rfl (Flat.rep_enc _ (⟨(aa.getD s2 0 : Int), (s : Int)⟩ : Dem)) <| .nil) rfl rfl rfl ?_
    intro bt bO H
    obtain ⟨bu, hM⟩ := M.e_grd hM
    simp only [Bool.and_eq_true, decide_eq_true_eq] at bu
    refine t_app (α := Dem) (k := 1) (l := l4) (l2 := [(⟨(aa.getD s2 0 : Int), (s : Int)⟩ : Dem)]) (l' := l4 ++ ([(⟨(aa.getD s2 0 : Int), (s : Int)⟩ : Dem)])) (vy := bt) T57 rfl H rfl rfl rfl (H.os 0) (H.ol 0) (rfl) (by first | omega | (simp only [List.length_nil] at *; omega)) ?_
    intro aW bP H
    replace H := H.nf
    refine zA aW rfl ?_
    refine s_nil ?_
    refine W.region rfl ?_
    refine zR (s : Int) 1 ((s : Int) + 1) rfl rfl rfl (by omega) ?_
    refine zM (I ((s : Int) + 1)) rfl ?_
    refine s_nil ?_
    exact ⟨aT, aU, s + 1, l4 ++ ([(⟨(aa.getD s2 0 : Int), (s : Int)⟩ : Dem)]), aW, _, upds_of _ _ ⟨rfl, rfl, rfl, rfl, rfl, rfl, rfl, rfl, rfl, trivial⟩, M.e_inl hM aD, (H.pk [1])⟩
   replace hM := M.e_f hM aF
   refine W.skip ?_
   refine W.region rfl ?_
   refine zR (s : Int) 1 ((s : Int) + 1) rfl rfl rfl (by omega) ?_
   refine zM (I ((s : Int) + 1)) rfl ?_
   refine s_nil ?_
   exact ⟨aT, aU, s + 1, l4, aj, _, upds_of _ _ ⟨rfl, rfl, rfl, rfl, rfl, rfl, rfl, rfl, rfl, trivial⟩, M.e_inl hM aD, H⟩
  replace hM := M.e_f hM az
  simp only [qy1, qy2, qy3, qy4, qy5, qy6, ne_eq, qy7] at az
  refine W.exit ?_
  have bv := M.e_inr hM aD
  subst bv
  replace hM := bo
  try dsimp only at hM
  refine W.region rfl ?_
  refine zR (s2 : Int) 1 ((s2 : Int) + 1) rfl rfl rfl (by omega) ?_
  refine zM (I ((s2 : Int) + 1)) rfl ?_
  refine s_nil ?_
  exact ⟨bi, bj, s2 + 1, l4, aj, _, upds_of _ _ ⟨rfl, rfl, rfl, rfl, rfl, trivial⟩, M.e_inl hM aR, H⟩
 replace hM := M.e_f hM ay
 simp only [qy1, qy2, qy3, qy4, qy5, qy6, ne_eq, qy7] at ay
 refine W.exit ?_
 have bw := M.e_inr hM aR
 subst bw
 replace hM := bg
 try dsimp only at hM
 refine W.seq ?_
 refine W.region rfl ?_
 refine zM ai rfl ?_
 refine zA ai rfl ?_
 refine s_nil ?_
 refine W.ret ?_
 have bx := M.e_pure hM
 exact ⟨_, resE_tmp rfl, ⟨l6, ai, bx, rfl, H⟩⟩

def zbk (s : List Dem) (f : Dem -> M Bool) : Nat -> M (Nat ⊕ (Int ⊕ Unit)) := fun s2 =>
  bif decide ((s2 : Int) < (s.length : Int)) then (
  M.grd (decide ((s2 : Int) < (s.length : Int))) <|
  M.bind (f (s.getD s2 default)) fun r2 =>
  bif r2 then (
  M.pure (.inr (.inl (s2 : Int))))
  else (
  M.pure (.inl (s2 + 1))))
  else (
  M.pure (.inr (.inr ())))
def zcC (s : List Dem) (f : Dem -> M Bool) : M Int :=
  M.bind (M.iter (zbk s f) 0) fun x_ => match x_ with
  | (.inl s3) => (
  M.pure s3)
  | (.inr (_ : Unit)) => (
  M.pure (-1))
theorem zdz {R : List Chunk} {al : Cells} {aa : Value} {ac : Value} (s : List Dem) (f : Dem -> M Bool) (aq : Reads R al) (ae : Sl al aa s) (au : FnM Try.prog R ac f) {r : Int} (hM : (zcC s f).Ends r) (w : World) (H : St w w [] R) : Ret Try.prog 76 #[aa, ac] w fun v w' => ∃ (y0 : Int), y0 = r /\ v = I y0 /\ St w w' [] R := by
 refine ret_of_W Try.func76 rfl rfl rfl ?_
 refine W.seq ?_
 refine W.region rfl ?_
 refine zA (I 0) rfl ?_
 refine s_nil ?_
 refine W.seq ?_
 refine W.seq ?_
 refine W.region rfl ?_
 refine zM aa rfl ?_
 have aC := (ae).len_le
 refine s_val (x_lenS T57.und rfl ae) ?_
 refine zM (I 0) rfl ?_
 refine s_nil ?_
 refine W.block ?_
 obtain ⟨av, ah, am⟩ := M.e_bind hM
 obtain ⟨aD, ah⟩ := M.e_iter ah
 refine W.loop (fun m σ W => ∃ (s2 : Nat) (ρ : Env), σ = upds ρ [(0, aa), (1, ac), (7, I (s.length : Int)), (8, I (s2 : Int))] /\ M.iterN (zbk s f) m s2 = some av /\ St w W [] R) ?_ ?_
 ·exact ⟨_, 0, _, upds_of _ _ ⟨rfl, rfl, rfl, rfl, trivial⟩, ah, H⟩
 rintro aE σ aF ⟨s2, ρ, rfl, ao, H⟩
 obtain ⟨aw, ax, aG, hM, ai⟩ := M.e_iterN ao
 simp only [zbk] at hM
 clear ao
 refine W.seq ?_
 refine W.region rfl ?_
 refine zC (s2 : Int) (s.length : Int) (decide ((s2 : Int) < (s.length : Int))) rfl rfl rfl ?_
 refine s_nil ?_
 refine W.seq ?_
 refine W.cond (decide ((s2 : Int) < (s.length : Int))) rfl (fun ab => ?_) (fun ab => ?_)
 ·replace hM := M.e_t hM ab
  simp only [qy1, qy2, qy3, qy4, qy5, qy6, ne_eq, qy7] at ab
  refine W.skip ?_
  refine W.seq ?_
  refine W.block ?_
  refine W.seq ?_
  refine W.region rfl ?_
  refine zM (I (s2 : Int)) rfl ?_
  refine zA (I (s2 : Int)) rfl ?_
  refine s_nil ?_
  refine W.seq ?_
  refine W.region rfl ?_
  refine zM ac rfl ?_
  refine zM aa rfl ?_
  refine zM (I (s2 : Int)) rfl ?_
  obtain ⟨ay, hM⟩ := M.e_grd hM
  simp only [Bool.and_eq_true, decide_eq_true_eq] at ay
  refine s_val (x_ix (a := aa) (b := I (s2 : Int)) (v := vat aa 2 (Int.toNat (s2 : Int))) rfl rfl (Sl.ix (α := Dem) T57.und T57.size ae (by omega) (by omega))) ?_
  refine s_val (x_ld (p := vat aa 2 (Int.toNat (s2 : Int))) (v := .agg #[I ((s.getD s2 default).spring), I ((s.getD s2 default).town)]) rfl (ld_ag Ag62 Sz62 (At.mono (Dem_atA ae (i := (s2 : Int)) (by omega) (by omega)) (aq.at H)))) ?_
  obtain ⟨r2, az, hM⟩ := M.e_bind hM
  refine t_callM H au rfl rfl (s.getD s2 default) Reads.none ⟨_, rfl, rfl⟩ az ?_
  intro aH H
  refine s_nil ?_
  refine W.cond r2 rfl (fun aj => ?_) (fun aj => ?_)
  ·replace hM := M.e_t hM aj
   refine W.seq ?_
   refine W.region rfl ?_
   refine zM (I (s2 : Int)) rfl ?_
   refine zA (I (s2 : Int)) rfl ?_
   refine s_nil ?_
   refine W.ret ?_
   have aA := M.e_inr hM ai
   subst aA
   replace hM := am
   try dsimp only at hM
   have ak := M.e_pure hM
   exact ⟨_, resE_tmp rfl, ⟨(s2 : Int), ak, rfl, H⟩⟩
  replace hM := M.e_f hM aj
  refine W.skip ?_
  refine W.region rfl ?_
  refine zR (s2 : Int) 1 ((s2 : Int) + 1) rfl rfl rfl (by omega) ?_
  refine zM (I ((s2 : Int) + 1)) rfl ?_
  refine s_nil ?_
  exact ⟨aw, ax, s2 + 1, _, upds_of _ _ ⟨rfl, rfl, rfl, rfl, trivial⟩, M.e_inl hM ai, H⟩
 replace hM := M.e_f hM ab
 simp only [qy1, qy2, qy3, qy4, qy5, qy6, ne_eq, qy7] at ab
 refine W.exit ?_
 have aB := M.e_inr hM ai
 subst aB
 replace hM := am
 try dsimp only at hM
 refine W.seq ?_
 refine W.region rfl ?_
 refine zA (I (-1)) rfl ?_
 refine s_nil ?_
 refine W.ret ?_
 have ak := M.e_pure hM
 exact ⟨_, resE_tmp rfl, ⟨(-1), ak, rfl, H⟩⟩

def zb3 (s : List Dem) (f : Dem -> M Bool) : M Bool :=
  M.bind (zcC s f) fun r2 =>
  M.pure (decide (0 <= r2))
theorem zde {R : List Chunk} {ac : Cells} {aa : Value} {ab : Value} (s : List Dem) (f : Dem -> M Bool) (ah : Reads R ac) (ai : Sl ac aa s) (aj : FnM Try.prog R ab f) {r : Bool} (hM : (zb3 s f).Ends r) (w : World) (H : St w w [] R) : Ret Try.prog 74 #[aa, ab] w fun v w' => ∃ (y0 : Bool), y0 = r /\ v = B y0 /\ St w w' [] R := by
 refine ret_of_W Try.func74 rfl rfl rfl ?_
 refine W.seq ?_
 refine W.region rfl ?_
 refine zA (B false) rfl ?_
 refine s_nil ?_
 refine W.seq ?_
 refine W.region rfl ?_
 refine zM aa rfl ?_
 refine zM ab rfl ?_
 obtain ⟨ao, ak, hM⟩ := M.e_bind hM
 refine s_call cf76 [aa, ab] rfl (zdz s f (ah.app _) ai (aj.app _) ak _ (H.gt 0)) ?_
 rintro vq aq ⟨r2, al, hvq, ae⟩
 subst al
 subst vq
 try dsimp only at hM
 replace H := H.bk ae
 clear ae
 refine zC r2 0 (decide (0 <= r2)) rfl rfl rfl ?_
 refine zA (B (decide (0 <= r2))) rfl ?_
 refine s_nil ?_
 refine W.ret ?_
 have am := M.e_pure hM
 exact ⟨_, resE_tmp rfl, ⟨(decide (0 <= r2)), am, rfl, H⟩⟩

def zce (x : Dem) (aa : Int) (ab : Int) : M Bool :=
  M.pure (decide (x = (⟨(aa : Int), (ab : Int)⟩ : Dem)))
theorem zdv {R : List Chunk} {ac : Nat} (x : Dem) (aa : Int) (ab : Int) (ae : Has R (cBlk ac [I aa, I ab] 62)) {r : Bool} (hM : (zce x aa ab).Ends r) (w : World) (H : St w w [] R) : Ret Try.prog 75 #[.agg #[I x.spring, I x.town], Pq ac] w fun v w' => ∃ (y0 : Bool), y0 = r /\ v = B y0 /\ St w w' [] R := by
 refine ret_of_W Try.func75 rfl rfl rfl ?_
 refine W.seq ?_
 refine W.region rfl ?_
 refine t_box (v := .agg #[I x.spring, I x.town]) (cs := [I x.spring, I x.town]) H rfl rfl ?_
 intro ah aj H
 refine zA (B false) rfl ?_
 refine s_nil ?_
 refine W.seq ?_
 refine W.region rfl ?_
 refine s_val (x_ld (p := Pq ah) (v := .agg #[I x.spring, I x.town]) rfl (ldb_ag (ds := [I x.spring, I x.town]) Ag62 Sz62 (H.bl 0) rfl rfl)) ?_
 refine s_val (x_ld (p := Pq ac) (v := .agg #[I aa, I ab]) rfl (ldb_ag (ds := [I aa, I ab]) Ag62 Sz62 (ae.blk H) rfl rfl)) ?_
 refine s_val (x_eqS (eqT62 x (⟨(aa : Int), (ab : Int)⟩ : Dem) _) gdT62 rfl rfl) ?_
 refine zA (B (decide (x = (⟨(aa : Int), (ab : Int)⟩ : Dem)))) rfl ?_
 refine s_nil ?_
 refine W.ret ?_
 have ai := M.e_pure hM
 exact ⟨_, resE_tmp rfl, ⟨(decide (x = (⟨(aa : Int), (ab : Int)⟩ : Dem))), ai, rfl, (H.pk [])⟩⟩

def zbI (aa : List Int) (ab : List Span) (ac : List Int) (ae : List Town) (ah : Int) (ai : Int) (aj : List Flood) (d : Dem) : M Bool :=
  M.bind (zah aa ab ac ae ah ai aj) fun r2 =>
  M.bind (zb3 r2 (fun ak => zce ak d.spring d.town)) fun r3 =>
  M.pure r3
theorem zc7 {R : List Chunk} {ab : Nat} {aq : Cells} {au : Value} {av : Cells} {aw : Value} {ax : Cells} {ay : Value} {az : Cells} {aA : Value} {aB : Cells} {aC : Value} {aE : Nat} (ac : List Int) (ae : List Span) (ah : List Int) (ai : List Town) (aj : Int) (ak : Int) (al : List Flood) (d : Dem) (aF : Reads R aq) (aG : Sl aq au ac) (aH : Reads R av) (aI : Sl av aw ae) (aJ : Reads R ax) (aK : Sl ax ay ah) (aL : Reads R az) (aM : Sl az aA ai) (aN : Reads R aB) (aO : Sl aB aC al) (aP : Has R (cBlk ab [au, aw, ay, aA, I aj, I ak, aC, .map (some aE)] 86)) {r : Bool} (hM : (zbI ac ae ah ai aj ak al d).Ends r) (w : World) (H : St w w [] R) : Ret Try.prog 52 #[Pq ab, .agg #[I d.spring, I d.town]] w fun v w' => ∃ (y0 : Bool), y0 = r /\ v = B y0 /\ St w w' [] R := by
 refine ret_of_W Try.func52 rfl rfl rfl ?_
 refine W.seq ?_
 refine W.region rfl ?_
 refine t_box (v := .agg #[I d.spring, I d.town]) (cs := [I d.spring, I d.town]) H rfl rfl ?_
 intro am bc H
 refine zA (B false) rfl ?_
 refine s_nil ?_
 refine W.seq ?_
 refine W.region rfl ?_
 refine zM (Pq ab) rfl ?_
 obtain ⟨bf, aQ, hM⟩ := M.e_bind hM
 refine s_call cf51 [Pq ab] rfl (zbP ac ae ah ai aj ak al (aF.app _) aG (aH.app _) aI (aJ.app _) aK (aL.app _) aM (aN.app _) aO (aP.app _) aQ _ (H.gt 1)) ?_
 rintro vq bg ⟨r2, aR, aS, hvq, aa⟩
 subst aS
 subst vq
 try dsimp only at hM
 replace H := H.bk aa
 clear aa
 refine s_val (x_mf (fs := []) (cs := [Pq am]) rfl rfl) ?_
 obtain ⟨bh, aT, hM⟩ := M.e_bind hM
 refine s_call cf74 [aR, .func (.func 75) #[] #[Pq am]] rfl (zde r2 (fun ao => zce ao d.spring d.town) (rdo 0) (H.os 0) ⟨75, [Pq am], rfl, cf75, fun aD bi bj aU ao bm aV bn aW aX => by obtain rfl := Dem_arg aW; exact (zdv ao d.spring d.town (Has.app (Has.here (k := 1) rfl) _) aX aD (St.refl aV)).mono fun aU aD ⟨bo, aY, aZ, a8⟩ => by subst aY; exact ⟨aZ, a8⟩⟩ aT _ (H.gt 2)) ?_
 rintro vq bp ⟨r3, ba, hvq, aa⟩
 subst ba
 subst vq
 try dsimp only at hM
 replace H := H.bk aa
 clear aa
 refine zA (B r3) rfl ?_
 refine s_nil ?_
 replace H := H.pk []
 refine W.ret ?_
 have bb := M.e_pure hM
 exact ⟨_, resE_tmp rfl, ⟨r3, bb, rfl, H⟩⟩

def zbc (aa : List Int) (ab : List Span) (ac : List Int) (ae : List Town) (ak : Int) (al : Int) (ah : List Flood) (d : Dem) : M ((List Int) × Int) :=
  M.bind (zao aa ab ac ae ak al ah) fun x_ => match x_ with
  | (.inl r1) => (
  bif r1 != 0 then (
  M.pure (([]), r1))
  else (
  M.fail))
  | (.inr (ai, aj, am)) => (
  bif am != 0 then (
  M.fail)
  else (
  M.bind (zbI aa ab ac ae ai aj ah d) fun r2 =>
  bif !r2 then (
  M.pure (([]), 2))
  else (
  M.bind (zaa aa ab ac ae ai aj ah d) fun r3 =>
  M.grd (decide (r3.length * 8 <= 140737488355328)) <|
  M.pure (r3, 0))))
theorem zcm {R : List Chunk} {aL : Cells} {ai : Value} {aM : Cells} {aj : Value} {aN : Cells} {ak : Value} {aO : Cells} {al : Value} {aP : Cells} {am : Value} (ao : List Int) (aq : List Span) (au : List Int) (av : List Town) (ae : Int) (ah : Int) (aw : List Flood) (d : Dem) (aA : Reads R aL) (aB : Sl aL ai ao) (aC : Reads R aM) (aD : Sl aM aj aq) (aE : Reads R aN) (aF : Sl aN ak au) (aG : Reads R aO) (aH : Sl aO al av) (aI : Reads R aP) (aJ : Sl aP am aw) {r : ((List Int) × Int)} (hM : (zbc ao aq au av ae ah aw d).Ends r) (w : World) (H : St w w [] R) : Ret Try.prog 24 #[.agg #[ai, aj, ak, al, I ae, I ah, am], .agg #[I d.spring, I d.town]] w fun v w' => ∃ (y0 : List Int) (y1 : Int) (u0 : Value), (y0, y1) = r /\ v = .tuple #[u0, I y1] /\ St w w' [cOwn (α := Int) 3 u0 y0] R := by
 refine ret_of_W Try.func24 rfl rfl rfl ?_
 refine W.seq ?_
 refine W.region rfl ?_
 refine t_box (v := .agg #[ai, aj, ak, al, I ae, I ah, am]) (cs := [ai, aj, ak, al, I ae, I ah, am]) H rfl rfl ?_
 intro aU bg H
 refine t_box (v := .agg #[I d.spring, I d.town]) (cs := [I d.spring, I d.town]) H rfl rfl ?_
 intro aQ bh H
 refine zA (.slice none 0 0) rfl ?_
 refine zA (I 0) rfl ?_
 refine s_nil ?_
 refine W.seq ?_
 refine W.region rfl ?_
 refine s_val (x_ld (p := Pq aU) (v := .agg #[ai, aj, ak, al, I ae, I ah, am]) rfl (ldb_ag (ds := [ai, aj, ak, al, I ae, I ah, am]) Ag30 Sz30 (H.bl 1) rfl rfl)) ?_
 obtain ⟨bi, aV, hM⟩ := M.e_bind hM
 refine s_call cf44 [.agg #[ai, aj, ak, al, I ae, I ah, am]] rfl (za2 ao aq au av ae ah aw (aA.app _) aB (aC.app _) aD (aE.app _) aF (aG.app _) aH (aI.app _) aJ aV _ (H.gt 2)) ?_
 rintro vq bj (⟨r1, aW, hvq, aa⟩ | ⟨aR, aS, ab, ac, bm, bn, aX, hvq, aa⟩)
 ·subst aW
  subst vq
  try dsimp only at hM
  replace H := H.bk aa
  clear aa
  refine zM (.tuple #[.pointer none, I r1]) rfl ?_
  refine zX [.pointer none, I r1] (.pointer none) rfl rfl ?_
  refine zX [.pointer none, I r1] (I r1) rfl rfl ?_
  refine zA (.pointer none) rfl ?_
  refine zA (I r1) rfl ?_
  refine s_nil ?_
  refine W.seq ?_
  refine W.block ?_
  refine W.seq ?_
  refine W.region rfl ?_
  refine zM (I r1) rfl ?_
  refine zC r1 0 (r1 != 0) rfl rfl rfl ?_
  refine zA (B (r1 != 0)) rfl ?_
  refine s_nil ?_
  refine W.cond (r1 != 0) rfl (fun ay => ?_) (fun ay => ?_)
  ·replace hM := M.e_t hM ay
   simp only [qy1, qy2, qy3, qy4, qy5, qy6, ne_eq, qy7] at ay
   refine W.seq ?_
   refine W.region rfl ?_
   refine zM (I r1) rfl ?_
   refine zA (.slice none 0 0) rfl ?_
   refine zA (I r1) rfl ?_
   refine s_nil ?_
   replace H := H.pk []
   refine W.ret ?_
   have ax := M.e_pure hM
   replace H := H.nilOwn (α := Int) 3
   exact ⟨_, resE_tmp2 rfl, ⟨([]), r1, (.slice none 0 0), ax, rfl, H⟩⟩
  replace hM := M.e_f hM ay
  exact (M.e_fail hM).elim
 subst aX
 subst vq
 try dsimp only at hM
 replace H := H.bk aa
 clear aa
 refine zM (.tuple #[Pq ac, I ab]) rfl ?_
 refine zX [Pq ac, I ab] (Pq ac) rfl rfl ?_
 refine zX [Pq ac, I ab] (I ab) rfl rfl ?_
 refine zA (Pq ac) rfl ?_
 refine zA (I ab) rfl ?_
 refine s_nil ?_
 refine W.seq ?_
 refine W.block ?_
 refine W.seq ?_
 refine W.region rfl ?_
 refine zM (I ab) rfl ?_
 refine zC ab 0 (ab != 0) rfl rfl rfl ?_
 refine zA (B (ab != 0)) rfl ?_
 refine s_nil ?_
 refine W.cond (ab != 0) rfl (fun az => ?_) (fun az => ?_)
 ·replace hM := M.e_t hM az
  exact (M.e_fail hM).elim
 replace hM := M.e_f hM az
 simp only [qy1, qy2, qy3, qy4, qy5, qy6, ne_eq, qy7] at az
 refine W.seq ?_
 refine W.region rfl ?_
 refine zM (Pq ac) rfl ?_
 refine s_val (x_ld (p := Pq aQ) (v := .agg #[I d.spring, I d.town]) rfl (ldb_ag (ds := [I d.spring, I d.town]) Ag62 Sz62 (H.bl 2) rfl rfl)) ?_
 obtain ⟨bo, aY, hM⟩ := M.e_bind hM
 refine s_call cf52 [Pq ac, .agg #[I d.spring, I d.town]] rfl (zc7 ao aq au av aR aS aw d (aA.app _) aB (aC.app _) aD (aE.app _) aF (aG.app _) aH (aI.app _) aJ (Has.here (k := 0) rfl) aY _ (H.gt 4)) ?_
 rintro vq bp ⟨r2, aZ, hvq, aa⟩
 subst aZ
 subst vq
 try dsimp only at hM
 replace H := H.bk aa
 clear aa
 refine s_val (x_not (b := r2) rfl) ?_
 refine zA (B (!r2)) rfl ?_
 refine s_nil ?_
 refine W.cond (!r2) rfl (fun aK => ?_) (fun aK => ?_)
 ·replace hM := M.e_t hM aK
  refine W.seq ?_
  refine W.region rfl ?_
  refine zA (.slice none 0 0) rfl ?_
  refine zA (I 2) rfl ?_
  refine s_nil ?_
  replace H := H.pk []
  refine W.ret ?_
  have ax := M.e_pure hM
  replace H := H.nilOwn (α := Int) 3
  exact ⟨_, resE_tmp2 rfl, ⟨([]), 2, (.slice none 0 0), ax, rfl, H⟩⟩
 replace hM := M.e_f hM aK
 refine W.skip ?_
 refine W.seq ?_
 refine W.region rfl ?_
 refine zM (Pq ac) rfl ?_
 refine s_val (x_ld (p := Pq aQ) (v := .agg #[I d.spring, I d.town]) rfl (ldb_ag (ds := [I d.spring, I d.town]) Ag62 Sz62 (H.bl 2) rfl rfl)) ?_
 obtain ⟨bq, a8, hM⟩ := M.e_bind hM
 refine s_call cf54 [Pq ac, .agg #[I d.spring, I d.town]] rfl (zbG ao aq au av aR aS aw d (aA.app _) aB (aC.app _) aD (aE.app _) aF (aG.app _) aH (aI.app _) aJ (Has.here (k := 0) rfl) a8 _ ((H.pk [1, 0, 2, 3]).gt 3)) ?_
 rintro vq br ⟨r3, ba, bt, bb, hvq, aa, bc⟩
 subst bb
 subst vq
 try dsimp only at hM
 replace H := H.pk [1, 0, 2, 3] |>.bk aa
 clear aa
 obtain ⟨bf, hM⟩ := M.e_grd hM
 simp only [Bool.and_eq_true, decide_eq_true_eq] at bf
 refine s_call cf53 [ba] rfl (clone_any r3 (Reads.of (k := 0) rfl memLe) bc (by omega) _ H.sep) ?_
 rintro aT bu aa
 replace H := H.bk aa
 clear aa
 refine zA aT rfl ?_
 refine zA (I 0) rfl ?_
 refine s_nil ?_
 replace H := H.pk [0]
 refine W.ret ?_
 have ax := M.e_pure hM
 exact ⟨_, resE_tmp2 rfl, ⟨r3, 0, aT, ax, rfl, H⟩⟩

def zcr (d : Dem) (aa : List Int) (ab : List Span) (ac : List Int) (ae : List Town) (ah : Int) (ai : Int) (aj : List Flood) : M Bool :=
  M.bind (zaa aa ab ac ae ah ai aj d) fun r2 =>
  M.pure (decide (0 < (r2.length : Int)))
theorem zdx {R : List Chunk} {al : Nat} {ak : Nat} {ao : Cells} {aq : Value} {au : Cells} {av : Value} {aw : Cells} {ax : Value} {ay : Cells} {az : Value} {aA : Cells} {aB : Value} {am : Nat} {B_b_k0207 : Base} (d : Dem) (aa : List Int) (ab : List Span) (ac : List Int) (ae : List Town) (ah : Int) (ai : Int) (aj : List Flood) (aE : Reads R ao) (aF : Sl ao aq aa) (aG : Reads R au) (aH : Sl au av ab) (aI : Reads R aw) (aJ : Sl aw ax ac) (aK : Reads R ay) (aL : Sl ay az ae) (aM : Reads R aA) (aN : Sl aA aB aj) (aO : Has R (cBlk ak [aq, av, ax, az, I ah, I ai, aB, .map (some am)] 86)) (aP : Has R (cBlk al [.func (.func 54) #[Pq ak] #[]] 106)) {r : Bool} (hM : (zcr d aa ab ac ae ah ai aj).Ends r) (w : World) (H : St w w [cMem encDm am B_b_k0207 (zaa aa ab ac ae ah ai aj)] R) : Ret Try.prog 68 #[.agg #[I d.spring, I d.town], Pq al] w fun v w' => ∃ (y0 : Bool) (aQ : Base), y0 = r /\ v = B y0 /\ St w w' [cMem encDm am aQ (zaa aa ab ac ae ah ai aj)] R := by
 refine ret_of_W Try.func68 rfl rfl rfl ?_
 refine W.seq ?_
 refine W.region rfl ?_
 refine t_box (v := .agg #[I d.spring, I d.town]) (cs := [I d.spring, I d.town]) H rfl rfl ?_
 intro aR aW H
 refine zA (B false) rfl ?_
 refine s_nil ?_
 refine W.seq ?_
 refine W.region rfl ?_
 refine s_val (x_ld (p := Pq al) (v := .func (.func 54) #[Pq ak] #[]) rfl (ldb_sc Sc106 (aP.blk H) rfl)) ?_
 refine s_val (x_ld (p := Pq aR) (v := .agg #[I d.spring, I d.town]) rfl (ldb_ag (ds := [I d.spring, I d.town]) Ag62 Sz62 (H.bl 0) rfl rfl)) ?_
 obtain ⟨aX, aS, hM⟩ := M.e_bind hM
 refine s_callm (f := 54) (fs := [Pq ak]) rfl cf54 [.agg #[I d.spring, I d.town]] rfl (zbG aa ab ac ae ah ai aj d (aE.app _) aF (aG.app _) aH (aI.app _) aJ (aK.app _) aL (aM.app _) aN (aO.app _) aS _ ((H.pk [1, 0]).gt 1)) ?_
 rintro vq aY ⟨r2, aZ, aT, aU, hvq, aC, aD⟩
 subst aU
 subst vq
 try dsimp only at hM
 replace H := H.pk [1, 0] |>.bk aC
 clear aC
 have a8 := (aD).len_le
 refine s_val (x_lenS T23.und rfl aD) ?_
 refine zC (r2.length : Int) 0 (decide (0 < (r2.length : Int))) rfl rfl rfl ?_
 refine zA (B (decide (0 < (r2.length : Int)))) rfl ?_
 refine s_nil ?_
 refine W.ret ?_
 have aV := M.e_pure hM
 exact ⟨_, resE_tmp rfl, ⟨(decide (0 < (r2.length : Int))), aT, aV, rfl, (H.pk [0])⟩⟩

def zcw (x : Dem) (aa : List Int) (ab : List Span) (ac : List Int) (ae : List Town) (ah : Int) (ai : Int) (aj : List Flood) : M Bool :=
  M.bind (zcr x aa ab ac ae ah ai aj) fun r2 =>
  M.pure (!r2)
theorem zda {R : List Chunk} {ak : Nat} {al : Nat} {ao : Nat} {aq : Cells} {au : Value} {av : Cells} {aw : Value} {ax : Cells} {ay : Value} {az : Cells} {aA : Value} {aB : Cells} {aC : Value} {am : Nat} {B_b_k020207 : Base} (x : Dem) (aa : List Int) (ab : List Span) (ac : List Int) (ae : List Town) (ah : Int) (ai : Int) (aj : List Flood) (aE : Reads R aq) (aF : Sl aq au aa) (aG : Reads R av) (aH : Sl av aw ab) (aI : Reads R ax) (aJ : Sl ax ay ac) (aK : Reads R az) (aL : Sl az aA ae) (aM : Reads R aB) (aN : Sl aB aC aj) (aO : Has R (cBlk ao [au, aw, ay, aA, I ah, I ai, aC, .map (some am)] 86)) (aP : Has R (cBlk al [.func (.func 54) #[Pq ao] #[]] 106)) (aQ : Has R (cBlk ak [.func (.func 68) #[] #[Pq al]] 105)) {r : Bool} (hM : (zcw x aa ab ac ae ah ai aj).Ends r) (w : World) (H : St w w [cMem encDm am B_b_k020207 (zaa aa ab ac ae ah ai aj)] R) : Ret Try.prog 78 #[.agg #[I x.spring, I x.town], Pq ak] w fun v w' => ∃ (y0 : Bool) (aR : Base), y0 = r /\ v = B y0 /\ St w w' [cMem encDm am aR (zaa aa ab ac ae ah ai aj)] R := by
 refine ret_of_W Try.func78 rfl rfl rfl ?_
 refine W.seq ?_
 refine W.region rfl ?_
 refine t_box (v := .agg #[I x.spring, I x.town]) (cs := [I x.spring, I x.town]) H rfl rfl ?_
 intro aS aX H
 refine zA (B false) rfl ?_
 refine s_nil ?_
 refine W.seq ?_
 refine W.region rfl ?_
 refine s_val (x_ld (p := Pq ak) (v := .func (.func 68) #[] #[Pq al]) rfl (ldb_sc Sc105 (aQ.blk H) rfl)) ?_
 refine s_val (x_ld (p := Pq aS) (v := .agg #[I x.spring, I x.town]) rfl (ldb_ag (ds := [I x.spring, I x.town]) Ag62 Sz62 (H.bl 0) rfl rfl)) ?_
 obtain ⟨aY, aT, hM⟩ := M.e_bind hM
 refine s_callv (f := 68) rfl cf68 [.agg #[I x.spring, I x.town]] rfl (zdx x aa ab ac ae ah ai aj (aE.app _) aF (aG.app _) aH (aI.app _) aJ (aK.app _) aL (aM.app _) aN (aO.app _) (aP.app _) aT _ ((H.pk [1, 0]).gt 1)) ?_
 rintro vq aZ ⟨r2, aU, aV, hvq, aD⟩
 subst aV
 subst vq
 try dsimp only at hM
 replace H := H.pk [1, 0] |>.bk aD
 clear aD
 refine s_val (x_not (b := r2) rfl) ?_
 refine zA (B (!r2)) rfl ?_
 refine s_nil ?_
 refine W.ret ?_
 have aW := M.e_pure hM
 exact ⟨_, resE_tmp rfl, ⟨(!r2), aU, aW, rfl, (H.pk [0])⟩⟩

def zbB (s : List Dem) (aa : List Int) (ab : List Span) (ac : List Int) (ae : List Town) (ah : Int) (ai : Int) (aj : List Flood) : Nat -> M (Nat ⊕ (Int ⊕ Unit)) := fun s2 =>
  bif decide ((s2 : Int) < (s.length : Int)) then (
  M.grd (decide ((s2 : Int) < (s.length : Int))) <|
  M.bind (zcw (s.getD s2 default) aa ab ac ae ah ai aj) fun r2 =>
  bif r2 then (
  M.pure (.inr (.inl (s2 : Int))))
  else (
  M.pure (.inl (s2 + 1))))
  else (
  M.pure (.inr (.inr ())))
def zcH (s : List Dem) (aa : List Int) (ab : List Span) (ac : List Int) (ae : List Town) (ah : Int) (ai : Int) (aj : List Flood) : M Int :=
  M.bind (M.iter (zbB s aa ab ac ae ah ai aj) 0) fun x_ => match x_ with
  | (.inl s3) => (
  M.pure s3)
  | (.inr (_ : Unit)) => (
  M.pure (-1))
theorem zdo {R : List Chunk} {ay : Cells} {aa : Value} {am : Nat} {az : Nat} {aA : Nat} {aB : Cells} {aC : Value} {aD : Cells} {aE : Value} {aF : Cells} {aG : Value} {aH : Cells} {aI : Value} {aJ : Cells} {aK : Value} {ao : Nat} {B_b_f2020207 : Base} (s : List Dem) (ab : List Int) (ac : List Span) (ae : List Int) (ah : List Town) (ai : Int) (aj : Int) (ak : List Flood) (aP : Reads R ay) (aq : Sl ay aa s) (aQ : Reads R aB) (aR : Sl aB aC ab) (aS : Reads R aD) (aT : Sl aD aE ac) (aU : Reads R aF) (aV : Sl aF aG ae) (aW : Reads R aH) (aX : Sl aH aI ah) (aY : Reads R aJ) (aZ : Sl aJ aK ak) (a8 : Has R (cBlk aA [aC, aE, aG, aI, I ai, I aj, aK, .map (some ao)] 86)) (ba : Has R (cBlk az [.func (.func 54) #[Pq aA] #[]] 106)) (bb : Has R (cBlk am [.func (.func 68) #[] #[Pq az]] 105)) {r : Int} (hM : (zcH s ab ac ae ah ai aj ak).Ends r) (w : World) (H : St w w [cMem encDm ao B_b_f2020207 (zaa ab ac ae ah ai aj ak)] R) : Ret Try.prog 76 #[aa, .func (.func 78) #[] #[Pq am]] w fun v w' => ∃ (y0 : Int) (bc : Base), y0 = r /\ v = I y0 /\ St w w' [cMem encDm ao bc (zaa ab ac ae ah ai aj ak)] R := by
 refine ret_of_W Try.func76 rfl rfl rfl ?_
 refine W.seq ?_
 refine W.region rfl ?_
 refine zA (I 0) rfl ?_
 refine s_nil ?_
 refine W.seq ?_
 refine W.seq ?_
 refine W.region rfl ?_
 refine zM aa rfl ?_
 have bp := (aq).len_le
 refine s_val (x_lenS T57.und rfl aq) ?_
 refine zM (I 0) rfl ?_
 refine s_nil ?_
 refine W.block ?_
 obtain ⟨bf, au, aL⟩ := M.e_bind hM
 obtain ⟨bq, au⟩ := M.e_iter au
 refine W.loop (fun m σ W => ∃ (s2 : Nat) (B_mem : Base) (ρ : Env), σ = upds ρ [(0, aa), (1, .func (.func 78) #[] #[Pq am]), (7, I (s.length : Int)), (8, I (s2 : Int))] /\ M.iterN (zbB s ab ac ae ah ai aj ak) m s2 = some bf /\ St w W [cMem encDm ao B_mem (zaa ab ac ae ah ai aj ak)] R) ?_ ?_
 ·exact ⟨_, 0, B_b_f2020207, _, upds_of _ _ ⟨rfl, rfl, rfl, rfl, trivial⟩, au, H⟩
 rintro br σ bt ⟨s2, B_mem, ρ, rfl, aM, H⟩
 obtain ⟨bg, bh, bu, hM, av⟩ := M.e_iterN aM
 simp only [zbB] at hM
 clear aM
 refine W.seq ?_
 refine W.region rfl ?_
 refine zC (s2 : Int) (s.length : Int) (decide ((s2 : Int) < (s.length : Int))) rfl rfl rfl ?_
 refine s_nil ?_
 refine W.seq ?_
 refine W.cond (decide ((s2 : Int) < (s.length : Int))) rfl (fun al => ?_) (fun al => ?_)
 ·replace hM := M.e_t hM al
  simp only [qy1, qy2, qy3, qy4, qy5, qy6, ne_eq, qy7] at al
  refine W.skip ?_
  refine W.seq ?_
  refine W.block ?_
  refine W.seq ?_
  refine W.region rfl ?_
  refine zM (I (s2 : Int)) rfl ?_
  refine zA (I (s2 : Int)) rfl ?_
  refine s_nil ?_
  refine W.seq ?_
  refine W.region rfl ?_
  refine zM (.func (.func 78) #[] #[Pq am]) rfl ?_
  refine zM aa rfl ?_
  refine zM (I (s2 : Int)) rfl ?_
  obtain ⟨bi, hM⟩ := M.e_grd hM
  simp only [Bool.and_eq_true, decide_eq_true_eq] at bi
  refine s_val (x_ix (a := aa) (b := I (s2 : Int)) (v := vat aa 2 (Int.toNat (s2 : Int))) rfl rfl (Sl.ix (α := Dem) T57.und T57.size aq (by omega) (by omega))) ?_
  refine s_val (x_ld (p := vat aa 2 (Int.toNat (s2 : Int))) (v := .agg #[I ((s.getD s2 default).spring), I ((s.getD s2 default).town)]) rfl (ld_ag Ag62 Sz62 (At.mono (Dem_atA aq (i := (s2 : Int)) (by omega) (by omega)) (aP.at H)))) ?_
  obtain ⟨bv, bj, hM⟩ := M.e_bind hM
  refine s_callv (f := 78) rfl cf78 [.agg #[I ((s.getD s2 default).spring), I ((s.getD s2 default).town)]] rfl (zda (s.getD s2 default) ab ac ae ah ai aj ak (aQ.app _) aR (aS.app _) aT (aU.app _) aV (aW.app _) aX (aY.app _) aZ (a8.app _) (ba.app _) (bb.app _) bj _ (H.gt 0)) ?_
  rintro vq bw ⟨r2, aN, bm, hvq, aO⟩
  subst bm
  subst vq
  try dsimp only at hM
  replace H := H.bk aO
  clear aO
  refine s_nil ?_
  refine W.cond r2 rfl (fun aw => ?_) (fun aw => ?_)
  ·replace hM := M.e_t hM aw
   refine W.seq ?_
   refine W.region rfl ?_
   refine zM (I (s2 : Int)) rfl ?_
   refine zA (I (s2 : Int)) rfl ?_
   refine s_nil ?_
   refine W.ret ?_
   have bn := M.e_inr hM av
   subst bn
   replace hM := aL
   try dsimp only at hM
   have ax := M.e_pure hM
   exact ⟨_, resE_tmp rfl, ⟨(s2 : Int), aN, ax, rfl, H⟩⟩
  replace hM := M.e_f hM aw
  refine W.skip ?_
  refine W.region rfl ?_
  refine zR (s2 : Int) 1 ((s2 : Int) + 1) rfl rfl rfl (by omega) ?_
  refine zM (I ((s2 : Int) + 1)) rfl ?_
  refine s_nil ?_
  exact ⟨bg, bh, s2 + 1, aN, _, upds_of _ _ ⟨rfl, rfl, rfl, rfl, trivial⟩, M.e_inl hM av, H⟩
 replace hM := M.e_f hM al
 simp only [qy1, qy2, qy3, qy4, qy5, qy6, ne_eq, qy7] at al
 refine W.exit ?_
 have bo := M.e_inr hM av
 subst bo
 replace hM := aL
 try dsimp only at hM
 refine W.seq ?_
 refine W.region rfl ?_
 refine zA (I (-1)) rfl ?_
 refine s_nil ?_
 refine W.ret ?_
 have ax := M.e_pure hM
 exact ⟨_, resE_tmp rfl, ⟨(-1), B_mem, ax, rfl, H⟩⟩

def zcI (s : List Dem) (aa : List Int) (ab : List Span) (ac : List Int) (ae : List Town) (ah : Int) (ai : Int) (aj : List Flood) : M Bool :=
  M.bind (zcH s aa ab ac ae ah ai aj) fun r2 =>
  M.pure (decide (0 <= r2))
theorem zdl {R : List Chunk} {ao : Cells} {ak : Value} {al : Nat} {aq : Nat} {au : Nat} {av : Cells} {aw : Value} {ax : Cells} {ay : Value} {az : Cells} {aA : Value} {aB : Cells} {aC : Value} {aD : Cells} {aE : Value} {am : Nat} {B_b_f2020207 : Base} (s : List Dem) (aa : List Int) (ab : List Span) (ac : List Int) (ae : List Town) (ah : Int) (ai : Int) (aj : List Flood) (aG : Reads R ao) (aH : Sl ao ak s) (aI : Reads R av) (aJ : Sl av aw aa) (aK : Reads R ax) (aL : Sl ax ay ab) (aM : Reads R az) (aN : Sl az aA ac) (aO : Reads R aB) (aP : Sl aB aC ae) (aQ : Reads R aD) (aR : Sl aD aE aj) (aS : Has R (cBlk au [aw, ay, aA, aC, I ah, I ai, aE, .map (some am)] 86)) (aT : Has R (cBlk aq [.func (.func 54) #[Pq au] #[]] 106)) (aU : Has R (cBlk al [.func (.func 68) #[] #[Pq aq]] 105)) {r : Bool} (hM : (zcI s aa ab ac ae ah ai aj).Ends r) (w : World) (H : St w w [cMem encDm am B_b_f2020207 (zaa aa ab ac ae ah ai aj)] R) : Ret Try.prog 74 #[ak, .func (.func 78) #[] #[Pq al]] w fun v w' => ∃ (y0 : Bool) (aV : Base), y0 = r /\ v = B y0 /\ St w w' [cMem encDm am aV (zaa aa ab ac ae ah ai aj)] R := by
 refine ret_of_W Try.func74 rfl rfl rfl ?_
 refine W.seq ?_
 refine W.region rfl ?_
 refine zA (B false) rfl ?_
 refine s_nil ?_
 refine W.seq ?_
 refine W.region rfl ?_
 refine zM ak rfl ?_
 refine zM (.func (.func 78) #[] #[Pq al]) rfl ?_
 obtain ⟨a8, aW, hM⟩ := M.e_bind hM
 refine s_call cf76 [ak, .func (.func 78) #[] #[Pq al]] rfl (zdo s aa ab ac ae ah ai aj (aG.app _) aH (aI.app _) aJ (aK.app _) aL (aM.app _) aN (aO.app _) aP (aQ.app _) aR (aS.app _) (aT.app _) (aU.app _) aW _ (H.gt 0)) ?_
 rintro vq ba ⟨r2, aX, aY, hvq, aF⟩
 subst aY
 subst vq
 try dsimp only at hM
 replace H := H.bk aF
 clear aF
 refine zC r2 0 (decide (0 <= r2)) rfl rfl rfl ?_
 refine zA (B (decide (0 <= r2))) rfl ?_
 refine s_nil ?_
 refine W.ret ?_
 have aZ := M.e_pure hM
 exact ⟨_, resE_tmp rfl, ⟨(decide (0 <= r2)), aX, aZ, rfl, H⟩⟩

def zch (l : List Dem) (aa : List Int) (ab : List Span) (ac : List Int) (ae : List Town) (ah : Int) (ai : Int) (aj : List Flood) : M Bool :=
  M.bind (zcI l aa ab ac ae ah ai aj) fun r2 =>
  M.pure (!r2)
theorem zc8 {R : List Chunk} {ao : Cells} {ak : Value} {al : Nat} {aq : Nat} {au : Cells} {av : Value} {aw : Cells} {ax : Value} {ay : Cells} {az : Value} {aA : Cells} {aB : Value} {aC : Cells} {aD : Value} {am : Nat} {B_b_so20207 : Base} (l : List Dem) (aa : List Int) (ab : List Span) (ac : List Int) (ae : List Town) (ah : Int) (ai : Int) (aj : List Flood) (aG : Reads R ao) (aH : Sl ao ak l) (aI : Reads R au) (aJ : Sl au av aa) (aK : Reads R aw) (aL : Sl aw ax ab) (aM : Reads R ay) (aN : Sl ay az ac) (aO : Reads R aA) (aP : Sl aA aB ae) (aQ : Reads R aC) (aR : Sl aC aD aj) (aS : Has R (cBlk aq [av, ax, az, aB, I ah, I ai, aD, .map (some am)] 86)) (aT : Has R (cBlk al [.func (.func 54) #[Pq aq] #[]] 106)) {r : Bool} (hM : (zch l aa ab ac ae ah ai aj).Ends r) (w : World) (H : St w w [cMem encDm am B_b_so20207 (zaa aa ab ac ae ah ai aj)] R) : Ret Try.prog 60 #[ak, .func (.func 68) #[] #[Pq al]] w fun v w' => ∃ (y0 : Bool) (aU : Base), y0 = r /\ v = B y0 /\ St w w' [cMem encDm am aU (zaa aa ab ac ae ah ai aj)] R := by
 refine ret_of_W Try.func60 rfl rfl rfl ?_
 refine W.seq ?_
 refine W.region rfl ?_
 refine t_box (v := .func (.func 68) #[] #[Pq al]) (cs := [.func (.func 68) #[] #[Pq al]]) H rfl rfl ?_
 intro aE aZ H
 refine zA (B false) rfl ?_
 refine s_nil ?_
 refine W.seq ?_
 refine W.region rfl ?_
 refine zM ak rfl ?_
 refine s_val (x_mf (fs := []) (cs := [Pq aE]) rfl rfl) ?_
 obtain ⟨a8, aV, hM⟩ := M.e_bind hM
 refine s_call cf74 [ak, .func (.func 78) #[] #[Pq aE]] rfl (zdl l aa ab ac ae ah ai aj (aG.app _) aH (aI.app _) aJ (aK.app _) aL (aM.app _) aN (aO.app _) aP (aQ.app _) aR (aS.app _) (aT.app _) (Has.here (k := 0) rfl) aV _ ((H.pk [1, 0]).gt 1)) ?_
 rintro vq ba ⟨r2, aW, aX, hvq, aF⟩
 subst aX
 subst vq
 try dsimp only at hM
 replace H := H.pk [1, 0] |>.bk aF
 clear aF
 refine s_val (x_not (b := r2) rfl) ?_
 refine zA (B (!r2)) rfl ?_
 refine s_nil ?_
 refine W.ret ?_
 have aY := M.e_pure hM
 exact ⟨_, resE_tmp rfl, ⟨(!r2), aW, aY, rfl, (H.pk [0])⟩⟩

def zav : Int -> (Int × Int) -> M (Int ⊕ Unit) := fun s (x, x2) =>
  M.grd (decide ((-9223372036854775808 : Int) <= (s + 1)) && decide ((s + 1) <= (9223372036854775807 : Int))) <|
  M.pure (.inl (s + 1))
def zaS (d : Dem) (ai : List Int) (aj : List Span) (ak : List Int) (al : List Town) (am : Int) (ao : Int) (aq : List Flood) (aa : List Int) (ab : List Span) (ac : List Int) (ae : List Town) (au : Int) (av : Int) (ah : List Flood) : M Int :=
  M.bind (zaa ai aj ak al am ao aq d) fun r2 =>
  M.grd (decide ((0 : Int) <= ((r2.length : Int) - 1)) && decide (((r2.length : Int) - 1) < (r2.length : Int))) <|
  M.bind (zai aa ab ac ae au av ah (r2.getD (Int.toNat ((r2.length : Int) - 1)) 0)) fun (aw, ax, ay) =>
  M.bind (zaj (M.yl zav) (.inl 0) aw aa ab ac ae ax ay ah) fun x_ => match x_ with
  | (.inl s, q0) => (
  M.pure s)
  | (.inr _, _) => M.fail
theorem zcP {R : List Chunk} {aX : Nat} {aI : Nat} {bu : Cells} {bv : Value} {bw : Cells} {bx : Value} {bz : Cells} {bA : Value} {bB : Cells} {bC : Value} {bD : Cells} {bE : Value} {al : Nat} {B_b_k0207 : Base} {aY : Nat} {ay : Nat} {bF : Cells} {am : Value} {bG : Cells} {ao : Value} {bH : Cells} {aq : Value} {bI : Cells} {au : Value} {bJ : Cells} {av : Value} {bR : Nat} (d : Dem) (ab : List Int) (ac : List Span) (ae : List Int) (ah : List Town) (ai : Int) (aj : Int) (ak : List Flood) (aJ : List Int) (aK : List Span) (aL : List Int) (aM : List Town) (aB : Int) (aC : Int) (aN : List Flood) (aZ : Reads R bu) (bK : Sl bu bv ab) (a8 : Reads R bw) (bL : Sl bw bx ac) (ba : Reads R bz) (bM : Sl bz bA ae) (bb : Reads R bB) (bN : Sl bB bC ah) (bc : Reads R bD) (bO : Sl bD bE ak) (bf : Has R (cBlk aI [bv, bx, bA, bC, I ai, I aj, bE, .map (some al)] 86)) (bg : Has R (cBlk aX [.func (.func 54) #[Pq aI] #[]] 106)) (aO : Reads R bF) (bh : Sl bF am aJ) (aP : Reads R bG) (bi : Sl bG ao aK) (aQ : Reads R bH) (bj : Sl bH aq aL) (aR : Reads R bI) (bm : Sl bI au aM) (aS : Reads R bJ) (bn : Sl bJ av aN) (bo : Has R (cBlk ay [am, ao, aq, au, I aB, I aC, av, .map (some bR)] 86)) (bp : Has R (cBlk aY [Pq ay] 72)) {r : Int} (hM : (zaS d ab ac ae ah ai aj ak aJ aK aL aM aB aC aN).Ends r) (w : World) (H : St w w [cMem encDm al B_b_k0207 (zaa ab ac ae ah ai aj ak)] R) : Ret Try.prog 69 #[.agg #[I d.spring, I d.town], Pq aX, Pq aY] w fun v w' => ∃ (y0 : Int) (bS : Base), y0 = r /\ v = I y0 /\ St w w' [cMem encDm al bS (zaa ab ac ae ah ai aj ak)] R := by
 refine ret_of_WD Try.func69 rfl rfl rfl ?_
 replace H : St w w [cMk ([]), cMem encDm al B_b_k0207 (zaa ab ac ae ah ai aj ak)] R := H.mk0
 have cb := bK.len_le
 have cc := bL.len_le
 have cd := bM.len_le
 have ce := bN.len_le
 have cf := bO.len_le
 have cg := bh.len_le
 have ch := bi.len_le
 have ck := bj.len_le
 have cl := bm.len_le
 have cm := bn.len_le
 unfold zaS at hM
 refine WD.seq ?_
 refine WD.of ?_
 refine W.region rfl ?_
 refine t_box (v := .agg #[I d.spring, I d.town]) (cs := [I d.spring, I d.town]) H rfl rfl ?_
 intro az cn H
 refine zA (I 0) rfl ?_
 refine s_nil ?_
 refine WD.seq ?_
 refine WD.of ?_
 refine W.region rfl ?_
 refine s_val (x_ld (p := Pq aX) (v := .func (.func 54) #[Pq aI] #[]) rfl (ldb_sc Sc106 (bg.blk H) rfl)) ?_
 refine s_val (x_ld (p := Pq az) (v := .agg #[I d.spring, I d.town]) rfl (ldb_ag (ds := [I d.spring, I d.town]) Ag62 Sz62 (H.bl 0) rfl rfl)) ?_
 obtain ⟨co, bT, hM⟩ := M.e_bind hM
 refine s_callm (f := 54) (fs := [Pq aI]) rfl cf54 [.agg #[I d.spring, I d.town]] rfl (zbG ab ac ae ah ai aj ak d (aZ.app _) bK (a8.app _) bL (ba.app _) bM (bb.app _) bN (bc.app _) bO (bf.app _) bT _ ((H.pk [2, 0, 1]).gt 2)) ?_
 rintro vq cp ⟨r2, aD, aA, bU, hvq, ax, aT⟩
 subst bU
 subst vq
 try dsimp only at hM
 replace H := H.pk [2, 0, 1] |>.bk ax
 clear ax
 refine zA aD rfl ?_
 refine s_nil ?_
 refine WD.seq ?_
 refine WD.of ?_
 refine W.region rfl ?_
 refine t_alloc (cs := [I 0]) H Al3 rfl ?_
 intro aw cq H
 refine t_sw 0 0 [I 0] (I 0) H rfl rfl Sz3 rfl rfl rfl rfl ?_
 intro ct H
 refine s_nil ?_
 refine WD.seq ?_
 refine WD.seq ?_
 refine WD.of ?_
 refine W.draw (fun W => St w W [cBlk aw [I 0] 3, cMem encDm al aA (zaa ab ac ae ah ai aj ak), cBlk az [I d.spring, I d.town] 62, cMk ([])] R) [(0, true), (1, true), (2, true), (3, true), (4, true), (5, true), (6, true), (7, true), (8, true), (9, true), (10, false)] mixed (by decide +kernel) rfl ?_
 intro cu bP
 replace H := H.ext bP
 clear bP
 refine ⟨(H.pk [0, 1, 2, 3]), ?_⟩
 refine d_q rfl (fun w' H => x_ld (p := Pq aY) (v := Pq ay) rfl (ldb_sc Sc72 (bp.blk H) rfl)) ?_
 refine d_q rfl (fun w' H => x_nc (a := ⟨ay, 0, none⟩) rfl) ?_
 refine d_q rfl (fun w' H => x_fa (a := Pq ay) (v := Pq ay) rfl (fa_blk (o := 0) Fd86_0 Sz30)) ?_
 refine d_q rfl (fun w' H => x_ld (p := Pq ay) (v := .agg #[am, ao, aq, au, I aB, I aC, av]) rfl (ldb_ag (ds := [am, ao, aq, au, I aB, I aC, av]) Ag30 Sz30 (bo.blk H) rfl rfl)) ?_
 refine d_q rfl (fun w' H => x_mv (v := aD) rfl) ?_
 refine d_q rfl (fun w' H => x_mv (v := aD) rfl) ?_
 have cw := (aT).len_le
 refine d_q rfl (fun w' H => x_lenS T23.und rfl aT) ?_
 refine d_q rfl (fun w' H => x_ari (a := (r2.length : Int)) (b := 1) (r := (r2.length : Int) - 1) rfl rfl rfl (by omega)) ?_
 obtain ⟨bV, hM⟩ := M.e_grd hM
 simp only [Bool.and_eq_true, decide_eq_true_eq] at bV
 refine d_q rfl (fun w' H => x_ix (a := aD) (b := I ((r2.length : Int) - 1)) (v := vat aD 1 (Int.toNat ((r2.length : Int) - 1))) rfl rfl (Sl.ix (α := Int) T23.und T23.size aT (by omega) (by omega))) ?_
 refine d_q rfl (fun w' H => x_ld (p := vat aD 1 (Int.toNat ((r2.length : Int) - 1))) (v := I (r2.getD (Int.toNat ((r2.length : Int) - 1)) 0)) rfl (ld_sc Sc3 (At.mono (Int_at aT (i := (r2.length : Int) - 1) (by omega) (by omega)) (memLe _ (H.get (k := 1) rfl))))) ?_
 refine d_l rfl ?_
 obtain ⟨cx, bW, hM⟩ := M.e_bind hM
 refine s_call cf46 [.agg #[am, ao, aq, au, I aB, I aC, av], I (r2.getD (Int.toNat ((r2.length : Int) - 1)) 0)] rfl (za8 aJ aK aL aM aB aC aN (r2.getD (Int.toNat ((r2.length : Int) - 1)) 0) (aO.app _) bh (aP.app _) bi (aQ.app _) bj (aR.app _) bm (aS.app _) bn bW _ (H.gt 4)) ?_
 rintro vq cy ⟨aU, aE, aF, aH, aG, bX, hvq, ax⟩
 subst bX
 subst vq
 try dsimp only at hM
 replace H := H.bk ax
 clear ax
 refine s_nil ⟨(H.pk [2, 3, 4, 5]), ?_⟩
 refine d_nil ?_
 refine WD.block ?_
 obtain ⟨cz, bY, hM⟩ := M.e_bind hM
 refine WD.range (L := [cBlk aw [I 0] 3, cBlk aG [am, ao, aq, au, I aE, I aF, av] 30, cMem encDm al aA (zaa ab ac ae ah ai aj ak), cBlk az [I d.spring, I d.town] 62, cBlk aH [I aU] 3]) [Pq aH, Pq aG] (H.pk [5, 2, 1, 3, 4, 0]) rfl cf67 ?_
 intro aV bq br bZ bt H
 have hYC : YieldC Try.prog ([cMk (bq :: ([])), cBlk aG [am, ao, aq, au, I aE, I aF, av] 30, cMem encDm al aA (zaa ab ac ae ah ai aj ak), cBlk az [I d.spring, I d.town] 62] ++ R) arII (yJ aV br (fun s aW => aW = [cBlk aw [I s] 3]) (fun (_ : Unit) _ => False) (fun _ => .ret)) (.func (.yield aV) #[] #[]) (M.yl zav) := by
  refine YieldC.mk bt (fun s aW => aW = [cBlk aw [I s] 3]) (fun (_ : Unit) _ => False) (fun _ => .ret) zav (by rintro s _ h_; obtain ⟨rfl⟩ := h_; rfl) (fun _ _ h_ => h_.elim) rfl (arII_len rfl) ?_
  intro C_ cA x_ W_ b4
  obtain ⟨x, x2⟩ := x_
  obtain rfl := b4
  refine W.skip ?_
  refine ⟨rfl, rfl, ?_⟩
  intro w R aa aW s_ r b5 hM H
  skip
  obtain ⟨s, b6⟩ : ∃ y_, y_ = s_ := ⟨_, rfl⟩
  subst b6
  obtain ⟨rfl⟩ := b5
  replace aZ := aZ.sub aa
  replace a8 := a8.sub aa
  replace ba := ba.sub aa
  replace bb := bb.sub aa
  replace bc := bc.sub aa
  replace bf := bf.sub aa
  replace bg := bg.sub aa
  replace aO := aO.sub aa
  replace aP := aP.sub aa
  replace aQ := aQ.sub aa
  replace aR := aR.sub aa
  replace aS := aS.sub aa
  replace bo := bo.sub aa
  replace bp := bp.sub aa
  replace hM : (zav s (x, x2)).Ends r := hM
  simp only [zav] at hM
  replace H := H.pk [0, 2, 3, 4, 1]
  refine W.block ?_
  refine W.region rfl ?_
  refine s_val (x_ld (p := Pq aw) (v := I s) rfl (ldb_sc Sc3 (H.bl 0) rfl)) ?_
  obtain ⟨b7, hM⟩ := M.e_grd hM
  simp only [Bool.and_eq_true, decide_eq_true_eq] at b7
  refine zR s 1 (s + 1) rfl rfl rfl (by omega) ?_
  refine t_sw 0 0 [I (s + 1)] (I (s + 1)) H rfl rfl Sz3 rfl rfl rfl rfl ?_
  intro cB H
  refine s_nil ?_
  exact ⟨s + 1, [cBlk aw [I (s + 1)] 3], (M.e_pure hM).symm, rfl, H.pick [0, 4, 1, 2, 3] (by decide) rfl⟩
 replace H : St w bZ (cAll (cObj aV (.loop br) :: [cBlk aw [I 0] 3]) :: [cBlk aH [I aU] 3, cMk (bq :: ([])), cBlk aG [am, ao, aq, au, I aE, I aF, av] 30, cMem encDm al aA (zaa ab ac ae ah ai aj ak), cBlk az [I d.spring, I d.town] 62]) R := St.bundleB (A := cObj aV (.loop br) :: [cBlk aw [I 0] 3]) (T := [cBlk aH [I aU] 3, cMk (bq :: ([])), cBlk aG [am, ao, aq, au, I aE, I aF, av] 30, cMem encDm al aA (zaa ab ac ae ah ai aj ak), cBlk az [I d.spring, I d.town] 62]) rfl (H.pk [0, 2, 6, 1, 3, 4, 5])
 refine (zaP (M.yl zav) (.inl 0) aU aJ aK aL aM aE aF aN hYC ⟨_, rfl, rfl⟩ (aO.app _) bh (aP.app _) bi (aQ.app _) bj (aR.app _) bm (aS.app _) bn (Has.here (k := 1) rfl) bY _ (H.gt 4)).mono ?_
 rintro vq cC ⟨b8, q0, cD, b9, hvq, ax, bQ⟩
 subst b9
 replace H := H.back ax rfl
 clear ax hYC
 rcases b8 with s | _
 ·try dsimp only at hM
  obtain ⟨_, rfl, rfl⟩ := bQ
  refine ⟨_, [cBlk aw [I s] 3, cBlk aG [am, ao, aq, au, I aE, I aF, av] 30, cMem encDm al aA (zaa ab ac ae ah ai aj ak), cBlk az [I d.spring, I d.town] 62, cBlk aH [I q0] 3], H.unbundle.pick [0, 3, 1, 4, 5, 6, 2] (by decide) rfl, bt.nb, ?_⟩
  intro cE H
  rw [bt.pd]
  replace H := H.nf
  try simp only []
  replace H := H.pk [0, 1, 3]
  refine WD.seq ?_
  refine WD.of ?_
  refine W.region rfl ?_
  refine s_val (x_ld (p := Pq aw) (v := I s) rfl (ldb_sc Sc3 (H.bl 1) rfl)) ?_
  refine zA (I s) rfl ?_
  refine s_nil ?_
  refine WD.of ?_
  refine W.ret ?_
  refine bodyD_r (H.pk [0, 1, 2]) ?_
  intro cF H
  replace H := H.nf
  have ca := M.e_pure hM
  exact ⟨_, resE_tmp rfl, ⟨s, aA, ca, rfl, (H.pk [1])⟩⟩
 obtain ⟨_, _, h_⟩ := bQ; exact h_.elim

def m_cmp_isNaN_int (x : Int) : M Bool :=
  M.pure (x != x)
theorem cmp_isNaN_int_ok {R : List Chunk}  (x : Int)  {r : Bool} (hM : (m_cmp_isNaN_int x).Ends r) (w : World) (H : St w w [] R) : Ret Try.prog 87 #[I x] w fun v w' => ∃ (y0 : Bool), y0 = r /\ v = B y0 /\ St w w' [] R := by
 refine ret_of_W Try.func87 rfl rfl rfl ?_
 refine W.seq ?_
 refine W.region rfl ?_
 refine zA (B false) rfl ?_
 refine s_nil ?_
 refine W.seq ?_
 refine W.region rfl ?_
 refine zM (I x) rfl ?_
 refine zM (I x) rfl ?_
 refine zC x x (x != x) rfl rfl rfl ?_
 refine zA (B (x != x)) rfl ?_
 refine s_nil ?_
 refine W.ret ?_
 have aa := M.e_pure hM
 exact ⟨_, resE_tmp rfl, ⟨(x != x), aa, rfl, H⟩⟩

def m_cmp_Compare_int (x : Int) (y : Int) : M Int :=
  M.bind (m_cmp_isNaN_int x) fun r2 =>
  M.bind (m_cmp_isNaN_int y) fun r3 =>
  bif r2 then (
  bif r3 then (
  M.pure 0)
  else (
  M.pure (-1)))
  else (
  bif r3 then (
  M.pure 1)
  else (
  bif decide (x < y) then (
  M.pure (-1))
  else (
  bif decide (y < x) then (
  M.pure 1)
  else (
  M.pure 0))))
theorem cmp_Compare_int_ok {R : List Chunk}  (x : Int) (y : Int)  {r : Int} (hM : (m_cmp_Compare_int x y).Ends r) (w : World) (H : St w w [] R) : Ret Try.prog 72 #[I x, I y] w fun v w' => ∃ (y0 : Int), y0 = r /\ v = I y0 /\ St w w' [] R := by
 refine ret_of_W Try.func72 rfl rfl rfl ?_
 refine W.seq ?_
 refine W.region rfl ?_
 refine zA (I 0) rfl ?_
 refine s_nil ?_
 refine W.seq ?_
 refine W.region rfl ?_
 refine zM (I x) rfl ?_
 obtain ⟨aq, ak, hM⟩ := M.e_bind hM
 refine s_call cf87 [I x] rfl (cmp_isNaN_int_ok x ak _ (H.gt 0)) ?_
 rintro vq au ⟨r2, al, hvq, ab⟩
 subst al
 subst vq
 try dsimp only at hM
 replace H := H.bk ab
 clear ab
 refine zA (B r2) rfl ?_
 refine s_nil ?_
 refine W.seq ?_
 refine W.region rfl ?_
 refine zM (I y) rfl ?_
 obtain ⟨av, am, hM⟩ := M.e_bind hM
 refine s_call cf87 [I y] rfl (cmp_isNaN_int_ok y am _ (H.gt 0)) ?_
 rintro vq aw ⟨r3, ao, hvq, ab⟩
 subst ao
 subst vq
 try dsimp only at hM
 replace H := H.bk ab
 clear ab
 refine zA (B r3) rfl ?_
 refine s_nil ?_
 refine W.seq ?_
 refine W.seq ?_
 refine W.region rfl ?_
 refine zM (B r2) rfl ?_
 refine s_nil ?_
 refine W.cond r2 rfl (fun ah => ?_) (fun ah => ?_)
 ·replace hM := M.e_t hM ah
  refine W.seq ?_
  refine W.seq ?_
  refine W.region rfl ?_
  refine zM (B r3) rfl ?_
  refine s_nil ?_
  refine W.cond r3 rfl (fun ai => ?_) (fun ai => ?_)
  ·replace hM := M.e_t hM ai
   refine W.seq ?_
   refine W.region rfl ?_
   refine zA (I 0) rfl ?_
   refine s_nil ?_
   refine W.ret ?_
   have aa := M.e_pure hM
   exact ⟨_, resE_tmp rfl, ⟨0, aa, rfl, H⟩⟩
  replace hM := M.e_f hM ai
  refine W.skip ?_
  refine W.seq ?_
  refine W.region rfl ?_
  refine zA (I (-1)) rfl ?_
  refine s_nil ?_
  refine W.ret ?_
  have aa := M.e_pure hM
  exact ⟨_, resE_tmp rfl, ⟨(-1), aa, rfl, H⟩⟩
 replace hM := M.e_f hM ah
 refine W.skip ?_
 refine W.seq ?_
 refine W.seq ?_
 refine W.region rfl ?_
 refine zM (B r3) rfl ?_
 refine s_nil ?_
 refine W.cond r3 rfl (fun aj => ?_) (fun aj => ?_)
 ·replace hM := M.e_t hM aj
  refine W.seq ?_
  refine W.region rfl ?_
  refine zA (I 1) rfl ?_
  refine s_nil ?_
  refine W.ret ?_
  have aa := M.e_pure hM
  exact ⟨_, resE_tmp rfl, ⟨1, aa, rfl, H⟩⟩
 replace hM := M.e_f hM aj
 refine W.skip ?_
 refine W.seq ?_
 refine W.seq ?_
 refine W.region rfl ?_
 refine zM (I x) rfl ?_
 refine zM (I y) rfl ?_
 refine zC x y (decide (x < y)) rfl rfl rfl ?_
 refine s_nil ?_
 refine W.cond (decide (x < y)) rfl (fun ac => ?_) (fun ac => ?_)
 ·replace hM := M.e_t hM ac
  simp only [qy1, qy2, qy3, qy4, qy5, qy6, ne_eq, qy7] at ac
  refine W.seq ?_
  refine W.region rfl ?_
  refine zA (I (-1)) rfl ?_
  refine s_nil ?_
  refine W.ret ?_
  have aa := M.e_pure hM
  exact ⟨_, resE_tmp rfl, ⟨(-1), aa, rfl, H⟩⟩
 replace hM := M.e_f hM ac
 simp only [qy1, qy2, qy3, qy4, qy5, qy6, ne_eq, qy7] at ac
 refine W.skip ?_
 refine W.seq ?_
 refine W.seq ?_
 refine W.region rfl ?_
 refine zM (I x) rfl ?_
 refine zM (I y) rfl ?_
 refine zC x y (decide (y < x)) rfl rfl rfl ?_
 refine s_nil ?_
 refine W.cond (decide (y < x)) rfl (fun ae => ?_) (fun ae => ?_)
 ·replace hM := M.e_t hM ae
  simp only [qy1, qy2, qy3, qy4, qy5, qy6, ne_eq, qy7] at ae
  refine W.seq ?_
  refine W.region rfl ?_
  refine zA (I 1) rfl ?_
  refine s_nil ?_
  refine W.ret ?_
  have aa := M.e_pure hM
  exact ⟨_, resE_tmp rfl, ⟨1, aa, rfl, H⟩⟩
 replace hM := M.e_f hM ae
 simp only [qy1, qy2, qy3, qy4, qy5, qy6, ne_eq, qy7] at ae
 refine W.skip ?_
 refine W.seq ?_
 refine W.region rfl ?_
 refine zA (I 0) rfl ?_
 refine s_nil ?_
 refine W.ret ?_
 have aa := M.e_pure hM
 exact ⟨_, resE_tmp rfl, ⟨0, aa, rfl, H⟩⟩

def zau (a : Dem) (b : Dem) (aa : List Int) (ab : List Span) (ac : List Int) (ae : List Town) (ah : Int) (ai : Int) (aj : List Flood) (ak : List Int) (al : List Span) (am : List Int) (ao : List Town) (aq : Int) (au : Int) (av : List Flood) : M Int :=
  M.bind (zaS b aa ab ac ae ah ai aj ak al am ao aq au av) fun r2 =>
  M.bind (zaS a aa ab ac ae ah ai aj ak al am ao aq au av) fun r3 =>
  M.bind (m_cmp_Compare_int r2 r3) fun r4 =>
  M.pure r4
theorem zb5 {R : List Chunk} {al : Nat} {am : Nat} {aB : Nat} {aC : Cells} {aD : Value} {aE : Cells} {aF : Value} {aG : Cells} {aH : Value} {aI : Cells} {aJ : Value} {aK : Cells} {aL : Value} {aA : Nat} {B_b_k020207 : Base} {ao : Nat} {aM : Nat} {aN : Cells} {aO : Value} {aP : Cells} {aQ : Value} {aR : Cells} {aS : Value} {aT : Cells} {aU : Value} {aV : Cells} {aW : Value} {bE : Nat} (a : Dem) (b : Dem) (ab : List Int) (ac : List Span) (ae : List Int) (ah : List Town) (ai : Int) (aj : Int) (ak : List Flood) (aq : List Int) (au : List Span) (av : List Int) (aw : List Town) (ax : Int) (ay : Int) (az : List Flood) (aX : Reads R aC) (aY : Sl aC aD ab) (aZ : Reads R aE) (a8 : Sl aE aF ac) (ba : Reads R aG) (bb : Sl aG aH ae) (bc : Reads R aI) (bf : Sl aI aJ ah) (bg : Reads R aK) (bh : Sl aK aL ak) (bi : Has R (cBlk aB [aD, aF, aH, aJ, I ai, I aj, aL, .map (some aA)] 86)) (bj : Has R (cBlk am [.func (.func 54) #[Pq aB] #[]] 106)) (bm : Reads R aN) (bn : Sl aN aO aq) (bo : Reads R aP) (bp : Sl aP aQ au) (bq : Reads R aR) (br : Sl aR aS av) (bt : Reads R aT) (bu : Sl aT aU aw) (bv : Reads R aV) (bw : Sl aV aW az) (bx : Has R (cBlk aM [aO, aQ, aS, aU, I ax, I ay, aW, .map (some bE)] 86)) (bz : Has R (cBlk ao [Pq aM] 72)) (bA : Has R (cBlk al [.func (.func 69) #[] #[Pq am, Pq ao]] 114)) {r : Int} (hM : (zau a b ab ac ae ah ai aj ak aq au av aw ax ay az).Ends r) (w : World) (H : St w w [cMem encDm aA B_b_k020207 (zaa ab ac ae ah ai aj ak)] R) : Ret Try.prog 71 #[.agg #[I a.spring, I a.town], .agg #[I b.spring, I b.town], Pq al] w fun v w' => ∃ (y0 : Int) (bF : Base), y0 = r /\ v = I y0 /\ St w w' [cMem encDm aA bF (zaa ab ac ae ah ai aj ak)] R := by
 refine ret_of_W Try.func71 rfl rfl rfl ?_
 refine W.seq ?_
 refine W.region rfl ?_
 refine t_box (v := .agg #[I a.spring, I a.town]) (cs := [I a.spring, I a.town]) H rfl rfl ?_
 intro bB bO H
 refine t_box (v := .agg #[I b.spring, I b.town]) (cs := [I b.spring, I b.town]) H rfl rfl ?_
 intro bC bP H
 refine zA (I 0) rfl ?_
 refine s_nil ?_
 refine W.seq ?_
 refine W.draw (fun W => St w W [cBlk bC [I b.spring, I b.town] 62, cBlk bB [I a.spring, I a.town] 62] R) [(0, true), (1, true), (3, true), (4, true), (2, false), (5, false), (6, false), (7, true)] mixed (by decide +kernel) rfl ?_
 intro bQ bD
 replace H := H.ext bD
 clear bD
 refine ⟨(H.pk [0, 1]), ?_⟩
 refine d_q rfl (fun w' H => x_ld (p := Pq al) (v := .func (.func 69) #[] #[Pq am, Pq ao]) rfl (ldb_sc Sc114 (bA.blk H) rfl)) ?_
 refine d_q rfl (fun w' H => x_ld (p := Pq bC) (v := .agg #[I b.spring, I b.town]) rfl (ldb_ag (ds := [I b.spring, I b.town]) Ag62 Sz62 (H.bl 0) rfl rfl)) ?_
 refine d_q rfl (fun w' H => x_ld (p := Pq al) (v := .func (.func 69) #[] #[Pq am, Pq ao]) rfl (ldb_sc Sc114 (bA.blk H) rfl)) ?_
 refine d_q rfl (fun w' H => x_ld (p := Pq bB) (v := .agg #[I a.spring, I a.town]) rfl (ldb_ag (ds := [I a.spring, I a.town]) Ag62 Sz62 (H.bl 1) rfl rfl)) ?_
 refine d_l rfl ?_
 obtain ⟨bR, bG, hM⟩ := M.e_bind hM
 refine s_callv (f := 69) rfl cf69 [.agg #[I b.spring, I b.town]] rfl (zcP b ab ac ae ah ai aj ak aq au av aw ax ay az (aX.app _) aY (aZ.app _) a8 (ba.app _) bb (bc.app _) bf (bg.app _) bh (bi.app _) (bj.app _) (bm.app _) bn (bo.app _) bp (bq.app _) br (bt.app _) bu (bv.app _) bw (bx.app _) (bz.app _) bG _ ((H.pk [2, 0, 1]).gt 2)) ?_
 rintro vq bS ⟨r2, bT, bH, hvq, aa⟩
 subst bH
 subst vq
 try dsimp only at hM
 replace H := H.pk [2, 0, 1] |>.bk aa
 clear aa
 refine s_nil ⟨(H.pk [1, 2]), ?_⟩
 refine d_l rfl ?_
 obtain ⟨bU, bI, hM⟩ := M.e_bind hM
 refine s_callv (f := 69) rfl cf69 [.agg #[I a.spring, I a.town]] rfl (zcP a ab ac ae ah ai aj ak aq au av aw ax ay az (aX.app _) aY (aZ.app _) a8 (ba.app _) bb (bc.app _) bf (bg.app _) bh (bi.app _) (bj.app _) (bm.app _) bn (bo.app _) bp (bq.app _) br (bt.app _) bu (bv.app _) bw (bx.app _) (bz.app _) bI _ (H.gt 2)) ?_
 rintro vq bV ⟨r3, bJ, bK, hvq, aa⟩
 subst bK
 subst vq
 try dsimp only at hM
 replace H := H.bk aa
 clear aa
 refine s_nil ⟨(H.pk [1, 2]), ?_⟩
 refine d_l rfl ?_
 obtain ⟨bW, bL, hM⟩ := M.e_bind hM
 refine s_call cf72 [I r2, I r3] rfl (cmp_Compare_int_ok r2 r3 bL _ (H.gt 3)) ?_
 rintro vq bX ⟨r4, bM, hvq, aa⟩
 subst bM
 subst vq
 try dsimp only at hM
 replace H := H.bk aa
 clear aa
 refine s_nil ⟨(H.pk [1, 2]), ?_⟩
 refine d_q rfl (fun w' H => x_as (v := I r4) rfl) ?_
 refine d_nil ?_
 replace H := H.pk [0]
 refine W.ret ?_
 have bN := M.e_pure hM
 exact ⟨_, resE_tmp rfl, ⟨r4, bJ, bN, rfl, H⟩⟩

end Go.Proofs.Ytbaehghammbjdaa
end
