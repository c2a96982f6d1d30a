/- Part 2 of the texts on which the proof rests. Conditions: none. -/
import Derived.Test.YtbaehghammbjdaaProg
import Derived.Laws.StructEq
import Derived.Laws.Tables
import Derived.KernelRfl
import Derived.WideKeyRuns
import Derived.Below
import Derived.Maps.RangeRun
import Derived.Shelf.SlIterI.Nil
import Derived.Shelf.SortM.Plain
import Derived.Shelf.SortM.SortNone
import Derived.Test.YtbaehghammbjdaaZF1
set_option linter.unusedVariables false
set_option linter.unusedSimpArgs false
set_option linter.unusedSectionVars false
namespace Go.Nm
open Go
section
variable {P : Program} {w : World} {σ : Env} {d : Nat} {ty : TypeId} {pos : String} {af : Array Edge} {g : Option (Nat × Bool)}
theorem x_eqS {t yt : TypeId} {x y : Operand} {xs ys : Array Value} {r : Bool} (he : (Op.equalIn 10000 t (.agg xs) (.agg ys)).run P w = .ok r w) (hm : P.eqGuardType P.depth t = false) (hx : ev σ x = .agg xs) (hy : ev σ y = .agg ys) :
    (execOp (ev σ) ⟨some d, .binOp .eql t x y yt, ty, pos, af, g⟩).run P w = .ok (.value (.bool (r))) w := by
  simp [execOp, hx, hy, run_eqGuard_agg _ _ _ _ _ _ _ hm, run_eql_struct, he]
theorem x_neS {t yt : TypeId} {x y : Operand} {xs ys : Array Value} {r : Bool} (he : (Op.equalIn 10000 t (.agg xs) (.agg ys)).run P w = .ok r w) (hm : P.eqGuardType P.depth t = false) (hx : ev σ x = .agg xs) (hy : ev σ y = .agg ys) :
    (execOp (ev σ) ⟨some d, .binOp .neq t x y yt, ty, pos, af, g⟩).run P w = .ok (.value (.bool (!r))) w := by
  simp [execOp, hx, hy, run_eqGuard_agg _ _ _ _ _ _ _ hm, run_neq_struct, he]
end
end Go.Nm
namespace Go.Proofs.Ytbaehghammbjdaa
open Go Go.Nm Go.Proofs
theorem eqT27 (a b : Span) (w : World) : (Op.equalIn 10000 27 (.agg #[I a.lo, I a.hi]) (.agg #[I b.lo, I b.hi])).run Try.prog w = .ok (decide (a = b)) w := by
  have u3 := Try.underlying3
  have a3_ := Try.isAgg3
  have z3 := Try.sizeOf3
  have hS : Try.prog.underlying 27 = some (.struct (Try.prog.fieldsOf 27)) := by kernel_rfl
  have hp : Try.prog.stoodInHeld 27 = false := by kernel_rfl
  obtain ⟨p0, p1⟩ := a
  obtain ⟨q0, q1⟩ := b
  rw [show (10000 : Nat) = 9999 + 1 from rfl, run_equalIn_agg w 9999 27 _ _ hS hp]
  simp only [Program.fieldsOf, Try.underlying27]
  go_simp
  by_cases h0 : p0 = q0 <;> by_cases h1 : p1 = q1 <;> simp [h0, h1]
theorem gdT27 : Try.prog.eqGuardType Try.prog.depth 27 = false := by kernel_rfl
theorem eqT62 (a b : Dem) (w : World) : (Op.equalIn 10000 62 (.agg #[I a.spring, I a.town]) (.agg #[I b.spring, I b.town])).run Try.prog w = .ok (decide (a = b)) w := by
  have u3 := Try.underlying3
  have a3_ := Try.isAgg3
  have z3 := Try.sizeOf3
  have hS : Try.prog.underlying 62 = some (.struct (Try.prog.fieldsOf 62)) := by kernel_rfl
  have hp : Try.prog.stoodInHeld 62 = false := by kernel_rfl
  obtain ⟨p0, p1⟩ := a
  obtain ⟨q0, q1⟩ := b
  rw [show (10000 : Nat) = 9999 + 1 from rfl, run_equalIn_agg w 9999 62 _ _ hS hp]
  simp only [Program.fieldsOf, Try.underlying62]
  go_simp
  by_cases h0 : p0 = q0 <;> by_cases h1 : p1 = q1 <;> simp [h0, h1]
theorem gdT62 : Try.prog.eqGuardType Try.prog.depth 62 = false := by kernel_rfl
end Go.Proofs.Ytbaehghammbjdaa
namespace Go.Nm
open Go
def noGotoD (Q : PostD) : PostD
  | .goto _, _, _, _ => False
  | e, Ds, σ, w => Q e Ds σ w
theorem WD.scope {P : Program} {n : Nat} {Q : PostD} {σ : Env} {w : World} {Ds : List Nat} {c : Code} (h : WD P n Ds c (noGotoD Q) σ w) : WD P n Ds (.scope c) Q σ w := by
  intro a ha
  refine (wpIn_wide (n := 0)).2 (wp_scope_straight (wp_mono ((wpIn_wide (n := 0)).1 (h a ha)) ?_))
  rintro e a' w' ⟨d, s, hs, h'⟩
  cases e with
  | goto l => exact h'.elim
  | _ => exact ⟨d, s, hs, h'⟩
section
variable {P : Program} {w : World} {σ : Env} {d : Nat} {ty : TypeId} {pos : String} {af : Array Edge} {g : Option (Nat × Bool)}
/-! ### Values of any type, and what type they are of -/
theorem x_ushr1 {t yt : TypeId} {x y : Operand} {a : Int} (hx : ev σ x = .int .u64 a) (hy : ev σ y = .int .u64 1) :
    (execOp (ev σ) ⟨some d, .binOp .shr t x y yt, ty, pos, af, g⟩).run P w = .ok (.value (.int .u64 (a / 2))) w := by
  have e : a.fdiv 2 = a / 2 := Int.fdiv_eq_ediv_of_nonneg _ (by decide)
  simp only [execOp, hx, hy, eqGuard, binOp, Op.shift]
  simp
  exact e
end
end Go.Nm
namespace Go.Nm
open Go
/-! ### Numbers in order -/
def insI (x : Int) : List Int -> List Int
  | [] => [x]
  | y :: l => bif decide (x <= y) then x :: y :: l else y :: insI x l
def isort (l : List Int) : List Int := l.foldr insI []
theorem insI_perm (x : Int) : ∀ l : List Int, (insI x l).Perm (x :: l)
  | [] => .refl _
  | y :: l => by
    unfold insI
    cases decide (x <= y) with
    | true => exact .refl _
    | false => exact ((insI_perm x l).cons y).trans (.swap x y l)
theorem isort_perm : ∀ l : List Int, (isort l).Perm l
  | [] => .refl _
  | x :: l => (insI_perm x _).trans ((isort_perm l).cons x)
theorem insI_asc (x : Int) : ∀ l : List Int, l.Pairwise (· <= ·) -> (insI x l).Pairwise (· <= ·)
  | [], _ => by simp [insI]
  | y :: l, h => by
    rw [List.pairwise_cons] at h
    unfold insI
    cases hc : decide (x <= y) with
    | true =>
      have hc := of_decide_eq_true hc
      show (x :: y :: l).Pairwise _
      rw [List.pairwise_cons, List.pairwise_cons]
      refine ⟨fun z hz => ?_, h⟩
      rcases List.mem_cons.1 hz with rfl | hz
      · exact hc
      · exact Int.le_trans hc (h.1 z hz)
    | false =>
      have hc := of_decide_eq_false hc
      show (y :: insI x l).Pairwise _
      rw [List.pairwise_cons]
      refine ⟨fun z hz => ?_, insI_asc x l h.2⟩
      rcases List.mem_cons.1 ((insI_perm x l).mem_iff.1 hz) with rfl | hz
      · omega
      · exact h.1 z hz
theorem isort_asc : ∀ l : List Int, (isort l).Pairwise (· <= ·)
  | [] => .nil
  | x :: l => insI_asc x _ (isort_asc l)
theorem asc_uniq : ∀ {l m : List Int}, l.Pairwise (· <= ·) -> m.Pairwise (· <= ·) -> l.Perm m -> l = m
  | [], m, _, _, p => (List.nil_perm.1 p).symm
  | x :: l, [], _, _, p => by have := p.length_eq; simp at this
  | x :: l, y :: m, h, k, p => by
    rw [List.pairwise_cons] at h k
    have h1 : x <= y := by
      rcases List.mem_cons.1 (p.mem_iff.2 (List.mem_cons_self (a := y) (l := m))) with e | e
      · omega
      · exact h.1 y e
    have h2 : y <= x := by
      rcases List.mem_cons.1 (p.mem_iff.1 (List.mem_cons_self (a := x) (l := l))) with e | e
      · omega
      · exact k.1 x e
    obtain rfl : x = y := by omega
    rw [asc_uniq h.2 k.2 (List.perm_cons x |>.1 p)]
theorem merge_isort {ss ks : List Int} (p : ss.Perm ks) : ss.mergeSort (fun x y => decide (x <= y)) = isort ks := by
  refine asc_uniq ?_ (isort_asc ks) (((List.mergeSort_perm ss _).trans p).trans (isort_perm ks).symm)
  have := List.pairwise_mergeSort (le := fun x y : Int => decide (x <= y)) (fun a b c h1 h2 => by simp only [decide_eq_true_eq] at *; omega) (fun a b => by simp only [Bool.or_eq_true, decide_eq_true_eq]; omega) ss
  exact this.imp fun h => of_decide_eq_true h
/-! ### Maps, told entry by entry -/
def MapL {κ ν : Type} (kenc : κ -> Value) (venc : ν -> Value) (es : Array MapEntry) (clk : Nat) (m : List (κ × ν)) : Prop :=
  es.toList.map (fun e => (e.key, e.val)) = m.map (fun p => (kenc p.1, venc p.2)) /\ (es.toList.map (·.born)).Nodup /\ ∀ e ∈ es.toList, e.born < clk
section
variable {P : Program} {w w0 : World} {L L' R : List Chunk} {t kt et : TypeId} {b : Nat} {es : Array MapEntry} {clk : Nat} {ks : List Int}
variable {all rest : List Oper} {Q : Post} {σ : Env} {d : Nat} {ty : TypeId} {pos : String} {af : Array Edge} {g : Option (Nat × Bool)}
end
end Go.Nm
namespace Go.Nm
open Go
/-! ### What is reckoned entry by entry -/
namespace M
variable {κ ν : Type}
def mapL (body : κ -> ν -> M ν) : List (κ × ν) -> M (List (κ × ν))
  | [] => pure []
  | p :: m => bind (body p.1 p.2) fun v => bind (mapL body m) fun m' => pure ((p.1, v) :: m')
theorem mapL_at {body : κ -> ν -> M ν} : ∀ {m m' : List (κ × ν)}, (mapL body m).Ends m' -> m'.length = m.length /\ ∀ (i : Nat) (k : κ) (v : ν), m[i]? = some (k, v) -> ∃ v', (body k v).Ends v' /\ m'[i]? = some (k, v')
  | [], m', h => by
    obtain rfl := e_pure h
    exact ⟨rfl, fun i k v h => by simp at h⟩
  | p :: m, m', h => by
    obtain ⟨v1, h1, h⟩ := e_bind h
    obtain ⟨m1, h2, h⟩ := e_bind h
    obtain rfl := e_pure h
    obtain ⟨l, ih⟩ := mapL_at h2
    refine ⟨by simp [l], fun i k v hi => ?_⟩
    cases i with
    | zero =>
      simp only [List.getElem?_cons_zero, Option.some.injEq] at hi
      subst hi
      exact ⟨v1, h1, rfl⟩
    | succ i => exact ih i k v (by simpa using hi)
end M
/-! ### In memory -/
section
variable {κ ν : Type} [DecidableEq κ] {kenc : κ -> Value} {venc : ν -> Value}
def cMl (kenc : κ -> Value) (venc : ν -> Value) (b : Nat) (m : List (κ × ν)) : Chunk where
  D k := k = b
  ex := true
  ok w := ∃ es n, w.heap[b]? = some (.map es n) /\ MapL kenc venc es n m /\ (m.map Prod.fst).Nodup
  st w w' := fun ⟨es, n, h1, h2⟩ _ k => ⟨es, n, (k b rfl).trans h1, h2⟩
  bd w k := fun ⟨_, _, h, _⟩ e => by rw [e]; exact heap_lt h
variable {P : Program} {w w0 : World} {L L' R : List Chunk} {t kt et : TypeId} {b r : Nat} {es : Array MapEntry} {clk : Nat} {m : List (κ × ν)}
variable {all rest : List Oper} {Q : Post} {σ : Env} {d : Nat} {ty : TypeId} {pos : String} {af : Array Edge} {g : Option (Nat × Bool)}
omit [DecidableEq κ] in theorem t_mkMl {t' : TypeId} (kenc : κ -> Value) (venc : ν -> Value) (H : St w0 w L R) (k : ∀ b w', St w0 w' (cMl kenc venc b [] :: L) R -> SL P all Q rest (upd σ d (.map (some b))) w') : SL P all Q (⟨some d, .makeMap t' none, ty, pos, af, none⟩ :: rest) σ w :=
  s_mkmap fun b w' hn => k b w' (H.push (c := cMl kenc venc b []) hn.ext ⟨_, _, hn.same, ⟨rfl, List.nodup_nil, fun e h => by simp at h⟩, List.nodup_nil⟩ (fun j hj => by rw [show j = b from hj]; exact hn.ge))
end
/-- How far a loop over a map has come: what is left is as it was, what was met is as it will be. -/
def ItR {κ ν : Type} (m m' m1 : List (κ × ν)) (left : List Bool) : Prop := m1.length = m.length /\ m'.length = m.length /\ left.length = m.length /\ ∀ i, i < m.length -> m1[i]? = if left.getD i false then m[i]? else m'[i]?
namespace ItR
variable {κ ν : Type} {m m' m1 : List (κ × ν)} {left : List Bool} {body : κ -> ν -> M ν}
theorem fin (h : ItR m m' m1 left) (hl : ∀ j : Nat, left.getD j false = false) : m1 = m' := by
  apply List.ext_getElem?
  intro i
  by_cases hi : i < m.length
  · rw [h.2.2.2 i hi, hl i]; rfl
  · rw [List.getElem?_eq_none (by have := h.1; omega), List.getElem?_eq_none (by have := h.2.1; omega)]
theorem lt (h : ItR m m' m1 left) {j : Nat} (hj : left.getD j false = true) : j < m.length := by
  rw [← h.2.2.1]
  refine Nat.lt_of_not_le fun hn => ?_
  rw [List.getD_eq_getElem?_getD, List.getElem?_eq_none hn] at hj
  cases hj
theorem at_ (h : ItR m m' m1 left) (hb : (M.mapL body m).Ends m') {j : Nat} {k : κ} {v : ν} (hj : left.getD j false = true) (hm : m1[j]? = some (k, v)) : ∃ v', (body k v).Ends v' /\ m'[j]? = some (k, v') := by
  have := h.2.2.2 j (h.lt hj)
  rw [hj, hm] at this
  exact (M.mapL_at hb).2 j k v (by simpa using this.symm)
theorem step (h : ItR m m' m1 left) {j : Nat} {k : κ} {v v' : ν} (hj : left.getD j false = true) (hm : m1[j]? = some (k, v)) (hv : m'[j]? = some (k, v')) : ItR m m' (m1.set j (k, v')) (left.set j false) := by
  have hjl := h.lt hj
  have hl := h.2.2.1
  have h1 := h.1
  refine ⟨by rw [List.length_set]; exact h.1, h.2.1, by rw [List.length_set]; exact h.2.2.1, fun i hi => ?_⟩
  by_cases e : j = i
  · subst e
    rw [List.getElem?_set_self (by omega), List.getD_eq_getElem?_getD, List.getElem?_set_self (by omega), hv]
    rfl
  · rw [List.getElem?_set_ne e, List.getD_eq_getElem?_getD, List.getElem?_set_ne e, ← List.getD_eq_getElem?_getD]
    exact h.2.2.2 i hi
theorem keep (h : ItR m m' m1 left) {j : Nat} {k : κ} {v : ν} (hj : left.getD j false = true) (hm : m1[j]? = some (k, v)) (hv : m'[j]? = some (k, v)) : ItR m m' m1 (left.set j false) := by
  have := h.step hj hm hv
  rwa [show m1.set j (k, v) = m1 from by
    obtain ⟨hl, e⟩ := List.getElem?_eq_some_iff.1 hm
    rw [← e, List.set_getElem_self]] at this
theorem less {j : Nat} (hj : left.getD j false = true) : (left.set j false).count true < left.count true := by
  have hl : j < left.length := Nat.lt_of_not_le fun hn => by
    rw [List.getD_eq_getElem?_getD, List.getElem?_eq_none hn] at hj
    cases hj
  have hg : left[j] = true := by
    rw [List.getD_eq_getElem?_getD, List.getElem?_eq_getElem hl] at hj
    exact hj
  rw [List.count_set hl, hg]
  have : 0 < left.count true := List.count_pos_iff.2 (by rw [← hg]; exact List.getElem_mem hl)
  simp
  omega
end ItR
end Go.Nm
namespace Go.Proofs
open Go.RowKit Go.Maps Go.Sort Go.Shelf
def Try.sortA_ren : Go.Shelf.Ren := ⟨fun | 5 => 73 | 7 => 88 | 8 => 89 | 10 => 93 | 11 => 94 | 12 => 95 | 13 => 96 | 14 => 97 | 15 => 98 | 16 => 99 | 17 => 100 | 18 => 101 | 19 => 102 | 20 => 103 | 30 => 105 | 31 => 106 | 32 => 107 | 33 => 108 | 34 => 109 | 35 => 87 | 40 => 111 | n => n, fun | 0 => 0 | 3 => 3 | 4 => 4 | 5 => 5 | 9 => 9 | 22 => 23 | 23 => 23 | 25 => 3 | 32 => 126 | 35 => 130 | 36 => 131 | 41 => 135 | 44 => 138 | 46 => 140 | 53 => 141 | 57 => 145 | 63 => 147 | 64 => 148 | n => n, fun | n => n⟩
theorem Try.sortA : Go.Proofs.SlLaysM.n5 Try.prog Try.sortA_ren := {
  mixed := by kernel_rfl
  f5 := ⟨"slices.Sort[[]int,int]", by kernel_rfl, Try.func73.trans (congrArg some (by kernel_rfl))⟩
  f7 := ⟨"slices.pdqsortOrdered[int]", by kernel_rfl, Try.func88.trans (congrArg some (by kernel_rfl))⟩
  f8 := Try.func89.trans (congrArg some (by kernel_rfl))
  f10 := ⟨"slices.insertionSortOrdered[int]", by kernel_rfl, Try.func93.trans (congrArg some (by kernel_rfl))⟩
  f11 := ⟨"slices.heapSortOrdered[int]", by kernel_rfl, Try.func94.trans (congrArg some (by kernel_rfl))⟩
  f12 := ⟨"slices.breakPatternsOrdered[int]", by kernel_rfl, Try.func95.trans (congrArg some (by kernel_rfl))⟩
  f13 := ⟨"slices.choosePivotOrdered[int]", by kernel_rfl, Try.func96.trans (congrArg some (by kernel_rfl))⟩
  f14 := ⟨"slices.reverseRangeOrdered[int]", by kernel_rfl, Try.func97.trans (congrArg some (by kernel_rfl))⟩
  f15 := ⟨"slices.partialInsertionSortOrdered[int]", by kernel_rfl, Try.func98.trans (congrArg some (by kernel_rfl))⟩
  f16 := ⟨"cmp.Less[int]", by kernel_rfl, Try.func99.trans (congrArg some (by kernel_rfl))⟩
  f17 := ⟨"slices.partitionEqualOrdered[int]", by kernel_rfl, Try.func100.trans (congrArg some (by kernel_rfl))⟩
  f18 := ⟨"slices.partitionOrdered[int]", by kernel_rfl, Try.func101.trans (congrArg some (by kernel_rfl))⟩
  f19 := Try.func102.trans (congrArg some (by kernel_rfl))
  f20 := Try.func103.trans (congrArg some (by kernel_rfl))
  f30 := ⟨"slices.siftDownOrdered[int]", by kernel_rfl, Try.func105.trans (congrArg some (by kernel_rfl))⟩
  f31 := Try.func106.trans (congrArg some (by kernel_rfl))
  f32 := Try.func107.trans (congrArg some (by kernel_rfl))
  f33 := ⟨"slices.medianAdjacentOrdered[int]", by kernel_rfl, Try.func108.trans (congrArg some (by kernel_rfl))⟩
  f34 := ⟨"slices.medianOrdered[int]", by kernel_rfl, Try.func109.trans (congrArg some (by kernel_rfl))⟩
  f35 := ⟨"cmp.isNaN[int]", by kernel_rfl, Try.func87.trans (congrArg some (by kernel_rfl))⟩
  f40 := ⟨"slices.order2Ordered[int]", by kernel_rfl, Try.func111.trans (congrArg some (by kernel_rfl))⟩
  t0 := Try.underlying0
  a0 := Try.isAgg0
  z0 := Try.sizeOf0
  v0 := Try.zeroValue0
  t3 := Try.underlying3
  a3 := Try.isAgg3
  z3 := Try.sizeOf3
  v3 := Try.zeroValue3
  t4 := Try.underlying4
  a4 := Try.isAgg4
  z4 := Try.sizeOf4
  v4 := Try.zeroValue4
  t5 := Try.underlying5
  a5 := Try.isAgg5
  z5 := Try.sizeOf5
  v5 := Try.zeroValue5
  t9 := Try.underlying9
  a9 := Try.isAgg9
  z9 := Try.sizeOf9
  v9 := Try.zeroValue9
  t22 := Try.underlying23
  a22 := Try.isAgg23
  z22 := Try.sizeOf23
  v22 := Try.zeroValue23
  t23 := Try.underlying23
  a23 := Try.isAgg23
  z23 := Try.sizeOf23
  v23 := Try.zeroValue23
  t25 := Try.underlying3
  a25 := Try.isAgg3
  z25 := Try.sizeOf3
  v25 := Try.zeroValue3
  t32 := Try.underlying126
  a32 := Try.isAgg126
  z32 := Try.sizeOf126
  v32 := Try.zeroValue126
  t35 := Try.underlying130
  a35 := Try.isAgg130
  z35 := Try.sizeOf130
  v35 := Try.zeroValue130
  t36 := Try.underlying131
  a36 := Try.isAgg131
  z36 := Try.sizeOf131
  v36 := Try.zeroValue131
  t41 := Try.underlying135
  a41 := Try.isAgg135
  z41 := Try.sizeOf135
  v41 := Try.zeroValue135
  t44 := Try.underlying138
  a44 := Try.isAgg138
  z44 := Try.sizeOf138
  v44 := Try.zeroValue138
  t46 := Try.underlying140
  a46 := Try.isAgg140
  z46 := Try.sizeOf140
  v46 := Try.zeroValue140
  t53 := Try.underlying141
  a53 := Try.isAgg141
  z53 := Try.sizeOf141
  v53 := Try.zeroValue141
  t57 := Try.underlying145
  a57 := Try.isAgg145
  z57 := Try.sizeOf145
  v57 := Try.zeroValue145
  t63 := Try.underlying147
  a63 := Try.isAgg147
  z63 := Try.sizeOf147
  v63 := Try.zeroValue147
  t64 := Try.underlying148
  a64 := Try.isAgg148
  z64 := Try.sizeOf148
  v64 := Try.zeroValue148 }

end Go.Proofs
namespace Go.Nm
open Go
theorem OwnF.row {B : Nat} {e : TypeId} {w : World} {l : List Int} {g cap : Nat} {cur : Array Value} (ho : OwnF B e w (.slice (some ⟨g, 0, none⟩) l.length cap) l) (hg : w.heap[g]? = some (.cells cur e (0, 0)))
    (hcs : l.length <= cap) (hsz : cur.size = cap) (hb : B <= g) (hm : cap <= maxLen) (d : Array Int) (hl : d.size = l.length) (q : Nat) :
    OwnF B e (Sort.putRow (Value.int .i64) (Sort.ahead w q) g 0 d) (.slice (some ⟨g, 0, none⟩) l.length cap) d.toList /\ Grow B (.slice (some ⟨g, 0, none⟩) l.length cap) w (Sort.putRow (Value.int .i64) (Sort.ahead w q) g 0 d) := by
  have hs1 : Elt.sz Int = 1 := rfl
  have h1 : (Sort.putRow (Value.int .i64) (Sort.ahead w q) g 0 d).heap[g]? = some (.cells (Sort.putCells (Value.int .i64) 0 d cur) e (0, 0)) := by
    show (w.heap.modify g _)[g]? = _
    rw [Array.getElem?_modify, if_pos rfl, hg]
    rfl
  have h2 : ∀ k, k ≠ g -> (Sort.putRow (Value.int .i64) (Sort.ahead w q) g 0 d).heap[k]? = w.heap[k]? := by
    intro k hk
    show (w.heap.modify g _)[k]? = _
    rw [Array.getElem?_modify, if_neg (fun h => hk h.symm)]
  refine ⟨⟨by rw [enc_ints]; simp [hs1], .inr ⟨g, cap, _, by simp [hl], hb, h1, by simp [hl]; omega, hm, by simp [hs1, Sort.putCells]; omega, ?_⟩⟩, ⟨rfl, rfl, by simp [Sort.putRow, Sort.mapBlock, Sort.ahead], fun k _ hk => ?_, fun g' hg' => (ho.lt g' hg').1, fun a => by simp⟩⟩
  · rw [enc_ints, hs1]
    apply List.ext_getElem?
    intro i
    rw [List.getElem?_take, List.getElem?_map]
    by_cases hi : i < d.toList.length * 1
    · rw [if_pos hi]
      have hi' : i < d.size := by simpa using hi
      have hc : i < cur.size := by omega
      simp [Sort.putCells, hi', hc]
    · rw [if_neg hi, List.getElem?_eq_none (by simpa using hi)]
      rfl
  · refine h2 k (fun e' => hk ?_)
    rw [e']
    rfl
end Go.Nm
namespace Go.Proofs.Ytbaehghammbjdaa
open Go Go.Nm Go.Proofs
theorem sort_any {w : World} {v : Value} {l : List Int} (ho : OwnF 0 3 w v l) (hl : l.length <= 1000000) : Ret Try.prog 73 #[v] w fun u w' => u = .tuple #[] /\ OwnF 0 3 w' v (isort l) /\ Keep w w' /\ ∀ b, b < w.heap.size -> v.ownBlock ≠ some b -> w'.heap[b]? = w.heap[b]? := by
  have ho' := ho
  rcases ho.2 with ⟨rfl, hn⟩ | ⟨g, cap, cur, rfl, hb, hg, hc, hm, hcs, htake⟩
  · obtain rfl := List.length_eq_zero_iff.1 hn
    have h := AnyM.slices_Sort_int_none Try.sortA none 0 w
    refine Calls.mono h ?_
    rintro _ w' ⟨rfl, rfl⟩
    exact ⟨_, rfl, rfl, ho, Keep.refl _, fun _ _ _ => rfl⟩
  · have hs1 : Elt.sz Int = 1 := rfl
    rw [hs1] at hcs htake
    rw [enc_ints] at htake
    have hcell : ∀ j, j < l.length -> w.cell? ⟨g, 0 + j, none⟩ = some (.int .i64 (l.getD j 0)) := by
      intro j hj
      rw [Nat.zero_add, cell_of_row w g j cur 3 (0, 0) hg]
      have h1 : (cur.toList.take (l.length * 1))[j]? = (l.map I)[j]? := by rw [htake]
      rw [List.getElem?_take, if_pos (by omega), List.getElem?_map, getD_some l hj 0] at h1
      simpa using h1
    have hH : Sort.Holds (Value.int .i64) w g 0 l.toArray := by
      intro j hj
      have hj : j < l.length := by simpa using hj
      refine ⟨?_, by simp [World.frozen?, hg]⟩
      rw [hcell j hj]
      have : l.getD j 0 = l.toArray[j]! := by
        rw [List.getD_eq_getElem?_getD, List.getElem?_eq_getElem hj]
        simp [getElem!_pos, hj]
      rw [this]
    have h := AnyM.slices_Sort_int Try.sortA g 0 cap l w hH (heap_lt hg) (by omega)
    refine Calls.mono h ?_
    rintro _ w' ⟨rfl, q, os, rfl⟩
    rw [merge_isort (List.Perm.refl l)]
    have hlen : (isort l).length = l.length := (isort_perm l).length_eq
    obtain ⟨h1, h2⟩ := OwnF.row ho hg hc (by omega) hb hm (isort l).toArray (by simp [hlen]) q
    have hlt : g < (Sort.putRow (Value.int .i64) (Sort.ahead w q) g 0 (isort l).toArray).heap.size := Nat.lt_of_lt_of_le (heap_lt hg) h2.size
    refine ⟨_, rfl, rfl, ?_, ⟨h2.os, h2.out, by rw [Sort.size_grow]; exact Nat.le_trans h2.size (Nat.le_add_right _ _)⟩, fun b hb' hne => ?_⟩
    · rcases h1 with ⟨h3, h4 | ⟨g', cap', cur', h5, h6, h7, h8⟩⟩
      · exact absurd h4.1 (by simp)
      · simp only [Value.slice.injEq, Option.some.injEq, Addr.mk.injEq, and_true] at h5
        obtain ⟨rfl, _, rfl⟩ := h5
        refine ⟨h3, .inr ⟨g, cap, cur', by simp [hlen], h6, by rw [Sort.heap_grow_old _ _ hlt]; exact h7, h8⟩⟩
    · rw [Sort.heap_grow_old _ _ (Nat.lt_of_lt_of_le hb' h2.size)]
      exact h2.blk b hb' hne
end Go.Proofs.Ytbaehghammbjdaa
namespace Go.Nm
open Go
theorem St.sorted {w0 w w' : World} {L L' R : List Chunk} {k : Nat} {v : Value} {l l' : List Int} {e : TypeId} (H : St w0 w L R) (hk : L[k]? = some (cOwn (α := Int) e v l)) (ho : OwnF 0 e w' v l') (kp : Keep w w') (hs : ∀ b, b < w.heap.size -> v.ownBlock ≠ some b -> w'.heap[b]? = w.heap[b]?)
    (hl : L.set k (cOwn (α := Int) e v l') = L') : St w0 w' L' R :=
  H.set (c' := cOwn (α := Int) e v l') hk rfl kp hs (fun b hb => .inl hb) ho hl
end Go.Nm
namespace Go.Nm
open Go
end Go.Nm
namespace Go.Nm
open Go
section
variable {P : Program} {w : World} {σ : Env} {d : Nat} {ty : TypeId} {pos : String} {af : Array Edge} {g : Option (Nat × Bool)}
end
end Go.Nm
namespace Go.Nm
open Go
section
variable {P : Program} {ops : Array Oper} {md : Region.Mode} {C : World -> Prop} {z : Nat}
def wpAnyZ (P : Program) (md : Region.Mode) (ops : Array Oper) (C : World -> Prop) (z : Nat) (Q : Act -> World -> Prop) : Nat -> Array Bool -> Act -> World -> Prop
  | 0, listed, a, w => Region.ready md ops listed = [] /\ Q a w
  | fuel + 1, listed, a, w =>
    (Region.ready md ops listed = [] -> Q a w) ∧
    ∀ i ∈ Region.ready md ops listed, lOp P ops i (fun a' w' => (i ≠ z -> C w') /\ wpAnyZ P md ops C z Q fuel (listed.setIfInBounds i true) a' w') a w
theorem wpAny_of_Z {r : Option Nat} {Q : Act -> World -> Prop} {Q' : Exit -> Act -> World -> Prop} (hQ : ∀ a w, Q a w -> Q' .normal a w) : ∀ (fuel : Nat) (listed : Array Bool) (a : Act) (w : World),
    wpAnyZ P md ops C z Q fuel listed a w -> wpAnyIn (FR r) 0 P md ops Q' fuel listed a w
  | 0, _, _, _, h => ⟨h.1, hQ _ _ h.2⟩
  | fuel + 1, _, _, _, h => ⟨fun h0 => hQ _ _ (h.1 h0), fun i hi => lOp_wpOp (lOp_mono (fun a' w' hh => wpAny_of_Z hQ fuel _ a' w' hh.2) (h.2 i hi))⟩
def bindsOn (md : Region.Mode) (ops : Array Oper) (z i : Nat) : Bool := match ops[z]? with
  | some o => o.after.toList.any fun e => Region.binds md e && (e.on == i)
  | none => false
theorem wpAnyZ_first {Q : Act -> World -> Prop} {i : Nat} {oi : Oper} {v : Value} (hi : ops[i]? = some oi) (hz : i ≠ z) (hb : bindsOn md ops z i = true) (hsel : ∀ (j : Nat) (o : Oper) cs b, ops[j]? = some o -> o.op ≠ .select cs b) :
    ∀ (fuel : Nat) (listed : Array Bool) (a : Act) (w : World), C w →
      (∀ j oj, ops[j]? = some oj -> j ≠ i -> listed.getD j true = false -> (∀ e ∈ oj.after, Region.binds md e = true -> e.on ≠ i) -> oi.apart ops oj = true) →
      i ∈ Region.ready md ops listed -> YV P ops C oi v a →
      wpAnyZ P md ops C z Q fuel (listed.setIfInBounds i true) (a.put oi.dst v) w -> wpAnyZ P md ops C z Q (fuel + 1) listed a w := by
  intro fuel
  induction fuel with
  | zero =>
    intro listed a w hC _ hr hy H
    refine ⟨fun h => (by rw [h] at hr; cases hr), fun j hj => ?_⟩
    by_cases hji : j = i
    · subst hji; exact hy.lOp hi hC ⟨fun _ => hC, H⟩
    · have := ready_mono hj hji
      rw [H.1] at this
      cases this
  | succ fuel ih =>
    intro listed a w hC hfree hr hy H
    refine ⟨fun h => (by rw [h] at hr; cases hr), fun j hj => ?_⟩
    by_cases hji : j = i
    · subst hji; exact hy.lOp hi hC ⟨fun _ => hC, H⟩
    · have h1 := H.2 j (ready_mono hj hji)
      obtain ⟨hjun, oj, hoj, hall⟩ := mem_ready.1 hj
      have hnot : ∀ e ∈ oj.after, Region.binds md e = true -> e.on ≠ i := fun e he hb heq => by
        have h1 := hall e he hb
        have h0 := (mem_ready.1 hr).1
        rw [heq] at h1
        rcases Nat.lt_or_ge i listed.size with h' | h'
        · simp [h'] at h0 h1; rw [h0] at h1; cases h1
        · simp [Array.getElem?_eq_none h'] at h1
      have hjz : j ≠ z := fun e => by
        subst e
        unfold bindsOn at hb
        simp only [hoj] at hb
        obtain ⟨e, he, h2⟩ := List.any_eq_true.1 hb
        rw [Bool.and_eq_true, beq_iff_eq] at h2
        exact hnot e (by simpa using he) h2.1 h2.2
      have h2 := lOp_put hoj (hfree j oj hoj hji hjun hnot) (fun cs b => hsel i oi cs b hi) (fun cs b => hsel j oj cs b hoj) hy h1
      have hfree' : ∀ k ok, ops[k]? = some ok -> k ≠ i -> (listed.setIfInBounds j true).getD k true = false →
          (∀ e ∈ ok.after, Region.binds md e = true -> e.on ≠ i) -> oi.apart ops ok = true := fun k ok hk hki hun hno => by
        refine hfree k ok hk hki ?_ hno
        by_cases hjk : j = k
        · subst hjk; exact hjun
        · rw [getD_set_ne true hjk] at hun; exact hun
      refine lOp_mono (fun a' w' h3 => ⟨fun _ => h3.2.1 hjz, ih (listed.setIfInBounds j true) a' w' (h3.2.1 hjz) hfree' (ready_mono hr (Ne.symm hji)) h3.1 ?_⟩) h2
      rw [Array.setIfInBounds_comm _ _ hji]
      exact h3.2.2
end
section
variable {P : Program} {all : List Oper} {C : World -> Prop} {z : Nat} {Q : Post} {r : List Nat} {σ : Env} {w : World}
end
end Go.Nm
namespace Go.Nm
open Go
def canonTZ (md : Region.Mode) (ops : Array Oper) (z : Nat) : Ord -> Nat -> Array Bool -> Bool
  | .nil, 0, listed => (Region.ready md ops listed == [z]) && (Region.ready md ops (listed.setIfInBounds z true)).isEmpty
  | .q k r, n + 1, listed => (Region.ready md ops listed).contains k && Region.free md ops listed k && (k != z) && bindsOn md ops z k && canonTZ md ops z r n (listed.setIfInBounds k true)
  | .l k r, n + 1, listed => (Region.ready md ops listed == [k]) && (k != z) && canonTZ md ops z r n (listed.setIfInBounds k true)
  | .l2 k1 r1 k2 r2, n + 1, listed => (Region.ready md ops listed == [k1, k2]) && (k1 != z) && (k2 != z) && canonTZ md ops z r1 n (listed.setIfInBounds k1 true) && canonTZ md ops z r2 n (listed.setIfInBounds k2 true)
  | _, _, _ => false
section
variable {P : Program} {ops : Array Oper} {md : Region.Mode} {C : World -> Prop} {z : Nat}
def runTZ (P : Program) (ops : Array Oper) (C : World -> Prop) (z : Nat) (Q : Act -> World -> Prop) : Ord -> Act -> World -> Prop
  | .nil, a, w => lOp P ops z Q a w
  | .q k r, a, w => ∃ o v, ops[k]? = some o /\ YV P ops C o v a /\ runTZ P ops C z Q r (a.put o.dst v) w
  | .l k r, a, w => lOp P ops k (fun a' w' => C w' /\ runTZ P ops C z Q r a' w') a w
  | .l2 k1 r1 k2 r2, a, w => lOp P ops k1 (fun a' w' => C w' /\ runTZ P ops C z Q r1 a' w') a w /\ lOp P ops k2 (fun a' w' => C w' /\ runTZ P ops C z Q r2 a' w') a w
  | .l3 _ _ _ _ _ _, _, _ => False
theorem wpAnyZ_canonT {Q : Act -> World -> Prop} (hs : Region.noSelect ops = true) : ∀ (l : Ord) (n : Nat) (listed : Array Bool) (a : Act) (w : World), C w →
    canonTZ md ops z l n listed = true -> runTZ P ops C z Q l a w -> wpAnyZ P md ops C z Q (n + 1) listed a w
  | .nil, 0, listed, a, w, _, hB, h => by
    simp only [canonTZ, Bool.and_eq_true, beq_iff_eq] at hB
    obtain ⟨hr, he⟩ := hB
    refine ⟨fun h0 => by rw [hr] at h0; simp at h0, fun i hi => ?_⟩
    rw [hr] at hi
    obtain rfl : i = z := by simpa using hi
    exact lOp_mono (fun a' w' hh => ⟨fun h => absurd rfl h, by simpa using he, hh⟩) h
  | .q k r, n + 1, listed, a, w, hC, hB, h => by
    simp only [canonTZ, Bool.and_eq_true, bne_iff_ne, ne_eq] at hB
    obtain ⟨⟨⟨⟨hr, hf⟩, hz⟩, hb⟩, hB'⟩ := hB
    obtain ⟨o, v, h0, hy, hK⟩ := h
    exact wpAnyZ_first h0 hz hb (Region.noSelect_spec hs) (n + 1) listed a w hC (Region.free_spec h0 hf) (by simpa using hr) hy (wpAnyZ_canonT hs r n _ _ _ hC hB' hK)
  | .l k r, n + 1, listed, a, w, hC, hB, h => by
    simp only [canonTZ, Bool.and_eq_true, beq_iff_eq] at hB
    obtain ⟨⟨hr, _⟩, hB'⟩ := hB
    refine ⟨fun h0 => by rw [hr] at h0; simp at h0, fun i hi => ?_⟩
    rw [hr] at hi
    obtain rfl : i = k := by simpa using hi
    exact lOp_mono (fun a' w' hh => ⟨fun _ => hh.1, wpAnyZ_canonT hs r n _ _ _ hh.1 hB' hh.2⟩) h
  | .l2 k1 r1 k2 r2, n + 1, listed, a, w, hC, hB, h => by
    simp only [canonTZ, Bool.and_eq_true, beq_iff_eq] at hB
    obtain ⟨⟨⟨⟨hr, _⟩, _⟩, hB1⟩, hB2⟩ := hB
    refine ⟨fun h0 => by rw [hr] at h0; simp at h0, fun i hi => ?_⟩
    rw [hr] at hi
    rcases List.mem_cons.1 hi with rfl | hi
    · exact lOp_mono (fun a' w' hh => ⟨fun _ => hh.1, wpAnyZ_canonT hs r1 n _ _ _ hh.1 hB1 hh.2⟩) h.1
    · obtain rfl : i = k2 := by simpa using hi
      exact lOp_mono (fun a' w' hh => ⟨fun _ => hh.1, wpAnyZ_canonT hs r2 n _ _ _ hh.1 hB2 hh.2⟩) h.2
  | .nil, _ + 1, _, _, _, _, hB, _ => by simp [canonTZ] at hB
  | .q _ _, 0, _, _, _, _, hB, _ => by simp [canonTZ] at hB
  | .l _ _, 0, _, _, _, _, hB, _ => by simp [canonTZ] at hB
  | .l2 _ _ _ _, 0, _, _, _, _, hB, _ => by simp [canonTZ] at hB
  | .l3 _ _ _ _ _ _, _, _, _, _, _, _, h => h.elim
end
def SLTZ (P : Program) (all : List Oper) (C : World -> Prop) (z : Nat) (Q : Post) : Ord -> Env -> World -> Prop
  | .nil, σ, w => ∃ o, all[z]? = some o /\ SL P all (loudQ (fun _ => True) (Q .normal)) [o] σ w
  | .q k r, σ, w => ∃ o v, all[k]? = some o /\ (bif wantedE all o σ then ∀ w', C w' -> (execOp (ev σ) o).run P w' = .ok (.value v) w' else v = undef) /\ SLTZ P all C z Q r (updo σ o.dst v) w
  | .l k r, σ, w => ∃ o, all[k]? = some o /\ SL P all (loudQ C (SLTZ P all C z Q r)) [o] σ w
  | .l2 k1 r1 k2 r2, σ, w => (∃ o, all[k1]? = some o /\ SL P all (loudQ C (SLTZ P all C z Q r1)) [o] σ w) /\ ∃ o, all[k2]? = some o /\ SL P all (loudQ C (SLTZ P all C z Q r2)) [o] σ w
  | .l3 _ _ _ _ _ _, _, _ => False
theorem SLTZ_runTZ {P : Program} {ds : List Deferred} {n : Nat} {C : World -> Prop} {z : Nat} {Q : Post} (all : List Oper) (hok : ∀ o ∈ all, ∀ d, o.dst = some d -> d < n) : ∀ (l : Ord) (σ : Env) (w : World) (a : Act), Fr ds n σ a →
    SLTZ P all C z Q l σ w -> runTZ P all.toArray C z (fun a' w' => ∃ σ', Fr ds n σ' a' /\ Q .normal σ' w') l a w
  | .nil, σ, w, a, ha, ⟨o, ho, h⟩ => lOp_mono (fun _ _ hh => hh.2) (SL_lOp (K' := fun a' w' => ∃ σ', Fr ds n σ' a' /\ Q .normal σ' w') all hok (fun σ' w' a' ha' h' => ⟨σ', ha', h'⟩) ho ha h)
  | .q k r, σ, w, a, ha, ⟨o, v, ho, hv, hK⟩ => by
    have hmem : o ∈ all := List.mem_of_getElem? ho
    refine ⟨o, v, by simpa using ho, ?_, SLTZ_runTZ all hok r _ _ _ (ha.puto (hok o hmem) v) hK⟩
    unfold YV
    rw [wanted_eq ha all hok, ha.eval]
    cases hw : wantedE all o σ with
    | true => rw [hw] at hv; exact .inl ⟨rfl, hv⟩
    | false => rw [hw] at hv; exact .inr ⟨rfl, hv⟩
  | .l k r, σ, w, a, ha, ⟨o, ho, h⟩ => SL_lOp all hok (fun σ' w' a' ha' h' => SLTZ_runTZ all hok r σ' w' a' ha' h') ho ha h
  | .l2 k1 r1 k2 r2, σ, w, a, ha, ⟨⟨o, ho, h⟩, ⟨o', ho', h'⟩⟩ =>
    ⟨SL_lOp all hok (fun σ' w' a' ha' h' => SLTZ_runTZ all hok r1 σ' w' a' ha' h') ho ha h, SL_lOp all hok (fun σ' w' a' ha' h' => SLTZ_runTZ all hok r2 σ' w' a' ha' h') ho' ha h'⟩
  | .l3 _ _ _ _ _ _, _, _, _, _, h => h.elim
theorem W.drawTZ {r : Option Nat} {P : Program} {n : Nat} {Q : Post} {σ : Env} {w : World} {id : Nat} {l : List Oper} (C : World -> Prop) (order : Ord) (m z : Nat) (hm : P.follows .mixedOrders = true)
    (hB : (Region.noSelect l.toArray && Nat.beq (m + 1) l.length && canonTZ .any l.toArray z order m (Array.replicate l.length false)) = true)
    (hok : okDst n l = true) (h : ∀ w1, Ext w w1 -> C w1 /\ SLTZ P l C z Q order σ w1) : WR r P n (.region id l.toArray true) Q σ w := by
  intro ds a ha
  simp only [Bool.and_eq_true] at hB
  obtain ⟨⟨hs, hl⟩, hB⟩ := hB
  have hl' := Nat.eq_of_beq_eq_true hl
  obtain ⟨hC, hS⟩ := h w.drew (.drew w)
  refine wpIn_region_any hm (wpAny_of_Z (C := C) (z := z) (Q := fun a' w' => ∃ σ', Fr ds n σ' a' /\ Q .normal σ' w') (fun _ _ h => h) _ _ _ _ ?_)
  have := wpAnyZ_canonT (P := P) (md := .any) (Q := fun a' w' => ∃ σ', Fr ds n σ' a' /\ Q .normal σ' w') hs order m (Array.replicate l.length false) a w.drew hC hB (SLTZ_runTZ l (okDst_spec hok) order σ w.drew a ha hS)
  rw [hl'] at this
  simpa using this
section
variable {P : Program} {all : List Oper} {C : World -> Prop} {z : Nat} {Q : Post} {r r2 : Ord} {σ : Env} {w : World}
theorem tz_nil {o : Oper} (ho : all[z]? = some o) (h : SL P all (loudQ (fun _ => True) (Q .normal)) [o] σ w) : SLTZ P all C z Q .nil σ w := ⟨o, ho, h⟩
theorem tz_q {k d : Nat} {op : Op} {ty : TypeId} {pos : String} {af : Array Edge} {v : Value} (ho : all[k]? = some ⟨some d, op, ty, pos, af, none⟩)
    (h : ∀ w', C w' -> (execOp (ev σ) ⟨some d, op, ty, pos, af, none⟩).run P w' = .ok (.value v) w') (hk : SLTZ P all C z Q r (upd σ d v) w) : SLTZ P all C z Q (.q k r) σ w :=
  ⟨_, v, ho, h, hk⟩
theorem tz_l {k : Nat} {o : Oper} (ho : all[k]? = some o) (h : SL P all (loudQ C (SLTZ P all C z Q r)) [o] σ w) : SLTZ P all C z Q (.l k r) σ w := ⟨o, ho, h⟩
end
end Go.Nm
namespace Go.Nm
open Go
section
set_option linter.unusedSectionVars false
variable {α β : Type} [Flat α] [Flat β] [Inhabited β] {iv : β -> Value} {e1 e2 : TypeId} {v : Value} {us : List β} {T : List (List α)} {w0 w : World} {L L' R : List Chunk}
variable {P : Program} {all rest : List Oper} {Q : Post} {σ : Env} {d : Nat} {ty : TypeId} {pos : String} {af : Array Edge}
end
end Go.Nm
namespace Go.Nm
open Go
/-- A map of slices, with the rows to which they lead (they are read on only). -/
def cMem {κ : Type} [DecidableEq κ] (kenc : κ -> Value) (b : Nat) (B : Base) (F : κ -> M (List Int)) : Chunk where
  D k := k = b ∨ (B.D k /\ k < B.w.heap.size)
  ex := true
  ok w := (∃ f : κ -> Option Value, (cMap kenc id b f).ok w /\ ∀ k v, f k = some v -> ∃ l, (F k).Ends l /\ Sl B.cells v l) /\ (cRo B).ok w /\ ¬ (B.D b /\ b < B.w.heap.size)
  st w w' h hs k := by
    obtain ⟨⟨f, h1, h2⟩, h3, h4⟩ := h
    exact ⟨⟨f, (cMap kenc id b f).st w w' h1 hs fun j hj => k j (.inl hj), h2⟩, (cRo B).st w w' h3 hs fun j hj => k j (.inr hj), h4⟩
  bd w k h e := by
    obtain ⟨⟨f, h1, h2⟩, h3, h4⟩ := h
    rcases e with e | e
    · exact (cMap kenc id b f).bd w k h1 e
    · exact (cRo B).bd w k h3 e
/-- A base that nothing else knows. -/
def cRx (B : Base) : Chunk where
  D b := B.D b /\ b < B.w.heap.size
  ex := true
  ok w := (cRo B).ok w
  st w w' h hs k := (cRo B).st w w' h hs k
  bd w b h hb := (cRo B).bd w b h hb
section
variable {κ : Type} [DecidableEq κ] {kenc : κ -> Value} {b : Nat} {B : Base} {F : κ -> M (List Int)} {P : Program} {w w0 : World} {L L' R : List Chunk} {kt et t : TypeId}
variable {all rest : List Oper} {Q : Post} {σ : Env} {d : Nat} {ty : TypeId} {pos : String} {af : Array Edge}
theorem memLe : ∀ w, (cMem kenc b B F).ok w -> B.cells.Le w.cell? := fun w h => roLe w h.2.1
/-- A new one. -/
theorem t_mkmem {t' : TypeId} (kenc : κ -> Value) (F : κ -> M (List Int)) (H : St w0 w L R) (k : ∀ b B w', St w0 w' (cMem kenc b B F :: L) R -> SL P all Q rest (upd σ d (.map (some b))) w') : SL P all Q (⟨some d, .makeMap t' none, ty, pos, af, none⟩ :: rest) σ w :=
  s_mkmap fun b w' hn => k b ⟨w', fun _ => False⟩ w' (H.push (c := cMem kenc b ⟨w', fun _ => False⟩ F) hn.ext
    ⟨⟨fun _ => none, ⟨_, _, hn.same, MapR.nil kenc id 0⟩, fun k v h => by cases h⟩, ⟨Nat.le_refl _, fun _ h => h.elim⟩, fun h => h.1.elim⟩ (fun j hj => by
      rcases hj with hj | hj
      · rw [hj]; exact hn.ge
      · exact hj.1.elim))
/-- The map by itself, the rows beside it. -/
theorem St.memOpen {i : Nat} (H : St w0 w L R) (hk : L[i]? = some (cMem kenc b B F)) : ∃ f : κ -> Option Value, St w0 w (cMap kenc id b f :: cRx B :: L.eraseIdx i) R /\ ∀ k v, f k = some v -> ∃ l, (F k).Ends l /\ Sl B.cells v l := by
  have hlt := (List.getElem?_eq_some_iff.1 hk).1
  have hp : (cMem kenc b B F :: L.eraseIdx i).Perm L := by
    have e : L.take i ++ cMem kenc b B F :: L.drop (i + 1) = L := by
      rw [← (List.getElem?_eq_some_iff.1 hk).2, ← List.drop_eq_getElem_cons hlt, List.take_append_drop]
    rw [List.eraseIdx_eq_take_drop_succ]
    exact List.Perm.trans List.perm_middle.symm (by rw [e])
  have hS : Sep w (cMem kenc b B F :: (L.eraseIdx i ++ R)) := H.sep.perm (by rw [← List.cons_append]; exact hp.append_right R)
  obtain ⟨⟨⟨f, h1, h2⟩, h3, h4⟩, ha, hr⟩ := hS
  refine ⟨f, ⟨H.kp, h1, ?_, h3, ?_, hr⟩, h2⟩
  · intro c hc _ j hj hj'
    rcases List.mem_cons.1 hc with rfl | hc
    · rw [show j = b from hj] at hj'
      exact h4 hj'
    · exact ha c hc (by simp [cMem]) j (.inl hj) hj'
  · intro c hc _ j hj hj'
    exact ha c hc (by simp [cMem]) j (.inr hj) hj'
theorem St.memShut {f : κ -> Option Value} (H : St w0 w (cMap kenc id b f :: cRx B :: L) R) (hF : ∀ k v, f k = some v -> ∃ l, (F k).Ends l /\ Sl B.cells v l) : St w0 w (cMem kenc b B F :: L) R := by
  obtain ⟨h1, ha, h3, hb, hr⟩ := H.sep
  refine ⟨H.kp, ⟨⟨f, h1, hF⟩, h3, fun h => ha (cRx B) (by simp) (by simp [cMap]) b rfl h⟩, fun c hc _ j hj hj' => ?_, hr⟩
  rcases hj with hj | hj
  · exact ha c (List.mem_cons_of_mem _ hc) (by simp [cMap]) j hj hj'
  · exact hb c hc (by simp [cRx]) j hj hj'
theorem St.memShut1 {f : κ -> Option Value} {k : κ} {e : TypeId} {v : Value} {l : List Int} (H : St w0 w (cMap kenc id b (updF f k v) :: cRx B :: cOwn (α := Int) e v l :: L) R) (hF : ∀ k v, f k = some v -> ∃ l, (F k).Ends l /\ Sl B.cells v l) (hE : (F k).Ends l) :
    ∃ B', B.cells.Le B'.cells /\ Sl B'.cells v l /\ St w0 w (cMem kenc b B' F :: L) R := by
  have hS := H.sep
  obtain ⟨h1, ha, h3, hb, hown, hc, hr⟩ := hS
  have hlt : ∀ j, B.D j /\ j < B.w.heap.size -> (cRo B).D j := fun j hj => hj
  have hBB : B.cells.Le (Base.cells ⟨w, fun j => (B.D j /\ j < B.w.heap.size) ∨ v.ownBlock = some j⟩) := fun a c hc => by
    have hd : B.D a.block := by
      unfold Base.cells at hc
      split at hc
      · assumption
      · cases hc
    have hlt : a.block < B.w.heap.size := by
      unfold Base.cells at hc
      rw [if_pos hd] at hc
      exact World.block_lt_of_cell? B.w a hc
    unfold Base.cells
    rw [if_pos (show (B.D a.block /\ a.block < B.w.heap.size) ∨ v.ownBlock = some a.block from .inl ⟨hd, hlt⟩)]
    exact roLe w h3 a c hc
  have hvl : Sl (Base.cells ⟨w, fun j => (B.D j /\ j < B.w.heap.size) ∨ v.ownBlock = some j⟩) v l := (ownSl hown).mono fun a c hc => by
    have h1 := ownLe w hown a c hc
    unfold Base.cells
    rw [if_pos (Or.inr ?_)]
    · exact h1
    · unfold rowC at hc
      split at hc
      · rename_i p _ _
        split at hc
        · rename_i ha
          rw [ha]; rfl
        · cases hc
      · cases hc
  refine ⟨⟨w, fun j => (B.D j /\ j < B.w.heap.size) ∨ v.ownBlock = some j⟩, hBB, hvl, H.kp, ⟨⟨updF f k v, h1, fun k' v' hk' => ?_⟩, ⟨Nat.le_refl _, fun _ _ _ => rfl⟩, fun h => ?_⟩, fun c hc' _ j hj hj' => ?_, hr⟩
  · unfold updF at hk'
    split at hk'
    · rename_i ek
      subst ek
      obtain rfl := Option.some.inj hk'
      exact ⟨l, hE, hvl⟩
    · obtain ⟨l', e1, e2⟩ := hF k' v' hk'
      exact ⟨l', e1, e2.mono hBB⟩
  · rcases h.1 with h | h
    · exact ha (cRx B) (by simp) (by simp [cMap]) b rfl h
    · exact ha (cOwn (α := Int) e v l) (by simp) (by simp [cMap]) b rfl h
  · rcases hj with hj | ⟨hj | hj, _⟩
    · exact ha c (List.mem_cons_of_mem _ (List.mem_cons_of_mem _ hc')) (by simp [cMap]) j hj hj'
    · exact hb c (List.mem_cons_of_mem _ hc') (by simp [cRx]) j hj hj'
    · exact hc c hc' (by simp [cOwn]) j hj hj'
end
end Go.Nm
namespace Go.Nm
open Go
section
variable {P : Program} {w : World}
/-- What lies behind a part of a row is made zero. -/
theorem clear_behind {t ty e sz by' : Nat} {z : Value} (T : SlT P t e sz by' z) (h1 : ∀ u ∈ z.cells.toList, u.oneCell' = true) {g m n c cap : Nat} {cur : Array Value} (hg : w.heap[g]? = some (.cells cur e (0, 0))) (hmn : m + n <= cap) (hcs : cur.size = cap * sz) (a : Option Addr)
    (ha : 0 < n -> a = some ⟨g, m * sz, none⟩) :
    ∃ cs : Array Value, (Builtin.clear_ #[t] ty #[.slice a n c]).run P w = .ok (.tuple #[]) (w.setRow g cs) /\ cs.size = cur.size /\ cs.toList.take (m * sz) = cur.toList.take (m * sz) := by
  obtain ⟨i, hi, hz, hsz, hby⟩ := T.parts
  cases n with
  | zero =>
    refine ⟨cur, ?_, rfl, rfl⟩
    rw [setRow_self w g cur e (0, 0) hg]
    cases a <;> simp [Builtin.clear_, run_underlying T.und]
  | succ n =>
    obtain rfl := ha (by omega)
    have hzv : ∀ w, (zeroValue e).run P w = .ok z w := fun w => by simp [zeroValue, typeInfo, hi, hz]
    have hl : (Builtin.zeroCells z.cells (n + 1)).toList.length = (n + 1) * sz := by rw [Array.length_toList, size_zeroCells, T.zs]
    have hle : (m + (n + 1)) * sz <= cap * sz := Nat.mul_le_mul_right _ hmn
    rw [Nat.add_mul] at hle
    have hst := run_storeCells_at P g (m * sz) e (Builtin.zeroCells z.cells (n + 1)).toList 0 cur w hg (by rw [hl, hcs]; simp only [Nat.add_zero]; exact hle) (by
      intro v hv
      have hp := T.pos
      rw [← T.zs] at hp
      simp only [Builtin.zeroCells, Array.toList_map, List.mem_map] at hv
      obtain ⟨k, _, rfl⟩ := hv
      have hk := Nat.mod_lt k hp
      rw [getElem!_pos z.cells _ hk]
      exact h1 _ (by simp))
    simp only [Nat.add_zero] at hst
    have q3 : ((cur.toList.take (m * sz) ++ (Builtin.zeroCells z.cells (n + 1)).toList ++ cur.toList.drop (m * sz + (Builtin.zeroCells z.cells (n + 1)).toList.length)).toArray).toList.take (m * sz) = cur.toList.take (m * sz) := by
      show (cur.toList.take (m * sz) ++ _ ++ _).take (m * sz) = _
      rw [List.append_assoc]
      exact List.take_left' (by rw [List.length_take, Array.length_toList]; omega)
    have q2 : ((cur.toList.take (m * sz) ++ (Builtin.zeroCells z.cells (n + 1)).toList ++ cur.toList.drop (m * sz + (Builtin.zeroCells z.cells (n + 1)).toList.length)).toArray).size = cur.size := by
      simp only [List.size_toArray, List.length_append, List.length_take, List.length_drop, Array.length_toList] at hl ⊢
      omega
    refine ⟨_, ?_, q2, q3⟩
    generalize w.setRow g (cur.toList.take (m * sz) ++ (Builtin.zeroCells z.cells (n + 1)).toList ++ cur.toList.drop (m * sz + (Builtin.zeroCells z.cells (n + 1)).toList.length)).toArray = W2 at hst ⊢
    simp [Builtin.clear_, run_underlying T.und, hzv]
    rw [hst]
    rfl
theorem slice_hi {t e : TypeId} {sz : Nat} (hu : P.underlying t = some (.slice e)) (hs : (P.info? e).map (·.size) = some sz) {g n c i : Nat} (h2 : i <= n) (h3 : n <= c) : (Instr.sliceAt t (.slice (some ⟨g, 0, none⟩) n c) none (some (I i)) none).run P w = .ok (.slice (some ⟨g, 0, none⟩) i c) w := by
  have e1 : i <= c := Nat.le_trans h2 h3
  simp [Instr.sliceAt, Instr.slice, Instr.sliceBounds, Instr.sliceBound, asIntOf, run_underlying hu, run_sizeOf hs, Addr.add]
  intro h
  omega

variable {all rest : List Oper} {Q : Post} {σ : Env} {w0 : World} {L R : List Chunk} {ty : TypeId} {pos : String} {af : Array Edge}
/-- What is behind a place is made zero: the row is cut there. -/
theorem t_clrT {α : Type} [Flat α] {dst : Option Nat} {t e by' k : Nat} {z u v : Value} {l : List α} {x : Operand} (T : SlT P t e (Elt.sz α) by' z) (hz : ∀ u ∈ z.cells.toList, u.oneCell' = true) (H : St w0 w L R) (hk : L[k]? = some (cOwn (α := α) e v l)) {i : Int} (h0 : 0 <= i) (h1 : i <= l.length)
    (hr : ∀ w, (Instr.sliceAt t v (some (.int .i64 i)) none none).run P w = .ok u w) (hx : ev σ x = u)
    (kk : ∀ vc w', (∀ w, (Instr.sliceAt t v none (some (.int .i64 i)) none).run P w = .ok vc w) -> vc.cells = #[vc] -> vc.oneCell' = true -> St w0 w' (L.set k (cOwn (α := α) e vc (l.take i.toNat))) R -> SL P all Q rest (updo σ dst (.tuple #[])) w') : SL P all Q (⟨dst, .call ⟨.builtin .clear, #[x], #[t]⟩, ty, pos, af, none⟩ :: rest) σ w := by
  obtain ⟨i, rfl⟩ := Int.eq_ofNat_of_zero_le h0
  have h1 : i <= l.length := by omega
  rw [Int.toNat_natCast] at kk
  have ho : OwnF 0 e w v l := H.get hk
  rcases ho.2 with ⟨hv, hn⟩ | ⟨g, cap, cur, hv, hb, hg, hc, hm, hcs, htake⟩
  · obtain rfl : l = [] := List.eq_nil_of_length_eq_zero hn
    obtain rfl : i = 0 := by simpa using h1
    subst hv
    have hu : u = .slice none 0 0 := by
      have := hr w
      simp [Instr.sliceAt, Instr.slice, Instr.sliceBounds, Instr.sliceBound, asIntOf, run_underlying T.und, run_sizeOf T.size] at this
      exact this.symm
    subst hu
    refine s_any (v := .tuple #[]) (w' := w) ?_ (kk (.slice none 0 0) w (fun w => ?_) rfl rfl ?_)
    · simp [execOp, resolve, invoke, builtin, hx, Builtin.clear_, run_underlying T.und]
    · simp [Instr.sliceAt, Instr.slice, Instr.sliceBounds, Instr.sliceBound, asIntOf, run_underlying T.und, run_sizeOf T.size]
    · exact H.own (B := 0) hk ho ⟨rfl, rfl, Nat.le_refl _, fun _ _ _ => rfl, fun g _ => Nat.zero_le _, fun _ => rfl⟩ (fun _ _ h => h) rfl
  · subst hv
    have hu : u = .slice (if cap = i then some ⟨g, 0, none⟩ else some ⟨g, i * Elt.sz α, none⟩) (l.length - i) (cap - i) := by
      have h2 := hr w
      have h3 : (Instr.sliceAt t (.slice (some ⟨g, 0, none⟩) l.length cap) (some (.int .i64 (i : Int))) none none).run P w = .ok (.slice (if cap = i then some ⟨g, 0, none⟩ else some ⟨g, i * Elt.sz α, none⟩) (l.length - i) (cap - i)) w := by
        simp [Instr.sliceAt, Instr.slice, Instr.sliceBounds, Instr.sliceBound, asIntOf, run_underlying T.und, run_sizeOf T.size]
        rw [if_pos (by omega)]
        simp only [Addr.add]
        by_cases h : i * Elt.sz α = 0
        · simp [h]
        · simp [h]
      rw [h3] at h2
      cases h2
      rfl
    subst hu
    have ht1 : cur.toList.take (i * Elt.sz α) = (l.take i).flatMap Flat.enc := by
      have hl1 : (l.take i).length = i := by rw [List.length_take]; omega
      have e1 : ((l.take i).flatMap Flat.enc : List Value).length = i * Elt.sz α := by rw [flat_len, hl1]
      have e2 : (l.flatMap Flat.enc : List Value) = (l.take i).flatMap Flat.enc ++ (l.drop i).flatMap Flat.enc := by rw [← List.flatMap_append, List.take_append_drop]
      rw [← e1]
      have e3 : cur.toList.take ((l.take i).flatMap Flat.enc : List Value).length = (cur.toList.take (l.length * Elt.sz α)).take ((l.take i).flatMap Flat.enc : List Value).length := by
        rw [List.take_take, e1, Nat.min_eq_left (Nat.mul_le_mul_right _ (by omega))]
      rw [e3, htake, e2, List.take_left]
    have hcl : ∀ ty, ∃ cs : Array Value, (Builtin.clear_ #[t] ty #[.slice (if cap = i then some ⟨g, 0, none⟩ else some ⟨g, i * Elt.sz α, none⟩) (l.length - i) (cap - i)]).run P w = .ok (.tuple #[]) (w.setRow g cs) /\ cs.size = cur.size /\ cs.toList.take (i * Elt.sz α) = cur.toList.take (i * Elt.sz α) := fun ty =>
      clear_behind (cap := cap) T hz hg (by omega) hcs _ (fun h => by rw [if_neg (by omega)])
    obtain ⟨cs, r1, r2, r3⟩ := hcl ty
    refine s_any (v := .tuple #[]) (w' := w.setRow g cs) ?_ (kk (.slice (some ⟨g, 0, none⟩) i cap) _ (fun w => slice_hi T.und T.size h1 hc) rfl rfl ?_)
    · simp [execOp, resolve, invoke, builtin, hx, r1]
    · refine H.own (B := 0) (v' := .slice (some ⟨g, 0, none⟩) i cap) (l' := l.take i) hk ?_ ⟨rfl, rfl, by simp, fun b _ hne => setRow_other w g b _ (fun e => hne (by rw [e]; rfl)), fun g' hg' => (ho.lt g' hg').1, frozen_setRow w g _⟩ (fun _ _ h => h) rfl
      refine ⟨by rw [flat_len], .inr ⟨g, cap, cs, by rw [List.length_take, Nat.min_eq_left h1], hb, setRow_heap _ _ _ _ _ _ hg, by rw [List.length_take]; omega, hm, by rw [r2]; exact hcs, ?_⟩⟩
      rw [List.length_take, Nat.min_eq_left h1, r3, ht1]
end
end Go.Nm
namespace Go.Nm
open Go
universe u
theorem qy1 {p : Prop} [Decidable p] : (decide p = true) = p := decide_eq_true_eq
theorem qy2 {p : Prop} [Decidable p] : (decide p = false) ↔ ¬p := decide_eq_false_iff_not
theorem qy3 {α : Type _} [BEq α] [LawfulBEq α] {a b : α} : (a == b) = true ↔ a = b := beq_iff_eq
theorem qy4 {α : Type _} [BEq α] [LawfulBEq α] {a b : α} : (a != b) = true ↔ a ≠ b := bne_iff_ne
theorem qy5 {α : Type _} [BEq α] [LawfulBEq α] {a b : α} : (a == b) = false ↔ a ≠ b := beq_eq_false_iff_ne
theorem qy6 {α : Type _} [BEq α] [LawfulBEq α] {a b : α} : (a != b) = false ↔ a = b := bne_eq_false_iff_eq
theorem qy7 {p : Prop} [Decidable p] : ¬¬p ↔ p := Decidable.not_not
abbrev Pq (b : Nat) : Value := .pointer (some ⟨b, 0, none⟩)
abbrev Oq (b o : Nat) : Value := .pointer (some ⟨b, o, none⟩)
class NthR {α : Type u} (l : List α) (i : Nat) (x : outParam α) : Prop where
  is : l[i]? = some x
instance {α : Type u} {l : List α} {x : α} : NthR (x :: l) 0 x := ⟨rfl⟩
instance {α : Type u} {l : List α} {x y : α} {i : Nat} [h : NthR l i x] : NthR (y :: l) (i + 1) x := ⟨h.is⟩
instance (priority := high) {α : Type u} {l : List α} {x a b c d : α} {i : Nat} [h : NthR l i x] : NthR (a :: b :: c :: d :: l) (i + 4) x := ⟨h.is⟩
class PickR {α : Type u} (l : List α) (i : List Nat) (o : outParam (List α)) : Prop where
  is : i.mapM (fun j => l[j]?) = some o
instance {α : Type u} {l : List α} : PickR l [] [] := ⟨rfl⟩
instance {α : Type u} {l o : List α} {i : Nat} {is : List Nat} {x : α} [h : NthR l i x] [k : PickR l is o] : PickR l (i :: is) (x :: o) := ⟨by rw [List.mapM_cons, h.is, k.is]; rfl⟩
class AppR {α : Type u} (a b : List α) (o : outParam (List α)) : Prop where
  is : a ++ b = o
instance {α : Type u} {b : List α} : AppR [] b b := ⟨rfl⟩
instance {α : Type u} {x : α} {a b o : List α} [h : AppR a b o] : AppR (x :: a) b (x :: o) := ⟨by rw [List.cons_append, h.is]⟩
class LenR {α : Type u} (l : List α) (n : Nat) : Prop where
  is : l.length = n
instance {α : Type u} : LenR ([] : List α) 0 := ⟨rfl⟩
instance {α : Type u} {l : List α} {x : α} {n : Nat} [h : LenR l n] : LenR (x :: l) (n + 1) := ⟨by rw [List.length_cons, h.is]⟩
class EndR {α : Type u} (n : Nat) (l : List α) (a b : outParam (List α)) : Prop where
  is : a ++ b = l
instance (priority := low) {α : Type u} {x : α} {n : Nat} {l a b : List α} [h : EndR n l a b] : EndR n (x :: l) (x :: a) b := ⟨by rw [List.cons_append, h.is]⟩
instance {α : Type u} {n : Nat} {l : List α} [LenR l n] : EndR n l [] l := ⟨rfl⟩
class SetR {α : Type u} (l : List α) (k : Nat) (x : α) (o : outParam (List α)) : Prop where
  is : l.set k x = o
instance {α : Type u} {l : List α} {x y : α} : SetR (y :: l) 0 x (x :: l) := ⟨rfl⟩
instance {α : Type u} {l o : List α} {x y : α} {k : Nat} [h : SetR l k x o] : SetR (y :: l) (k + 1) x (y :: o) := ⟨by rw [List.set_cons_succ, h.is]⟩
class NfR {α : Type u} (l : List α) (o : outParam (List α)) : Prop where
  is : l = o
instance {α : Type u} : NfR ([] : List α) [] := ⟨rfl⟩
instance {α : Type u} {x : α} {l o : List α} [h : NfR l o] : NfR (x :: l) (x :: o) := ⟨by rw [← h.is]⟩
instance {α : Type u} {l o p : List α} {k : Nat} {x : α} [h : NfR l o] [s : SetR o k x p] : NfR (l.set k x) p := ⟨by rw [h.is, s.is]⟩
instance {α : Type u} {a b a' b' o : List α} [h : NfR a a'] [h' : NfR b b'] [s : AppR a' b' o] : NfR (a ++ b) o := ⟨by rw [h.is, h'.is, s.is]⟩
instance {α : Type u} {x : α} {l o : List α} [h : NfR l o] : NfR ((x :: l).eraseIdx 0) o := ⟨by rw [← h.is]; rfl⟩
instance {α : Type u} {x : α} {l o : List α} {k : Nat} [h : NfR (l.eraseIdx k) o] : NfR ((x :: l).eraseIdx (k + 1)) (x :: o) := ⟨by rw [List.eraseIdx_cons_succ, h.is]⟩
class OverR {α : Type u} (cs : List α) (off : Nat) (vs : List α) (o : outParam (List α)) : Prop where
  is : cs.take off ++ vs ++ cs.drop (off + vs.length) = o
instance {α : Type u} {cs : List α} : OverR cs 0 [] cs := ⟨by simp⟩
instance {α : Type u} {c v : α} {cs vs o : List α} [h : OverR cs 0 vs o] : OverR (c :: cs) 0 (v :: vs) (v :: o) := ⟨by
  have := h.is
  simp only [List.take_zero, List.nil_append, Nat.zero_add] at this ⊢
  simp [this]⟩
instance {α : Type u} {c : α} {cs vs o : List α} {n : Nat} [h : OverR cs n vs o] : OverR (c :: cs) (n + 1) vs (c :: o) := ⟨by
  have := h.is
  rw [List.take_succ_cons, show n + 1 + vs.length = n + vs.length + 1 by omega, List.drop_succ_cons, List.cons_append, List.cons_append, this]⟩
section
variable {w0 w w' : World} {L L' L1 R A T : List Chunk}
theorem St.os {α : Type} [Flat α] {e : TypeId} {v : Value} {l : List α} (h : St w0 w L R) (k : Nat) [n : NthR L k (cOwn e v l)] : Sl (rowC v (l.flatMap Flat.enc)) v l := ownSl (h.get n.is)
theorem St.ol {α : Type} [Flat α] {e : TypeId} {v : Value} {l : List α} (h : St w0 w L R) (k : Nat) [n : NthR L k (cOwn e v l)] : (rowC v (l.flatMap Flat.enc)).Le w.cell? := ownLe w (h.get n.is)
theorem rdo {α : Type} [Flat α] {e : TypeId} {v : Value} {l : List α} (k : Nat) [n : NthR L k (cOwn e v l)] : Reads (L ++ R) (rowC v (l.flatMap Flat.enc)) := Reads.of n.is ownLe
theorem St.bl {b : Nat} {cs : List Value} {t : TypeId} (h : St w0 w L R) (k : Nat) [n : NthR L k (cBlk b cs t)] : w.heap[b]? = some (.cells cs.toArray t (0, 0)) := h.blk n.is
theorem St.nf (h : St w0 w L R) [n : NfR L L'] : St w0 w L' R := by
  have := n.is
  subst this
  exact h
theorem St.pk (h : St w0 w L R) (i : List Nat) [n : NfR L L1] [p : PickR L1 i L'] (hn : i.Nodup := by decide) : St w0 w L' R := h.nf.pick i hn p.is
theorem St.bk (h : St w0 w L R) (h' : St w w' A (T ++ R)) [a : NfR (A ++ T) L'] : St w0 w' L' R := h.back h' a.is
theorem St.gt (h : St w0 w L R) (k : Nat) [n : NfR L L1] [s : EndR k L1 A T] : St w w A (T ++ R) := h.nf.give s.is
end
section
variable {P : Program} {all rest : List Oper} {Q : Post} {σ : Env} {w0 w : World} {L L' R : List Chunk} {ty : TypeId} {pos : String} {af : Array Edge}
theorem zM {d : Nat} {x : Operand} (v : Value) (h : ev σ x = v) (k : SL P all Q rest (upd σ d v) w) : SL P all Q (⟨some d, .move x, ty, pos, af, none⟩ :: rest) σ w := s_val (x_mv h) k
theorem zA {d : Nat} {x : Operand} (v : Value) (h : ev σ x = v) (k : SL P all Q rest (upd σ d v) w) : SL P all Q (⟨some d, .assign x, ty, pos, af, none⟩ :: rest) σ w := s_val (x_as h) k
theorem zC {d : Nat} {op : BinOp} {t yt : TypeId} {x y : Operand} (a b : Int) (r : Bool) (hx : ev σ x = .int .i64 a) (hy : ev σ y = .int .i64 b) (hr : cmpV op a b = some r) (k : SL P all Q rest (upd σ d (.bool r)) w) : SL P all Q (⟨some d, .binOp op t x y yt, ty, pos, af, none⟩ :: rest) σ w := s_val (x_cmp hx hy hr) k
theorem zR {d : Nat} {op : BinOp} {t yt : TypeId} {x y : Operand} (a b r : Int) (hx : ev σ x = .int .i64 a) (hy : ev σ y = .int .i64 b) (hr : ariV op a b = some r) (h : -9223372036854775808 <= r /\ r <= 9223372036854775807) (k : SL P all Q rest (upd σ d (.int .i64 r)) w) : SL P all Q (⟨some d, .binOp op t x y yt, ty, pos, af, none⟩ :: rest) σ w := s_val (x_ari hx hy hr h) k
theorem zX {d i : Nat} {x : Operand} (vs : List Value) (v : Value) (h : ev σ x = .tuple vs.toArray) (hv : vs[i]? = some v) (k : SL P all Q rest (upd σ d v) w) : SL P all Q (⟨some d, .extract x i, ty, pos, af, none⟩ :: rest) σ w := s_val (x_ext h hv) k
theorem t_sw {dst : Option Nat} {t : TypeId} {x y : Operand} {b n : Nat} {cs cs' : List Value} {et : TypeId} (k off : Nat) (vs : List Value) (v : Value) (H : St w0 w L R) [hk : NthR L k (cBlk b cs et)] [hc : OverR cs off vs cs'] [hL : SetR L k (cBlk b cs' et) L'] (hx : ev σ x = .pointer (some ⟨b, off, none⟩)) (hy : ev σ y = v)
    (hs : (P.info? t).map (·.size) = some n) (hv : v.cells = vs.toArray) (hn : vs.length = n) (hl : Nat.ble (off + n) cs.length = true) (h1 : vs.all (·.oneCell') = true)
    (kk : ∀ w', St w0 w' L' R -> SL P all Q rest (updo σ dst undef) w') : SL P all Q (⟨dst, .store t x y, ty, pos, af, none⟩ :: rest) σ w :=
  t_st H hk.is hx hy hs hv hn hl h1 (by rw [← hn]; exact hc.is) hL.is kk
end
end Go.Nm
namespace Go.Nm
open Go
theorem perm_sub {α : Type} [DecidableEq α] : ∀ (a b : List α), a.Nodup -> (∀ x ∈ a, x ∈ b) -> b.length <= a.length -> a.Perm b
  | [], b, _, _, h => by
    have : b = [] := List.length_eq_zero_iff.1 (by simpa using h)
    rw [this]
  | x :: a, b, hn, hs, h => by
    rw [List.nodup_cons] at hn
    have hx := hs x (by simp)
    refine List.Perm.trans (List.Perm.cons x (perm_sub a (b.erase x) hn.2 (fun y hy => ?_) ?_)) (List.perm_cons_erase hx).symm
    · exact (List.mem_erase_of_ne (fun e : y = x => hn.1 (by rw [← e]; exact hy))).2 (hs y (by simp [hy]))
    · rw [List.length_erase_of_mem hx]
      rw [List.length_cons] at h
      omega
theorem inj_map {α β : Type} {f : α -> β} : ∀ {l : List α}, (l.map f).Nodup -> ∀ {x y}, x ∈ l -> y ∈ l -> f x = f y -> x = y
  | [], _, _, _, h, _, _ => by cases h
  | z :: l, hn, x, y, hx, hy, e => by
    rw [List.map_cons, List.nodup_cons] at hn
    rcases List.mem_cons.1 hx with hx | hx <;> rcases List.mem_cons.1 hy with hy | hy
    · rw [hx, hy]
    · exact absurd (List.mem_map.2 ⟨y, hy, by rw [← e, hx]⟩) hn.1
    · exact absurd (List.mem_map.2 ⟨x, hx, by rw [e, hy]⟩) hn.1
    · exact inj_map hn.2 hx hy e
theorem St.perm {w0 w : World} {L L' R : List Chunk} (h : St w0 w L R) (p : L.Perm L') : St w0 w L' R := by
  refine ⟨h.kp, ?_⟩
  have hS := h.sep
  rw [Sep.iff] at hS ⊢
  have q : (L ++ R).Perm (L' ++ R) := p.append_right R
  exact ⟨fun c hc => hS.1 c (q.mem_iff.2 hc), (q.pairwise_iff fun h => Apart.symm h).1 hS.2⟩
/-- What is allocated: where its pointer goes, its type, its cells. -/
abbrev Alc := Nat × TypeId × List Value
def mixE (ds : List Nat) (g : Nat -> Value) (σ : Env) : Env := fun t => bif ds.contains t then g t else σ t
theorem beqF {t d : Nat} (e : t ≠ d) : Nat.beq t d = false := by
  rw [← Bool.not_eq_true]
  exact fun hb => e (Nat.eq_of_beq_eq_true hb)
theorem mix_upd {ds : List Nat} {g : Nat -> Value} {σ : Env} {d : Nat} {v : Value} (h : ds.contains d = false) : upd (mixE ds g σ) d v = mixE ds g (upd σ d v) := by
  funext t
  show (bif Nat.beq t d then v else bif ds.contains t then g t else σ t) = bif ds.contains t then g t else bif Nat.beq t d then v else σ t
  by_cases e : t = d
  · subst e
    rw [h, Nat.beq_refl]
    rfl
  · rw [beqF e]
    rfl
theorem mix_put {ds : List Nat} {g : Nat -> Value} {σ : Env} {d : Nat} {v : Value} (h : ds.contains d = true) : upd (mixE ds g σ) d v = mixE ds (fun t => bif Nat.beq t d then v else g t) σ := by
  funext t
  show (bif Nat.beq t d then v else bif ds.contains t then g t else σ t) = bif ds.contains t then (bif Nat.beq t d then v else g t) else σ t
  by_cases e : t = d
  · subst e
    rw [h, Nat.beq_refl]
    rfl
  · rw [beqF e]
    rfl
def ptrOf (b : Nat) : Value := .pointer (some ⟨b, 0, none⟩)
/-- Behind all of them: each has its block. -/
def FinA : List Alc -> List Chunk -> Env -> (List Chunk -> Env -> Prop) -> Prop
  | [], acc, σ, K => K acc σ
  | (d, t, z) :: r, acc, σ, K => ∀ b, FinA r (acc ++ [cBlk b z t]) (upd σ d (.pointer (some ⟨b, 0, none⟩))) K
theorem FinA.go {K : List Chunk -> Env -> Prop} (b : Nat -> Nat) : ∀ (sp : List Alc) (acc : List Chunk) (σ : Env), FinA sp acc σ K -> K (acc ++ sp.map fun x => cBlk (b x.1) x.2.2 x.2.1) (sp.foldl (fun σ x => upd σ x.1 (ptrOf (b x.1))) σ)
  | [], acc, σ, h => by simpa [FinA] using h
  | (d, t, z) :: r, acc, σ, h => by
    have := FinA.go b r _ _ (h (b d))
    rw [List.append_assoc] at this
    exact this
theorem fold_mix (b : Nat -> Nat) : ∀ (sp : List Alc) (σ : Env), sp.foldl (fun σ x => upd σ x.1 (ptrOf (b x.1))) σ = mixE (sp.map (·.1)) (fun t => ptrOf (b t)) σ
  | [], σ => rfl
  | (d, t, z) :: r, σ => by
    rw [List.foldl_cons, fold_mix b r]
    funext k
    show (bif (r.map fun x : Alc => x.1).contains k then ptrOf (b k) else bif Nat.beq k d then ptrOf (b d) else σ k) = bif (d :: r.map fun x : Alc => x.1).contains k then ptrOf (b k) else σ k
    rw [List.contains_cons]
    by_cases e : k = d
    · subst e
      rw [Nat.beq_refl, beq_self_eq_true, Bool.true_or]
      cases (List.map (fun x : Alc => x.1) r).contains k <;> rfl
    · have h2 : (k == d) = false := beq_eq_false_iff_ne.2 e
      rw [beqF e, h2, Bool.false_or]
      rfl
/-- The check: what may come at each time is the next one of the row, or a block. -/
def canonA (md : Region.Mode) (ops : Array Oper) (A : List Nat) (tail : Ord) (nt : Nat) : Nat -> List (Nat × Bool) -> Array Bool -> Bool
  | 0, [], listed => canonT md ops tail nt listed
  | n + 1, [], listed => !(Region.ready md ops listed).isEmpty && (Region.ready md ops listed).all fun i => A.contains i && canonA md ops A tail nt n [] (listed.setIfInBounds i true)
  | n + 1, (k, true) :: r, listed => (Region.ready md ops listed).contains k && Region.free md ops listed k && canonA md ops A tail nt n r (listed.setIfInBounds k true)
  | n + 1, (k, false) :: r, listed => !(Region.ready md ops listed).isEmpty && (Region.ready md ops listed).all fun i => (i == k && canonA md ops A tail nt n r (listed.setIfInBounds k true)) || (!(i == k) && A.contains i && canonA md ops A tail nt n ((k, false) :: r) (listed.setIfInBounds i true))
  | 0, _ :: _, _ => false
section
variable (P : Program) (all : List Oper) (C : World -> Prop) (w0 : World) (R : List Chunk) (ds : List Nat) (Fin : Env -> List Chunk -> Prop)
/-- The row, whatever blocks there are beside. -/
def SLA : List (Nat × Bool) -> Env -> List Chunk -> Prop
  | [], σ, L => (∀ Lx w, St w0 w (L ++ Lx) R -> C w) /\ Fin σ L
  | (k, true) :: r, σ, L => (∀ Lx w, St w0 w (L ++ Lx) R -> C w) /\ ∃ o d v, all[k]? = some o /\ o.dst = some d /\ o.guard = none /\ ds.contains d = false /\ (∀ g w', C w' -> (execOp (ev (mixE ds g σ)) o).run P w' = .ok (.value v) w') /\ SLA r (upd σ d v) L
  | (k, false) :: r, σ, L => (∀ Lx w, St w0 w (L ++ Lx) R -> C w) /\ ∃ o, all[k]? = some o /\ ∀ g Lx w, St w0 w (L ++ Lx) R -> SL P all (loudQ C fun σ' w' => ∃ σ'' L', σ' = mixE ds g σ'' /\ St w0 w' (L' ++ Lx) R /\ SLA r σ'' L') [o] (mixE ds g σ) w
end
theorem SLA.cl {P : Program} {all : List Oper} {C : World -> Prop} {w0 : World} {R : List Chunk} {ds : List Nat} {Fin : Env -> List Chunk -> Prop} {r : List (Nat × Bool)} {σ : Env} {L : List Chunk} (h : SLA P all C w0 R ds Fin r σ L) : ∀ Lx w, St w0 w (L ++ Lx) R -> C w := by
  match r, h with
  | [], h => exact h.1
  | (k, true) :: r, h => exact h.1
  | (k, false) :: r, h => exact h.1
theorem listed_lt {md : Region.Mode} {ops : Array Oper} {listed : Array Bool} {i : Nat} (h : i ∈ Region.ready md ops listed) : listed.getD i true = false := (mem_ready.1 h).1
/-- How far the allocations are. -/
structure AlS (P : Program) (all : List Oper) (sp : List (Nat × Alc)) (done : List Alc) (g : Nat -> Value) (Lx : List Chunk) : Prop where
  ex : ∃ b : Nat -> Nat, (∀ x ∈ done, g x.1 = ptrOf (b x.1)) /\ Lx.Perm (done.map fun x => cBlk (b x.1) x.2.2 x.2.1)
theorem wpAnyC_A {P : Program} {ds : List Deferred} {n : Nat} {C : World -> Prop} {Q : Post} {md : Region.Mode} (all : List Oper) (hok : ∀ o ∈ all, ∀ d, o.dst = some d -> d < n) (hs : Region.noSelect all.toArray = true) (w0 : World) (R : List Chunk) (sp : List (Nat × Alc)) (tail : Ord) (nt : Nat)
    (hal : ∀ x ∈ sp, ∃ ty pos af, all[x.1]? = some ⟨some x.2.1, .alloc x.2.2.1, ty, pos, af, none⟩ /\ ∃ z, (P.info? x.2.2.1).map (·.zero) = some (some z) /\ z.cells = x.2.2.2.toArray) (hnd : (sp.map fun x => x.2.1).Nodup) (hnd1 : (sp.map fun x => x.1).Nodup) :
    ∀ (m : Nat) (r : List (Nat × Bool)) (listed : Array Bool) (a : Act) (w : World) (σ : Env) (g : Nat -> Value) (L Lx : List Chunk) (done : List (Nat × Alc)) (b : Nat -> Nat),
      (∀ x ∈ done, x ∈ sp /\ listed.getD x.1 true = true) -> done.Nodup -> (∀ x ∈ done, g x.2.1 = ptrOf (b x.2.1)) -> Lx.Perm (done.map fun x => cBlk (b x.2.1) x.2.2.2 x.2.2.1) →
      m + done.length = (r.length + sp.length) →
      Fr ds n (mixE (sp.map fun x => x.2.1) g σ) a -> St w0 w (L ++ Lx) R →
      canonA md all.toArray (sp.map fun x => x.1) tail nt m r listed = true →
      SLA P all C w0 R (sp.map fun x => x.2.1) (fun σ L => FinA (sp.map fun x => x.2) [] σ fun acc σ => ∀ w, St w0 w (L ++ acc) R -> SLT P all C Q tail σ w) r σ L →
      wpAnyC P md all.toArray C (fun a' w' => ∃ σ', Fr ds n σ' a' /\ Q .normal σ' w') (m + nt) listed a w := by
  intro m
  induction m with
  | zero =>
    intro r listed a w σ g L Lx done b hd hdn hg hp hm ha H hB hS
    cases r with
    | cons x r => simp [canonA] at hB
    | nil =>
      simp only [canonA] at hB
      obtain ⟨hcl, hF⟩ := hS
      have hF := FinA.go b _ _ _ hF
      -- all of them are done
      have hperm : done.Perm sp := by
        classical
        exact perm_sub done sp hdn (fun x hx => (hd x hx).1) (by simp at hm; omega)
      have hL : Lx.Perm ((sp.map fun x => x.2).map fun x : Alc => cBlk (b x.1) x.2.2 x.2.1) := by
        rw [List.map_map]
        exact hp.trans (hperm.map _)
      have hσ : mixE (sp.map fun x => x.2.1) g σ = (sp.map fun x => x.2).foldl (fun σ x => upd σ x.1 (ptrOf (b x.1))) σ := by
        rw [fold_mix, List.map_map]
        funext t
        unfold mixE
        by_cases e : (sp.map fun x => x.2.1).contains t = true
        · have e' : (List.map ((fun x : Alc => x.1) ∘ fun x : Nat × Alc => x.2) sp).contains t = true := e
          rw [e, e']
          obtain ⟨x, hx, rfl⟩ := List.mem_map.1 (List.contains_iff_mem.1 e)
          exact hg x (hperm.mem_iff.2 hx)
        · have e1 : (sp.map fun x => x.2.1).contains t = false := by simpa using e
          have e' : (List.map ((fun x : Alc => x.1) ∘ fun x : Nat × Alc => x.2) sp).contains t = false := e1
          rw [e1, e']
          rfl
      rw [hσ] at ha
      rw [List.nil_append] at hF
      have H2 := H.perm (hL.append_left L)
      rw [Nat.zero_add]
      exact wpAnyC_canonT hs tail nt listed a w (hcl _ _ H) hB (SLT_runT all hok tail _ w a ha (hF w H2))
  | succ m ih =>
    intro r listed a w σ g L Lx done b hd hdn hg hp hm ha H hB hS
    have hC := hS.cl _ _ H
    rw [show m + 1 + nt = (m + nt) + 1 by omega]
    -- a block
    have alc : ∀ i, i ∈ Region.ready md all.toArray listed -> (sp.map fun x => x.1).contains i = true -> canonA md all.toArray (sp.map fun x => x.1) tail nt m r (listed.setIfInBounds i true) = true →
        lOp P all.toArray i (fun a' w' => C w' /\ wpAnyC P md all.toArray C (fun a' w' => ∃ σ', Fr ds n σ' a' /\ Q .normal σ' w') (m + nt) (listed.setIfInBounds i true) a' w') a w := by
      intro i hi hiA hB'
      obtain ⟨⟨i', d, t, zs⟩, hx, e0⟩ := List.mem_map.1 (List.contains_iff_mem.1 hiA)
      dsimp only at e0
      subst e0
      obtain ⟨ty, pos, af, ho, z, hz, hzc⟩ := hal _ hx
      dsimp only at ho hz hzc
      have hnew : (i', d, t, zs) ∉ done := fun hh => by
        have h1 := (hd _ hh).2
        have h2 := listed_lt hi
        dsimp only at h1
        rw [h2] at h1
        cases h1
      have hdx : (sp.map fun x => x.2.1).contains d = true := List.contains_iff_mem.2 (List.mem_map.2 ⟨_, hx, rfl⟩)
      refine SL_lOp (C := C) (K := fun σ' w' => ∃ b', σ' = upd (mixE (sp.map fun x => x.2.1) g σ) d (ptrOf b') /\ St w0 w' (cBlk b' zs t :: (L ++ Lx)) R) (K' := fun a' w' => wpAnyC P md all.toArray C (fun a' w' => ∃ σ', Fr ds n σ' a' /\ Q .normal σ' w') (m + nt) (listed.setIfInBounds i' true) a' w') all hok ?_ ho ha ?_
      · rintro σ' w' a' ha' ⟨b', rfl, H'⟩
        rw [mix_put hdx] at ha'
        have hsz : i' < listed.size := by
          have h2 := listed_lt hi
          rcases Nat.lt_or_ge i' listed.size with h' | h'
          · exact h'
          · rw [Array.getD_eq_getD_getElem?, Array.getElem?_eq_none h'] at h2
            cases h2
        have hne : ∀ x ∈ done, x.2.1 ≠ d := fun x hxd e => by
          have h1 := (hd x hxd).1
          have : x = (i', d, t, zs) := inj_map hnd h1 hx e
          rw [this] at hxd
          exact hnew hxd
        refine ih r _ a' w' σ _ L (cBlk b' zs t :: Lx) ((i', d, t, zs) :: done) (fun k => if k = d then b' else b k) ?_ (List.nodup_cons.2 ⟨hnew, hdn⟩) ?_ ?_ (by rw [List.length_cons]; omega) ha' (H'.perm List.perm_middle.symm) hB' hS
        · intro x hx'
          rcases List.mem_cons.1 hx' with rfl | hx'
          · refine ⟨hx, ?_⟩
            dsimp only
            rw [Array.getD_eq_getD_getElem?, Array.getElem?_setIfInBounds_self_of_lt hsz]
            rfl
          · refine ⟨(hd x hx').1, ?_⟩
            by_cases e : i' = x.1
            · rw [← e, Array.getD_eq_getD_getElem?, Array.getElem?_setIfInBounds_self_of_lt hsz]
              rfl
            · rw [getD_set_ne true e]
              exact (hd x hx').2
        · intro x hx'
          rcases List.mem_cons.1 hx' with rfl | hx'
          · dsimp only
            rw [Nat.beq_refl, if_pos rfl]
            rfl
          · have e := hne x hx'
            rw [beqF e, if_neg e]
            exact hg x hx'
        · rw [List.map_cons, if_pos rfl]
          refine List.Perm.cons _ (hp.trans (List.Perm.of_eq (List.map_congr_left fun x hx' => ?_)))
          rw [if_neg (hne x hx')]
      · exact t_alloc (cs := zs) H hz hzc fun b' w' H' => ⟨hS.cl _ _ (H'.perm List.perm_middle.symm), b', rfl, H'⟩
    match r, hS, hB, hm, ih, alc with
    | [], hS, hB, hm, ih, alc =>
      simp only [canonA, Bool.and_eq_true, Bool.not_eq_true', List.isEmpty_eq_false_iff, List.all_eq_true] at hB
      exact ⟨fun h0 => absurd h0 hB.1, fun i hi => alc i hi (hB.2 i hi).1 (hB.2 i hi).2⟩
    | (k, true) :: r, ⟨_, o, d, v, ho, hdst, hgd, hdd, hv, hK⟩, hB, hm, ih, alc =>
      simp only [canonA, Bool.and_eq_true] at hB
      obtain ⟨⟨hr, hf⟩, hB'⟩ := hB
      have hmem : o ∈ all := List.mem_of_getElem? ho
      have ho' : all.toArray[k]? = some o := by simpa using ho
      refine wpAnyC_first ho' (Region.noSelect_spec hs) (m + nt) listed a w hC (Region.free_spec ho' hf) (by simpa using hr) (v := v) ?_ ?_
      · unfold YV
        rw [wanted_eq ha all hok, ha.eval]
        unfold wantedE
        rw [hgd]
        exact .inl ⟨rfl, fun w' hw' => hv g w' hw'⟩
      · rw [hdst]
        have ha2 := ha.put (hok o hmem d hdst) v
        rw [mix_upd hdd] at ha2
        refine ih r _ _ w _ g L Lx done b (fun x hx => ⟨(hd x hx).1, ?_⟩) hdn hg hp (by rw [List.length_cons] at hm; omega) ha2 H hB' hK
        by_cases e : k = x.1
        · have := listed_lt (md := md) (ops := all.toArray) (listed := listed) (i := k) (by simpa using hr)
          rw [e, (hd x hx).2] at this
          cases this
        · rw [getD_set_ne true e]
          exact (hd x hx).2
    | (k, false) :: r, ⟨hcl, o, ho, hK⟩, hB, hm, ih, alc =>
      simp only [canonA, Bool.and_eq_true, Bool.not_eq_true', List.isEmpty_eq_false_iff, List.all_eq_true] at hB
      refine ⟨fun h0 => absurd h0 hB.1, fun i hi => ?_⟩
      have hBi := hB.2 i hi
      by_cases e : i = k
      · subst e
        have hB' : canonA md all.toArray (sp.map fun x => x.1) tail nt m r (listed.setIfInBounds i true) = true := by
          simpa using hBi
        refine (SL_lOp (C := C) (K' := fun a' w' => wpAnyC P md all.toArray C (fun a' w' => ∃ σ', Fr ds n σ' a' /\ Q .normal σ' w') (m + nt) (listed.setIfInBounds i true) a' w') all hok ?_ ho ha (hK g Lx w H))
        rintro σ' w' a' ha' ⟨σ'', L', rfl, H', hS'⟩
        refine ih r _ a' w' σ'' g L' Lx done b (fun x hx => ⟨(hd x hx).1, ?_⟩) hdn hg hp (by rw [List.length_cons] at hm; omega) ha' H' hB' hS'
        by_cases e : i = x.1
        · have := listed_lt hi
          rw [e, (hd x hx).2] at this
          cases this
        · rw [getD_set_ne true e]
          exact (hd x hx).2
      · have h2 : (i == k) = false := beq_eq_false_iff_ne.2 e
        rw [h2] at hBi
        simp only [Bool.false_and, Bool.not_false, Bool.true_and, Bool.false_or, Bool.and_eq_true] at hBi
        exact alc i hi hBi.1 hBi.2
theorem W.drawA {r : Option Nat} {P : Program} {n : Nat} {Q : Post} {σ : Env} {w w0 : World} {id : Nat} {l : List Oper} {L R : List Chunk} (C : World -> Prop) (row : List (Nat × Bool)) (sp : List (Nat × Alc)) (tail : Ord) (nt : Nat) (hm : P.follows .mixedOrders = true)
    (hB : (Region.noSelect l.toArray && Nat.beq (row.length + sp.length + nt) l.length && canonA .any l.toArray (sp.map fun x => x.1) tail nt (row.length + sp.length) row (Array.replicate l.length false)) = true)
    (hok : okDst n l = true) (hal : ∀ x ∈ sp, ∃ ty pos af, l[x.1]? = some ⟨some x.2.1, .alloc x.2.2.1, ty, pos, af, none⟩ /\ ∃ z, (P.info? x.2.2.1).map (·.zero) = some (some z) /\ z.cells = x.2.2.2.toArray) (hnd : (sp.map fun x => x.2.1).Nodup) (hnd1 : (sp.map fun x => x.1).Nodup)
    (H : St w0 w L R) (h : SLA P l C w0 R (sp.map fun x => x.2.1) (fun σ L => FinA (sp.map fun x => x.2) [] σ fun acc σ => ∀ w, St w0 w (L ++ acc) R -> SLT P l C Q tail σ w) row σ L) : WR r P n (.region id l.toArray true) Q σ w := by
  intro ds a ha
  simp only [Bool.and_eq_true] at hB
  obtain ⟨⟨hs, hl⟩, hB⟩ := hB
  have hl' := Nat.eq_of_beq_eq_true hl
  refine wpIn_region_any hm (wpAny_of_C (C := C) (Q := fun a' w' => ∃ σ', Fr ds n σ' a' /\ Q .normal σ' w') (fun _ _ h => h) _ _ _ _ ?_)
  have hself : mixE (sp.map fun x => x.2.1) σ σ = σ := by
    funext t
    unfold mixE
    cases (sp.map fun x => x.2.1).contains t <;> rfl
  have := wpAnyC_A (P := P) (md := .any) (Q := Q) (C := C) (ds := ds) (n := n) l (okDst_spec hok) hs w0 R sp tail nt hal hnd hnd1 (row.length + sp.length) row (Array.replicate l.length false) a w.drew σ σ L [] [] (fun _ => 0) (by simp) List.nodup_nil (by simp) List.Perm.nil (by simp) (by rw [hself]; exact ha) (by rw [List.append_nil]; exact H.ext (.drew w)) hB h
  rw [hl'] at this
  simpa using this
section
variable {P : Program} {all : List Oper} {C : World -> Prop} {w0 : World} {R : List Chunk} {ds : List Nat} {Fin : Env -> List Chunk -> Prop} {r : List (Nat × Bool)} {σ : Env} {L : List Chunk}
theorem sa_nil (h1 : ∀ Lx w, St w0 w (L ++ Lx) R -> C w) (h : Fin σ L) : SLA P all C w0 R ds Fin [] σ L := ⟨h1, h⟩
theorem sa_q {k d : Nat} {op : Op} {ty : TypeId} {pos : String} {af : Array Edge} {v : Value} (h1 : ∀ Lx w, St w0 w (L ++ Lx) R -> C w) (ho : all[k]? = some ⟨some d, op, ty, pos, af, none⟩) (hd : ds.contains d = false)
    (h : ∀ g w', C w' -> (execOp (ev (mixE ds g σ)) ⟨some d, op, ty, pos, af, none⟩).run P w' = .ok (.value v) w') (hk : SLA P all C w0 R ds Fin r (upd σ d v) L) : SLA P all C w0 R ds Fin ((k, true) :: r) σ L :=
  ⟨h1, _, d, v, ho, rfl, rfl, hd, h, hk⟩
theorem sa_l {k : Nat} {o : Oper} (h1 : ∀ Lx w, St w0 w (L ++ Lx) R -> C w) (ho : all[k]? = some o) (h : ∀ g Lx w, St w0 w (L ++ Lx) R -> SL P all (loudQ C fun σ' w' => ∃ σ'' L', σ' = mixE ds g σ'' /\ St w0 w' (L' ++ Lx) R /\ SLA P all C w0 R ds Fin r σ'' L') [o] (mixE ds g σ) w) :
    SLA P all C w0 R ds Fin ((k, false) :: r) σ L := ⟨h1, o, ho, h⟩
end
end Go.Nm
namespace Go.Nm
open Go
structure River where
  down : List Int
  travel : List Span
  springs : List Int
  towns : List Town
  dlo : Int
  dhi : Int
  floods : List Flood
deriving DecidableEq, Inhabited
instance : Elt River where
  rep C cs x := ∃ sv0 sv1 sv2 sv3 sv6, cs = [sv0, sv1, sv2, sv3, I x.dlo, I x.dhi, sv6] /\ Sl C sv0 x.down /\ Sl C sv1 x.travel /\ Sl C sv2 x.springs /\ Sl C sv3 x.towns /\ Sl C sv6 x.floods
  sz := 7
  agg := true
  sz_pos := by decide
  len := fun ⟨_, _, _, _, _, h, _⟩ => by subst h; rfl
  mono := fun hle ⟨sv0, sv1, sv2, sv3, sv6, h, hs0, hs1, hs2, hs3, hs6⟩ => ⟨sv0, sv1, sv2, sv3, sv6, h, hs0.mono hle, hs1.mono hle, hs2.mono hle, hs3.mono hle, hs6.mono hle⟩
  one := fun ⟨sv0, sv1, sv2, sv3, sv6, h, hs0, hs1, hs2, hs3, hs6⟩ v hv => by
    subst h; simp at hv
    rcases hv with rfl | rfl | rfl | rfl | rfl | rfl | rfl
    · exact sl_one hs0
    · exact sl_one hs1
    · exact sl_one hs2
    · exact sl_one hs3
    · rfl
    · rfl
    · exact sl_one hs6
theorem River_rep {C : Cells} {cs : List Value} {x : River} (h : Elt.rep C cs x) : ∃ sv0 sv1 sv2 sv3 sv6, cs = [sv0, sv1, sv2, sv3, I x.dlo, I x.dhi, sv6] /\ Sl C sv0 x.down /\ Sl C sv1 x.travel /\ Sl C sv2 x.springs /\ Sl C sv3 x.towns /\ Sl C sv6 x.floods := h
theorem River_atA {C : Cells} {v : Value} {i : Int} {l : List River} (h : Sl C v l) (h0 : 0 <= i) (h1 : i < l.length) : ∃ sv0 sv1 sv2 sv3 sv6, At C (vat v 7 i.toNat) [sv0, sv1, sv2, sv3, I (l.getD i.toNat default).dlo, I (l.getD i.toNat default).dhi, sv6] /\ Sl C sv0 (l.getD i.toNat default).down /\ Sl C sv1 (l.getD i.toNat default).travel /\ Sl C sv2 (l.getD i.toNat default).springs /\ Sl C sv3 (l.getD i.toNat default).towns /\ Sl C sv6 (l.getD i.toNat default).floods := by
  obtain ⟨cs, ha, hr⟩ := h.atI h0 h1 default
  obtain ⟨sv0, sv1, sv2, sv3, sv6, rfl, hs⟩ := River_rep hr
  exact ⟨sv0, sv1, sv2, sv3, sv6, ha, hs⟩
class DropR (l : List Chunk) (k : Nat) (o : outParam (List Chunk)) : Prop where
  is : l.drop k = o
instance {l : List Chunk} : DropR l 0 l := ⟨rfl⟩
instance {x : Chunk} {l o : List Chunk} {k : Nat} [h : DropR l k o] : DropR (x :: l) (k + 1) o := ⟨by rw [List.drop_succ_cons, h.is]⟩
class ErR (l : List Chunk) (k : Nat) (o : outParam (List Chunk)) : Prop where
  is : l.eraseIdx k = o
instance {x : Chunk} {l : List Chunk} : ErR (x :: l) 0 l := ⟨rfl⟩
instance {x : Chunk} {l o : List Chunk} {k : Nat} [h : ErR l k o] : ErR (x :: l) (k + 1) (x :: o) := ⟨by rw [List.eraseIdx_cons_succ, h.is]⟩
section
variable {w0 w : World} {L L' L1 R : List Chunk}
theorem St.sub (h : St w0 w L R) (s : L'.Sublist L) : St w0 w L' R := by
  refine ⟨h.kp, ?_⟩
  have hS := h.sep
  rw [Sep.iff] at hS ⊢
  have q : (L' ++ R).Sublist (L ++ R) := s.append (List.Sublist.refl R)
  exact ⟨fun c hc => hS.1 c (q.subset hc), hS.2.sublist q⟩
theorem perm_er : ∀ {l : List Chunk} {k : Nat} {c : Chunk}, l[k]? = some c -> l.Perm (c :: l.eraseIdx k)
  | [], k, c, h => by simp at h
  | x :: l, 0, c, h => by
    simp only [List.getElem?_cons_zero, Option.some.injEq] at h
    subst h
    exact List.Perm.refl _
  | x :: l, k + 1, c, h => by
    simp only [List.getElem?_cons_succ] at h
    rw [List.eraseIdx_cons_succ]
    exact (List.Perm.cons x (perm_er h)).trans (List.Perm.swap c x _)
theorem St.dp (h : St w0 w L R) (k : Nat) [n : NfR L L1] [d : DropR L1 k L'] : St w0 w L' R := h.nf.sub (by rw [← d.is]; exact List.drop_sublist _ _)
theorem St.er (h : St w0 w L R) (k : Nat) [n : NfR L L1] [d : ErR L1 k L'] : St w0 w L' R := h.nf.sub (by rw [← d.is]; exact List.eraseIdx_sublist _ _)
theorem St.mv {c : Chunk} (h : St w0 w L R) (k : Nat) [n : NfR L L1] [x : NthR L1 k c] [d : ErR L1 k L'] : St w0 w (c :: L') R := by
  rw [← d.is]
  exact h.nf.perm (perm_er x.is)
end
end Go.Nm
namespace Go.Nm
open Go
section
variable {P : Program} {w : World} {σ : Env} {d : Nat} {ty : TypeId} {pos : String} {af : Array Edge} {g : Option (Nat × Bool)}
theorem x_pand0 {c x y : Operand} {b : Bool} (hc : ev σ c = .bool b) (hx : b = true -> ev σ x = .bool false) (hy : ev σ y = .bool false) :
    (execOp (ev σ) ⟨some d, .pick c x y, ty, pos, af, g⟩).run P w = .ok (.value (.bool false)) w := by
  have := x_pand (P := P) (w := w) (d := d) (ty := ty) (pos := pos) (af := af) (g := g) hc hx hy
  rwa [Bool.and_false] at this
end
end Go.Nm
namespace Go.Proofs.Ytbaehghammbjdaa
open Go Go.Nm
theorem cf8 : CF Try.prog 8 := ⟨_, Try.func8, rfl, by decide +kernel⟩
theorem cf9 : CF Try.prog 9 := ⟨_, Try.func9, rfl, by decide +kernel⟩
theorem cf10 : CF Try.prog 10 := ⟨_, Try.func10, rfl, by decide +kernel⟩
theorem cf11 : CF Try.prog 11 := ⟨_, Try.func11, rfl, by decide +kernel⟩
theorem cf12 : CF Try.prog 12 := ⟨_, Try.func12, rfl, by decide +kernel⟩
theorem cf14 : CF Try.prog 14 := ⟨_, Try.func14, rfl, by decide +kernel⟩
theorem cf15 : CF Try.prog 15 := ⟨_, Try.func15, rfl, by decide +kernel⟩
theorem cf18 : CF Try.prog 18 := ⟨_, Try.func18, rfl, by decide +kernel⟩
theorem cf21 : CF Try.prog 21 := ⟨_, Try.func21, rfl, by decide +kernel⟩
theorem cf22 : CF Try.prog 22 := ⟨_, Try.func22, rfl, by decide +kernel⟩
theorem cf23 : CF Try.prog 23 := ⟨_, Try.func23, rfl, by decide +kernel⟩
theorem cf24 : CF Try.prog 24 := ⟨_, Try.func24, rfl, by decide +kernel⟩
theorem cf25 : CF Try.prog 25 := ⟨_, Try.func25, rfl, by decide +kernel⟩
theorem cf27 : CF Try.prog 27 := ⟨_, Try.func27, rfl, by decide +kernel⟩
theorem cf28 : CF Try.prog 28 := ⟨_, Try.func28, rfl, by decide +kernel⟩
theorem cf31 : CF Try.prog 31 := ⟨_, Try.func31, rfl, by decide +kernel⟩
theorem cf32 : CF Try.prog 32 := ⟨_, Try.func32, rfl, by decide +kernel⟩
theorem cf33 : CF Try.prog 33 := ⟨_, Try.func33, rfl, by decide +kernel⟩
theorem cf34 : CF Try.prog 34 := ⟨_, Try.func34, rfl, by decide +kernel⟩
theorem cf35 : CF Try.prog 35 := ⟨_, Try.func35, rfl, by decide +kernel⟩
theorem cf36 : CF Try.prog 36 := ⟨_, Try.func36, rfl, by decide +kernel⟩
theorem cf37 : CF Try.prog 37 := ⟨_, Try.func37, rfl, by decide +kernel⟩
theorem cf38 : CF Try.prog 38 := ⟨_, Try.func38, rfl, by decide +kernel⟩
theorem cf39 : CF Try.prog 39 := ⟨_, Try.func39, rfl, by decide +kernel⟩
theorem cf40 : CF Try.prog 40 := ⟨_, Try.func40, rfl, by decide +kernel⟩
theorem cf41 : CF Try.prog 41 := ⟨_, Try.func41, rfl, by decide +kernel⟩
theorem cf42 : CF Try.prog 42 := ⟨_, Try.func42, rfl, by decide +kernel⟩
theorem cf43 : CF Try.prog 43 := ⟨_, Try.func43, rfl, by decide +kernel⟩
theorem cf44 : CF Try.prog 44 := ⟨_, Try.func44, rfl, by decide +kernel⟩
theorem cf45 : CF Try.prog 45 := ⟨_, Try.func45, rfl, by decide +kernel⟩
theorem cf46 : CF Try.prog 46 := ⟨_, Try.func46, rfl, by decide +kernel⟩
theorem cf47 : CF Try.prog 47 := ⟨_, Try.func47, rfl, by decide +kernel⟩
theorem cf48 : CF Try.prog 48 := ⟨_, Try.func48, rfl, by decide +kernel⟩
theorem cf49 : CF Try.prog 49 := ⟨_, Try.func49, rfl, by decide +kernel⟩
theorem cf50 : CF Try.prog 50 := ⟨_, Try.func50, rfl, by decide +kernel⟩
theorem cf51 : CF Try.prog 51 := ⟨_, Try.func51, rfl, by decide +kernel⟩
theorem cf52 : CF Try.prog 52 := ⟨_, Try.func52, rfl, by decide +kernel⟩
theorem cf53 : CF Try.prog 53 := ⟨_, Try.func53, rfl, by decide +kernel⟩
theorem cf54 : CF Try.prog 54 := ⟨_, Try.func54, rfl, by decide +kernel⟩
theorem cf55 : CF Try.prog 55 := ⟨_, Try.func55, rfl, by decide +kernel⟩
theorem cf56 : CF Try.prog 56 := ⟨_, Try.func56, rfl, by decide +kernel⟩
theorem cf57 : CF Try.prog 57 := ⟨_, Try.func57, rfl, by decide +kernel⟩
theorem cf58 : CF Try.prog 58 := ⟨_, Try.func58, rfl, by decide +kernel⟩
theorem cf59 : CF Try.prog 59 := ⟨_, Try.func59, rfl, by decide +kernel⟩
theorem cf60 : CF Try.prog 60 := ⟨_, Try.func60, rfl, by decide +kernel⟩
theorem cf62 : CF Try.prog 62 := ⟨_, Try.func62, rfl, by decide +kernel⟩
theorem cf63 : CF Try.prog 63 := ⟨_, Try.func63, rfl, by decide +kernel⟩
theorem cf64 : CF Try.prog 64 := ⟨_, Try.func64, rfl, by decide +kernel⟩
theorem cf65 : CF Try.prog 65 := ⟨_, Try.func65, rfl, by decide +kernel⟩
theorem cf66 : CF Try.prog 66 := ⟨_, Try.func66, rfl, by decide +kernel⟩
theorem cf67 : CF Try.prog 67 := ⟨_, Try.func67, rfl, by decide +kernel⟩
theorem cf68 : CF Try.prog 68 := ⟨_, Try.func68, rfl, by decide +kernel⟩
theorem cf69 : CF Try.prog 69 := ⟨_, Try.func69, rfl, by decide +kernel⟩
theorem cf70 : CF Try.prog 70 := ⟨_, Try.func70, rfl, by decide +kernel⟩
theorem cf71 : CF Try.prog 71 := ⟨_, Try.func71, rfl, by decide +kernel⟩
theorem cf72 : CF Try.prog 72 := ⟨_, Try.func72, rfl, by decide +kernel⟩
theorem cf73 : CF Try.prog 73 := ⟨_, Try.func73, rfl, by decide +kernel⟩
theorem cf74 : CF Try.prog 74 := ⟨_, Try.func74, rfl, by decide +kernel⟩
theorem cf75 : CF Try.prog 75 := ⟨_, Try.func75, rfl, by decide +kernel⟩
theorem cf76 : CF Try.prog 76 := ⟨_, Try.func76, rfl, by decide +kernel⟩
theorem cf77 : CF Try.prog 77 := ⟨_, Try.func77, rfl, by decide +kernel⟩
theorem cf78 : CF Try.prog 78 := ⟨_, Try.func78, rfl, by decide +kernel⟩
theorem cf79 : CF Try.prog 79 := ⟨_, Try.func79, rfl, by decide +kernel⟩
theorem cf80 : CF Try.prog 80 := ⟨_, Try.func80, rfl, by decide +kernel⟩
theorem cf81 : CF Try.prog 81 := ⟨_, Try.func81, rfl, by decide +kernel⟩
theorem cf82 : CF Try.prog 82 := ⟨_, Try.func82, rfl, by decide +kernel⟩
theorem cf83 : CF Try.prog 83 := ⟨_, Try.func83, rfl, by decide +kernel⟩
theorem cf84 : CF Try.prog 84 := ⟨_, Try.func84, rfl, by decide +kernel⟩
theorem cf85 : CF Try.prog 85 := ⟨_, Try.func85, rfl, by decide +kernel⟩
theorem cf86 : CF Try.prog 86 := ⟨_, Try.func86, rfl, by decide +kernel⟩
theorem cf87 : CF Try.prog 87 := ⟨_, Try.func87, rfl, by decide +kernel⟩
theorem cf90 : CF Try.prog 90 := ⟨_, Try.func90, rfl, by decide +kernel⟩
theorem cf91 : CF Try.prog 91 := ⟨_, Try.func91, rfl, by decide +kernel⟩
theorem cf92 : CF Try.prog 92 := ⟨_, Try.func92, rfl, by decide +kernel⟩
theorem cf104 : CF Try.prog 104 := ⟨_, Try.func104, rfl, by decide +kernel⟩
theorem cf110 : CF Try.prog 110 := ⟨_, Try.func110, rfl, by decide +kernel⟩
theorem T22 : SlT Try.prog 22 5 1 1 (.int .u8 0) := ⟨Try.underlying22, by kernel_rfl, rfl, by decide⟩
theorem T23 : SlT Try.prog 23 3 1 8 (I 0) := ⟨Try.underlying23, by kernel_rfl, rfl, by decide⟩
theorem T24 : SlT Try.prog 24 27 2 16 (.agg #[I 0, I 0]) := ⟨Try.underlying24, by kernel_rfl, rfl, by decide⟩
theorem T25 : SlT Try.prog 25 54 3 24 (.agg #[I 0, I 0, I 0]) := ⟨Try.underlying25, by kernel_rfl, rfl, by decide⟩
theorem T28 : SlT Try.prog 28 67 2 32 (.agg #[I 0, .slice none 0 0]) := ⟨Try.underlying28, by kernel_rfl, rfl, by decide⟩
theorem T56 : SlT Try.prog 56 30 7 136 (.agg #[.slice none 0 0, .slice none 0 0, .slice none 0 0, .slice none 0 0, I 0, I 0, .slice none 0 0]) := ⟨Try.underlying56, by kernel_rfl, rfl, by decide⟩
theorem T57 : SlT Try.prog 57 62 2 16 (.agg #[I 0, I 0]) := ⟨Try.underlying57, by kernel_rfl, rfl, by decide⟩
theorem Sc3 : isSc (Try.prog.underlying 3) = true := by rw [Try.underlying3]; rfl
theorem Sc4 : isSc (Try.prog.underlying 4) = true := by rw [Try.underlying4]; rfl
theorem Sc5 : isSc (Try.prog.underlying 5) = true := by rw [Try.underlying5]; rfl
theorem Sc22 : isSc (Try.prog.underlying 22) = true := by rw [Try.underlying22]; rfl
theorem Sc23 : isSc (Try.prog.underlying 23) = true := by rw [Try.underlying23]; rfl
theorem Sc24 : isSc (Try.prog.underlying 24) = true := by rw [Try.underlying24]; rfl
theorem Sc25 : isSc (Try.prog.underlying 25) = true := by rw [Try.underlying25]; rfl
theorem Sc28 : isSc (Try.prog.underlying 28) = true := by rw [Try.underlying28]; rfl
theorem Sc72 : isSc (Try.prog.underlying 72) = true := by rw [Try.underlying72]; rfl
theorem Sc80 : isSc (Try.prog.underlying 80) = true := by rw [Try.underlying80]; rfl
theorem Sc84 : isSc (Try.prog.underlying 84) = true := by rw [Try.underlying84]; rfl
theorem Sc89 : isSc (Try.prog.underlying 89) = true := by rw [Try.underlying89]; rfl
theorem Sc105 : isSc (Try.prog.underlying 105) = true := by rw [Try.underlying105]; rfl
theorem Sc106 : isSc (Try.prog.underlying 106) = true := by rw [Try.underlying106]; rfl
theorem Sc111 : isSc (Try.prog.underlying 111) = true := by rw [Try.underlying111]; rfl
theorem Sc114 : isSc (Try.prog.underlying 114) = true := by rw [Try.underlying114]; rfl
theorem Sz3 : (Try.prog.info? 3).map (·.size) = some 1 := by kernel_rfl
theorem Sz4 : (Try.prog.info? 4).map (·.size) = some 1 := by kernel_rfl
theorem Sz22 : (Try.prog.info? 22).map (·.size) = some 1 := by kernel_rfl
theorem Sz23 : (Try.prog.info? 23).map (·.size) = some 1 := by kernel_rfl
theorem Sz24 : (Try.prog.info? 24).map (·.size) = some 1 := by kernel_rfl
theorem Sz25 : (Try.prog.info? 25).map (·.size) = some 1 := by kernel_rfl
theorem Ag27 : isAg (Try.prog.underlying 27) = true := by rw [Try.underlying27]; rfl
theorem Sz27 : (Try.prog.info? 27).map (·.size) = some 2 := by kernel_rfl
theorem Sz28 : (Try.prog.info? 28).map (·.size) = some 1 := by kernel_rfl
theorem Ag30 : isAg (Try.prog.underlying 30) = true := by rw [Try.underlying30]; rfl
theorem Sz30 : (Try.prog.info? 30).map (·.size) = some 7 := by kernel_rfl
theorem Ag54 : isAg (Try.prog.underlying 54) = true := by rw [Try.underlying54]; rfl
theorem Sz54 : (Try.prog.info? 54).map (·.size) = some 3 := by kernel_rfl
theorem Ag62 : isAg (Try.prog.underlying 62) = true := by rw [Try.underlying62]; rfl
theorem Sz62 : (Try.prog.info? 62).map (·.size) = some 2 := by kernel_rfl
theorem Ag67 : isAg (Try.prog.underlying 67) = true := by rw [Try.underlying67]; rfl
theorem Sz67 : (Try.prog.info? 67).map (·.size) = some 2 := by kernel_rfl
theorem Sz72 : (Try.prog.info? 72).map (·.size) = some 1 := by kernel_rfl
theorem Ag74 : isAg (Try.prog.underlying 74) = true := by rw [Try.underlying74]; rfl
theorem Sz74 : (Try.prog.info? 74).map (·.size) = some 12 := by kernel_rfl
theorem Ag79 : isAg (Try.prog.underlying 79) = true := by rw [Try.underlying79]; rfl
theorem Sz79 : (Try.prog.info? 79).map (·.size) = some 3 := by kernel_rfl
theorem Sz80 : (Try.prog.info? 80).map (·.size) = some 1 := by kernel_rfl
theorem Sz84 : (Try.prog.info? 84).map (·.size) = some 1 := by kernel_rfl
theorem Sz106 : (Try.prog.info? 106).map (·.size) = some 1 := by kernel_rfl
theorem Sz114 : (Try.prog.info? 114).map (·.size) = some 1 := by kernel_rfl
theorem Fd27_0 : (Try.prog.underlying 27).bind (fun d => match d with | .struct fs => (fs[0]?).map (fun f => (f.offset, f.type)) | _ => none) = some (0, 3) := by rw [Try.underlying27]; rfl
theorem Fd27_1 : (Try.prog.underlying 27).bind (fun d => match d with | .struct fs => (fs[1]?).map (fun f => (f.offset, f.type)) | _ => none) = some (1, 3) := by rw [Try.underlying27]; rfl
theorem Fd30_0 : (Try.prog.underlying 30).bind (fun d => match d with | .struct fs => (fs[0]?).map (fun f => (f.offset, f.type)) | _ => none) = some (0, 23) := by rw [Try.underlying30]; rfl
theorem Fd30_1 : (Try.prog.underlying 30).bind (fun d => match d with | .struct fs => (fs[1]?).map (fun f => (f.offset, f.type)) | _ => none) = some (1, 24) := by rw [Try.underlying30]; rfl
theorem Fd30_2 : (Try.prog.underlying 30).bind (fun d => match d with | .struct fs => (fs[2]?).map (fun f => (f.offset, f.type)) | _ => none) = some (2, 23) := by rw [Try.underlying30]; rfl
theorem Fd30_3 : (Try.prog.underlying 30).bind (fun d => match d with | .struct fs => (fs[3]?).map (fun f => (f.offset, f.type)) | _ => none) = some (3, 25) := by rw [Try.underlying30]; rfl
theorem Fd30_4 : (Try.prog.underlying 30).bind (fun d => match d with | .struct fs => (fs[4]?).map (fun f => (f.offset, f.type)) | _ => none) = some (4, 27) := by rw [Try.underlying30]; rfl
theorem Fd30_5 : (Try.prog.underlying 30).bind (fun d => match d with | .struct fs => (fs[5]?).map (fun f => (f.offset, f.type)) | _ => none) = some (6, 28) := by rw [Try.underlying30]; rfl
theorem Fd54_0 : (Try.prog.underlying 54).bind (fun d => match d with | .struct fs => (fs[0]?).map (fun f => (f.offset, f.type)) | _ => none) = some (0, 3) := by rw [Try.underlying54]; rfl
theorem Fd54_1 : (Try.prog.underlying 54).bind (fun d => match d with | .struct fs => (fs[1]?).map (fun f => (f.offset, f.type)) | _ => none) = some (1, 3) := by rw [Try.underlying54]; rfl
theorem Fd54_2 : (Try.prog.underlying 54).bind (fun d => match d with | .struct fs => (fs[2]?).map (fun f => (f.offset, f.type)) | _ => none) = some (2, 3) := by rw [Try.underlying54]; rfl
theorem Fd62_0 : (Try.prog.underlying 62).bind (fun d => match d with | .struct fs => (fs[0]?).map (fun f => (f.offset, f.type)) | _ => none) = some (0, 3) := by rw [Try.underlying62]; rfl
theorem Fd62_1 : (Try.prog.underlying 62).bind (fun d => match d with | .struct fs => (fs[1]?).map (fun f => (f.offset, f.type)) | _ => none) = some (1, 3) := by rw [Try.underlying62]; rfl
theorem Fd67_0 : (Try.prog.underlying 67).bind (fun d => match d with | .struct fs => (fs[0]?).map (fun f => (f.offset, f.type)) | _ => none) = some (0, 3) := by rw [Try.underlying67]; rfl
theorem Fd67_1 : (Try.prog.underlying 67).bind (fun d => match d with | .struct fs => (fs[1]?).map (fun f => (f.offset, f.type)) | _ => none) = some (1, 23) := by rw [Try.underlying67]; rfl
theorem Fd71_0 : (Try.prog.underlying 71).bind (fun d => match d with | .struct fs => (fs[0]?).map (fun f => (f.offset, f.type)) | _ => none) = some (0, 22) := by rw [Try.underlying71]; rfl
theorem Fd71_1 : (Try.prog.underlying 71).bind (fun d => match d with | .struct fs => (fs[1]?).map (fun f => (f.offset, f.type)) | _ => none) = some (1, 3) := by rw [Try.underlying71]; rfl
theorem Fd71_2 : (Try.prog.underlying 71).bind (fun d => match d with | .struct fs => (fs[2]?).map (fun f => (f.offset, f.type)) | _ => none) = some (2, 3) := by rw [Try.underlying71]; rfl
theorem Fd79_0 : (Try.prog.underlying 79).bind (fun d => match d with | .struct fs => (fs[0]?).map (fun f => (f.offset, f.type)) | _ => none) = some (0, 3) := by rw [Try.underlying79]; rfl
theorem Fd79_1 : (Try.prog.underlying 79).bind (fun d => match d with | .struct fs => (fs[1]?).map (fun f => (f.offset, f.type)) | _ => none) = some (1, 3) := by rw [Try.underlying79]; rfl
theorem Fd79_2 : (Try.prog.underlying 79).bind (fun d => match d with | .struct fs => (fs[2]?).map (fun f => (f.offset, f.type)) | _ => none) = some (2, 4) := by rw [Try.underlying79]; rfl
theorem Fd82_0 : (Try.prog.underlying 82).bind (fun d => match d with | .struct fs => (fs[0]?).map (fun f => (f.offset, f.type)) | _ => none) = some (0, 80) := by rw [Try.underlying82]; rfl
theorem Fd86_0 : (Try.prog.underlying 86).bind (fun d => match d with | .struct fs => (fs[0]?).map (fun f => (f.offset, f.type)) | _ => none) = some (0, 30) := by rw [Try.underlying86]; rfl
theorem Fd86_1 : (Try.prog.underlying 86).bind (fun d => match d with | .struct fs => (fs[1]?).map (fun f => (f.offset, f.type)) | _ => none) = some (7, 84) := by rw [Try.underlying86]; rfl
theorem Al3 : (Try.prog.info? 3).map (·.zero) = some (some (I 0)) := by kernel_rfl
theorem Al4 : (Try.prog.info? 4).map (·.zero) = some (some (B false)) := by kernel_rfl
theorem Al23 : (Try.prog.info? 23).map (·.zero) = some (some (.slice none 0 0)) := by kernel_rfl
theorem Al24 : (Try.prog.info? 24).map (·.zero) = some (some (.slice none 0 0)) := by kernel_rfl
theorem Al27 : (Try.prog.info? 27).map (·.zero) = some (some (.agg #[I 0, I 0])) := by kernel_rfl
theorem Al30 : (Try.prog.info? 30).map (·.zero) = some (some (.agg #[.slice none 0 0, .slice none 0 0, .slice none 0 0, .slice none 0 0, I 0, I 0, .slice none 0 0])) := by kernel_rfl
theorem Al54 : (Try.prog.info? 54).map (·.zero) = some (some (.agg #[I 0, I 0, I 0])) := by kernel_rfl
theorem Al62 : (Try.prog.info? 62).map (·.zero) = some (some (.agg #[I 0, I 0])) := by kernel_rfl
theorem Al67 : (Try.prog.info? 67).map (·.zero) = some (some (.agg #[I 0, .slice none 0 0])) := by kernel_rfl
theorem Al71 : (Try.prog.info? 71).map (·.zero) = some (some (.agg #[.slice none 0 0, I 0, I 0])) := by kernel_rfl
theorem Al72 : (Try.prog.info? 72).map (·.zero) = some (some (.pointer none)) := by kernel_rfl
theorem Al74 : (Try.prog.info? 74).map (·.zero) = some (some (.agg #[B false, B false, B false, B false, B false, B false, B false, B false, B false, B false, B false, B false])) := by kernel_rfl
theorem Al79 : (Try.prog.info? 79).map (·.zero) = some (some (.agg #[I 0, I 0, B false])) := by kernel_rfl
theorem Al80 : (Try.prog.info? 80).map (·.zero) = some (some (.nilFunc)) := by kernel_rfl
theorem Al82 : (Try.prog.info? 82).map (·.zero) = some (some (.agg #[.nilFunc])) := by kernel_rfl
theorem Al86 : (Try.prog.info? 86).map (·.zero) = some (some (.agg #[.slice none 0 0, .slice none 0 0, .slice none 0 0, .slice none 0 0, I 0, I 0, .slice none 0 0, .map none])) := by kernel_rfl
theorem Al106 : (Try.prog.info? 106).map (·.zero) = some (some (.nilFunc)) := by kernel_rfl
theorem Al114 : (Try.prog.info? 114).map (·.zero) = some (some (.nilFunc)) := by kernel_rfl
theorem Bd27 {fs : Array Field} (h : Try.prog.underlying 27 = some (.struct fs)) : fs.toList.mapM (fun f => (Try.prog.info? f.type).map fun i => (f.offset, i.size)) = some [(0, 1), (1, 1)] := by rw [Try.underlying27] at h; simp only [Option.some.injEq, TypeDesc.struct.injEq] at h; subst h; kernel_rfl
theorem Bd30 {fs : Array Field} (h : Try.prog.underlying 30 = some (.struct fs)) : fs.toList.mapM (fun f => (Try.prog.info? f.type).map fun i => (f.offset, i.size)) = some [(0, 1), (1, 1), (2, 1), (3, 1), (4, 2), (6, 1)] := by rw [Try.underlying30] at h; simp only [Option.some.injEq, TypeDesc.struct.injEq] at h; subst h; kernel_rfl
theorem Bd54 {fs : Array Field} (h : Try.prog.underlying 54 = some (.struct fs)) : fs.toList.mapM (fun f => (Try.prog.info? f.type).map fun i => (f.offset, i.size)) = some [(0, 1), (1, 1), (2, 1)] := by rw [Try.underlying54] at h; simp only [Option.some.injEq, TypeDesc.struct.injEq] at h; subst h; kernel_rfl
theorem Bd62 {fs : Array Field} (h : Try.prog.underlying 62 = some (.struct fs)) : fs.toList.mapM (fun f => (Try.prog.info? f.type).map fun i => (f.offset, i.size)) = some [(0, 1), (1, 1)] := by rw [Try.underlying62] at h; simp only [Option.some.injEq, TypeDesc.struct.injEq] at h; subst h; kernel_rfl
theorem Bd67 {fs : Array Field} (h : Try.prog.underlying 67 = some (.struct fs)) : fs.toList.mapM (fun f => (Try.prog.info? f.type).map fun i => (f.offset, i.size)) = some [(0, 1), (1, 1)] := by rw [Try.underlying67] at h; simp only [Option.some.injEq, TypeDesc.struct.injEq] at h; subst h; kernel_rfl
theorem Bd71 {fs : Array Field} (h : Try.prog.underlying 71 = some (.struct fs)) : fs.toList.mapM (fun f => (Try.prog.info? f.type).map fun i => (f.offset, i.size)) = some [(0, 1), (1, 1), (2, 1)] := by rw [Try.underlying71] at h; simp only [Option.some.injEq, TypeDesc.struct.injEq] at h; subst h; kernel_rfl
theorem Bd79 {fs : Array Field} (h : Try.prog.underlying 79 = some (.struct fs)) : fs.toList.mapM (fun f => (Try.prog.info? f.type).map fun i => (f.offset, i.size)) = some [(0, 1), (1, 1), (2, 1)] := by rw [Try.underlying79] at h; simp only [Option.some.injEq, TypeDesc.struct.injEq] at h; subst h; kernel_rfl
theorem Bd82 {fs : Array Field} (h : Try.prog.underlying 82 = some (.struct fs)) : fs.toList.mapM (fun f => (Try.prog.info? f.type).map fun i => (f.offset, i.size)) = some [(0, 1)] := by rw [Try.underlying82] at h; simp only [Option.some.injEq, TypeDesc.struct.injEq] at h; subst h; kernel_rfl
theorem Bd86 {fs : Array Field} (h : Try.prog.underlying 86 = some (.struct fs)) : fs.toList.mapM (fun f => (Try.prog.info? f.type).map fun i => (f.offset, i.size)) = some [(0, 7), (7, 1)] := by rw [Try.underlying86] at h; simp only [Option.some.injEq, TypeDesc.struct.injEq] at h; subst h; kernel_rfl
theorem mixed : Try.prog.follows .mixedOrders = true := by kernel_rfl

end Go.Proofs.Ytbaehghammbjdaa
namespace Go.Nm
open Go
abbrev encDm (d : Dem) : Value := .agg #[I d.spring, I d.town]
end Go.Nm
namespace Go.Proofs.Ytbaehghammbjdaa
open Go Go.Nm Go.Proofs
theorem findAskDm {ν : Type} (k : Dem) (w : World) : ∀ (es : List MapEntry) (m : List (Dem × ν)) (venc : ν -> Value) (j : Nat), es.map (fun e => (e.key, e.val)) = m.map (fun p => (encDm p.1, venc p.2)) →
    (Instr.findAsking 62 (encDm k) es j).run Try.prog w = .ok ((idxM m k).bind fun i => (es[i]?).map fun e => (i + j, e.val)) w
  | [], [], _, _, _ => rfl
  | [], _ :: _, _, _, h => by simp at h
  | _ :: _, [], _, _, h => by simp at h
  | e :: es, p :: m, venc, j, h => by
    simp only [List.map_cons, List.cons.injEq, Prod.mk.injEq] at h
    have ih := findAskDm k w es m venc (j + 1) h.2
    unfold Instr.findAsking
    rw [h.1.1]
    have he := eqT62 k p.1 w
    unfold idxM
    by_cases hp : p.1 = k
    · rw [if_pos hp]
      have : decide (k = p.1) = true := by simp [hp]
      rw [this] at he
      simp [Op.equal, Op.maxDepth, he]
    · rw [if_neg hp]
      have : decide (k = p.1) = false := by simp; exact fun e => hp e.symm
      rw [this] at he
      simp only [Op.equal, Op.maxDepth, Sem.run_bind, he, Result.andThen_ok, Bool.false_eq_true, if_false, ih]
      cases hi : idxM m k with
      | none => rfl
      | some i =>
        simp only [Option.map_some, Option.bind_some, List.getElem?_cons_succ]
        cases es[i]? with
        | none => rfl
        | some e' => simp; omega
theorem keyDem {ν : Type} : KeyL (ν := ν) Try.prog 62 encDm := by
  refine ⟨fun e w k => ?_, fun w es m venc k h => ?_, fun k => ?_⟩
  · have u3 := Try.underlying3
    have a3 := Try.isAgg3
    have z3 := Try.sizeOf3
    have h1 : ∀ (n : Nat) (x : Int), (Instr.checkKey e (n + 1) 3 (I x)).run Try.prog w = .ok () w := fun n x => MapKept.run_checkKey u3 (show MapKept.IsKey (.int .i64) (I x) from rfl) e n
    have key : ∀ n : Nat, (Instr.checkKey e (n + 1 + 1) 62 (encDm k)).run Try.prog w = .ok () w := by
      intro n
      rw [Instr.checkKey]
      simp only [Sem.run_bind, run_underlying Try.underlying62, Result.andThen_ok]
      rw [← Array.forIn_toList]
      simp only [List.forIn_cons, List.forIn_nil]
      go_simp
    exact key 9998
  · rw [run_findKey_eq w (by rw [Try.underlying62]), findAskDm k w es m venc 0 h]
    rfl
  · simp [Instr.sameBits]
end Go.Proofs.Ytbaehghammbjdaa
namespace Go.Nm
open Go
theorem x_eqnilA {P : Program} {w : World} {σ : Env} {d : Nat} {ty : TypeId} {pos : String} {af : Array Edge} {g : Option (Nat × Bool)} {t e yt : TypeId} {x y : Operand} {a : Option Addr} {n c : Nat} (ht : P.underlying t = some (.slice e)) (hx : ev σ x = .slice a n c) (hy : ev σ y = .slice none 0 0) :
    (execOp (ev σ) ⟨some d, .binOp .eql t x y yt, ty, pos, af, g⟩).run P w = .ok (.value (.bool a.isNone)) w := by
  simp [execOp, hx, hy, eqGuard, binOp, run_equal_slice_nil w t e a n c ht]
end Go.Nm
namespace Go.Proofs.Ytbaehghammbjdaa
open Go Go.Nm
set_option maxRecDepth 100000 in
theorem clone_any {R : List Chunk} {C_s : Cells} {v_s : Value} (s : List Int) (hC_s : Reads R C_s) (hs_s : Sl C_s v_s s) (hlen : s.length * 8 <= 140737488355328) (w : World) (hsep : Sep w R) :
    Ret Try.prog 53 #[v_s] w fun v w' => St w w' [cOwn (α := Int) 3 v s] R := by
 have H : St w w [] R := St.refl hsep
 obtain ⟨a, c, hv, hc, hm, hk⟩ := hs_s.ex
 refine ret_of_W Try.func53 rfl rfl rfl ?_
 refine W.seq ?_
 refine W.region rfl ?_
 refine s_val (x_as (v := .slice none 0 0) rfl) ?_
 refine s_nil ?_
 refine W.seq ?_
 refine W.seq ?_
 refine W.region rfl ?_
 refine s_val (x_mv (v := v_s) rfl) ?_
 refine s_val (v := B a.isNone) (x_eqnilA (a := a) (n := s.length) (c := c) Try.underlying23 hv rfl) ?_
 refine s_nil ?_
 refine W.cond a.isNone rfl (fun h => ?_) (fun h => ?_)
 ·have e : s = [] := by
   cases s with
   | nil => rfl
   | cons x s =>
    obtain ⟨b, o, cs, ha, _⟩ := hk 0 x rfl
    subst ha
    cases h
  subst e
  refine W.seq ?_
  refine W.region rfl ?_
  refine s_val (x_as (v := .slice none 0 0) rfl) ?_
  refine s_nil ?_
  refine W.ret ?_
  exact ⟨_, resE_tmp rfl, H.nilOwn (α := Int) 3⟩
 ·refine W.skip ?_
  refine W.seq ?_
  refine W.region rfl ?_
  refine t_bs0 (α := Int) T23 H ?_
  intro v3z w4z H
  refine s_val (x_mv (v := v_s) rfl) ?_
  refine t_app (α := Int) (k := 0) (l := []) (l2 := s) (l' := s) (vy := v_s) T23 rfl H rfl rfl rfl hs_s (hC_s.at H) (List.nil_append _) (by simp only [List.length_nil]; omega) ?_
  intro v6z w7z H
  refine s_val (x_as (v := v6z) rfl) ?_
  refine s_nil ?_
  refine W.ret ?_
  exact ⟨_, resE_tmp rfl, H⟩
end Go.Proofs.Ytbaehghammbjdaa
section
set_option maxRecDepth 100000
set_option maxHeartbeats 16000000
namespace Go.Proofs.Ytbaehghammbjdaa
open Go Go.Nm
def zan (ac : List Int) (ae : List Span) (ag : List Int) (ah : List Town) (aa : Int) (ab : Int) (ai : List Flood) (station : Int) : M (Int × Int × Int) :=
  M.pure (station, aa, ab)
theorem zbe {R : List Chunk} {al : Cells} {aa : Value} {am : Cells} {ab : Value} {ao : Cells} {ac : Value} {aq : Cells} {ae : Value} {au : Cells} {ag : Value} (av : List Int) (aw : List Span) (ax : List Int) (ay : List Town) (ah : Int) (ai : Int) (az : List Flood) (station : Int) (aD : Reads R al) (aE : Sl al aa av) (aF : Reads R am) (aG : Sl am ab aw) (aH : Reads R ao) (aI : Sl ao ac ax) (aJ : Reads R aq) (aK : Sl aq ae ay) (aL : Reads R au) (aM : Sl au ag az) {r : (Int × Int × Int)} (hM : (zan av aw ax ay ah ai az station).Ends r) (w : World) (H : St w w [] R) : Ret Try.prog 46 #[.agg #[aa, ab, ac, ae, I ah, I ai, ag], I station] w fun v w' => ∃ (y0 : Int) (y1 : Int) (y2 : Int) (aA : Nat) (aB : Nat), (y0, y1, y2) = r /\ v = .func (.func 67) #[] #[Pq aA, Pq aB] /\ St w w' [cBlk aA [I y0] 3, cBlk aB [aa, ab, ac, ae, I y1, I y2, ag] 30] R := by
 refine ret_of_W Try.func46 rfl rfl rfl ?_
 refine W.seq ?_
 refine W.region rfl ?_
 refine t_box (v := .agg #[aa, ab, ac, ae, I ah, I ai, ag]) (cs := [aa, ab, ac, ae, I ah, I ai, ag]) H rfl rfl ?_
 intro aj aN H
 refine t_box (v := I station) (cs := [I station]) H rfl rfl ?_
 intro ak aO H
 refine zA .nilFunc rfl ?_
 refine s_nil ?_
 refine W.seq ?_
 refine W.region rfl ?_
 refine s_val (x_mf (fs := []) (cs := [Pq ak, Pq aj]) rfl rfl) ?_
 refine zA (.func (.func 67) #[] #[Pq ak, Pq aj]) rfl ?_
 refine s_nil ?_
 refine W.ret ?_
 have aC := M.e_pure hM
 exact ⟨_, resE_tmp rfl, ⟨station, ah, ai, ak, aj, aC, rfl, H⟩⟩

def zaL {T_ : Type} (ab : T_ -> (Int × Int) -> M (Bool × T_)) (aa : List Int) : (Int × Nat × T_) -> M ((Int × Nat × T_) ⊕ ((T_ × Int) ⊕ (T_ × Int))) := fun (s, s2, t2) =>
  bif ((s != (-1)) && (decide (s < (aa.length : Int)))) then (
  M.bind (ab t2 ((s2 : Int), s)) fun (go, t) =>
  bif !go then (
  M.pure (.inr (.inl (t, s))))
  else (
  M.grd (decide ((0 : Int) <= s) && decide (s < (aa.length : Int))) <|
  M.grd (decide ((-9223372036854775808 : Int) <= ((s2 : Int) + 1)) && decide (((s2 : Int) + 1) <= (9223372036854775807 : Int))) <|
  M.pure (.inl (aa.getD (Int.toNat s) 0, s2 + 1, t))))
  else (
  M.pure (.inr (.inr (t2, s))))
def zak {T_ : Type} (aa : T_ -> (Int × Int) -> M (Bool × T_)) (t_ : T_) (ab : Int) (ac : List Int) (ae : List Span) (ag : List Int) (ah : List Town) (ai : Int) (aj : Int) (ak : List Flood) : M (T_ × Int) :=
  M.bind (M.iter (zaL aa ac) (ab, 0, t_)) fun x_ => match x_ with
  | (.inl (t3, s3)) => (
  M.pure (t3, s3))
  | (.inr (t4, s4)) => (
  M.pure (t4, s4))
theorem zbK {R : List Chunk} {T_ : Type} {Y_ : T_ -> List Chunk -> Prop} {ag : Value} {ai : List Chunk} {ab : Nat} {ac : Nat} {av : Cells} {ae : Value} {aw : Cells} {ax : Value} {ay : Cells} {az : Value} {aA : Cells} {aB : Value} {aC : Cells} {aD : Value} (aj : T_ -> (Int × Int) -> M (Bool × T_)) (t_ : T_) (ak : Int) (aa : List Int) (aE : List Span) (aF : List Int) (aG : List Town) (aH : Int) (aI : Int) (aJ : List Flood) (aP : YieldC Try.prog R arII Y_ ag aj) (aQ : Y_ t_ ai) (aR : Reads R av) (ah : Sl av ae aa) (a6 : Reads R aw) (a7 : Sl aw ax aE) (a8 : Reads R ay) (ba : Sl ay az aF) (bb : Reads R aA) (bc : Sl aA aB aG) (bf : Reads R aC) (bg : Sl aC aD aJ) (aK : Has R (cBlk ac [ae, ax, az, aB, I aH, I aI, aD] 30)) {r : (T_ × Int)} (hM : (zak aj t_ ak aa aE aF aG aH aI aJ).Ends r) (w : World) (H : St w w [cAll ai, cBlk ab [I ak] 3] R) : Ret Try.prog 67 #[ag, Pq ab, Pq ac] w fun v w' => ∃ (y0 : T_) (y1 : Int) (Ls0 : List Chunk), (y0, y1) = r /\ v = .tuple #[] /\ St w w' [cAll Ls0, cBlk ab [I y1] 3] R /\ Y_ y0 Ls0 := by
 refine ret_of_W Try.func67 rfl rfl rfl ?_
 refine W.seq ?_
 refine W.region rfl ?_
 refine zA (I 0) rfl ?_
 refine s_nil ?_
 refine W.block ?_
 obtain ⟨aS, al, aL⟩ := M.e_bind hM
 obtain ⟨bh, al⟩ := M.e_iter al
 refine W.loop (fun m σ W => ∃ (s : Int) (s2 : Nat) (t2 : T_) (Ls_t2 : List Chunk) (ρ : Env), σ = upds ρ [(0, ag), (1, Pq ab), (2, Pq ac), (4, I (s2 : Int))] /\ M.iterN (zaL aj aa) m (s, s2, t2) = some aS /\ St w W [cAll Ls_t2, cBlk ab [I s] 3] R /\ Y_ t2 Ls_t2) ?_ ?_
 ·exact ⟨_, ak, 0, t_, ai, _, upds_of _ _ ⟨rfl, rfl, rfl, rfl, trivial⟩, al, H, aQ⟩
 rintro bi σ bj ⟨s, s2, t2, Ls_t2, ρ, rfl, aM, H, hY_t2⟩
 obtain ⟨aT, aU, bm, hM, am⟩ := M.e_iterN aM
 simp only [zaL] at hM
 clear aM
 refine W.seq ?_
 refine W.seq ?_
 refine W.region rfl ?_
 refine s_val (x_ld (p := Pq ab) (v := I s) rfl (ldb_sc Sc3 (H.bl 1) rfl)) ?_
 refine zC s (-1) (s != (-1)) rfl rfl rfl ?_
 refine zM (B (s != (-1))) rfl ?_
 refine g_val (s != (-1)) (gy_t rfl) (fun hg => x_ld (p := Pq ab) (v := I s) rfl (ldb_sc Sc3 (H.bl 1) rfl)) ?_
 refine g_val (s != (-1)) (gy_t rfl) (fun hg => x_fa (a := Pq ac) (v := Pq ac) rfl (fa_blk (o := 0) Fd30_0 Sz23)) ?_
 refine g_val (s != (-1)) (gy_t rfl) (fun hg => x_ld (p := Pq ac) (v := ae) (gd_of (c := s != (-1)) hg (Pq ac)) (ldb_sc Sc23 (aK.blk H) rfl)) ?_
 have bn := (ah).len_le
 refine g_val (s != (-1)) (gy_t rfl) (fun hg => x_lenS T23.und (gd_of (c := s != (-1)) hg (ae)) ah) ?_
 refine g_val (s != (-1)) (gy_t rfl) (fun hg => x_cmp (kd := .i64) (a := s) (b := (aa.length : Int)) (r := decide (s < (aa.length : Int))) (gd_of (c := s != (-1)) hg (I s)) (gd_of (c := s != (-1)) hg (I (aa.length : Int))) rfl) ?_
 refine s_val (x_pand (b := s != (-1)) (r := decide (s < (aa.length : Int))) rfl (fun hb => gd_of (c := s != (-1)) (by first | exact hb | (rw [hb]; rfl) | simp_all) (B (decide (s < (aa.length : Int))))) rfl) ?_
 refine s_nil ?_
 refine W.cond ((s != (-1)) && (decide (s < (aa.length : Int)))) rfl (fun ao => ?_) (fun ao => ?_)
 ·replace hM := M.e_t hM ao
  refine W.skip ?_
  refine W.seq ?_
  refine W.block ?_
  refine W.seq ?_
  refine W.seq ?_
  refine W.region rfl ?_
  refine zM ag rfl ?_
  refine zM (I (s2 : Int)) rfl ?_
  refine s_val (x_ld (p := Pq ab) (v := I s) rfl (ldb_sc Sc3 (H.bl 1) rfl)) ?_
  obtain ⟨⟨go, t⟩, aV, hM⟩ := M.e_bind hM
  try dsimp only at hM
  refine t_yield (L := [cBlk ab [I s] 3]) H aP hY_t2 rfl [I (s2 : Int), I s] rfl ((s2 : Int), s) Reads.none rfl aV ?_
  intro aN bo aO H
  replace H := H.nf
  refine s_val (x_not (b := go) rfl) ?_
  refine s_nil ?_
  refine W.cond (!go) rfl (fun aq => ?_) (fun aq => ?_)
  ·replace hM := M.e_t hM aq
   refine W.ret ?_
   have aW := M.e_inr hM am
   subst aW
   replace hM := aL
   try dsimp only at hM
   have au := M.e_pure hM
   exact ⟨_, resE_tmp0 rfl, ⟨t, s, aN, au, rfl, H, aO⟩⟩
  replace hM := M.e_f hM aq
  refine W.skip ?_
  refine W.region rfl ?_
  refine s_val (x_fa (a := Pq ac) (v := Pq ac) rfl (fa_blk (o := 0) Fd30_0 Sz23)) ?_
  refine s_val (x_ld (p := Pq ac) (v := ae) rfl (ldb_sc Sc23 (aK.blk H) rfl)) ?_
  refine s_val (x_ld (p := Pq ab) (v := I s) rfl (ldb_sc Sc3 (H.bl 1) rfl)) ?_
  obtain ⟨aX, hM⟩ := M.e_grd hM
  simp only [Bool.and_eq_true, decide_eq_true_eq] at aX
  refine s_val (x_ix (a := ae) (b := I s) (v := vat ae 1 (Int.toNat s)) rfl rfl (Sl.ix (α := Int) T23.und T23.size ah (by omega) (by omega))) ?_
  refine s_val (x_ld (p := vat ae 1 (Int.toNat s)) (v := I (aa.getD (Int.toNat s) 0)) rfl (ld_sc Sc3 (At.mono (Int_at ah (i := s) (by omega) (by omega)) (aR.at H)))) ?_
  refine t_sw 1 0 [I (aa.getD (Int.toNat s) 0)] (I (aa.getD (Int.toNat s) 0)) H rfl rfl Sz3 rfl rfl rfl rfl ?_
  intro bp H
  refine s_nil ?_
  refine W.region rfl ?_
  refine zM (I (s2 : Int)) rfl ?_
  obtain ⟨aY, hM⟩ := M.e_grd hM
  simp only [Bool.and_eq_true, decide_eq_true_eq] at aY
  refine zR (s2 : Int) 1 ((s2 : Int) + 1) rfl rfl rfl (by omega) ?_
  refine zA (I ((s2 : Int) + 1)) rfl ?_
  refine s_nil ?_
  exact ⟨aT, aU, aa.getD (Int.toNat s) 0, s2 + 1, t, aN, _, upds_of _ _ ⟨rfl, rfl, rfl, rfl, trivial⟩, M.e_inl hM am, H, aO⟩
 replace hM := M.e_f hM ao
 refine W.exit ?_
 have aZ := M.e_inr hM am
 subst aZ
 replace hM := aL
 try dsimp only at hM
 have au := M.e_pure hM
 exact ⟨_, resE_tmp0 rfl, ⟨t2, s, Ls_t2, au, rfl, H, hY_t2⟩⟩
theorem zdr {T_ : Type} {n_ : Nat} {y y' : T_ -> (Int × Int) -> M (Bool × T_)} (h : ∀ s a, M.LeN n_ (y s a) (y' s a)) (t_ : T_) (aa : Int) (ab : List Int) (ac : List Span) (ae : List Int) (ag : List Town) (ah : Int) (ai : Int) (aj : List Flood) : M.LeN n_ (zak y t_ aa ab ac ae ag ah ai aj) (zak y' t_ aa ab ac ae ag ah ai aj) := by
  simp only [zak, zaL]
  repeat' (first | exact M.le_same _ _ | exact h _ _ | refine M.le_grd ?_ | refine M.le_if ?_ ?_ | refine M.le_bind ?_ (fun x => ?_) | refine M.le_opt ?_ | refine M.le_iter (fun x => ?_) _ | (rename_i x; cases x) | (rename_i x; obtain ⟨_, _⟩ := x))

def zbr (l : List Span) : (Int × Int × Nat) -> M ((Int × Int × Nat) ⊕ (Int × Int)) := fun (s, s2, s3) =>
  bif decide ((s3 : Int) < (l.length : Int)) then (
  M.grd (decide ((s3 : Int) < (l.length : Int))) <|
  M.grd (decide ((-9223372036854775808 : Int) <= (s + ((l.getD s3 default).lo))) && decide ((s + ((l.getD s3 default).lo)) <= (9223372036854775807 : Int))) <|
  M.grd (decide ((-9223372036854775808 : Int) <= (s2 + ((l.getD s3 default).hi))) && decide ((s2 + ((l.getD s3 default).hi)) <= (9223372036854775807 : Int))) <|
  M.pure (.inl (s + ((l.getD s3 default).lo), s2 + ((l.getD s3 default).hi), s3 + 1)))
  else (
  M.pure (.inr (s, s2)))
def zba (l : List Span) : M (Int × Int) :=
  M.bind (M.iter (zbr l) (0, 0, 0)) fun (s4, s5) =>
  M.pure (s4, s5)
theorem zda {R : List Chunk} {ai : Cells} {ab : Value} (l : List Span) (am : Reads R ai) (ag : Sl ai ab l) {r : (Int × Int)} (hM : (zba l).Ends r) (w : World) (H : St w w [] R) : Ret Try.prog 59 #[ab] w fun v w' => ∃ (y0 : Int) (y1 : Int), (y0, y1) = r /\ v = .agg #[I y0, I y1] /\ St w w' [] R := by
 refine ret_of_W Try.func59 rfl rfl rfl ?_
 refine W.seq ?_
 refine W.region rfl ?_
 refine t_alloc (cs := [I 0, I 0]) H Al27 rfl ?_
 intro aj aC H
 refine s_nil ?_
 refine W.seq ?_
 refine W.region rfl ?_
 refine t_alloc (cs := [I 0, I 0]) H Al27 rfl ?_
 intro aa aD H
 refine s_nil ?_
 refine W.seq ?_
 refine W.seq ?_
 refine W.region rfl ?_
 refine zM ab rfl ?_
 have aE := (ag).len_le
 refine s_val (x_lenS T24.und rfl ag) ?_
 refine zM (I 0) rfl ?_
 refine s_nil ?_
 refine W.block ?_
 obtain ⟨ao, ah, aq⟩ := M.e_bind hM
 obtain ⟨aF, ah⟩ := M.e_iter ah
 refine W.loop (fun m σ W => ∃ (s : Int) (s2 : Int) (s3 : Nat) (ρ : Env), σ = upds ρ [(2, Pq aj), (3, Pq aa), (6, ab), (7, I (l.length : Int)), (8, I (s3 : Int))] /\ M.iterN (zbr l) m (s, s2, s3) = some ao /\ St w W [cBlk aa [I s, I s2] 27, cBlk aj [I 0, I 0] 27] R) ?_ ?_
 ·exact ⟨_, 0, 0, 0, _, upds_of _ _ ⟨rfl, rfl, rfl, rfl, rfl, trivial⟩, ah, H⟩
 rintro aG σ aH ⟨s, s2, s3, ρ, rfl, ak, H⟩
 obtain ⟨au, av, aI, hM, al⟩ := M.e_iterN ak
 simp only [zbr] at hM
 clear ak
 refine W.seq ?_
 refine W.region rfl ?_
 refine zC (s3 : Int) (l.length : Int) (decide ((s3 : Int) < (l.length : Int))) rfl rfl rfl ?_
 refine s_nil ?_
 refine W.seq ?_
 refine W.cond (decide ((s3 : Int) < (l.length : Int))) rfl (fun ae => ?_) (fun ae => ?_)
 ·replace hM := M.e_t hM ae
  simp only [qy1, qy2, qy3, qy4, qy5, qy6, ne_eq, qy7] at ae
  refine W.skip ?_
  refine W.seq ?_
  refine W.block ?_
  refine W.seq ?_
  refine W.region rfl ?_
  obtain ⟨aw, hM⟩ := M.e_grd hM
  simp only [Bool.and_eq_true, decide_eq_true_eq] at aw
  refine s_val (x_ix (a := ab) (b := I (s3 : Int)) (v := vat ab 2 (Int.toNat (s3 : Int))) rfl rfl (Sl.ix (α := Span) T24.und T24.size ag (by omega) (by omega))) ?_
  refine s_val (x_ld (p := vat ab 2 (Int.toNat (s3 : Int))) (v := .agg #[I ((l.getD s3 default).lo), I ((l.getD s3 default).hi)]) rfl (ld_ag Ag27 Sz27 (At.mono (Span_atA ag (i := (s3 : Int)) (by omega) (by omega)) (am.at H)))) ?_
  refine t_alloc (cs := [I 0, I 0]) H Al27 rfl ?_
  intro ac aJ H
  refine t_sw 0 0 [I ((l.getD s3 default).lo), I ((l.getD s3 default).hi)] (.agg #[I ((l.getD s3 default).lo), I ((l.getD s3 default).hi)]) H rfl rfl Sz27 rfl rfl rfl rfl ?_
  intro aK H
  refine s_nil ?_
  refine W.region rfl ?_
  refine s_val (x_fa (a := Pq aa) (v := Pq aa) rfl (fa_blk (o := 0) Fd27_0 Sz3)) ?_
  refine s_val (x_ld (p := Pq aa) (v := I s) rfl (ldb_sc Sc3 (H.bl 1) rfl)) ?_
  refine s_val (x_fa (a := Pq ac) (v := Pq ac) rfl (fa_blk (o := 0) Fd27_0 Sz3)) ?_
  refine s_val (x_ld (p := Pq ac) (v := I ((l.getD s3 default).lo)) rfl (ldb_sc Sc3 (H.bl 0) rfl)) ?_
  obtain ⟨ax, hM⟩ := M.e_grd hM
  simp only [Bool.and_eq_true, decide_eq_true_eq] at ax
  refine zR s ((l.getD s3 default).lo) (s + ((l.getD s3 default).lo)) rfl rfl rfl (by omega) ?_
  refine s_val (x_fa (a := Pq aa) (v := Oq aa 1) rfl (fa_blk (o := 0) Fd27_1 Sz3)) ?_
  refine s_val (x_ld (p := Oq aa 1) (v := I s2) rfl (ldb_sc Sc3 (H.bl 1) rfl)) ?_
  refine s_val (x_fa (a := Pq ac) (v := Oq ac 1) rfl (fa_blk (o := 0) Fd27_1 Sz3)) ?_
  refine s_val (x_ld (p := Oq ac 1) (v := I ((l.getD s3 default).hi)) rfl (ldb_sc Sc3 (H.bl 0) rfl)) ?_
  obtain ⟨ay, hM⟩ := M.e_grd hM
  simp only [Bool.and_eq_true, decide_eq_true_eq] at ay
  refine zR s2 ((l.getD s3 default).hi) (s2 + ((l.getD s3 default).hi)) rfl rfl rfl (by omega) ?_
  refine s_val (x_bld (ps := [(0, I (s + ((l.getD s3 default).lo))), (1, I (s2 + ((l.getD s3 default).hi)))]) (zs := [I 0, I 0]) (L' := [I (s + ((l.getD s3 default).lo)), I (s2 + ((l.getD s3 default).hi))]) rfl Try.underlying27 Al27 rfl (Bd27 Try.underlying27) (.cons (cs := [I (s + ((l.getD s3 default).lo))]) rfl rfl rfl rfl rfl <| .cons (cs := [I (s2 + ((l.getD s3 default).hi))]) rfl rfl rfl rfl rfl <| .nil)) ?_
  refine t_sw 1 0 [I (s + ((l.getD s3 default).lo)), I (s2 + ((l.getD s3 default).hi))] (.agg #[I (s + ((l.getD s3 default).lo)), I (s2 + ((l.getD s3 default).hi))]) H rfl rfl Sz27 rfl rfl rfl rfl ?_
  intro aL H
  refine s_nil ?_
  refine W.region rfl ?_
  refine zR (s3 : Int) 1 ((s3 : Int) + 1) rfl rfl rfl (by omega) ?_
  refine zM (I ((s3 : Int) + 1)) rfl ?_
  refine s_nil ?_
  exact ⟨au, av, s + ((l.getD s3 default).lo), s2 + ((l.getD s3 default).hi), s3 + 1, _, upds_of _ _ ⟨rfl, rfl, rfl, rfl, rfl, trivial⟩, M.e_inl hM al, (H.pk [1, 2])⟩
 replace hM := M.e_f hM ae
 simp only [qy1, qy2, qy3, qy4, qy5, qy6, ne_eq, qy7] at ae
 refine W.exit ?_
 have az := M.e_inr hM al
 subst az
 replace hM := aq
 try dsimp only at hM
 refine W.seq ?_
 refine W.region rfl ?_
 refine s_val (x_ld (p := Pq aa) (v := .agg #[I s, I s2]) rfl (ldb_ag (ds := [I s, I s2]) Ag27 Sz27 (H.bl 0) rfl rfl)) ?_
 refine t_sw 1 0 [I s, I s2] (.agg #[I s, I s2]) H rfl rfl Sz27 rfl rfl rfl rfl ?_
 intro aM H
 refine s_nil ?_
 refine W.ret ?_
 have aA := (H.bl 1)
 have aB := M.e_pure hM
 exact ⟨_, (resE_of1 (v := .agg #[I s, I s2]) rfl (.cell (v := .agg #[I s, I s2]) rfl (run_loadVar_ag (ds := [I s, I s2]) Ag27 Sz27 aA rfl rfl) <| .nil)), ⟨s, s2, aB, rfl, (H.pk [])⟩⟩

def zat (aa : List Span) (ab : Int) : (List Span) -> (Int × Int) -> M ((List Span) ⊕ ((List Span) × (List Span) × Int × Int)) := fun l (x, x2) =>
  bif x2 == ab then (
  M.bind (zba l) fun (r0, r1) =>
  M.pure (.inr (l, l, r0, r1)))
  else (
  M.grd (decide ((0 : Int) <= x2) && decide (x2 < (aa.length : Int))) <|
  M.grd (decide ((l.length + ([(aa.getD (Int.toNat x2) default)]).length) * 16 <= 140737488355328)) <|
  M.pure (.inl (l ++ ([(aa.getD (Int.toNat x2) default)]))))
def zay (ab : List Int) (aa : List Span) (ac : List Int) (ae : List Town) (ah : Int) (ai : Int) (ag : List Flood) (aj : Int) (ak : Int) : M (Int × Int × Bool) :=
  M.bind (zan ab aa ac ae ah ai ag aj) fun (al, am, ao) =>
  M.bind (zak (M.yl (zat aa ak)) (.inl ([])) al ab aa ac ae am ao ag) fun x_ => match x_ with
  | (.inl l, q0) => (
  M.pure (0, 0, false))
  | (.inr (l2, l3, s, s2), q0) => (
  M.pure (s, s2, true))
theorem zcm {R : List Chunk} {ab : Nat} {bb : Cells} {ak : Value} {bc : Cells} {ae : Value} {bf : Cells} {al : Value} {bg : Cells} {am : Value} {bh : Cells} {ao : Value} {bm : Nat} (aL : List Int) (aa : List Span) (aM : List Int) (aN : List Town) (aB : Int) (aC : Int) (aO : List Flood) (aF : Int) (ac : Int) (aP : Reads R bb) (aX : Sl bb ak aL) (aG : Reads R bc) (aH : Sl bc ae aa) (aQ : Reads R bf) (aY : Sl bf al aM) (aR : Reads R bg) (aZ : Sl bg am aN) (aS : Reads R bh) (a6 : Sl bh ao aO) (aT : Has R (cBlk ab [ak, ae, al, am, I aB, I aC, ao, .map (some bm)] 86)) {r : (Int × Int × Bool)} (hM : (zay aL aa aM aN aB aC aO aF ac).Ends r) (w : World) (H : St w w [] R) : Ret Try.prog 47 #[Pq ab, I aF, I ac] w fun v w' => ∃ (y0 : Int) (y1 : Int) (y2 : Bool), (y0, y1, y2) = r /\ v = .tuple #[.agg #[I y0, I y1], B y2] /\ St w w' [] R := by
 refine ret_of_WD Try.func47 rfl rfl rfl ?_
 replace H : St w w [cMk ([])] R := H.mk0
 have bJ := aX.len_le
 have bK := aH.len_le
 have bL := aY.len_le
 have bM := aZ.len_le
 have bN := a6.len_le
 unfold zay at hM
 refine WD.seq ?_
 refine WD.of ?_
 refine W.region rfl ?_
 refine t_box (v := Pq ab) (cs := [Pq ab]) H rfl rfl ?_
 intro aq bO H
 refine t_box (v := I ac) (cs := [I ac]) H rfl rfl ?_
 intro au bP H
 refine t_alloc (cs := [I 0, I 0]) H Al27 rfl ?_
 intro ai bQ H
 refine t_alloc (cs := [B false]) H Al4 rfl ?_
 intro aj bR H
 refine s_nil ?_
 refine WD.seq ?_
 refine WD.of ?_
 refine W.region rfl ?_
 refine t_alloc (cs := [.slice none 0 0]) H Al24 rfl ?_
 intro ah bS H
 refine s_nil ?_
 refine WD.seq ?_
 refine WD.seq ?_
 refine WD.of ?_
 refine W.region rfl ?_
 refine s_val (x_ld (p := Pq aq) (v := Pq ab) rfl (ldb_sc Sc72 (H.bl 4) rfl)) ?_
 refine s_val (x_nc (a := ⟨ab, 0, none⟩) rfl) ?_
 refine s_val (x_fa (a := Pq ab) (v := Pq ab) rfl (fa_blk (o := 0) Fd86_0 Sz30)) ?_
 refine s_val (x_ld (p := Pq ab) (v := .agg #[ak, ae, al, am, I aB, I aC, ao]) rfl (ldb_ag (ds := [ak, ae, al, am, I aB, I aC, ao]) Ag30 Sz30 (aT.blk H) rfl rfl)) ?_
 refine zM (I aF) rfl ?_
 obtain ⟨bT, bn, hM⟩ := M.e_bind hM
 refine s_call cf46 [.agg #[ak, ae, al, am, I aB, I aC, ao], I aF] rfl (zbe aL aa aM aN aB aC aO aF (aP.app _) aX (aG.app _) aH (aQ.app _) aY (aR.app _) aZ (aS.app _) a6 bn _ (H.gt 6)) ?_
 rintro vq bU ⟨aU, av, aw, aD, ax, bo, hvq, ay⟩
 subst bo
 subst vq
 try dsimp only at hM
 replace H := H.bk ay
 clear ay
 refine s_nil ?_
 refine WD.block ?_
 replace H := H.nilOwn (α := Span) 27
 obtain ⟨bV, bp, hM⟩ := M.e_bind hM
 refine WD.range (L := [cOwn (α := Span) 27 (.slice none 0 0) ([]), cBlk ah [(.slice none 0 0)] 24, cBlk aj [B false] 4, cBlk ai [I 0, I 0] 27, cBlk ax [ak, ae, al, am, I av, I aw, ao] 30, cBlk au [I ac] 3, cBlk aq [Pq ab] 72, cBlk aD [I aU] 3]) [Pq aD, Pq ax] (H.pk [8, 0, 3, 4, 5, 2, 6, 7, 1]) rfl cf67 ?_
 intro aV aW a7 bq a8 H
 have hYC : YieldC Try.prog ([cMk (aW :: ([])), cBlk ax [ak, ae, al, am, I av, I aw, ao] 30, cBlk au [I ac] 3, cBlk aq [Pq ab] 72] ++ R) arII (yJ aV a7 (fun l az => ∃ (ag : Value), az = [cOwn (α := Span) 27 ag l, cBlk ah [ag] 24, cBlk aj [B false] 4, cBlk ai [I 0, I 0] 27]) (fun (l2, l3, s, s2) az => ∃ (aA : Value), az = [cOwn (α := Span) 27 aA l3, cBlk ah [aA] 24, cBlk aj [B true] 4, cBlk ai [I s, I s2] 27]) (fun _ => .ret)) (.func (.yield aV) #[] #[]) (M.yl (zat aa ac)) := by
  refine YieldC.mk a8 (fun l az => ∃ (ag : Value), az = [cOwn (α := Span) 27 ag l, cBlk ah [ag] 24, cBlk aj [B false] 4, cBlk ai [I 0, I 0] 27]) (fun (l2, l3, s, s2) az => ∃ (aA : Value), az = [cOwn (α := Span) 27 aA l3, cBlk ah [aA] 24, cBlk aj [B true] 4, cBlk ai [I s, I s2] 27]) (fun _ => .ret) (zat aa ac) (by rintro l _ h_; obtain ⟨_, rfl⟩ := h_; rfl) (by rintro ⟨l2, l3, s, s2⟩ _ h_; (obtain ⟨_, rfl⟩ := h_; rfl)) rfl (arII_len rfl) ?_
  intro C_ bW x_ W_ br
  obtain ⟨x, x2⟩ := x_
  obtain rfl := br
  refine W.region rfl ?_
  refine zA (I x2) rfl ?_
  refine s_nil ?_
  refine ⟨rfl, rfl, ?_⟩
  intro w R aE az s_ r bt hM H
  skip
  obtain ⟨l, bu⟩ : ∃ y_, y_ = s_ := ⟨_, rfl⟩
  subst bu
  obtain ⟨ag, rfl⟩ := bt
  replace aP := aP.sub aE
  replace aG := aG.sub aE
  replace aQ := aQ.sub aE
  replace aR := aR.sub aE
  replace aS := aS.sub aE
  replace aT := aT.sub aE
  replace hM : (zat aa ac l (x, x2)).Ends r := hM
  simp only [zat] at hM
  replace H := H.pk [0, 1, 2, 3, 5, 6, 7, 4]
  refine W.block ?_
  refine W.seq ?_
  refine W.seq ?_
  refine W.region rfl ?_
  refine zM (I x2) rfl ?_
  refine s_val (x_ld (p := Pq au) (v := I ac) rfl (ldb_sc Sc3 (H.bl 5) rfl)) ?_
  refine zC x2 ac (x2 == ac) rfl rfl rfl ?_
  refine s_nil ?_
  refine W.cond (x2 == ac) rfl (fun aI => ?_) (fun aI => ?_)
  ·replace hM := M.e_t hM aI
   simp only [qy1, qy2, qy3, qy4, qy5, qy6, ne_eq, qy7] at aI
   refine W.seq ?_
   refine W.region rfl ?_
   refine s_val (x_ld (p := Pq ah) (v := ag) rfl (ldb_sc Sc24 (H.bl 1) rfl)) ?_
   obtain ⟨bX, bv, hM⟩ := M.e_bind hM
   refine s_call cf59 [ag] rfl (zda l (rdo 0) (H.os 0) bv _ (H.gt 8)) ?_
   rintro vq bY ⟨r0, r1, bw, hvq, ay⟩
   subst bw
   subst vq
   try dsimp only at hM
   replace H := H.bk ay
   clear ay
   refine t_sw 3 0 [I r0, I r1] (.agg #[I r0, I r1]) H rfl rfl Sz27 rfl rfl rfl rfl ?_
   intro bZ H
   refine t_sw 2 0 [B true] (B true) H rfl rfl Sz4 rfl rfl rfl rfl ?_
   intro b4 H
   refine s_nil ?_
   refine W.ret ?_
   exact ⟨(l, l, r0, r1), [cOwn (α := Span) 27 ag l, cBlk ah [ag] 24, cBlk aj [B true] 4, cBlk ai [I r0, I r1] 27], (M.e_pure hM).symm, ⟨ag, rfl⟩, H.pick [0, 1, 2, 3, 7, 4, 5, 6] (by decide) rfl, rfl⟩
  replace hM := M.e_f hM aI
  simp only [qy1, qy2, qy3, qy4, qy5, qy6, ne_eq, qy7] at aI
  refine W.skip ?_
  refine W.drawT (fun W => St w W [cBlk aj [B false] 4, cBlk ai [I 0, I 0] 27, cBlk ax [ak, ae, al, am, I av, I aw, ao] 30, cBlk au [I ac] 3, cBlk aq [Pq ab] 72, cMk (aW :: ([]))] R) (.q 1 (.q 2 (.q 3 (.q 4 (.q 5 (.q 6 (.q 7 (.q 8 (.l2 0 (.l 9 (.l 10 (.l 11 .nil))) 9 (.l 0 (.l 10 (.l 11 .nil)))))))))))) mixed (by decide +kernel) rfl ?_
  intro b5 bi
  replace H := H.ext bi
  clear bi
  refine ⟨(H.pk [2, 3, 4, 5, 6, 7]), ?_⟩
  refine t_q rfl (fun w' H => x_ld (p := Pq aq) (v := Pq ab) rfl (ldb_sc Sc72 (H.bl 4) rfl)) ?_
  refine t_q rfl (fun w' H => x_nc (a := ⟨ab, 0, none⟩) rfl) ?_
  refine t_q rfl (fun w' H => x_fa (a := Pq ab) (v := Pq ab) rfl (fa_blk (o := 0) Fd86_0 Sz30)) ?_
  refine t_q rfl (fun w' H => x_fa (a := Pq ab) (v := Oq ab 1) rfl (fa_blk (o := 0) Fd30_1 Sz24)) ?_
  refine t_q rfl (fun w' H => x_ld (p := Oq ab 1) (v := ae) rfl (ldb_sc Sc24 (aT.blk H) rfl)) ?_
  refine t_q rfl (fun w' H => x_mv (v := I x2) rfl) ?_
  obtain ⟨bx, hM⟩ := M.e_grd hM
  simp only [Bool.and_eq_true, decide_eq_true_eq] at bx
  refine t_q rfl (fun w' H => x_ix (a := ae) (b := I x2) (v := vat ae 2 (Int.toNat x2)) rfl rfl (Sl.ix (α := Span) T24.und T24.size aH (by omega) (by omega))) ?_
  refine t_q rfl (fun w' H => x_ld (p := vat ae 2 (Int.toNat x2)) (v := .agg #[I ((aa.getD (Int.toNat x2) default).lo), I ((aa.getD (Int.toNat x2) default).hi)]) rfl (ld_ag Ag27 Sz27 (At.mono (Span_atA aH (i := x2) (by omega) (by omega)) (aG.at H)))) ?_
  obtain ⟨bz, hM⟩ := M.e_grd hM
  simp only [Bool.and_eq_true, decide_eq_true_eq] at bz
  refine t_l2 rfl rfl ?_ ?_
  ·skip
   refine s_val (x_ld (p := Pq ah) (v := ag) rfl (ldb_sc Sc24 (H.bl 1) rfl)) ?_
   have b6 := Sl.cells (H.os 0)
   have b7 := Sl.oc (H.os 0)
   refine s_nil ⟨(H.pk [2, 3, 4, 5, 6, 7]), ?_⟩
   refine t_l rfl ?_
   refine t_bs (α := Span) T24 [.agg #[I ((aa.getD (Int.toNat x2) default).lo), I ((aa.getD (Int.toNat x2) default).hi)]] [(aa.getD (Int.toNat x2) default)] H rfl (.cons rfl (Flat.rep_enc _ (aa.getD (Int.toNat x2) default)) <| .nil) rfl rfl rfl ?_
   intro bA b8 H
   have b9 := Sl.cells (H.os 0)
   have ca := Sl.oc (H.os 0)
   refine s_nil ⟨(H.pk [3, 4, 5, 6, 7, 8]), ?_⟩
   refine t_l rfl ?_
   refine t_app (α := Span) (k := 1) (l := l) (l2 := [(aa.getD (Int.toNat x2) default)]) (l' := l ++ ([(aa.getD (Int.toNat x2) default)])) (vy := bA) T24 rfl H rfl rfl rfl (H.os 0) (H.ol 0) (rfl) (by first | omega | (simp only [List.length_nil] at *; omega)) ?_
   intro aJ cb H
   replace H := H.nf
   have cc := Sl.cells (H.os 1)
   have cd := Sl.oc (H.os 1)
   refine s_nil ⟨(H.pk [3, 4, 5, 6, 7, 8]), ?_⟩
   refine t_l rfl ?_
   refine t_sw 2 0 [aJ] aJ H rfl rfl Sz24 (Sl.cells (H.os 1)) rfl rfl (by simp only [List.all_cons, List.all_nil, Bool.true_and, Bool.and_true, Sl.oc (H.os 1)]; try rfl) ?_
   intro ce H
   refine s_nil ⟨(H.pk [3, 4, 5, 6, 7, 8]), ?_⟩
   refine t_nil ?_
   exact ⟨l ++ ([(aa.getD (Int.toNat x2) default)]), [cOwn (α := Span) 27 aJ (l ++ ([(aa.getD (Int.toNat x2) default)])), cBlk ah [aJ] 24, cBlk aj [B false] 4, cBlk ai [I 0, I 0] 27], (M.e_pure hM).symm, ⟨aJ, rfl⟩, H.pick [1, 2, 3, 4, 8, 5, 6, 7] (by decide) rfl⟩
  skip
  refine t_bs (α := Span) T24 [.agg #[I ((aa.getD (Int.toNat x2) default).lo), I ((aa.getD (Int.toNat x2) default).hi)]] [(aa.getD (Int.toNat x2) default)] H rfl (.cons rfl (Flat.rep_enc _ (aa.getD (Int.toNat x2) default)) <| .nil) rfl rfl rfl ?_
  intro bB cf H
  have cg := Sl.cells (H.os 0)
  have ch := Sl.oc (H.os 0)
  have ck := Sl.cells (H.os 1)
  have cm := Sl.oc (H.os 1)
  refine s_nil ⟨(H.pk [3, 4, 5, 6, 7, 8]), ?_⟩
  refine t_l rfl ?_
  refine s_val (x_ld (p := Pq ah) (v := ag) rfl (ldb_sc Sc24 (H.bl 2) rfl)) ?_
  refine s_nil ⟨(H.pk [3, 4, 5, 6, 7, 8]), ?_⟩
  refine t_l rfl ?_
  refine t_app (α := Span) (k := 1) (l := l) (l2 := [(aa.getD (Int.toNat x2) default)]) (l' := l ++ ([(aa.getD (Int.toNat x2) default)])) (vy := bB) T24 rfl H rfl rfl rfl (H.os 0) (H.ol 0) (rfl) (by first | omega | (simp only [List.length_nil] at *; omega)) ?_
  intro aK cn H
  replace H := H.nf
  have co := Sl.cells (H.os 1)
  have cp := Sl.oc (H.os 1)
  refine s_nil ⟨(H.pk [3, 4, 5, 6, 7, 8]), ?_⟩
  refine t_l rfl ?_
  refine t_sw 2 0 [aK] aK H rfl rfl Sz24 (Sl.cells (H.os 1)) rfl rfl (by simp only [List.all_cons, List.all_nil, Bool.true_and, Bool.and_true, Sl.oc (H.os 1)]; try rfl) ?_
  intro cq H
  refine s_nil ⟨(H.pk [3, 4, 5, 6, 7, 8]), ?_⟩
  refine t_nil ?_
  exact ⟨l ++ ([(aa.getD (Int.toNat x2) default)]), [cOwn (α := Span) 27 aK (l ++ ([(aa.getD (Int.toNat x2) default)])), cBlk ah [aK] 24, cBlk aj [B false] 4, cBlk ai [I 0, I 0] 27], (M.e_pure hM).symm, ⟨aK, rfl⟩, H.pick [1, 2, 3, 4, 8, 5, 6, 7] (by decide) rfl⟩
 replace H : St w bq (cAll (cObj aV (.loop a7) :: [cOwn (α := Span) 27 (.slice none 0 0) ([]), cBlk ah [(.slice none 0 0)] 24, cBlk aj [B false] 4, cBlk ai [I 0, I 0] 27]) :: [cBlk aD [I aU] 3, cMk (aW :: ([])), cBlk ax [ak, ae, al, am, I av, I aw, ao] 30, cBlk au [I ac] 3, cBlk aq [Pq ab] 72]) R := St.bundleB (A := cObj aV (.loop a7) :: [cOwn (α := Span) 27 (.slice none 0 0) ([]), cBlk ah [(.slice none 0 0)] 24, cBlk aj [B false] 4, cBlk ai [I 0, I 0] 27]) (T := [cBlk aD [I aU] 3, cMk (aW :: ([])), cBlk ax [ak, ae, al, am, I av, I aw, ao] 30, cBlk au [I ac] 3, cBlk aq [Pq ab] 72]) rfl (H.pk [0, 2, 3, 4, 5, 9, 1, 6, 7, 8])
 refine (zbK (M.yl (zat aa ac)) (.inl ([])) aU aL aa aM aN av aw aO hYC ⟨_, rfl, ⟨(.slice none 0 0), rfl⟩⟩ (aP.app _) aX (aG.app _) aH (aQ.app _) aY (aR.app _) aZ (aS.app _) a6 (Has.here (k := 1) rfl) bp _ (H.gt 4)).mono ?_
 rintro vq ct ⟨bC, q0, cu, bD, hvq, ay, bj⟩
 subst bD
 replace H := H.back ay rfl
 clear ay hYC
 rcases bC with l | ⟨l2, l3, s, s2⟩
 ·try dsimp only at hM
  obtain ⟨_, rfl, ag, rfl⟩ := bj
  refine ⟨_, [cOwn (α := Span) 27 ag l, cBlk ah [ag] 24, cBlk aj [B false] 4, cBlk ai [I 0, I 0] 27, cBlk ax [ak, ae, al, am, I av, I aw, ao] 30, cBlk au [I ac] 3, cBlk aq [Pq ab] 72, cBlk aD [I q0] 3], H.unbundle.pick [0, 6, 1, 2, 3, 4, 7, 8, 9, 5] (by decide) rfl, a8.nb, ?_⟩
  intro bE H
  rw [a8.pd]
  replace H := H.nf
  try simp only []
  replace H := H.pk [0, 3, 4]
  refine WD.seq ?_
  refine WD.of ?_
  refine W.region rfl ?_
  refine s_val (x_bld (ps := []) (zs := [I 0, I 0]) (L' := [I 0, I 0]) rfl Try.underlying27 Al27 rfl (Bd27 Try.underlying27) (.nil)) ?_
  refine t_sw 2 0 [I 0, I 0] (.agg #[I 0, I 0]) H rfl rfl Sz27 rfl rfl rfl rfl ?_
  intro cw H
  refine t_sw 1 0 [B false] (B false) H rfl rfl Sz4 rfl rfl rfl rfl ?_
  intro cx H
  refine s_nil ?_
  refine WD.of ?_
  refine W.ret ?_
  refine bodyD_r (H.pk [0, 1, 2]) ?_
  intro cy H
  replace H := H.nf
  have bF := (H.bl 1)
  have bG := (H.bl 0)
  have ba := M.e_pure hM
  exact ⟨_, (resE_ofn (vs := [.agg #[I 0, I 0], B false]) rfl rfl (.cell (v := .agg #[I 0, I 0]) rfl (run_loadVar_ag (ds := [I 0, I 0]) Ag27 Sz27 bF rfl rfl) <| .cell (v := B false) rfl (run_loadVar_sc Sc4 bG rfl) <| .nil)), ⟨0, 0, false, ba, rfl, (H.pk [])⟩⟩
 try dsimp only at hM
 obtain ⟨_, rfl, aA, rfl⟩ := bj
 refine ⟨_, [cOwn (α := Span) 27 aA l3, cBlk ah [aA] 24, cBlk aj [B true] 4, cBlk ai [I s, I s2] 27, cBlk ax [ak, ae, al, am, I av, I aw, ao] 30, cBlk au [I ac] 3, cBlk aq [Pq ab] 72, cBlk aD [I q0] 3], H.unbundle.pick [0, 6, 1, 2, 3, 4, 7, 8, 9, 5] (by decide) rfl, nofun, ?_⟩
 intro bE H
 show WD _ _ _ (.ret) _ _ _
 refine WD.of ?_
 refine W.ret ?_
 replace H := H.nf
 refine bodyD_r (H.pk [0, 1, 2, 3, 4, 5, 6, 7, 8]) ?_
 intro cz H
 replace H := H.nf
 have bH := (H.bl 3)
 have bI := (H.bl 2)
 have ba := M.e_pure hM
 exact ⟨_, (resE_ofn (vs := [.agg #[I s, I s2], B true]) rfl rfl (.cell (v := .agg #[I s, I s2]) rfl (run_loadVar_ag (ds := [I s, I s2]) Ag27 Sz27 bH rfl rfl) <| .cell (v := B true) rfl (run_loadVar_sc Sc4 bI rfl) <| .nil)), ⟨s, s2, true, ba, rfl, (H.pk [])⟩⟩

def zav (ac : List Int) (ae : List Span) (ag : List Int) (aa : List Town) (ah : Int) (ab : Int) (ai : List Flood) (d : Dem) : (List Int) -> (Int × Int) -> M ((List Int) ⊕ Unit) := fun l (x, x2) =>
  M.bind (zay ac ae ag aa ah ab ai x2 ((aa.getD (Int.toNat d.town) default).station)) fun (aj, ak, r1) =>
  M.grd ((!r1 || (decide ((-9223372036854775808 : Int) <= (((aa.getD (Int.toNat d.town) default).lead) + ab)) && decide ((((aa.getD (Int.toNat d.town) default).lead) + ab) <= (9223372036854775807 : Int))))) <|
  bif (r1 && (decide ((((aa.getD (Int.toNat d.town) default).lead) + ab) <= aj))) then (
  M.grd (decide ((l.length + ([(x2 : Int)]).length) * 8 <= 140737488355328)) <|
  M.pure (.inl (l ++ ([(x2 : Int)]))))
  else (
  M.pure (.inl l))
def zaa (ab : List Int) (ac : List Span) (ae : List Int) (aa : List Town) (ah : Int) (ai : Int) (ag : List Flood) (d : Dem) : M (List Int) :=
  M.grd (decide ((0 : Int) <= d.town) && decide (d.town < (aa.length : Int))) <|
  M.bind (zan ab ac ae aa ah ai ag d.spring) fun (aj, ak, al) =>
  M.bind (zak (M.yl (zav ab ac ae aa ah ai ag d)) (.inl ([])) aj ab ac ae aa ak al ag) fun x_ => match x_ with
  | (.inl l, q0) => (
  M.pure l)
  | (.inr _, _) => M.fail
theorem za9 {R : List Chunk} {aa : Nat} {bn : Cells} {aA : Value} {bo : Cells} {aB : Value} {bp : Cells} {aC : Value} {bq : Cells} {al : Value} {br : Cells} {aD : Value} {aj : Nat} {am : Base} (aw : List Int) (ax : List Span) (ay : List Int) (ab : List Town) (ao : Int) (ae : Int) (az : List Flood) (d : Dem) (aP : Reads R bn) (aW : Sl bn aA aw) (aQ : Reads R bo) (aX : Sl bo aB ax) (aR : Reads R bp) (aY : Sl bp aC ay) (aL : Reads R bq) (aM : Sl bq al ab) (aS : Reads R br) (aZ : Sl br aD az) (aF : Has R (cBlk aa [aA, aB, aC, al, I ao, I ae, aD, .map (some aj)] 86)) {r : (List Int)} (hM : (zaa aw ax ay ab ao ae az d).Ends r) (w : World) (H : St w w [cMem encDm aj am (zaa aw ax ay ab ao ae az)] R) : Ret Try.prog 54 #[Pq aa, .agg #[I d.spring, I d.town]] w fun v w' => ∃ (y0 : List Int) (u0 : Value) (bt : Base), y0 = r /\ v = u0 /\ St w w' [cMem encDm aj bt (zaa aw ax ay ab ao ae az)] R /\ Sl bt.cells u0 y0 := by
 refine ret_of_WD Try.func54 rfl rfl rfl ?_
 replace H : St w w [cMk ([]), cMem encDm aj am (zaa aw ax ay ab ao ae az)] R := H.mk0
 have bQ := aW.len_le
 have bR := aX.len_le
 have bS := aY.len_le
 have bT := aM.len_le
 have bU := aZ.len_le
 unfold zaa at hM
 have hM0 := hM
 obtain ⟨av, H, bb⟩ := St.memOpen H (i := 1) rfl
 replace H := H.nf
 cases bc : av d with
 | none =>
  refine WD.seq ?_
  refine WD.of ?_
  refine W.region rfl ?_
  refine t_box (v := Pq aa) (cs := [Pq aa]) H rfl rfl ?_
  intro ah bV H
  refine t_box (v := .agg #[I d.spring, I d.town]) (cs := [I d.spring, I d.town]) H rfl rfl ?_
  intro ag bW H
  refine zA (.slice none 0 0) rfl ?_
  refine s_nil ?_
  refine WD.seq ?_
  refine WD.seq ?_
  refine WD.of ?_
  refine W.draw (fun W => St w W [cBlk ag [I d.spring, I d.town] 62, cBlk ah [Pq aa] 72, cRx am, cMk ([])] R) [(0, true), (1, true), (2, true), (3, true), (4, true), (5, false), (6, true), (7, true), (8, true), (9, true), (10, true)] mixed (by decide +kernel) rfl ?_
  intro bX ai
  replace H := H.ext ai
  clear ai
  refine ⟨(H.pk [0, 1, 3, 4]), ?_⟩
  refine d_q rfl (fun w' H => x_ld (p := Pq ah) (v := Pq aa) rfl (ldb_sc Sc72 (H.bl 1) rfl)) ?_
  refine d_q rfl (fun w' H => x_nc (a := ⟨aa, 0, none⟩) rfl) ?_
  refine d_q rfl (fun w' H => x_fa (a := Pq aa) (v := Oq aa 7) rfl (fa_blk (o := 0) Fd86_1 Sz84)) ?_
  refine d_q rfl (fun w' H => x_ld (p := Oq aa 7) (v := .map (some aj)) rfl (ldb_sc Sc84 (aF.blk H) rfl)) ?_
  refine d_q rfl (fun w' H => x_ld (p := Pq ag) (v := .agg #[I d.spring, I d.town]) rfl (ldb_ag (ds := [I d.spring, I d.town]) Ag62 Sz62 (H.bl 0) rfl rfl)) ?_
  refine d_l rfl ?_
  refine s_val (q_look (kenc := encDm) (venc := id) (f := av) (k := d) (z := .slice none 0 0) (v := .tuple #[.slice none 0 0, B false]) keyDem Try.underlying84 (by kernel_rfl) rfl rfl (H.get (k := 2) rfl) true (by simp [bc])) ?_
  refine s_nil ⟨(H.pk [0, 1, 3, 4]), ?_⟩
  refine d_q rfl (fun w' H => x_mv (v := .tuple #[.slice none 0 0, B false]) rfl) ?_
  refine d_q rfl (fun w' H => x_ext (vs := [.slice none 0 0, B false]) (v := .slice none 0 0) rfl rfl) ?_
  refine d_q rfl (fun w' H => x_ext (vs := [.slice none 0 0, B false]) (v := B false) rfl rfl) ?_
  refine d_q rfl (fun w' H => x_as (v := .slice none 0 0) rfl) ?_
  refine d_q rfl (fun w' H => x_as (v := B false) rfl) ?_
  refine d_nil ?_
  refine WD.seq ?_
  refine WD.of ?_
  refine W.region rfl ?_
  refine zM (B false) rfl ?_
  refine s_nil ?_
  refine WD.cond false rfl (fun bu => ?_) (fun bu => ?_)
  ·skip
   exact absurd bu (by decide)
  skip
  refine WD.of ?_
  refine W.skip ?_
  refine WD.seq ?_
  refine WD.of ?_
  refine W.region rfl ?_
  refine t_alloc (cs := [.slice none 0 0]) H Al23 rfl ?_
  intro ak bY H
  refine s_nil ?_
  refine WD.seq ?_
  refine WD.of ?_
  refine W.draw (fun W => St w W [cBlk ak [.slice none 0 0] 23, cBlk ag [I d.spring, I d.town] 62, cBlk ah [Pq aa] 72, cMap encDm id aj av, cRx am, cMk ([])] R) [(0, true), (1, true), (2, true), (3, true), (4, true), (5, true), (6, true), (7, true), (8, true), (9, false), (10, false)] mixed (by decide +kernel) rfl ?_
  intro bZ ai
  replace H := H.ext ai
  clear ai
  refine ⟨(H.pk [0, 1, 2, 3, 4, 5]), ?_⟩
  refine d_q rfl (fun w' H => x_ld (p := Pq ah) (v := Pq aa) rfl (ldb_sc Sc72 (H.bl 2) rfl)) ?_
  refine d_q rfl (fun w' H => x_nc (a := ⟨aa, 0, none⟩) rfl) ?_
  refine d_q rfl (fun w' H => x_fa (a := Pq aa) (v := Pq aa) rfl (fa_blk (o := 0) Fd86_0 Sz30)) ?_
  refine d_q rfl (fun w' H => x_fa (a := Pq aa) (v := Oq aa 3) rfl (fa_blk (o := 0) Fd30_3 Sz25)) ?_
  refine d_q rfl (fun w' H => x_ld (p := Oq aa 3) (v := al) rfl (ldb_sc Sc25 (aF.blk H) rfl)) ?_
  refine d_q rfl (fun w' H => x_fa (a := Pq ag) (v := Oq ag 1) rfl (fa_blk (o := 0) Fd62_1 Sz3)) ?_
  refine d_q rfl (fun w' H => x_ld (p := Oq ag 1) (v := I d.town) rfl (ldb_sc Sc3 (H.bl 1) rfl)) ?_
  obtain ⟨bx, hM⟩ := M.e_grd hM
  simp only [Bool.and_eq_true, decide_eq_true_eq] at bx
  refine d_q rfl (fun w' H => x_ix (a := al) (b := I d.town) (v := vat al 3 (Int.toNat d.town)) rfl rfl (Sl.ix (α := Town) T25.und T25.size aM (by omega) (by omega))) ?_
  refine d_q rfl (fun w' H => x_ld (p := vat al 3 (Int.toNat d.town)) (v := .agg #[I ((ab.getD (Int.toNat d.town) default).station), I ((ab.getD (Int.toNat d.town) default).lead), I ((ab.getD (Int.toNat d.town) default).alarm)]) rfl (ld_ag Ag54 Sz54 (At.mono (Town_atA aM (i := d.town) (by omega) (by omega)) (aL.at H)))) ?_
  refine d_l rfl ?_
  refine t_alloc (cs := [I 0, I 0, I 0]) H Al54 rfl ?_
  intro aq b4 H
  refine s_nil ⟨(H.pk [1, 2, 3, 4, 5, 6]), ?_⟩
  refine d_l rfl ?_
  refine t_sw 0 0 [I ((ab.getD (Int.toNat d.town) default).station), I ((ab.getD (Int.toNat d.town) default).lead), I ((ab.getD (Int.toNat d.town) default).alarm)] (.agg #[I ((ab.getD (Int.toNat d.town) default).station), I ((ab.getD (Int.toNat d.town) default).lead), I ((ab.getD (Int.toNat d.town) default).alarm)]) H rfl rfl Sz54 rfl rfl rfl rfl ?_
  intro b5 H
  refine s_nil ⟨(H.pk [1, 2, 3, 4, 5, 6]), ?_⟩
  refine d_nil ?_
  refine WD.seq ?_
  refine WD.seq ?_
  refine WD.of ?_
  refine W.draw (fun W => St w W [cBlk aq [I ((ab.getD (Int.toNat d.town) default).station), I ((ab.getD (Int.toNat d.town) default).lead), I ((ab.getD (Int.toNat d.town) default).alarm)] 54, cBlk ak [.slice none 0 0] 23, cBlk ag [I d.spring, I d.town] 62, cBlk ah [Pq aa] 72, cMap encDm id aj av, cRx am, cMk ([])] R) [(0, true), (1, true), (2, true), (3, true), (4, true), (5, true), (6, false)] mixed (by decide +kernel) rfl ?_
  intro b6 ai
  replace H := H.ext ai
  clear ai
  refine ⟨(H.pk [0, 1, 2, 3, 4, 5, 6]), ?_⟩
  refine d_q rfl (fun w' H => x_ld (p := Pq ah) (v := Pq aa) rfl (ldb_sc Sc72 (H.bl 3) rfl)) ?_
  refine d_q rfl (fun w' H => x_nc (a := ⟨aa, 0, none⟩) rfl) ?_
  refine d_q rfl (fun w' H => x_fa (a := Pq aa) (v := Pq aa) rfl (fa_blk (o := 0) Fd86_0 Sz30)) ?_
  refine d_q rfl (fun w' H => x_ld (p := Pq aa) (v := .agg #[aA, aB, aC, al, I ao, I ae, aD]) rfl (ldb_ag (ds := [aA, aB, aC, al, I ao, I ae, aD]) Ag30 Sz30 (aF.blk H) rfl rfl)) ?_
  refine d_q rfl (fun w' H => x_fa (a := Pq ag) (v := Pq ag) rfl (fa_blk (o := 0) Fd62_0 Sz3)) ?_
  refine d_q rfl (fun w' H => x_ld (p := Pq ag) (v := I d.spring) rfl (ldb_sc Sc3 (H.bl 2) rfl)) ?_
  refine d_l rfl ?_
  obtain ⟨b7, bz, hM⟩ := M.e_bind hM
  refine s_call cf46 [.agg #[aA, aB, aC, al, I ao, I ae, aD], I d.spring] rfl (zbe aw ax ay ab ao ae az d.spring (aP.app _) aW (aQ.app _) aX (aR.app _) aY (aL.app _) aM (aS.app _) aZ bz _ (H.gt 7)) ?_
  rintro vq b8 ⟨a6, aH, aI, aT, aJ, bA, hvq, aG⟩
  subst bA
  subst vq
  try dsimp only at hM
  replace H := H.bk aG
  clear aG
  refine s_nil ⟨(H.pk [2, 3, 4, 5, 6, 7, 8]), ?_⟩
  refine d_nil ?_
  refine WD.block ?_
  replace H := H.nilOwn (α := Int) 3
  obtain ⟨b9, bB, hM⟩ := M.e_bind hM
  refine WD.range (L := [cOwn (α := Int) 3 (.slice none 0 0) ([]), cBlk ak [(.slice none 0 0)] 23, cBlk aJ [aA, aB, aC, al, I aH, I aI, aD] 30, cBlk aq [I ((ab.getD (Int.toNat d.town) default).station), I ((ab.getD (Int.toNat d.town) default).lead), I ((ab.getD (Int.toNat d.town) default).alarm)] 54, cBlk ag [I d.spring, I d.town] 62, cBlk ah [Pq aa] 72, cMap encDm id aj av, cRx am, cBlk aT [I a6] 3]) [Pq aT, Pq aJ] (H.pk [9, 0, 4, 2, 3, 5, 6, 7, 8, 1]) rfl cf67 ?_
  intro a7 aN bf bC bg H
  have hYC : YieldC Try.prog ([cMk (aN :: ([])), cBlk aJ [aA, aB, aC, al, I aH, I aI, aD] 30, cBlk aq [I ((ab.getD (Int.toNat d.town) default).station), I ((ab.getD (Int.toNat d.town) default).lead), I ((ab.getD (Int.toNat d.town) default).alarm)] 54, cBlk ag [I d.spring, I d.town] 62, cBlk ah [Pq aa] 72, cMap encDm id aj av, cRx am] ++ R) arII (yJ a7 bf (fun l a8 => ∃ (ac : Value), a8 = [cOwn (α := Int) 3 ac l, cBlk ak [ac] 23]) (fun (_ : Unit) _ => False) (fun _ => .ret)) (.func (.yield a7) #[] #[]) (M.yl (zav aw ax ay ab ao ae az d)) := by
   refine YieldC.mk bg (fun l a8 => ∃ (ac : Value), a8 = [cOwn (α := Int) 3 ac l, cBlk ak [ac] 23]) (fun (_ : Unit) _ => False) (fun _ => .ret) (zav aw ax ay ab ao ae az d) (by rintro l _ h_; obtain ⟨_, rfl⟩ := h_; rfl) (fun _ _ h_ => h_.elim) rfl (arII_len rfl) ?_
   intro C_ ca x_ W_ bD
   obtain ⟨x, x2⟩ := x_
   obtain rfl := bD
   refine W.region rfl ?_
   refine zA (I x2) rfl ?_
   refine s_nil ?_
   refine ⟨rfl, rfl, ?_⟩
   intro w R aO a8 s_ r bE hM H
   skip
   obtain ⟨l, bF⟩ : ∃ y_, y_ = s_ := ⟨_, rfl⟩
   subst bF
   obtain ⟨ac, rfl⟩ := bE
   replace aP := aP.sub aO
   replace aQ := aQ.sub aO
   replace aR := aR.sub aO
   replace aL := aL.sub aO
   replace aS := aS.sub aO
   replace aF := aF.sub aO
   replace hM : (zav aw ax ay ab ao ae az d l (x, x2)).Ends r := hM
   simp only [zav] at hM
   replace H := H.pk [0, 1, 3, 4, 5, 6, 7, 8, 2]
   refine W.block ?_
   refine W.seq ?_
   refine W.region rfl ?_
   refine s_val (x_ld (p := Pq ah) (v := Pq aa) rfl (ldb_sc Sc72 (H.bl 5) rfl)) ?_
   refine zM (I x2) rfl ?_
   refine s_val (x_fa (a := Pq aq) (v := Pq aq) rfl (fa_blk (o := 0) Fd54_0 Sz3)) ?_
   refine s_val (x_ld (p := Pq aq) (v := I ((ab.getD (Int.toNat d.town) default).station)) rfl (ldb_sc Sc3 (H.bl 3) rfl)) ?_
   obtain ⟨cb, bG, hM⟩ := M.e_bind hM
   refine s_call cf47 [Pq aa, I x2, I ((ab.getD (Int.toNat d.town) default).station)] rfl (zcm aw ax ay ab ao ae az x2 ((ab.getD (Int.toNat d.town) default).station) (aP.app _) aW (aQ.app _) aX (aR.app _) aY (aL.app _) aM (aS.app _) aZ (aF.app _) bG _ (H.gt 9)) ?_
   rintro vq cc ⟨au, aK, r1, bH, hvq, aG⟩
   subst bH
   subst vq
   try dsimp only at hM
   replace H := H.bk aG
   clear aG
   refine zM (.tuple #[.agg #[I au, I aK], B r1]) rfl ?_
   refine zX [.agg #[I au, I aK], B r1] (.agg #[I au, I aK]) rfl rfl ?_
   refine zX [.agg #[I au, I aK], B r1] (B r1) rfl rfl ?_
   refine t_alloc (cs := [I 0, I 0]) H Al27 rfl ?_
   intro aU cd H
   refine t_sw 0 0 [I au, I aK] (.agg #[I au, I aK]) H rfl rfl Sz27 rfl rfl rfl rfl ?_
   intro ce H
   refine zA (B r1) rfl ?_
   refine s_nil ?_
   refine W.seq ?_
   refine W.draw (fun W => St w W [cBlk aU [I au, I aK] 27, cOwn (α := Int) 3 ac l, cBlk ak [ac] 23, cBlk aJ [aA, aB, aC, al, I aH, I aI, aD] 30, cBlk aq [I ((ab.getD (Int.toNat d.town) default).station), I ((ab.getD (Int.toNat d.town) default).lead), I ((ab.getD (Int.toNat d.town) default).alarm)] 54, cBlk ag [I d.spring, I d.town] 62, cBlk ah [Pq aa] 72, cMap encDm id aj av, cRx am, cMk (aN :: ([]))] R) [(0, true), (1, true), (2, true), (3, true), (4, true), (5, true), (6, true), (7, true), (8, true), (9, true), (10, true), (11, true), (12, true), (13, true), (14, true)] mixed (by decide +kernel) rfl ?_
   intro cf ai
   replace H := H.ext ai
   clear ai
   refine ⟨(H.pk [0, 1, 2, 3, 4, 5, 6, 7, 8, 9]), ?_⟩
   refine d_q rfl (fun w' H => x_mv (v := B r1) rfl) ?_
   refine d_q rfl (fun w' H => x_mv (v := B r1) rfl) ?_
   refine d_qg r1 rfl (gy_t rfl) (fun hg => (fun w' H => x_fa (a := Pq aU) (v := Pq aU) rfl (fa_blk (o := 0) Fd27_0 Sz3))) ?_
   refine d_qg r1 rfl (gy_t rfl) (fun hg => (fun w' H => x_ld (p := Pq aU) (v := I au) (gd_of (c := r1) hg (Pq aU)) (ldb_sc Sc3 (H.bl 0) rfl))) ?_
   refine d_qg r1 rfl (gy_t rfl) (fun hg => (fun w' H => x_fa (a := Pq aq) (v := Oq aq 1) rfl (fa_blk (o := 0) Fd54_1 Sz3))) ?_
   refine d_qg r1 rfl (gy_t rfl) (fun hg => (fun w' H => x_ld (p := Oq aq 1) (v := I ((ab.getD (Int.toNat d.town) default).lead)) (gd_of (c := r1) hg (Oq aq 1)) (ldb_sc Sc3 (H.bl 4) rfl))) ?_
   refine d_qg r1 rfl (gy_t rfl) (fun hg => (fun w' H => x_ld (p := Pq ah) (v := Pq aa) rfl (ldb_sc Sc72 (H.bl 6) rfl))) ?_
   refine d_qg r1 rfl (gy_t rfl) (fun hg => (fun w' H => x_nc (a := ⟨aa, 0, none⟩) (gd_of (c := r1) hg (Pq aa)))) ?_
   refine d_qg r1 rfl (gy_t rfl) (fun hg => (fun w' H => x_fa (a := Pq aa) (v := Pq aa) (gd_of (c := r1) hg (Pq aa)) (fa_blk (o := 0) Fd86_0 Sz30))) ?_
   refine d_qg r1 rfl (gy_t rfl) (fun hg => (fun w' H => x_fa (a := Pq aa) (v := Oq aa 4) (gd_of (c := r1) hg (Pq aa)) (fa_blk (o := 0) Fd30_4 Sz27))) ?_
   refine d_qg r1 rfl (gy_t rfl) (fun hg => (fun w' H => x_fa (a := Oq aa 4) (v := Oq aa 5) (gd_of (c := r1) hg (Oq aa 4)) (fa_blk (o := 4) Fd27_1 Sz3))) ?_
   refine d_qg r1 rfl (gy_t rfl) (fun hg => (fun w' H => x_ld (p := Oq aa 5) (v := I ae) (gd_of (c := r1) hg (Oq aa 5)) (ldb_sc Sc3 (aF.blk H) rfl))) ?_
   obtain ⟨ba, hM⟩ := M.e_grd hM
   replace ba := M.imp_of ba
   simp only [Bool.and_eq_true, decide_eq_true_eq] at ba
   refine d_qg r1 rfl (gy_t rfl) (fun hg => (fun w' H => x_ari (a := (ab.getD (Int.toNat d.town) default).lead) (b := ae) (r := ((ab.getD (Int.toNat d.town) default).lead) + ae) (gd_of (c := r1) hg (I ((ab.getD (Int.toNat d.town) default).lead))) (gd_of (c := r1) hg (I ae)) rfl (by have bh := ba.resolve_left (by rw [hg]; decide); first | exact bh | exact bh.1 | exact bh.2 | omega | (have ai := hg; simp at ai; omega)))) ?_
   refine d_qg r1 rfl (gy_t rfl) (fun hg => (fun w' H => x_cmp (kd := .i64) (a := au) (b := ((ab.getD (Int.toNat d.town) default).lead) + ae) (r := decide ((((ab.getD (Int.toNat d.town) default).lead) + ae) <= au)) (gd_of (c := r1) hg (I au)) (gd_of (c := r1) hg (I (((ab.getD (Int.toNat d.town) default).lead) + ae))) rfl)) ?_
   refine d_q rfl (fun w' H => x_pand (b := r1) (r := decide ((((ab.getD (Int.toNat d.town) default).lead) + ae) <= au)) rfl (fun hb => gd_of (c := r1) (by first | exact hb | (rw [hb]; rfl) | simp_all) (B (decide ((((ab.getD (Int.toNat d.town) default).lead) + ae) <= au)))) rfl) ?_
   refine d_nil ?_
   refine W.cond (r1 && (decide ((((ab.getD (Int.toNat d.town) default).lead) + ae) <= au))) rfl (fun bi => ?_) (fun bi => ?_)
   ·replace hM := M.e_t hM bi
    refine W.region rfl ?_
    refine s_val (x_ld (p := Pq ak) (v := ac) rfl (ldb_sc Sc23 (H.bl 2) rfl)) ?_
    refine zM (I x2) rfl ?_
    refine t_bs (α := Int) T23 [I x2] [(x2 : Int)] H rfl (.cons rfl (Flat.rep_enc _ (x2 : Int)) <| .nil) rfl rfl rfl ?_
    intro bI cg H
    obtain ⟨bJ, hM⟩ := M.e_grd hM
    simp only [Bool.and_eq_true, decide_eq_true_eq] at bJ
    refine t_app (α := Int) (k := 2) (l := l) (l2 := [(x2 : Int)]) (l' := l ++ ([(x2 : Int)])) (vy := bI) T23 rfl H rfl rfl rfl (H.os 0) (H.ol 0) (rfl) (by first | omega | (simp only [List.length_nil] at *; omega)) ?_
    intro aV ch H
    replace H := H.nf
    refine t_sw 3 0 [aV] aV H rfl rfl Sz23 (Sl.cells (H.os 2)) rfl rfl (by simp only [List.all_cons, List.all_nil, Bool.true_and, Bool.and_true, Sl.oc (H.os 2)]; try rfl) ?_
    intro ck H
    refine s_nil ?_
    exact ⟨l ++ ([(x2 : Int)]), [cOwn (α := Int) 3 aV (l ++ ([(x2 : Int)])), cBlk ak [aV] 23], (M.e_pure hM).symm, ⟨aV, rfl⟩, H.pick [2, 3, 10, 4, 5, 6, 7, 8, 9] (by decide) rfl⟩
   replace hM := M.e_f hM bi
   refine W.skip ?_
   exact ⟨l, [cOwn (α := Int) 3 ac l, cBlk ak [ac] 23], (M.e_pure hM).symm, ⟨ac, rfl⟩, H.pick [1, 2, 9, 3, 4, 5, 6, 7, 8] (by decide) rfl⟩
  replace H : St w bC (cAll (cObj a7 (.loop bf) :: [cOwn (α := Int) 3 (.slice none 0 0) ([]), cBlk ak [(.slice none 0 0)] 23]) :: [cBlk aT [I a6] 3, cMk (aN :: ([])), cBlk aJ [aA, aB, aC, al, I aH, I aI, aD] 30, cBlk aq [I ((ab.getD (Int.toNat d.town) default).station), I ((ab.getD (Int.toNat d.town) default).lead), I ((ab.getD (Int.toNat d.town) default).alarm)] 54, cBlk ag [I d.spring, I d.town] 62, cBlk ah [Pq aa] 72, cMap encDm id aj av, cRx am]) R := St.bundleB (A := cObj a7 (.loop bf) :: [cOwn (α := Int) 3 (.slice none 0 0) ([]), cBlk ak [(.slice none 0 0)] 23]) (T := [cBlk aT [I a6] 3, cMk (aN :: ([])), cBlk aJ [aA, aB, aC, al, I aH, I aI, aD] 30, cBlk aq [I ((ab.getD (Int.toNat d.town) default).station), I ((ab.getD (Int.toNat d.town) default).lead), I ((ab.getD (Int.toNat d.town) default).alarm)] 54, cBlk ag [I d.spring, I d.town] 62, cBlk ah [Pq aa] 72, cMap encDm id aj av, cRx am]) rfl (H.pk [0, 2, 3, 10, 1, 4, 5, 6, 7, 8, 9])
  refine (zbK (M.yl (zav aw ax ay ab ao ae az d)) (.inl ([])) a6 aw ax ay ab aH aI az hYC ⟨_, rfl, ⟨(.slice none 0 0), rfl⟩⟩ (aP.app _) aW (aQ.app _) aX (aR.app _) aY (aL.app _) aM (aS.app _) aZ (Has.here (k := 1) rfl) bB _ (H.gt 7)).mono ?_
  rintro vq cm ⟨bK, q0, cn, bL, hvq, aG, bv⟩
  subst bL
  replace H := H.back aG rfl
  clear aG hYC
  rcases bK with l | _
  ·try dsimp only at hM
   obtain ⟨_, rfl, ac, rfl⟩ := bv
   refine ⟨_, [cOwn (α := Int) 3 ac l, cBlk ak [ac] 23, cBlk aJ [aA, aB, aC, al, I aH, I aI, aD] 30, cBlk aq [I ((ab.getD (Int.toNat d.town) default).station), I ((ab.getD (Int.toNat d.town) default).lead), I ((ab.getD (Int.toNat d.town) default).alarm)] 54, cBlk ag [I d.spring, I d.town] 62, cBlk ah [Pq aa] 72, cMap encDm id aj av, cRx am, cBlk aT [I q0] 3], H.unbundle.pick [0, 4, 1, 2, 5, 6, 7, 8, 9, 10, 3] (by decide) rfl, bg.nb, ?_⟩
   intro co H
   rw [bg.pd]
   replace H := H.nf
   try simp only []
   replace H := H.pk [0, 1, 2, 5, 6, 7, 8]
   refine WD.seq ?_
   refine WD.of ?_
   refine W.draw (fun W => St w W [cMk (aN :: ([])), cOwn (α := Int) 3 ac l, cBlk ak [ac] 23, cBlk ag [I d.spring, I d.town] 62, cBlk ah [Pq aa] 72, cRx am] R) [(0, true), (1, true), (2, true), (3, true), (4, true), (5, true), (6, false)] mixed (by decide +kernel) rfl ?_
   intro cp ai
   replace H := H.ext ai
   clear ai
   refine ⟨(H.pk [0, 1, 2, 3, 4, 6]), ?_⟩
   refine d_q rfl (fun w' H => x_ld (p := Pq ah) (v := Pq aa) rfl (ldb_sc Sc72 (H.bl 4) rfl)) ?_
   refine d_q rfl (fun w' H => x_nc (a := ⟨aa, 0, none⟩) rfl) ?_
   refine d_q rfl (fun w' H => x_fa (a := Pq aa) (v := Oq aa 7) rfl (fa_blk (o := 0) Fd86_1 Sz84)) ?_
   refine d_q rfl (fun w' H => x_ld (p := Oq aa 7) (v := .map (some aj)) rfl (ldb_sc Sc84 (aF.blk H) rfl)) ?_
   refine d_q rfl (fun w' H => x_ld (p := Pq ag) (v := .agg #[I d.spring, I d.town]) rfl (ldb_ag (ds := [I d.spring, I d.town]) Ag62 Sz62 (H.bl 3) rfl rfl)) ?_
   refine d_q rfl (fun w' H => x_ld (p := Pq ak) (v := ac) rfl (ldb_sc Sc23 (H.bl 2) rfl)) ?_
   refine d_l rfl ?_
   refine t_mapu (i := 5) (kenc := encDm) (venc := id) (f := av) (k := d) (v := ac) (L' := [cMk (aN :: ([])), cOwn (α := Int) 3 ac l, cBlk ak [ac] 23, cBlk ag [I d.spring, I d.town] 62, cBlk ah [Pq aa] 72, cMap encDm id aj (updF av d ac), cRx am]) keyDem Try.underlying84 H rfl rfl rfl rfl rfl ?_
   intro cq H
   refine s_nil ⟨(H.pk [0, 1, 2, 3, 4, 6]), ?_⟩
   refine d_nil ?_
   replace H := H.pk [0, 1, 2, 5, 6]
   refine WD.seq ?_
   refine WD.of ?_
   refine W.region rfl ?_
   refine s_val (x_ld (p := Pq ak) (v := ac) rfl (ldb_sc Sc23 (H.bl 2) rfl)) ?_
   refine zA ac rfl ?_
   refine s_nil ?_
   refine WD.of ?_
   refine W.ret ?_
   refine bodyD_r (H.pk [0, 1, 2, 3, 4]) ?_
   intro ct H
   replace H := H.nf
   obtain ⟨bM, cu, bN, H⟩ := St.memShut1 (H.pk [2, 3, 0, 1]) bb (by rw [M.e_pure hM]; exact hM0)
   replace H := H.nf
   have bj := M.e_pure hM
   exact ⟨_, resE_tmp rfl, ⟨l, ac, bM, bj, rfl, (H.pk [0]), bN⟩⟩
  obtain ⟨_, _, h_⟩ := bv; exact h_.elim
 | some aE =>
  obtain ⟨bm, bO, bP⟩ := bb d aE bc
  obtain rfl := M.Ends.det bO hM0
  replace hM : (M.pure bm).Ends bm := M.i_pure
  refine WD.seq ?_
  refine WD.of ?_
  refine W.region rfl ?_
  refine t_box (v := Pq aa) (cs := [Pq aa]) H rfl rfl ?_
  intro ah cw H
  refine t_box (v := .agg #[I d.spring, I d.town]) (cs := [I d.spring, I d.town]) H rfl rfl ?_
  intro ag cx H
  refine zA (.slice none 0 0) rfl ?_
  refine s_nil ?_
  refine WD.seq ?_
  refine WD.seq ?_
  refine WD.of ?_
  refine W.draw (fun W => St w W [cBlk ag [I d.spring, I d.town] 62, cBlk ah [Pq aa] 72, cRx am, cMk ([])] R) [(0, true), (1, true), (2, true), (3, true), (4, true), (5, false), (6, true), (7, true), (8, true), (9, true), (10, true)] mixed (by decide +kernel) rfl ?_
  intro cy ai
  replace H := H.ext ai
  clear ai
  refine ⟨(H.pk [0, 1, 3, 4]), ?_⟩
  refine d_q rfl (fun w' H => x_ld (p := Pq ah) (v := Pq aa) rfl (ldb_sc Sc72 (H.bl 1) rfl)) ?_
  refine d_q rfl (fun w' H => x_nc (a := ⟨aa, 0, none⟩) rfl) ?_
  refine d_q rfl (fun w' H => x_fa (a := Pq aa) (v := Oq aa 7) rfl (fa_blk (o := 0) Fd86_1 Sz84)) ?_
  refine d_q rfl (fun w' H => x_ld (p := Oq aa 7) (v := .map (some aj)) rfl (ldb_sc Sc84 (aF.blk H) rfl)) ?_
  refine d_q rfl (fun w' H => x_ld (p := Pq ag) (v := .agg #[I d.spring, I d.town]) rfl (ldb_ag (ds := [I d.spring, I d.town]) Ag62 Sz62 (H.bl 0) rfl rfl)) ?_
  refine d_l rfl ?_
  refine s_val (q_look (kenc := encDm) (venc := id) (f := av) (k := d) (z := .slice none 0 0) (v := .tuple #[aE, B true]) keyDem Try.underlying84 (by kernel_rfl) rfl rfl (H.get (k := 2) rfl) true (by simp [bc])) ?_
  refine s_nil ⟨(H.pk [0, 1, 3, 4]), ?_⟩
  refine d_q rfl (fun w' H => x_mv (v := .tuple #[aE, B true]) rfl) ?_
  refine d_q rfl (fun w' H => x_ext (vs := [aE, B true]) (v := aE) rfl rfl) ?_
  refine d_q rfl (fun w' H => x_ext (vs := [aE, B true]) (v := B true) rfl rfl) ?_
  refine d_q rfl (fun w' H => x_as (v := aE) rfl) ?_
  refine d_q rfl (fun w' H => x_as (v := B true) rfl) ?_
  refine d_nil ?_
  refine WD.seq ?_
  refine WD.of ?_
  refine W.region rfl ?_
  refine zM (B true) rfl ?_
  refine s_nil ?_
  refine WD.cond true rfl (fun bw => ?_) (fun bw => ?_)
  ·skip
   refine WD.seq ?_
   refine WD.of ?_
   refine W.region rfl ?_
   refine zM aE rfl ?_
   refine zA aE rfl ?_
   refine s_nil ?_
   replace H := H.pk [2, 3, 4]
   refine WD.of ?_
   refine W.ret ?_
   refine bodyD_r (H.pk [2, 0, 1]) ?_
   intro cz H
   replace H := H.nf
   replace H := St.memShut (H.pk [0, 1]) bb
   replace H := H.nf
   have bj := M.e_pure hM
   exact ⟨_, resE_tmp rfl, ⟨bm, aE, am, bj, rfl, H, bP⟩⟩
  skip
  exact absurd bw (by decide)

def zaT (lo : Int) (hi : Int) : M (Int × Int) :=
  M.pure (lo, hi)
theorem zbd {R : List Chunk}  (lo : Int) (hi : Int)  {r : (Int × Int)} (hM : (zaT lo hi).Ends r) (w : World) (H : St w w [] R) : Ret Try.prog 43 #[I lo, I hi] w fun v w' => ∃ (y0 : Int) (y1 : Int), (y0, y1) = r /\ v = .agg #[I y0, I y1] /\ St w w' [] R := by
 refine ret_of_W Try.func43 rfl rfl rfl ?_
 refine W.seq ?_
 refine W.region rfl ?_
 refine t_alloc (cs := [I 0, I 0]) H Al27 rfl ?_
 intro ac ae H
 refine s_nil ?_
 refine W.seq ?_
 refine W.region rfl ?_
 refine zM (I lo) rfl ?_
 refine zM (I hi) rfl ?_
 refine s_val (x_bld (ps := [(0, I lo), (1, I hi)]) (zs := [I 0, I 0]) (L' := [I lo, I hi]) rfl Try.underlying27 Al27 rfl (Bd27 Try.underlying27) (.cons (cs := [I lo]) rfl rfl rfl rfl rfl <| .cons (cs := [I hi]) rfl rfl rfl rfl rfl <| .nil)) ?_
 refine t_sw 0 0 [I lo, I hi] (.agg #[I lo, I hi]) H rfl rfl Sz27 rfl rfl rfl rfl ?_
 intro ag H
 refine s_nil ?_
 refine W.ret ?_
 have aa := (H.bl 0)
 have ab := M.e_pure hM
 exact ⟨_, (resE_of1 (v := .agg #[I lo, I hi]) rfl (.cell (v := .agg #[I lo, I hi]) rfl (run_loadVar_ag (ds := [I lo, I hi]) Ag27 Sz27 aa rfl rfl) <| .nil)), ⟨lo, hi, ab, rfl, (H.pk [])⟩⟩

def zaf (lead : Int) : M ((List Int) × (List Span) × (List Int) × (List Town) × Int × Int × (List Flood)) :=
  M.bind (zaT 5 6) fun (r0, r1) =>
  M.bind (zaT 2 4) fun (aa, ab) =>
  M.bind (zaT 3 5) fun (ac, ae) =>
  M.bind (zaT 1 2) fun (ag, ah) =>
  M.pure (([(2 : Int), (2 : Int), (3 : Int), (-1 : Int)]), ([(⟨(r0 : Int), (r1 : Int)⟩ : Span), (⟨(aa : Int), (ab : Int)⟩ : Span), (⟨(ac : Int), (ae : Int)⟩ : Span), (⟨(0 : Int), (0 : Int)⟩ : Span)]), ([(0 : Int), (1 : Int)]), ([(⟨(3 : Int), (lead : Int), (300 : Int)⟩ : Town)]), ag, ah, ([(⟨(0 : Int), ([(200 : Int), (250 : Int), (310 : Int)])⟩ : Flood), (⟨(1 : Int), ([(280 : Int), (240 : Int), (290 : Int)])⟩ : Flood), (⟨(0 : Int), ([(100 : Int), (260 : Int), (300 : Int)])⟩ : Flood)]))
theorem zag {R : List Chunk}  (lead : Int)  {r : ((List Int) × (List Span) × (List Int) × (List Town) × Int × Int × (List Flood))} (hM : (zaf lead).Ends r) (w : World) (H : St w w [] R) : Ret Try.prog 42 #[I lead] w fun v w' => ∃ (y0 : List Int) (y1 : List Span) (y2 : List Int) (y3 : List Town) (y4 : Int) (y5 : Int) (y6 : List Flood) (u0 : Value) (u1 : Value) (u2 : Value) (u3 : Value) (u4 : Value) (rr5 : List (Raw 1)) (aD : Base), (y0, y1, y2, y3, y4, y5, y6) = r /\ v = .agg #[u0, u1, u2, u3, I y4, I y5, u4] /\ St w w' [cOwn (α := Int) 3 u0 y0, cOwn (α := Span) 27 u1 y1, cOwn (α := Int) 3 u2 y2, cOwn (α := Town) 54 u3 y3, cOwn (α := Raw 1) 67 u4 rr5, cRo aD] R /\ RepR (α := Flood) aD.cells rr5 y6 := by
 refine ret_of_W Try.func42 rfl rfl rfl ?_
 refine W.seq ?_
 refine W.region rfl ?_
 refine t_alloc (cs := [.slice none 0 0, .slice none 0 0, .slice none 0 0, .slice none 0 0, I 0, I 0, .slice none 0 0]) H Al30 rfl ?_
 intro a6 a7 H
 refine s_nil ?_
 refine W.seq ?_
 refine W.region rfl ?_
 refine t_bs (α := Int) T23 [I 2, I 2, I 3, I (-1)] [(2 : Int), (2 : Int), (3 : Int), (-1 : Int)] H rfl (.cons rfl (Flat.rep_enc _ (2 : Int)) <| .cons rfl (Flat.rep_enc _ (2 : Int)) <| .cons rfl (Flat.rep_enc _ (3 : Int)) <| .cons rfl (Flat.rep_enc _ (-1 : Int)) <| .nil) rfl rfl rfl ?_
 intro ab a8 H
 obtain ⟨ba, aJ, hM⟩ := M.e_bind hM
 refine s_call cf43 [I 5, I 6] rfl (zbd 5 6 aJ _ (H.gt 2)) ?_
 rintro vq bb ⟨r0, r1, aK, hvq, aa⟩
 subst aK
 subst vq
 try dsimp only at hM
 replace H := H.bk aa
 clear aa
 obtain ⟨bc, aL, hM⟩ := M.e_bind hM
 refine s_call cf43 [I 2, I 4] rfl (zbd 2 4 aL _ (H.gt 2)) ?_
 rintro vq bf ⟨ax, ay, aM, hvq, aa⟩
 subst aM
 subst vq
 try dsimp only at hM
 replace H := H.bk aa
 clear aa
 obtain ⟨bg, aN, hM⟩ := M.e_bind hM
 refine s_call cf43 [I 3, I 5] rfl (zbd 3 5 aN _ (H.gt 2)) ?_
 rintro vq bh ⟨az, aA, aO, hvq, aa⟩
 subst aO
 subst vq
 try dsimp only at hM
 replace H := H.bk aa
 clear aa
 refine s_val (x_bld (ps := []) (zs := [I 0, I 0]) (L' := [I 0, I 0]) rfl Try.underlying27 Al27 rfl (Bd27 Try.underlying27) (.nil)) ?_
 refine t_bs (α := Span) T24 [.agg #[I r0, I r1], .agg #[I ax, I ay], .agg #[I az, I aA], .agg #[I 0, I 0]] [(⟨(r0 : Int), (r1 : Int)⟩ : Span), (⟨(ax : Int), (ay : Int)⟩ : Span), (⟨(az : Int), (aA : Int)⟩ : Span), (⟨(0 : Int), (0 : Int)⟩ : Span)] H rfl (.cons rfl (Flat.rep_enc _ (⟨(r0 : Int), (r1 : Int)⟩ : Span)) <| .cons rfl (Flat.rep_enc _ (⟨(ax : Int), (ay : Int)⟩ : Span)) <| .cons rfl (Flat.rep_enc _ (⟨(az : Int), (aA : Int)⟩ : Span)) <| .cons rfl (Flat.rep_enc _ (⟨(0 : Int), (0 : Int)⟩ : Span)) <| .nil) rfl rfl rfl ?_
 intro ac bi H
 refine t_bs (α := Int) T23 [I 0, I 1] [(0 : Int), (1 : Int)] H rfl (.cons rfl (Flat.rep_enc _ (0 : Int)) <| .cons rfl (Flat.rep_enc _ (1 : Int)) <| .nil) rfl rfl rfl ?_
 intro ae bj H
 refine zM (I lead) rfl ?_
 refine s_val (x_bld (ps := [(0, I 3), (1, I lead), (2, I 300)]) (zs := [I 0, I 0, I 0]) (L' := [I 3, I lead, I 300]) rfl Try.underlying54 Al54 rfl (Bd54 Try.underlying54) (.cons (cs := [I 3]) rfl rfl rfl rfl rfl <| .cons (cs := [I lead]) rfl rfl rfl rfl rfl <| .cons (cs := [I 300]) rfl rfl rfl rfl rfl <| .nil)) ?_
 refine t_bs (α := Town) T25 [.agg #[I 3, I lead, I 300]] [(⟨(3 : Int), (lead : Int), (300 : Int)⟩ : Town)] H rfl (.cons rfl (Flat.rep_enc _ (⟨(3 : Int), (lead : Int), (300 : Int)⟩ : Town)) <| .nil) rfl rfl rfl ?_
 intro ag bm H
 obtain ⟨bn, aP, hM⟩ := M.e_bind hM
 refine s_call cf43 [I 1, I 2] rfl (zbd 1 2 aP _ (H.gt 5)) ?_
 rintro vq bo ⟨ah, ai, aQ, hvq, aa⟩
 subst aQ
 subst vq
 try dsimp only at hM
 replace H := H.bk aa
 clear aa
 refine t_bs (α := Int) T23 [I 200, I 250, I 310] [(200 : Int), (250 : Int), (310 : Int)] H rfl (.cons rfl (Flat.rep_enc _ (200 : Int)) <| .cons rfl (Flat.rep_enc _ (250 : Int)) <| .cons rfl (Flat.rep_enc _ (310 : Int)) <| .nil) rfl rfl rfl ?_
 intro al bp H
 refine s_val (x_bld (ps := [(0, I 0), (1, al)]) (zs := [I 0, .slice none 0 0]) (L' := [I 0, al]) rfl Try.underlying67 Al67 rfl (Bd67 Try.underlying67) (.cons (cs := [I 0]) rfl rfl rfl rfl rfl <| .cons (cs := [al]) (Sl.cells (H.os 0)) rfl rfl rfl rfl <| .nil)) ?_
 refine t_bs (α := Int) T23 [I 280, I 240, I 290] [(280 : Int), (240 : Int), (290 : Int)] H rfl (.cons rfl (Flat.rep_enc _ (280 : Int)) <| .cons rfl (Flat.rep_enc _ (240 : Int)) <| .cons rfl (Flat.rep_enc _ (290 : Int)) <| .nil) rfl rfl rfl ?_
 intro am bq H
 refine s_val (x_bld (ps := [(0, I 1), (1, am)]) (zs := [I 0, .slice none 0 0]) (L' := [I 1, am]) rfl Try.underlying67 Al67 rfl (Bd67 Try.underlying67) (.cons (cs := [I 1]) rfl rfl rfl rfl rfl <| .cons (cs := [am]) (Sl.cells (H.os 0)) rfl rfl rfl rfl <| .nil)) ?_
 refine t_bs (α := Int) T23 [I 100, I 260, I 300] [(100 : Int), (260 : Int), (300 : Int)] H rfl (.cons rfl (Flat.rep_enc _ (100 : Int)) <| .cons rfl (Flat.rep_enc _ (260 : Int)) <| .cons rfl (Flat.rep_enc _ (300 : Int)) <| .nil) rfl rfl rfl ?_
 intro ao br H
 refine s_val (x_bld (ps := [(0, I 0), (1, ao)]) (zs := [I 0, .slice none 0 0]) (L' := [I 0, ao]) rfl Try.underlying67 Al67 rfl (Bd67 Try.underlying67) (.cons (cs := [I 0]) rfl rfl rfl rfl rfl <| .cons (cs := [ao]) (Sl.cells (H.os 0)) rfl rfl rfl rfl <| .nil)) ?_
 obtain ⟨bt, H⟩ := H.emptyE
 obtain ⟨bu, H, aR⟩ := H.freezeE (k := 3) rfl
 replace H := H.nf
 have ak := aR
 obtain ⟨bv, H, bw, aS⟩ := H.joinE (i := 0) (j := 3) rfl rfl
 replace ak := ak.mono aS
 obtain ⟨bx, H, aT⟩ := H.freezeE (k := 3) rfl
 replace H := H.nf
 have aq := aT
 obtain ⟨bz, H, aU, aV⟩ := H.joinE (i := 0) (j := 3) rfl rfl
 replace ak := ak.mono aU
 replace aq := aq.mono aV
 obtain ⟨bA, H, aW⟩ := H.freezeE (k := 3) rfl
 replace H := H.nf
 have aB := aW
 obtain ⟨aE, H, aF, aX⟩ := H.joinE (i := 0) (j := 3) rfl rfl
 replace ak := ak.mono aF
 replace aq := aq.mono aF
 replace aB := aB.mono aX
 obtain ⟨au, aG⟩ : ∃ r : Raw 1, r.cs = [I 0, al] := ⟨Raw.of [I 0, al] rfl (by simp only [List.all_cons, List.all_nil, Bool.true_and, Bool.and_true, Sl.oc ak]; try rfl), rfl⟩
 obtain ⟨av, aH⟩ : ∃ r : Raw 1, r.cs = [I 1, am] := ⟨Raw.of [I 1, am] rfl (by simp only [List.all_cons, List.all_nil, Bool.true_and, Bool.and_true, Sl.oc aq]; try rfl), rfl⟩
 obtain ⟨aw, aI⟩ : ∃ r : Raw 1, r.cs = [I 0, ao] := ⟨Raw.of [I 0, ao] rfl (by simp only [List.all_cons, List.all_nil, Bool.true_and, Bool.and_true, Sl.oc aB]; try rfl), rfl⟩
 have aC : RepR (α := Flood) aE.cells [au, av, aw] [(⟨(0 : Int), ([(200 : Int), (250 : Int), (310 : Int)])⟩ : Flood), (⟨(1 : Int), ([(280 : Int), (240 : Int), (290 : Int)])⟩ : Flood), (⟨(0 : Int), ([(100 : Int), (260 : Int), (300 : Int)])⟩ : Flood)] := .cons (by rw [aG]; exact ⟨_, rfl, ak⟩) <| .cons (by rw [aH]; exact ⟨_, rfl, aq⟩) <| .cons (by rw [aI]; exact ⟨_, rfl, aB⟩) <| .nil
 refine t_bs (α := Raw 1) T28 [.agg #[I 0, al], .agg #[I 1, am], .agg #[I 0, ao]] [au, av, aw] H rfl (.cons (by rw [show (Flat.enc au : List Value) = au.cs from rfl, aG]; rfl) (Flat.rep_enc _ _) <| .cons (by rw [show (Flat.enc av : List Value) = av.cs from rfl, aH]; rfl) (Flat.rep_enc _ _) <| .cons (by rw [show (Flat.enc aw : List Value) = aw.cs from rfl, aI]; rfl) (Flat.rep_enc _ _) <| .nil) rfl rfl rfl ?_
 intro aj bB H
 replace H := H.nf
 refine s_val (x_bld (ps := [(0, ab), (1, ac), (2, ae), (3, ag), (4, .agg #[I ah, I ai]), (5, aj)]) (zs := [.slice none 0 0, .slice none 0 0, .slice none 0 0, .slice none 0 0, I 0, I 0, .slice none 0 0]) (L' := [ab, ac, ae, ag, I ah, I ai, aj]) rfl Try.underlying30 Al30 rfl (Bd30 Try.underlying30) (.cons (cs := [ab]) (Sl.cells (H.os 11)) rfl rfl rfl rfl <| .cons (cs := [ac]) (Sl.cells (H.os 10)) rfl rfl rfl rfl <| .cons (cs := [ae]) (Sl.cells (H.os 9)) rfl rfl rfl rfl <| .cons (cs := [ag]) (Sl.cells (H.os 8)) rfl rfl rfl rfl <| .cons (cs := [I ah, I ai]) rfl rfl rfl rfl rfl <| .cons (cs := [aj]) (Sl.cells (rowSl rfl (H.get (k := 0) rfl) (roLe _ (H.get (k := 1) rfl)) aC)) rfl rfl rfl rfl <| .nil)) ?_
 refine t_sw 12 0 [ab, ac, ae, ag, I ah, I ai, aj] (.agg #[ab, ac, ae, ag, I ah, I ai, aj]) H rfl rfl Sz30 rfl rfl rfl (by simp only [List.all_cons, List.all_nil, Bool.true_and, Bool.and_true, Sl.oc (H.os 11), Sl.oc (H.os 10), Sl.oc (H.os 9), Sl.oc (H.os 8), Sl.oc (rowSl rfl (H.get (k := 0) rfl) (roLe _ (H.get (k := 1) rfl)) aC)]; try rfl) ?_
 intro bC H
 refine s_nil ?_
 replace H := H.pk [0, 1, 8, 9, 10, 11, 12]
 refine W.ret ?_
 have aY := (H.bl 6)
 have aZ := M.e_pure hM
 exact ⟨_, (resE_of1 (v := .agg #[ab, ac, ae, ag, I ah, I ai, aj]) rfl (.cell (v := .agg #[ab, ac, ae, ag, I ah, I ai, aj]) rfl (run_loadVar_ag (ds := [ab, ac, ae, ag, I ah, I ai, aj]) Ag30 Sz30 aY rfl rfl) <| .nil)), ⟨([(2 : Int), (2 : Int), (3 : Int), (-1 : Int)]), ([(⟨(r0 : Int), (r1 : Int)⟩ : Span), (⟨(ax : Int), (ay : Int)⟩ : Span), (⟨(az : Int), (aA : Int)⟩ : Span), (⟨(0 : Int), (0 : Int)⟩ : Span)]), ([(0 : Int), (1 : Int)]), ([(⟨(3 : Int), (lead : Int), (300 : Int)⟩ : Town)]), ah, ai, ([(⟨(0 : Int), ([(200 : Int), (250 : Int), (310 : Int)])⟩ : Flood), (⟨(1 : Int), ([(280 : Int), (240 : Int), (290 : Int)])⟩ : Flood), (⟨(0 : Int), ([(100 : Int), (260 : Int), (300 : Int)])⟩ : Flood)]), ab, ac, ae, ag, aj, [au, av, aw], aE, aZ, rfl, (H.pk [5, 4, 3, 2, 0, 1]), aC⟩⟩

def zad (n : Int) (aa : Int) (greatest : Int) : M Bool :=
  M.pure ((decide (aa <= n)) && (decide (n <= greatest)))
theorem zah {R : List Chunk}  (n : Int) (aa : Int) (greatest : Int)  {r : Bool} (hM : (zad n aa greatest).Ends r) (w : World) (H : St w w [] R) : Ret Try.prog 37 #[I n, I aa, I greatest] w fun v w' => ∃ (y0 : Bool), y0 = r /\ v = B y0 /\ St w w' [] R := by
 refine ret_of_W Try.func37 rfl rfl rfl ?_
 refine W.seq ?_
 refine W.region rfl ?_
 refine zA (B false) rfl ?_
 refine s_nil ?_
 refine W.seq ?_
 refine W.region rfl ?_
 refine zM (I n) rfl ?_
 refine zM (I aa) rfl ?_
 refine zC n aa (decide (aa <= n)) rfl rfl rfl ?_
 refine zM (B (decide (aa <= n))) rfl ?_
 refine g_val (decide (aa <= n)) (gy_t rfl) (fun hg => x_mv (v := I n) rfl) ?_
 refine g_val (decide (aa <= n)) (gy_t rfl) (fun hg => x_mv (v := I greatest) rfl) ?_
 refine g_val (decide (aa <= n)) (gy_t rfl) (fun hg => x_cmp (kd := .i64) (a := n) (b := greatest) (r := decide (n <= greatest)) (gd_of (c := decide (aa <= n)) hg (I n)) (gd_of (c := decide (aa <= n)) hg (I greatest)) rfl) ?_
 refine s_val (x_pand (b := decide (aa <= n)) (r := decide (n <= greatest)) rfl (fun hb => gd_of (c := decide (aa <= n)) (by first | exact hb | (rw [hb]; rfl) | simp_all) (B (decide (n <= greatest)))) rfl) ?_
 refine zA (B ((decide (aa <= n)) && (decide (n <= greatest)))) rfl ?_
 refine s_nil ?_
 refine W.ret ?_
 have ab := M.e_pure hM
 exact ⟨_, resE_tmp rfl, ⟨((decide (aa <= n)) && (decide (n <= greatest))), ab, rfl, H⟩⟩

def zbH (s : Span) : M Bool :=
  M.bind (zad s.lo 0 s.hi) fun r2 =>
  M.bind (M.opt r2 (zad s.hi 0 1000) false) fun r3 =>
  M.pure (r2 && r3)
theorem zcM {R : List Chunk}  (s : Span)  {r : Bool} (hM : (zbH s).Ends r) (w : World) (H : St w w [] R) : Ret Try.prog 80 #[.agg #[I s.lo, I s.hi]] w fun v w' => ∃ (y0 : Bool), y0 = r /\ v = B y0 /\ St w w' [] R := by
 refine ret_of_W Try.func80 rfl rfl rfl ?_
 refine W.seq ?_
 refine W.region rfl ?_
 refine t_box (v := .agg #[I s.lo, I s.hi]) (cs := [I s.lo, I s.hi]) H rfl rfl ?_
 intro aa aj H
 refine zA (B false) rfl ?_
 refine s_nil ?_
 refine W.seq ?_
 refine W.region rfl ?_
 refine s_val (x_fa (a := Pq aa) (v := Pq aa) rfl (fa_blk (o := 0) Fd27_0 Sz3)) ?_
 refine s_val (x_ld (p := Pq aa) (v := I s.lo) rfl (ldb_sc Sc3 (H.bl 0) rfl)) ?_
 refine s_val (x_fa (a := Pq aa) (v := Oq aa 1) rfl (fa_blk (o := 0) Fd27_1 Sz3)) ?_
 refine s_val (x_ld (p := Oq aa 1) (v := I s.hi) rfl (ldb_sc Sc3 (H.bl 0) rfl)) ?_
 obtain ⟨ak, ae, hM⟩ := M.e_bind hM
 refine s_call cf37 [I s.lo, I 0, I s.hi] rfl (zah s.lo 0 s.hi ae _ (H.gt 1)) ?_
 rintro vq al ⟨r2, ag, hvq, ac⟩
 subst ag
 subst vq
 try dsimp only at hM
 replace H := H.bk ac
 clear ac
 refine zM (B r2) rfl ?_
 refine g_val r2 (gy_t rfl) (fun hg => x_fa (a := Pq aa) (v := Oq aa 1) rfl (fa_blk (o := 0) Fd27_1 Sz3)) ?_
 refine g_val r2 (gy_t rfl) (fun hg => x_ld (p := Oq aa 1) (v := I s.hi) (gd_of (c := r2) hg (Oq aa 1)) (ldb_sc Sc3 (H.bl 0) rfl)) ?_
 obtain ⟨r3, ah, hM⟩ := M.e_bind hM
 refine t_gcall r2 (gy_t rfl) cf37 (B r3) (fun _ => [I s.hi, I 0, I 1000]) (fun hg => lst3 (gd_of (c := r2) hg (I s.hi)) rfl rfl) H (fun hg => (zah s.hi 0 1000 (M.e_opt ah hg) _ (H.give (A := []) rfl)).mono fun v_ w_ ⟨y_, ab, ai, H_⟩ => by subst ab; exact ⟨ai, H.via H_⟩) ?_
 intro am H
 refine s_val (x_pand (b := r2) (r := r3) rfl (fun hb => gd_of (c := r2) (by first | exact hb | (rw [hb]; rfl) | simp_all) (B r3)) rfl) ?_
 refine zA (B (r2 && r3)) rfl ?_
 refine s_nil ?_
 refine W.ret ?_
 have ab := M.e_pure hM
 exact ⟨_, resE_tmp rfl, ⟨(r2 && r3), ab, rfl, (H.pk [])⟩⟩

def zbx (l : List Int) (aa : Int) : (Int × Nat) -> M ((Int × Nat) ⊕ (Unit ⊕ Unit)) := fun (last, s) =>
  bif decide ((s : Int) < (l.length : Int)) then (
  M.grd (decide ((s : Int) < (l.length : Int))) <|
  M.grd (decide ((-9223372036854775808 : Int) <= (last + 1)) && decide ((last + 1) <= (9223372036854775807 : Int))) <|
  M.grd (decide ((-9223372036854775808 : Int) <= (aa - 1)) && decide ((aa - 1) <= (9223372036854775807 : Int))) <|
  M.bind (zad (l.getD s 0) (last + 1) (aa - 1)) fun r2 =>
  bif !r2 then (
  M.pure (.inr (.inl ())))
  else (
  M.pure (.inl (l.getD s 0, s + 1))))
  else (
  M.pure (.inr (.inr ())))
def za0 (l : List Int) (aa : Int) : M Bool :=
  M.bind (M.iter (zbx l aa) (-1, 0)) fun x_ => match x_ with
  | (.inl (_ : Unit)) => (
  M.pure false)
  | (.inr (_ : Unit)) => (
  M.pure true)
theorem zcv {R : List Chunk} {ak : Cells} {ab : Value} (l : List Int) (aa : Int) (aq : Reads R ak) (ae : Sl ak ab l) {r : Bool} (hM : (za0 l aa).Ends r) (w : World) (H : St w w [] R) : Ret Try.prog 62 #[ab, I aa] w fun v w' => ∃ (y0 : Bool), y0 = r /\ v = B y0 /\ St w w' [] R := by
 refine ret_of_W Try.func62 rfl rfl rfl ?_
 refine W.seq ?_
 refine W.region rfl ?_
 refine zA (B false) rfl ?_
 refine s_nil ?_
 refine W.seq ?_
 refine W.region rfl ?_
 refine zA (I (-1)) rfl ?_
 refine s_nil ?_
 refine W.seq ?_
 refine W.seq ?_
 refine W.region rfl ?_
 refine zM ab rfl ?_
 have aE := (ae).len_le
 refine s_val (x_lenS T23.und rfl ae) ?_
 refine zM (I 0) rfl ?_
 refine s_nil ?_
 refine W.block ?_
 obtain ⟨au, ag, al⟩ := M.e_bind hM
 obtain ⟨aF, ag⟩ := M.e_iter ag
 refine W.loop (fun m σ W => ∃ (last : Int) (s : Nat) (ρ : Env), σ = upds ρ [(1, I aa), (5, I last), (8, ab), (9, I (l.length : Int)), (10, I (s : Int))] /\ M.iterN (zbx l aa) m (last, s) = some au /\ St w W [] R) ?_ ?_
 ·exact ⟨_, -1, 0, _, upds_of _ _ ⟨rfl, rfl, rfl, rfl, rfl, trivial⟩, ag, H⟩
 rintro aG σ aH ⟨last, s, ρ, rfl, am, H⟩
 obtain ⟨av, aw, aI, hM, ah⟩ := M.e_iterN am
 simp only [zbx] at hM
 clear am
 refine W.seq ?_
 refine W.region rfl ?_
 refine zC (s : Int) (l.length : Int) (decide ((s : Int) < (l.length : Int))) rfl rfl rfl ?_
 refine s_nil ?_
 refine W.seq ?_
 refine W.cond (decide ((s : Int) < (l.length : Int))) rfl (fun ac => ?_) (fun ac => ?_)
 ·replace hM := M.e_t hM ac
  simp only [qy1, qy2, qy3, qy4, qy5, qy6, ne_eq, qy7] at ac
  refine W.skip ?_
  refine W.seq ?_
  refine W.block ?_
  refine W.seq ?_
  refine W.region rfl ?_
  obtain ⟨ax, hM⟩ := M.e_grd hM
  simp only [Bool.and_eq_true, decide_eq_true_eq] at ax
  refine s_val (x_ix (a := ab) (b := I (s : Int)) (v := vat ab 1 (Int.toNat (s : Int))) rfl rfl (Sl.ix (α := Int) T23.und T23.size ae (by omega) (by omega))) ?_
  refine s_val (x_ld (p := vat ab 1 (Int.toNat (s : Int))) (v := I (l.getD s 0)) rfl (ld_sc Sc3 (At.mono (Int_at ae (i := (s : Int)) (by omega) (by omega)) (aq.at H)))) ?_
  refine zA (I (l.getD s 0)) rfl ?_
  refine s_nil ?_
  refine W.seq ?_
  refine W.seq ?_
  refine W.region rfl ?_
  refine zM (I (l.getD s 0)) rfl ?_
  refine zM (I last) rfl ?_
  obtain ⟨ay, hM⟩ := M.e_grd hM
  simp only [Bool.and_eq_true, decide_eq_true_eq] at ay
  refine zR last 1 (last + 1) rfl rfl rfl (by omega) ?_
  refine zM (I aa) rfl ?_
  obtain ⟨az, hM⟩ := M.e_grd hM
  simp only [Bool.and_eq_true, decide_eq_true_eq] at az
  refine zR aa 1 (aa - 1) rfl rfl rfl (by omega) ?_
  obtain ⟨aJ, aA, hM⟩ := M.e_bind hM
  refine s_call cf37 [I (l.getD s 0), I (last + 1), I (aa - 1)] rfl (zah (l.getD s 0) (last + 1) (aa - 1) aA _ (H.gt 0)) ?_
  rintro vq aK ⟨r2, aB, hvq, ao⟩
  subst aB
  subst vq
  try dsimp only at hM
  replace H := H.bk ao
  clear ao
  refine s_val (x_not (b := r2) rfl) ?_
  refine s_nil ?_
  refine W.cond (!r2) rfl (fun ai => ?_) (fun ai => ?_)
  ·replace hM := M.e_t hM ai
   refine W.seq ?_
   refine W.region rfl ?_
   refine zA (B false) rfl ?_
   refine s_nil ?_
   refine W.ret ?_
   have aC := M.e_inr hM ah
   subst aC
   replace hM := al
   try dsimp only at hM
   have aj := M.e_pure hM
   exact ⟨_, resE_tmp rfl, ⟨false, aj, rfl, H⟩⟩
  replace hM := M.e_f hM ai
  refine W.skip ?_
  refine W.region rfl ?_
  refine zM (I (l.getD s 0)) rfl ?_
  refine zA (I (l.getD s 0)) rfl ?_
  refine s_nil ?_
  refine W.region rfl ?_
  refine zR (s : Int) 1 ((s : Int) + 1) rfl rfl rfl (by omega) ?_
  refine zM (I ((s : Int) + 1)) rfl ?_
  refine s_nil ?_
  exact ⟨av, aw, l.getD s 0, s + 1, _, upds_of _ _ ⟨rfl, rfl, rfl, rfl, rfl, trivial⟩, M.e_inl hM ah, H⟩
 replace hM := M.e_f hM ac
 simp only [qy1, qy2, qy3, qy4, qy5, qy6, ne_eq, qy7] at ac
 refine W.exit ?_
 have aD := M.e_inr hM ah
 subst aD
 replace hM := al
 try dsimp only at hM
 refine W.seq ?_
 refine W.region rfl ?_
 refine zA (B true) rfl ?_
 refine s_nil ?_
 refine W.ret ?_
 have aj := M.e_pure hM
 exact ⟨_, resE_tmp rfl, ⟨true, aj, rfl, H⟩⟩

def zby (s : List Town) (f : Town -> M Bool) : Nat -> M (Nat ⊕ (Int ⊕ Unit)) := fun s2 =>
  bif decide ((s2 : Int) < (s.length : Int)) then (
  M.grd (decide ((s2 : Int) < (s.length : Int))) <|
  M.bind (f (s.getD s2 default)) fun r2 =>
  bif r2 then (
  M.pure (.inr (.inl (s2 : Int))))
  else (
  M.pure (.inl (s2 + 1))))
  else (
  M.pure (.inr (.inr ())))
def zct (s : List Town) (f : Town -> M Bool) : M Int :=
  M.bind (M.iter (zby s f) 0) fun x_ => match x_ with
  | (.inl s3) => (
  M.pure s3)
  | (.inr (_ : Unit)) => (
  M.pure (-1))
theorem zdG {R : List Chunk} {ak : Cells} {aa : Value} {ac : Value} (s : List Town) (f : Town -> M Bool) (ao : Reads R ak) (ae : Sl ak aa s) (aq : FnM Try.prog R ac f) {r : Int} (hM : (zct s f).Ends r) (w : World) (H : St w w [] R) : Ret Try.prog 79 #[aa, ac] w fun v w' => ∃ (y0 : Int), y0 = r /\ v = I y0 /\ St w w' [] R := by
 refine ret_of_W Try.func79 rfl rfl rfl ?_
 refine W.seq ?_
 refine W.region rfl ?_
 refine zA (I 0) rfl ?_
 refine s_nil ?_
 refine W.seq ?_
 refine W.seq ?_
 refine W.region rfl ?_
 refine zM aa rfl ?_
 have aB := (ae).len_le
 refine s_val (x_lenS T25.und rfl ae) ?_
 refine zM (I 0) rfl ?_
 refine s_nil ?_
 refine W.block ?_
 obtain ⟨au, ag, al⟩ := M.e_bind hM
 obtain ⟨aC, ag⟩ := M.e_iter ag
 refine W.loop (fun m σ W => ∃ (s2 : Nat) (ρ : Env), σ = upds ρ [(0, aa), (1, ac), (7, I (s.length : Int)), (8, I (s2 : Int))] /\ M.iterN (zby s f) m s2 = some au /\ St w W [] R) ?_ ?_
 ·exact ⟨_, 0, _, upds_of _ _ ⟨rfl, rfl, rfl, rfl, trivial⟩, ag, H⟩
 rintro aD σ aE ⟨s2, ρ, rfl, am, H⟩
 obtain ⟨av, aw, aF, hM, ah⟩ := M.e_iterN am
 simp only [zby] at hM
 clear am
 refine W.seq ?_
 refine W.region rfl ?_
 refine zC (s2 : Int) (s.length : Int) (decide ((s2 : Int) < (s.length : Int))) rfl rfl rfl ?_
 refine s_nil ?_
 refine W.seq ?_
 refine W.cond (decide ((s2 : Int) < (s.length : Int))) rfl (fun ab => ?_) (fun ab => ?_)
 ·replace hM := M.e_t hM ab
  simp only [qy1, qy2, qy3, qy4, qy5, qy6, ne_eq, qy7] at ab
  refine W.skip ?_
  refine W.seq ?_
  refine W.block ?_
  refine W.seq ?_
  refine W.region rfl ?_
  refine zM (I (s2 : Int)) rfl ?_
  refine zA (I (s2 : Int)) rfl ?_
  refine s_nil ?_
  refine W.seq ?_
  refine W.region rfl ?_
  refine zM ac rfl ?_
  refine zM aa rfl ?_
  refine zM (I (s2 : Int)) rfl ?_
  obtain ⟨ax, hM⟩ := M.e_grd hM
  simp only [Bool.and_eq_true, decide_eq_true_eq] at ax
  refine s_val (x_ix (a := aa) (b := I (s2 : Int)) (v := vat aa 3 (Int.toNat (s2 : Int))) rfl rfl (Sl.ix (α := Town) T25.und T25.size ae (by omega) (by omega))) ?_
  refine s_val (x_ld (p := vat aa 3 (Int.toNat (s2 : Int))) (v := .agg #[I ((s.getD s2 default).station), I ((s.getD s2 default).lead), I ((s.getD s2 default).alarm)]) rfl (ld_ag Ag54 Sz54 (At.mono (Town_atA ae (i := (s2 : Int)) (by omega) (by omega)) (ao.at H)))) ?_
  obtain ⟨r2, ay, hM⟩ := M.e_bind hM
  refine t_callM H aq rfl rfl (s.getD s2 default) Reads.none ⟨_, rfl, rfl⟩ ay ?_
  intro aG H
  refine s_nil ?_
  refine W.cond r2 rfl (fun ai => ?_) (fun ai => ?_)
  ·replace hM := M.e_t hM ai
   refine W.seq ?_
   refine W.region rfl ?_
   refine zM (I (s2 : Int)) rfl ?_
   refine zA (I (s2 : Int)) rfl ?_
   refine s_nil ?_
   refine W.ret ?_
   have az := M.e_inr hM ah
   subst az
   replace hM := al
   try dsimp only at hM
   have aj := M.e_pure hM
   exact ⟨_, resE_tmp rfl, ⟨(s2 : Int), aj, rfl, H⟩⟩
  replace hM := M.e_f hM ai
  refine W.skip ?_
  refine W.region rfl ?_
  refine zR (s2 : Int) 1 ((s2 : Int) + 1) rfl rfl rfl (by omega) ?_
  refine zM (I ((s2 : Int) + 1)) rfl ?_
  refine s_nil ?_
  exact ⟨av, aw, s2 + 1, _, upds_of _ _ ⟨rfl, rfl, rfl, rfl, trivial⟩, M.e_inl hM ah, H⟩
 replace hM := M.e_f hM ab
 simp only [qy1, qy2, qy3, qy4, qy5, qy6, ne_eq, qy7] at ab
 refine W.exit ?_
 have aA := M.e_inr hM ah
 subst aA
 replace hM := al
 try dsimp only at hM
 refine W.seq ?_
 refine W.region rfl ?_
 refine zA (I (-1)) rfl ?_
 refine s_nil ?_
 refine W.ret ?_
 have aj := M.e_pure hM
 exact ⟨_, resE_tmp rfl, ⟨(-1), aj, rfl, H⟩⟩

def zbl (s : List Town) (f : Town -> M Bool) : M Bool :=
  M.bind (zct s f) fun r2 =>
  M.pure (decide (0 <= r2))
theorem zcB {R : List Chunk} {ac : Cells} {aa : Value} {ab : Value} (s : List Town) (f : Town -> M Bool) (ag : Reads R ac) (ah : Sl ac aa s) (ai : FnM Try.prog R ab f) {r : Bool} (hM : (zbl s f).Ends r) (w : World) (H : St w w [] R) : Ret Try.prog 63 #[aa, ab] w fun v w' => ∃ (y0 : Bool), y0 = r /\ v = B y0 /\ St w w' [] R := by
 refine ret_of_W Try.func63 rfl rfl rfl ?_
 refine W.seq ?_
 refine W.region rfl ?_
 refine zA (B false) rfl ?_
 refine s_nil ?_
 refine W.seq ?_
 refine W.region rfl ?_
 refine zM aa rfl ?_
 refine zM ab rfl ?_
 obtain ⟨am, aj, hM⟩ := M.e_bind hM
 refine s_call cf79 [aa, ab] rfl (zdG s f (ag.app _) ah (ai.app _) aj _ (H.gt 0)) ?_
 rintro vq ao ⟨r2, ak, hvq, ae⟩
 subst ak
 subst vq
 try dsimp only at hM
 replace H := H.bk ae
 clear ae
 refine zC r2 0 (decide (0 <= r2)) rfl rfl rfl ?_
 refine zA (B (decide (0 <= r2))) rfl ?_
 refine s_nil ?_
 refine W.ret ?_
 have al := M.e_pure hM
 exact ⟨_, resE_tmp rfl, ⟨(decide (0 <= r2)), al, rfl, H⟩⟩

def zca (x : Town) (aa : Town -> M Bool) : M Bool :=
  M.bind (aa x) fun r2 =>
  M.pure (!r2)
theorem zdu {R : List Chunk} {aa : Nat} {ab : Value} (x : Town) (ac : Town -> M Bool) (ae : FnM Try.prog R ab ac) (ag : Has R (cBlk aa [ab] 111)) {r : Bool} (hM : (zca x ac).Ends r) (w : World) (H : St w w [] R) : Ret Try.prog 90 #[.agg #[I x.station, I x.lead, I x.alarm], Pq aa] w fun v w' => ∃ (y0 : Bool), y0 = r /\ v = B y0 /\ St w w' [] R := by
 refine ret_of_W Try.func90 rfl rfl rfl ?_
 refine W.seq ?_
 refine W.region rfl ?_
 refine t_box (v := .agg #[I x.station, I x.lead, I x.alarm]) (cs := [I x.station, I x.lead, I x.alarm]) H rfl rfl ?_
 intro ah ak H
 refine zA (B false) rfl ?_
 refine s_nil ?_
 refine W.seq ?_
 refine W.region rfl ?_
 refine s_val (x_ld (p := Pq aa) (v := ab) rfl (ldb_sc Sc111 (ag.blk H) rfl)) ?_
 refine s_val (x_ld (p := Pq ah) (v := .agg #[I x.station, I x.lead, I x.alarm]) rfl (ldb_ag (ds := [I x.station, I x.lead, I x.alarm]) Ag54 Sz54 (H.bl 0) rfl rfl)) ?_
 obtain ⟨r2, ai, hM⟩ := M.e_bind hM
 refine t_callM H ae rfl rfl x Reads.none ⟨_, rfl, rfl⟩ ai ?_
 intro al H
 refine s_val (x_not (b := r2) rfl) ?_
 refine zA (B (!r2)) rfl ?_
 refine s_nil ?_
 refine W.ret ?_
 have aj := M.e_pure hM
 exact ⟨_, resE_tmp rfl, ⟨(!r2), aj, rfl, (H.pk [])⟩⟩

def zbF (l : List Town) (so : Town -> M Bool) : M Bool :=
  M.bind (zbl l (fun aa => zca aa so)) fun r2 =>
  M.pure (!r2)
theorem zcX {R : List Chunk} {ag : Cells} {aa : Value} {ab : Value} (l : List Town) (so : Town -> M Bool) (ak : Reads R ag) (al : Sl ag aa l) (ah : FnM Try.prog R ab so) {r : Bool} (hM : (zbF l so).Ends r) (w : World) (H : St w w [] R) : Ret Try.prog 81 #[aa, ab] w fun v w' => ∃ (y0 : Bool), y0 = r /\ v = B y0 /\ St w w' [] R := by
 refine ret_of_W Try.func81 rfl rfl rfl ?_
 refine W.seq ?_
 refine W.region rfl ?_
 refine t_box (v := ab) (cs := [ab]) H rfl (FnM.cells ah) ?_
 intro ac aB H
 refine zA (B false) rfl ?_
 refine s_nil ?_
 refine W.seq ?_
 refine W.region rfl ?_
 refine zM aa rfl ?_
 refine s_val (x_mf (fs := []) (cs := [Pq ac]) rfl rfl) ?_
 obtain ⟨aC, am, hM⟩ := M.e_bind hM
 refine s_call cf63 [aa, .func (.func 90) #[] #[Pq ac]] rfl (zcB l (fun ae => zca ae so) (ak.app _) al ⟨90, [Pq ac], rfl, cf90, fun ai aD aE ao ae aF aq aG au av => by obtain rfl := Town_arg au; exact (zdu ae so (FnM.app (ah.app _) _) (Has.app (Has.here (k := 0) rfl) _) av ai (St.refl aq)).mono fun ao ai ⟨aH, aw, ax, ay⟩ => by subst aw; exact ⟨ax, ay⟩⟩ am _ (H.gt 1)) ?_
 rintro vq aI ⟨r2, az, hvq, aj⟩
 subst az
 subst vq
 try dsimp only at hM
 replace H := H.bk aj
 clear aj
 refine s_val (x_not (b := r2) rfl) ?_
 refine zA (B (!r2)) rfl ?_
 refine s_nil ?_
 refine W.ret ?_
 have aA := M.e_pure hM
 exact ⟨_, resE_tmp rfl, ⟨(!r2), aA, rfl, (H.pk [])⟩⟩

def zaJ (n : Int) : M Bool :=
  M.bind (zad n 0 2000) fun r2 =>
  M.pure r2
theorem zc1 {R : List Chunk}  (n : Int)  {r : Bool} (hM : (zaJ n).Ends r) (w : World) (H : St w w [] R) : Ret Try.prog 85 #[I n] w fun v w' => ∃ (y0 : Bool), y0 = r /\ v = B y0 /\ St w w' [] R := by
 refine ret_of_W Try.func85 rfl rfl rfl ?_
 refine W.seq ?_
 refine W.region rfl ?_
 refine zA (B false) rfl ?_
 refine s_nil ?_
 refine W.seq ?_
 refine W.region rfl ?_
 refine zM (I n) rfl ?_
 obtain ⟨ag, ab, hM⟩ := M.e_bind hM
 refine s_call cf37 [I n, I 0, I 2000] rfl (zah n 0 2000 ab _ (H.gt 0)) ?_
 rintro vq ah ⟨r2, ac, hvq, aa⟩
 subst ac
 subst vq
 try dsimp only at hM
 replace H := H.bk aa
 clear aa
 refine zA (B r2) rfl ?_
 refine s_nil ?_
 refine W.ret ?_
 have ae := M.e_pure hM
 exact ⟨_, resE_tmp rfl, ⟨r2, ae, rfl, H⟩⟩

def zb3 (t : Town) : M Bool :=
  M.bind (zad t.lead 0 1000) fun r2 =>
  M.bind (M.opt r2 (zaJ t.alarm) false) fun r3 =>
  M.pure (r2 && r3)
theorem zde {R : List Chunk}  (t : Town)  {r : Bool} (hM : (zb3 t).Ends r) (w : World) (H : St w w [] R) : Ret Try.prog 82 #[.agg #[I t.station, I t.lead, I t.alarm]] w fun v w' => ∃ (y0 : Bool), y0 = r /\ v = B y0 /\ St w w' [] R := by
 refine ret_of_W Try.func82 rfl rfl rfl ?_
 refine W.seq ?_
 refine W.region rfl ?_
 refine t_box (v := .agg #[I t.station, I t.lead, I t.alarm]) (cs := [I t.station, I t.lead, I t.alarm]) H rfl rfl ?_
 intro aa aj H
 refine zA (B false) rfl ?_
 refine s_nil ?_
 refine W.seq ?_
 refine W.region rfl ?_
 refine s_val (x_fa (a := Pq aa) (v := Oq aa 1) rfl (fa_blk (o := 0) Fd54_1 Sz3)) ?_
 refine s_val (x_ld (p := Oq aa 1) (v := I t.lead) rfl (ldb_sc Sc3 (H.bl 0) rfl)) ?_
 obtain ⟨ak, ae, hM⟩ := M.e_bind hM
 refine s_call cf37 [I t.lead, I 0, I 1000] rfl (zah t.lead 0 1000 ae _ (H.gt 1)) ?_
 rintro vq al ⟨r2, ag, hvq, ac⟩
 subst ag
 subst vq
 try dsimp only at hM
 replace H := H.bk ac
 clear ac
 refine zM (B r2) rfl ?_
 refine g_val r2 (gy_t rfl) (fun hg => x_fa (a := Pq aa) (v := Oq aa 2) rfl (fa_blk (o := 0) Fd54_2 Sz3)) ?_
 refine g_val r2 (gy_t rfl) (fun hg => x_ld (p := Oq aa 2) (v := I t.alarm) (gd_of (c := r2) hg (Oq aa 2)) (ldb_sc Sc3 (H.bl 0) rfl)) ?_
 obtain ⟨r3, ah, hM⟩ := M.e_bind hM
 refine t_gcall r2 (gy_t rfl) cf85 (B r3) (fun _ => [I t.alarm]) (fun hg => lst1 (gd_of (c := r2) hg (I t.alarm))) H (fun hg => (zc1 t.alarm (M.e_opt ah hg) _ (H.give (A := []) rfl)).mono fun v_ w_ ⟨y_, ab, ai, H_⟩ => by subst ab; exact ⟨ai, H.via H_⟩) ?_
 intro am H
 refine s_val (x_pand (b := r2) (r := r3) rfl (fun hb => gd_of (c := r2) (by first | exact hb | (rw [hb]; rfl) | simp_all) (B r3)) rfl) ?_
 refine zA (B (r2 && r3)) rfl ?_
 refine s_nil ?_
 refine W.ret ?_
 have ab := M.e_pure hM
 exact ⟨_, resE_tmp rfl, ⟨(r2 && r3), ab, rfl, (H.pk [])⟩⟩

def zbS (t : Town) (aa : Int) : M Bool :=
  M.grd (decide ((-9223372036854775808 : Int) <= (aa - 1)) && decide ((aa - 1) <= (9223372036854775807 : Int))) <|
  M.bind (zad t.station 0 (aa - 1)) fun r2 =>
  M.pure r2
theorem zdF {R : List Chunk} {ab : Nat} (t : Town) (aa : Int) (ag : Has R (cBlk ab [I aa] 3)) {r : Bool} (hM : (zbS t aa).Ends r) (w : World) (H : St w w [] R) : Ret Try.prog 83 #[.agg #[I t.station, I t.lead, I t.alarm], Pq ab] w fun v w' => ∃ (y0 : Bool), y0 = r /\ v = B y0 /\ St w w' [] R := by
 refine ret_of_W Try.func83 rfl rfl rfl ?_
 refine W.seq ?_
 refine W.region rfl ?_
 refine t_box (v := .agg #[I t.station, I t.lead, I t.alarm]) (cs := [I t.station, I t.lead, I t.alarm]) H rfl rfl ?_
 intro ac al H
 refine zA (B false) rfl ?_
 refine s_nil ?_
 refine W.seq ?_
 refine W.region rfl ?_
 refine s_val (x_fa (a := Pq ac) (v := Pq ac) rfl (fa_blk (o := 0) Fd54_0 Sz3)) ?_
 refine s_val (x_ld (p := Pq ac) (v := I t.station) rfl (ldb_sc Sc3 (H.bl 0) rfl)) ?_
 refine s_val (x_ld (p := Pq ab) (v := I aa) rfl (ldb_sc Sc3 (ag.blk H) rfl)) ?_
 obtain ⟨ah, hM⟩ := M.e_grd hM
 simp only [Bool.and_eq_true, decide_eq_true_eq] at ah
 refine zR aa 1 (aa - 1) rfl rfl rfl (by omega) ?_
 obtain ⟨am, ai, hM⟩ := M.e_bind hM
 refine s_call cf37 [I t.station, I 0, I (aa - 1)] rfl (zah t.station 0 (aa - 1) ai _ (H.gt 1)) ?_
 rintro vq ao ⟨r2, aj, hvq, ae⟩
 subst aj
 subst vq
 try dsimp only at hM
 replace H := H.bk ae
 clear ae
 refine zA (B r2) rfl ?_
 refine s_nil ?_
 refine W.ret ?_
 have ak := M.e_pure hM
 exact ⟨_, resE_tmp rfl, ⟨r2, ak, rfl, (H.pk [])⟩⟩

def zbC (s : List Int) (v : Int) : Nat -> M (Nat ⊕ (Int ⊕ Unit)) := fun s2 =>
  bif decide ((s2 : Int) < (s.length : Int)) then (
  M.grd (decide ((s2 : Int) < (s.length : Int))) <|
  bif v == (s.getD s2 0) then (
  M.pure (.inr (.inl (s2 : Int))))
  else (
  M.pure (.inl (s2 + 1))))
  else (
  M.pure (.inr (.inr ())))
def zch (s : List Int) (v : Int) : M Int :=
  M.bind (M.iter (zbC s v) 0) fun x_ => match x_ with
  | (.inl s3) => (
  M.pure s3)
  | (.inr (_ : Unit)) => (
  M.pure (-1))
theorem zcS {R : List Chunk} {aj : Cells} {aa : Value} (s : List Int) (v : Int) (am : Reads R aj) (ae : Sl aj aa s) {r : Int} (hM : (zch s v).Ends r) (w : World) (H : St w w [] R) : Ret Try.prog 39 #[aa, I v] w fun v w' => ∃ (y0 : Int), y0 = r /\ v = I y0 /\ St w w' [] R := by
 refine ret_of_W Try.func39 rfl rfl rfl ?_
 refine W.seq ?_
 refine W.region rfl ?_
 refine zA (I 0) rfl ?_
 refine s_nil ?_
 refine W.seq ?_
 refine W.seq ?_
 refine W.region rfl ?_
 refine zM aa rfl ?_
 have ay := (ae).len_le
 refine s_val (x_lenS T23.und rfl ae) ?_
 refine zM (I 0) rfl ?_
 refine s_nil ?_
 refine W.block ?_
 obtain ⟨ao, ag, ak⟩ := M.e_bind hM
 obtain ⟨az, ag⟩ := M.e_iter ag
 refine W.loop (fun m σ W => ∃ (s2 : Nat) (ρ : Env), σ = upds ρ [(0, aa), (1, I v), (7, I (s.length : Int)), (8, I (s2 : Int))] /\ M.iterN (zbC s v) m s2 = some ao /\ St w W [] R) ?_ ?_
 ·exact ⟨_, 0, _, upds_of _ _ ⟨rfl, rfl, rfl, rfl, trivial⟩, ag, H⟩
 rintro aA σ aB ⟨s2, ρ, rfl, al, H⟩
 obtain ⟨aq, au, aC, hM, ah⟩ := M.e_iterN al
 simp only [zbC] at hM
 clear al
 refine W.seq ?_
 refine W.region rfl ?_
 refine zC (s2 : Int) (s.length : Int) (decide ((s2 : Int) < (s.length : Int))) rfl rfl rfl ?_
 refine s_nil ?_
 refine W.seq ?_
 refine W.cond (decide ((s2 : Int) < (s.length : Int))) rfl (fun ab => ?_) (fun ab => ?_)
 ·replace hM := M.e_t hM ab
  simp only [qy1, qy2, qy3, qy4, qy5, qy6, ne_eq, qy7] at ab
  refine W.skip ?_
  refine W.seq ?_
  refine W.block ?_
  refine W.seq ?_
  refine W.region rfl ?_
  refine zM (I (s2 : Int)) rfl ?_
  refine zA (I (s2 : Int)) rfl ?_
  refine s_nil ?_
  refine W.seq ?_
  refine W.region rfl ?_
  refine zM (I v) rfl ?_
  refine zM aa rfl ?_
  refine zM (I (s2 : Int)) rfl ?_
  obtain ⟨av, hM⟩ := M.e_grd hM
  simp only [Bool.and_eq_true, decide_eq_true_eq] at av
  refine s_val (x_ix (a := aa) (b := I (s2 : Int)) (v := vat aa 1 (Int.toNat (s2 : Int))) rfl rfl (Sl.ix (α := Int) T23.und T23.size ae (by omega) (by omega))) ?_
  refine s_val (x_ld (p := vat aa 1 (Int.toNat (s2 : Int))) (v := I (s.getD s2 0)) rfl (ld_sc Sc3 (At.mono (Int_at ae (i := (s2 : Int)) (by omega) (by omega)) (am.at H)))) ?_
  refine zC v (s.getD s2 0) (v == (s.getD s2 0)) rfl rfl rfl ?_
  refine s_nil ?_
  refine W.cond (v == (s.getD s2 0)) rfl (fun ac => ?_) (fun ac => ?_)
  ·replace hM := M.e_t hM ac
   simp only [qy1, qy2, qy3, qy4, qy5, qy6, ne_eq, qy7] at ac
   refine W.seq ?_
   refine W.region rfl ?_
   refine zM (I (s2 : Int)) rfl ?_
   refine zA (I (s2 : Int)) rfl ?_
   refine s_nil ?_
   refine W.ret ?_
   have aw := M.e_inr hM ah
   subst aw
   replace hM := ak
   try dsimp only at hM
   have ai := M.e_pure hM
   exact ⟨_, resE_tmp rfl, ⟨(s2 : Int), ai, rfl, H⟩⟩
  replace hM := M.e_f hM ac
  simp only [qy1, qy2, qy3, qy4, qy5, qy6, ne_eq, qy7] at ac
  refine W.skip ?_
  refine W.region rfl ?_
  refine zR (s2 : Int) 1 ((s2 : Int) + 1) rfl rfl rfl (by omega) ?_
  refine zM (I ((s2 : Int) + 1)) rfl ?_
  refine s_nil ?_
  exact ⟨aq, au, s2 + 1, _, upds_of _ _ ⟨rfl, rfl, rfl, rfl, trivial⟩, M.e_inl hM ah, H⟩
 replace hM := M.e_f hM ab
 simp only [qy1, qy2, qy3, qy4, qy5, qy6, ne_eq, qy7] at ab
 refine W.exit ?_
 have ax := M.e_inr hM ah
 subst ax
 replace hM := ak
 try dsimp only at hM
 refine W.seq ?_
 refine W.region rfl ?_
 refine zA (I (-1)) rfl ?_
 refine s_nil ?_
 refine W.ret ?_
 have ai := M.e_pure hM
 exact ⟨_, resE_tmp rfl, ⟨(-1), ai, rfl, H⟩⟩

def zcb (s : List Int) (v : Int) : M Bool :=
  M.bind (zch s v) fun r2 =>
  M.pure (decide (0 <= r2))
theorem zdd {R : List Chunk} {ab : Cells} {aa : Value} (s : List Int) (v : Int) (ae : Reads R ab) (ag : Sl ab aa s) {r : Bool} (hM : (zcb s v).Ends r) (w : World) (H : St w w [] R) : Ret Try.prog 84 #[aa, I v] w fun v w' => ∃ (y0 : Bool), y0 = r /\ v = B y0 /\ St w w' [] R := by
 refine ret_of_W Try.func84 rfl rfl rfl ?_
 refine W.seq ?_
 refine W.region rfl ?_
 refine zA (B false) rfl ?_
 refine s_nil ?_
 refine W.seq ?_
 refine W.region rfl ?_
 refine zM aa rfl ?_
 refine zM (I v) rfl ?_
 obtain ⟨ak, ah, hM⟩ := M.e_bind hM
 refine s_call cf39 [aa, I v] rfl (zcS s v (ae.app _) ag ah _ (H.gt 0)) ?_
 rintro vq al ⟨r2, ai, hvq, ac⟩
 subst ai
 subst vq
 try dsimp only at hM
 replace H := H.bk ac
 clear ac
 refine zC r2 0 (decide (0 <= r2)) rfl rfl rfl ?_
 refine zA (B (decide (0 <= r2))) rfl ?_
 refine s_nil ?_
 refine W.ret ?_
 have aj := M.e_pure hM
 exact ⟨_, resE_tmp rfl, ⟨(decide (0 <= r2)), aj, rfl, H⟩⟩

def zaE (s : List Int) (f : Int -> M Bool) : Nat -> M (Nat ⊕ (Int ⊕ Unit)) := fun s2 =>
  bif decide ((s2 : Int) < (s.length : Int)) then (
  M.grd (decide ((s2 : Int) < (s.length : Int))) <|
  M.bind (f (s.getD s2 0)) fun r2 =>
  bif r2 then (
  M.pure (.inr (.inl (s2 : Int))))
  else (
  M.pure (.inl (s2 + 1))))
  else (
  M.pure (.inr (.inr ())))
def zbZ (s : List Int) (f : Int -> M Bool) : M Int :=
  M.bind (M.iter (zaE s f) 0) fun x_ => match x_ with
  | (.inl s3) => (
  M.pure s3)
  | (.inr (_ : Unit)) => (
  M.pure (-1))
theorem zdg {R : List Chunk} {ak : Cells} {aa : Value} {ac : Value} (s : List Int) (f : Int -> M Bool) (ao : Reads R ak) (ae : Sl ak aa s) (aq : FnM Try.prog R ac f) {r : Int} (hM : (zbZ s f).Ends r) (w : World) (H : St w w [] R) : Ret Try.prog 77 #[aa, ac] w fun v w' => ∃ (y0 : Int), y0 = r /\ v = I y0 /\ St w w' [] R := by
 refine ret_of_W Try.func77 rfl rfl rfl ?_
 refine W.seq ?_
 refine W.region rfl ?_
 refine zA (I 0) rfl ?_
 refine s_nil ?_
 refine W.seq ?_
 refine W.seq ?_
 refine W.region rfl ?_
 refine zM aa rfl ?_
 have aB := (ae).len_le
 refine s_val (x_lenS T23.und rfl ae) ?_
 refine zM (I 0) rfl ?_
 refine s_nil ?_
 refine W.block ?_
 obtain ⟨au, ag, al⟩ := M.e_bind hM
 obtain ⟨aC, ag⟩ := M.e_iter ag
 refine W.loop (fun m σ W => ∃ (s2 : Nat) (ρ : Env), σ = upds ρ [(0, aa), (1, ac), (7, I (s.length : Int)), (8, I (s2 : Int))] /\ M.iterN (zaE s f) m s2 = some au /\ St w W [] R) ?_ ?_
 ·exact ⟨_, 0, _, upds_of _ _ ⟨rfl, rfl, rfl, rfl, trivial⟩, ag, H⟩
 rintro aD σ aE ⟨s2, ρ, rfl, am, H⟩
 obtain ⟨av, aw, aF, hM, ah⟩ := M.e_iterN am
 simp only [zaE] at hM
 clear am
 refine W.seq ?_
 refine W.region rfl ?_
 refine zC (s2 : Int) (s.length : Int) (decide ((s2 : Int) < (s.length : Int))) rfl rfl rfl ?_
 refine s_nil ?_
 refine W.seq ?_
 refine W.cond (decide ((s2 : Int) < (s.length : Int))) rfl (fun ab => ?_) (fun ab => ?_)
 ·replace hM := M.e_t hM ab
  simp only [qy1, qy2, qy3, qy4, qy5, qy6, ne_eq, qy7] at ab
  refine W.skip ?_
  refine W.seq ?_
  refine W.block ?_
  refine W.seq ?_
  refine W.region rfl ?_
  refine zM (I (s2 : Int)) rfl ?_
  refine zA (I (s2 : Int)) rfl ?_
  refine s_nil ?_
  refine W.seq ?_
  refine W.region rfl ?_
  refine zM ac rfl ?_
  refine zM aa rfl ?_
  refine zM (I (s2 : Int)) rfl ?_
  obtain ⟨ax, hM⟩ := M.e_grd hM
  simp only [Bool.and_eq_true, decide_eq_true_eq] at ax
  refine s_val (x_ix (a := aa) (b := I (s2 : Int)) (v := vat aa 1 (Int.toNat (s2 : Int))) rfl rfl (Sl.ix (α := Int) T23.und T23.size ae (by omega) (by omega))) ?_
  refine s_val (x_ld (p := vat aa 1 (Int.toNat (s2 : Int))) (v := I (s.getD s2 0)) rfl (ld_sc Sc3 (At.mono (Int_at ae (i := (s2 : Int)) (by omega) (by omega)) (ao.at H)))) ?_
  obtain ⟨r2, ay, hM⟩ := M.e_bind hM
  refine t_callM H aq rfl rfl (s.getD s2 0) Reads.none (Arg.mkI (fun _ => none) _) ay ?_
  intro aG H
  refine s_nil ?_
  refine W.cond r2 rfl (fun ai => ?_) (fun ai => ?_)
  ·replace hM := M.e_t hM ai
   refine W.seq ?_
   refine W.region rfl ?_
   refine zM (I (s2 : Int)) rfl ?_
   refine zA (I (s2 : Int)) rfl ?_
   refine s_nil ?_
   refine W.ret ?_
   have az := M.e_inr hM ah
   subst az
   replace hM := al
   try dsimp only at hM
   have aj := M.e_pure hM
   exact ⟨_, resE_tmp rfl, ⟨(s2 : Int), aj, rfl, H⟩⟩
  replace hM := M.e_f hM ai
  refine W.skip ?_
  refine W.region rfl ?_
  refine zR (s2 : Int) 1 ((s2 : Int) + 1) rfl rfl rfl (by omega) ?_
  refine zM (I ((s2 : Int) + 1)) rfl ?_
  refine s_nil ?_
  exact ⟨av, aw, s2 + 1, _, upds_of _ _ ⟨rfl, rfl, rfl, rfl, trivial⟩, M.e_inl hM ah, H⟩
 replace hM := M.e_f hM ab
 simp only [qy1, qy2, qy3, qy4, qy5, qy6, ne_eq, qy7] at ab
 refine W.exit ?_
 have aA := M.e_inr hM ah
 subst aA
 replace hM := al
 try dsimp only at hM
 refine W.seq ?_
 refine W.region rfl ?_
 refine zA (I (-1)) rfl ?_
 refine s_nil ?_
 refine W.ret ?_
 have aj := M.e_pure hM
 exact ⟨_, resE_tmp rfl, ⟨(-1), aj, rfl, H⟩⟩

def zaR (s : List Int) (f : Int -> M Bool) : M Bool :=
  M.bind (zbZ s f) fun r2 =>
  M.pure (decide (0 <= r2))
theorem zcT {R : List Chunk} {ac : Cells} {aa : Value} {ab : Value} (s : List Int) (f : Int -> M Bool) (ag : Reads R ac) (ah : Sl ac aa s) (ai : FnM Try.prog R ab f) {r : Bool} (hM : (zaR s f).Ends r) (w : World) (H : St w w [] R) : Ret Try.prog 57 #[aa, ab] w fun v w' => ∃ (y0 : Bool), y0 = r /\ v = B y0 /\ St w w' [] R := by
 refine ret_of_W Try.func57 rfl rfl rfl ?_
 refine W.seq ?_
 refine W.region rfl ?_
 refine zA (B false) rfl ?_
 refine s_nil ?_
 refine W.seq ?_
 refine W.region rfl ?_
 refine zM aa rfl ?_
 refine zM ab rfl ?_
 obtain ⟨am, aj, hM⟩ := M.e_bind hM
 refine s_call cf77 [aa, ab] rfl (zdg s f (ag.app _) ah (ai.app _) aj _ (H.gt 0)) ?_
 rintro vq ao ⟨r2, ak, hvq, ae⟩
 subst ak
 subst vq
 try dsimp only at hM
 replace H := H.bk ae
 clear ae
 refine zC r2 0 (decide (0 <= r2)) rfl rfl rfl ?_
 refine zA (B (decide (0 <= r2))) rfl ?_
 refine s_nil ?_
 refine W.ret ?_
 have al := M.e_pure hM
 exact ⟨_, resE_tmp rfl, ⟨(decide (0 <= r2)), al, rfl, H⟩⟩

def zb7 (x : Int) (aa : Int -> M Bool) : M Bool :=
  M.bind (aa x) fun r2 =>
  M.pure (!r2)
theorem zdo {R : List Chunk} {aa : Nat} {ab : Value} (x : Int) (ac : Int -> M Bool) (ae : FnM Try.prog R ab ac) (ag : Has R (cBlk aa [ab] 89)) {r : Bool} (hM : (zb7 x ac).Ends r) (w : World) (H : St w w [] R) : Ret Try.prog 65 #[I x, Pq aa] w fun v w' => ∃ (y0 : Bool), y0 = r /\ v = B y0 /\ St w w' [] R := by
 refine ret_of_W Try.func65 rfl rfl rfl ?_
 refine W.seq ?_
 refine W.region rfl ?_
 refine zA (B false) rfl ?_
 refine s_nil ?_
 refine W.seq ?_
 refine W.region rfl ?_
 refine s_val (x_ld (p := Pq aa) (v := ab) rfl (ldb_sc Sc89 (ag.blk H) rfl)) ?_
 refine zM (I x) rfl ?_
 obtain ⟨r2, ah, hM⟩ := M.e_bind hM
 refine t_callM H ae rfl rfl x Reads.none (Arg.mkI (fun _ => none) _) ah ?_
 intro aj H
 refine s_val (x_not (b := r2) rfl) ?_
 refine zA (B (!r2)) rfl ?_
 refine s_nil ?_
 refine W.ret ?_
 have ai := M.e_pure hM
 exact ⟨_, resE_tmp rfl, ⟨(!r2), ai, rfl, H⟩⟩

def zbz (l : List Int) (so : Int -> M Bool) : M Bool :=
  M.bind (zaR l (fun aa => zb7 aa so)) fun r2 =>
  M.pure (!r2)
theorem zc5 {R : List Chunk} {ag : Cells} {aa : Value} {ab : Value} (l : List Int) (so : Int -> M Bool) (ak : Reads R ag) (al : Sl ag aa l) (ah : FnM Try.prog R ab so) {r : Bool} (hM : (zbz l so).Ends r) (w : World) (H : St w w [] R) : Ret Try.prog 35 #[aa, ab] w fun v w' => ∃ (y0 : Bool), y0 = r /\ v = B y0 /\ St w w' [] R := by
 refine ret_of_W Try.func35 rfl rfl rfl ?_
 refine W.seq ?_
 refine W.region rfl ?_
 refine t_box (v := ab) (cs := [ab]) H rfl (FnM.cells ah) ?_
 intro ac aB H
 refine zA (B false) rfl ?_
 refine s_nil ?_
 refine W.seq ?_
 refine W.region rfl ?_
 refine zM aa rfl ?_
 refine s_val (x_mf (fs := []) (cs := [Pq ac]) rfl rfl) ?_
 obtain ⟨aC, am, hM⟩ := M.e_bind hM
 refine s_call cf57 [aa, .func (.func 65) #[] #[Pq ac]] rfl (zcT l (fun ae => zb7 ae so) (ak.app _) al ⟨65, [Pq ac], rfl, cf65, fun ai aD aE ao ae aF aq aG au av => by obtain rfl := Arg.int au; exact (zdo ae so (FnM.app (ah.app _) _) (Has.app (Has.here (k := 0) rfl) _) av ai (St.refl aq)).mono fun ao ai ⟨aH, aw, ax, ay⟩ => by subst aw; exact ⟨ax, ay⟩⟩ am _ (H.gt 1)) ?_
 rintro vq aI ⟨r2, az, hvq, aj⟩
 subst az
 subst vq
 try dsimp only at hM
 replace H := H.bk aj
 clear aj
 refine s_val (x_not (b := r2) rfl) ?_
 refine zA (B (!r2)) rfl ?_
 refine s_nil ?_
 refine W.ret ?_
 have aA := M.e_pure hM
 exact ⟨_, resE_tmp rfl, ⟨(!r2), aA, rfl, (H.pk [])⟩⟩

end Go.Proofs.Ytbaehghammbjdaa
end
