/- Part 2 of the texts on which the proof rests. Conditions: none. -/
import Derived.Test.YtbaehghammbjdaaProg
import Derived.Shelf.SlIterI.Nil
import Derived.Shelf.SortM.Plain
import Derived.Shelf.SortM.SortNone
import Derived.WideKeyRuns
import Derived.Test.YtbaehghammbjdaaZB1
set_option linter.unusedVariables false
set_option linter.unusedSimpArgs false
set_option linter.unusedSectionVars false
namespace Go.Proofs
open Go.RowKit Go.Maps Go.Sort Go.Shelf
def Try.sortA_ren : Go.Shelf.Ren := ⟨fun | 5 => 73 | 7 => 88 | 8 => 89 | 10 => 93 | 11 => 94 | 12 => 95 | 13 => 96 | 14 => 97 | 15 => 98 | 16 => 99 | 17 => 100 | 18 => 101 | 19 => 102 | 20 => 103 | 30 => 105 | 31 => 106 | 32 => 107 | 33 => 108 | 34 => 109 | 35 => 87 | 40 => 111 | n => n, fun | 0 => 0 | 3 => 3 | 4 => 4 | 5 => 5 | 9 => 9 | 22 => 23 | 23 => 23 | 25 => 3 | 32 => 126 | 35 => 130 | 36 => 131 | 41 => 135 | 44 => 138 | 46 => 140 | 53 => 141 | 57 => 145 | 63 => 147 | 64 => 148 | n => n, fun | n => n⟩
theorem Try.sortA : Go.Proofs.SlLaysM.n5 Try.prog Try.sortA_ren := {
  mixed := by kernel_rfl
  f5 := ⟨"slices.Sort[[]int,int]", by kernel_rfl, Try.func73.trans (congrArg some (by kernel_rfl))⟩
  f7 := ⟨"slices.pdqsortOrdered[int]", by kernel_rfl, Try.func88.trans (congrArg some (by kernel_rfl))⟩
  f8 := Try.func89.trans (congrArg some (by kernel_rfl))
  f10 := ⟨"slices.insertionSortOrdered[int]", by kernel_rfl, Try.func93.trans (congrArg some (by kernel_rfl))⟩
  f11 := ⟨"slices.heapSortOrdered[int]", by kernel_rfl, Try.func94.trans (congrArg some (by kernel_rfl))⟩
  f12 := ⟨"slices.breakPatternsOrdered[int]", by kernel_rfl, Try.func95.trans (congrArg some (by kernel_rfl))⟩
  f13 := ⟨"slices.choosePivotOrdered[int]", by kernel_rfl, Try.func96.trans (congrArg some (by kernel_rfl))⟩
  f14 := ⟨"slices.reverseRangeOrdered[int]", by kernel_rfl, Try.func97.trans (congrArg some (by kernel_rfl))⟩
  f15 := ⟨"slices.partialInsertionSortOrdered[int]", by kernel_rfl, Try.func98.trans (congrArg some (by kernel_rfl))⟩
  f16 := ⟨"cmp.Less[int]", by kernel_rfl, Try.func99.trans (congrArg some (by kernel_rfl))⟩
  f17 := ⟨"slices.partitionEqualOrdered[int]", by kernel_rfl, Try.func100.trans (congrArg some (by kernel_rfl))⟩
  f18 := ⟨"slices.partitionOrdered[int]", by kernel_rfl, Try.func101.trans (congrArg some (by kernel_rfl))⟩
  f19 := Try.func102.trans (congrArg some (by kernel_rfl))
  f20 := Try.func103.trans (congrArg some (by kernel_rfl))
  f30 := ⟨"slices.siftDownOrdered[int]", by kernel_rfl, Try.func105.trans (congrArg some (by kernel_rfl))⟩
  f31 := Try.func106.trans (congrArg some (by kernel_rfl))
  f32 := Try.func107.trans (congrArg some (by kernel_rfl))
  f33 := ⟨"slices.medianAdjacentOrdered[int]", by kernel_rfl, Try.func108.trans (congrArg some (by kernel_rfl))⟩
  f34 := ⟨"slices.medianOrdered[int]", by kernel_rfl, Try.func109.trans (congrArg some (by kernel_rfl))⟩
  f35 := ⟨"cmp.isNaN[int]", by kernel_rfl, Try.func87.trans (congrArg some (by kernel_rfl))⟩
  f40 := ⟨"slices.order2Ordered[int]", by kernel_rfl, Try.func111.trans (congrArg some (by kernel_rfl))⟩
  t0 := Try.underlying0
  a0 := Try.isAgg0
  z0 := Try.sizeOf0
  v0 := Try.zeroValue0
  t3 := Try.underlying3
  a3 := Try.isAgg3
  z3 := Try.sizeOf3
  v3 := Try.zeroValue3
  t4 := Try.underlying4
  a4 := Try.isAgg4
  z4 := Try.sizeOf4
  v4 := Try.zeroValue4
  t5 := Try.underlying5
  a5 := Try.isAgg5
  z5 := Try.sizeOf5
  v5 := Try.zeroValue5
  t9 := Try.underlying9
  a9 := Try.isAgg9
  z9 := Try.sizeOf9
  v9 := Try.zeroValue9
  t22 := Try.underlying23
  a22 := Try.isAgg23
  z22 := Try.sizeOf23
  v22 := Try.zeroValue23
  t23 := Try.underlying23
  a23 := Try.isAgg23
  z23 := Try.sizeOf23
  v23 := Try.zeroValue23
  t25 := Try.underlying3
  a25 := Try.isAgg3
  z25 := Try.sizeOf3
  v25 := Try.zeroValue3
  t32 := Try.underlying126
  a32 := Try.isAgg126
  z32 := Try.sizeOf126
  v32 := Try.zeroValue126
  t35 := Try.underlying130
  a35 := Try.isAgg130
  z35 := Try.sizeOf130
  v35 := Try.zeroValue130
  t36 := Try.underlying131
  a36 := Try.isAgg131
  z36 := Try.sizeOf131
  v36 := Try.zeroValue131
  t41 := Try.underlying135
  a41 := Try.isAgg135
  z41 := Try.sizeOf135
  v41 := Try.zeroValue135
  t44 := Try.underlying138
  a44 := Try.isAgg138
  z44 := Try.sizeOf138
  v44 := Try.zeroValue138
  t46 := Try.underlying140
  a46 := Try.isAgg140
  z46 := Try.sizeOf140
  v46 := Try.zeroValue140
  t53 := Try.underlying141
  a53 := Try.isAgg141
  z53 := Try.sizeOf141
  v53 := Try.zeroValue141
  t57 := Try.underlying145
  a57 := Try.isAgg145
  z57 := Try.sizeOf145
  v57 := Try.zeroValue145
  t63 := Try.underlying147
  a63 := Try.isAgg147
  z63 := Try.sizeOf147
  v63 := Try.zeroValue147
  t64 := Try.underlying148
  a64 := Try.isAgg148
  z64 := Try.sizeOf148
  v64 := Try.zeroValue148 }

end Go.Proofs
namespace Go.Nm
open Go
theorem OwnF.row {B : Nat} {e : TypeId} {w : World} {l : List Int} {g cap : Nat} {cur : Array Value} (ho : OwnF B e w (.slice (some ⟨g, 0, none⟩) l.length cap) l) (hg : w.heap[g]? = some (.cells cur e (0, 0)))
    (hcs : l.length <= cap) (hsz : cur.size = cap) (hb : B <= g) (hm : cap <= maxLen) (d : Array Int) (hl : d.size = l.length) (q : Nat) :
    OwnF B e (Sort.putRow (Value.int .i64) (Sort.ahead w q) g 0 d) (.slice (some ⟨g, 0, none⟩) l.length cap) d.toList /\ Grow B (.slice (some ⟨g, 0, none⟩) l.length cap) w (Sort.putRow (Value.int .i64) (Sort.ahead w q) g 0 d) := by
  have hs1 : Elt.sz Int = 1 := rfl
  have h1 : (Sort.putRow (Value.int .i64) (Sort.ahead w q) g 0 d).heap[g]? = some (.cells (Sort.putCells (Value.int .i64) 0 d cur) e (0, 0)) := by
    show (w.heap.modify g _)[g]? = _
    rw [Array.getElem?_modify, if_pos rfl, hg]
    rfl
  have h2 : ∀ k, k ≠ g -> (Sort.putRow (Value.int .i64) (Sort.ahead w q) g 0 d).heap[k]? = w.heap[k]? := by
    intro k hk
    show (w.heap.modify g _)[k]? = _
    rw [Array.getElem?_modify, if_neg (fun h => hk h.symm)]
  refine ⟨⟨by rw [enc_ints]; simp [hs1], .inr ⟨g, cap, _, by simp [hl], hb, h1, by simp [hl]; omega, hm, by simp [hs1, Sort.putCells]; omega, ?_⟩⟩, ⟨rfl, rfl, by simp [Sort.putRow, Sort.mapBlock, Sort.ahead], fun k _ hk => ?_, fun g' hg' => (ho.lt g' hg').1, fun a => by simp⟩⟩
  · rw [enc_ints, hs1]
    apply List.ext_getElem?
    intro i
    rw [List.getElem?_take, List.getElem?_map]
    by_cases hi : i < d.toList.length * 1
    · rw [if_pos hi]
      have hi' : i < d.size := by simpa using hi
      have hc : i < cur.size := by omega
      simp [Sort.putCells, hi', hc]
    · rw [if_neg hi, List.getElem?_eq_none (by simpa using hi)]
      rfl
  · refine h2 k (fun e' => hk ?_)
    rw [e']
    rfl
end Go.Nm
namespace Go.Proofs.Ytbaehghammbjdaa
open Go Go.Nm Go.Proofs
theorem sort_any {w : World} {v : Value} {l : List Int} (ho : OwnF 0 3 w v l) (hl : l.length <= 1000000) : Ret Try.prog 73 #[v] w fun u w' => u = .tuple #[] /\ OwnF 0 3 w' v (isort l) /\ Keep w w' /\ ∀ b, b < w.heap.size -> v.ownBlock ≠ some b -> w'.heap[b]? = w.heap[b]? := by
  have ho' := ho
  rcases ho.2 with ⟨rfl, hn⟩ | ⟨g, cap, cur, rfl, hb, hg, hc, hm, hcs, htake⟩
  · obtain rfl := List.length_eq_zero_iff.1 hn
    have h := AnyM.slices_Sort_int_none Try.sortA none 0 w
    refine Calls.mono h ?_
    rintro _ w' ⟨rfl, rfl⟩
    exact ⟨_, rfl, rfl, ho, Keep.refl _, fun _ _ _ => rfl⟩
  · have hs1 : Elt.sz Int = 1 := rfl
    rw [hs1] at hcs htake
    rw [enc_ints] at htake
    have hcell : ∀ j, j < l.length -> w.cell? ⟨g, 0 + j, none⟩ = some (.int .i64 (l.getD j 0)) := by
      intro j hj
      rw [Nat.zero_add, cell_of_row w g j cur 3 (0, 0) hg]
      have h1 : (cur.toList.take (l.length * 1))[j]? = (l.map I)[j]? := by rw [htake]
      rw [List.getElem?_take, if_pos (by omega), List.getElem?_map, getD_some l hj 0] at h1
      simpa using h1
    have hH : Sort.Holds (Value.int .i64) w g 0 l.toArray := by
      intro j hj
      have hj : j < l.length := by simpa using hj
      refine ⟨?_, by simp [World.frozen?, hg]⟩
      rw [hcell j hj]
      have : l.getD j 0 = l.toArray[j]! := by
        rw [List.getD_eq_getElem?_getD, List.getElem?_eq_getElem hj]
        simp [getElem!_pos, hj]
      rw [this]
    have h := AnyM.slices_Sort_int Try.sortA g 0 cap l w hH (heap_lt hg) (by omega)
    refine Calls.mono h ?_
    rintro _ w' ⟨rfl, q, os, rfl⟩
    rw [merge_isort (List.Perm.refl l)]
    have hlen : (isort l).length = l.length := (isort_perm l).length_eq
    obtain ⟨h1, h2⟩ := OwnF.row ho hg hc (by omega) hb hm (isort l).toArray (by simp [hlen]) q
    have hlt : g < (Sort.putRow (Value.int .i64) (Sort.ahead w q) g 0 (isort l).toArray).heap.size := Nat.lt_of_lt_of_le (heap_lt hg) h2.size
    refine ⟨_, rfl, rfl, ?_, ⟨h2.os, h2.out, by rw [Sort.size_grow]; exact Nat.le_trans h2.size (Nat.le_add_right _ _)⟩, fun b hb' hne => ?_⟩
    · rcases h1 with ⟨h3, h4 | ⟨g', cap', cur', h5, h6, h7, h8⟩⟩
      · exact absurd h4.1 (by simp)
      · simp only [Value.slice.injEq, Option.some.injEq, Addr.mk.injEq, and_true] at h5
        obtain ⟨rfl, _, rfl⟩ := h5
        refine ⟨h3, .inr ⟨g, cap, cur', by simp [hlen], h6, by rw [Sort.heap_grow_old _ _ hlt]; exact h7, h8⟩⟩
    · rw [Sort.heap_grow_old _ _ (Nat.lt_of_lt_of_le hb' h2.size)]
      exact h2.blk b hb' hne
end Go.Proofs.Ytbaehghammbjdaa
namespace Go.Nm
open Go
theorem St.sorted {w0 w w' : World} {L L' R : List Chunk} {k : Nat} {v : Value} {l l' : List Int} {e : TypeId} (H : St w0 w L R) (hk : L[k]? = some (cOwn (α := Int) e v l)) (ho : OwnF 0 e w' v l') (kp : Keep w w') (hs : ∀ b, b < w.heap.size -> v.ownBlock ≠ some b -> w'.heap[b]? = w.heap[b]?)
    (hl : L.set k (cOwn (α := Int) e v l') = L') : St w0 w' L' R :=
  H.set (c' := cOwn (α := Int) e v l') hk rfl kp hs (fun b hb => .inl hb) ho hl
end Go.Nm
namespace Go.Nm
open Go
end Go.Nm
namespace Go.Nm
open Go
section
variable {P : Program} {w : World} {σ : Env} {d : Nat} {ty : TypeId} {pos : String} {af : Array Edge} {g : Option (Nat × Bool)}
end
end Go.Nm
namespace Go.Nm
open Go
section
variable {P : Program} {ops : Array Oper} {md : Region.Mode} {C : World -> Prop} {z : Nat}
end
section
variable {P : Program} {all : List Oper} {C : World -> Prop} {z : Nat} {Q : Post} {r : List Nat} {σ : Env} {w : World}
end
end Go.Nm
namespace Go.Nm
open Go
section
variable {P : Program} {ops : Array Oper} {md : Region.Mode} {C : World -> Prop} {z : Nat}
end
section
variable {P : Program} {all : List Oper} {C : World -> Prop} {z : Nat} {Q : Post} {r r2 : Ord} {σ : Env} {w : World}
end
end Go.Nm
namespace Go.Nm
open Go
section
set_option linter.unusedSectionVars false
variable {α β : Type} [Flat α] [Flat β] [Inhabited β] {iv : β -> Value} {e1 e2 : TypeId} {v : Value} {us : List β} {T : List (List α)} {w0 w : World} {L L' R : List Chunk}
variable {P : Program} {all rest : List Oper} {Q : Post} {σ : Env} {d : Nat} {ty : TypeId} {pos : String} {af : Array Edge}
end
end Go.Nm
namespace Go.Nm
open Go
/-- A map of slices, with the rows to which they lead (they are read on only). -/
def cMem {κ : Type} [DecidableEq κ] (kenc : κ -> Value) (b : Nat) (B : Base) (F : κ -> M (List Int)) : Chunk where
  D k := k = b ∨ (B.D k /\ k < B.w.heap.size)
  ex := true
  ok w := (∃ f : κ -> Option Value, (cMap kenc id b f).ok w /\ ∀ k v, f k = some v -> ∃ l, (F k).Ends l /\ Sl B.cells v l) /\ (cRo B).ok w /\ ¬ (B.D b /\ b < B.w.heap.size)
  st w w' h hs k := by
    obtain ⟨⟨f, h1, h2⟩, h3, h4⟩ := h
    exact ⟨⟨f, (cMap kenc id b f).st w w' h1 hs fun j hj => k j (.inl hj), h2⟩, (cRo B).st w w' h3 hs fun j hj => k j (.inr hj), h4⟩
  bd w k h e := by
    obtain ⟨⟨f, h1, h2⟩, h3, h4⟩ := h
    rcases e with e | e
    · exact (cMap kenc id b f).bd w k h1 e
    · exact (cRo B).bd w k h3 e
/-- A base that nothing else knows. -/
def cRx (B : Base) : Chunk where
  D b := B.D b /\ b < B.w.heap.size
  ex := true
  ok w := (cRo B).ok w
  st w w' h hs k := (cRo B).st w w' h hs k
  bd w b h hb := (cRo B).bd w b h hb
section
variable {κ : Type} [DecidableEq κ] {kenc : κ -> Value} {b : Nat} {B : Base} {F : κ -> M (List Int)} {P : Program} {w w0 : World} {L L' R : List Chunk} {kt et t : TypeId}
variable {all rest : List Oper} {Q : Post} {σ : Env} {d : Nat} {ty : TypeId} {pos : String} {af : Array Edge}
theorem memLe : ∀ w, (cMem kenc b B F).ok w -> B.cells.Le w.cell? := fun w h => roLe w h.2.1
/-- A new one. -/
theorem t_mkmem {t' : TypeId} (kenc : κ -> Value) (F : κ -> M (List Int)) (H : St w0 w L R) (k : ∀ b B w', St w0 w' (cMem kenc b B F :: L) R -> SL P all Q rest (upd σ d (.map (some b))) w') : SL P all Q (⟨some d, .makeMap t' none, ty, pos, af, none⟩ :: rest) σ w :=
  s_mkmap fun b w' hn => k b ⟨w', fun _ => False⟩ w' (H.push (c := cMem kenc b ⟨w', fun _ => False⟩ F) hn.ext
    ⟨⟨fun _ => none, ⟨_, _, hn.same, MapR.nil kenc id 0⟩, fun k v h => by cases h⟩, ⟨Nat.le_refl _, fun _ h => h.elim⟩, fun h => h.1.elim⟩ (fun j hj => by
      rcases hj with hj | hj
      · rw [hj]; exact hn.ge
      · exact hj.1.elim))
/-- The map by itself, the rows beside it. -/
theorem St.memOpen {i : Nat} (H : St w0 w L R) (hk : L[i]? = some (cMem kenc b B F)) : ∃ f : κ -> Option Value, St w0 w (cMap kenc id b f :: cRx B :: L.eraseIdx i) R /\ ∀ k v, f k = some v -> ∃ l, (F k).Ends l /\ Sl B.cells v l := by
  have hlt := (List.getElem?_eq_some_iff.1 hk).1
  have hp : (cMem kenc b B F :: L.eraseIdx i).Perm L := by
    have e : L.take i ++ cMem kenc b B F :: L.drop (i + 1) = L := by
      rw [← (List.getElem?_eq_some_iff.1 hk).2, ← List.drop_eq_getElem_cons hlt, List.take_append_drop]
    rw [List.eraseIdx_eq_take_drop_succ]
    exact List.Perm.trans List.perm_middle.symm (by rw [e])
  have hS : Sep w (cMem kenc b B F :: (L.eraseIdx i ++ R)) := H.sep.perm (by rw [← List.cons_append]; exact hp.append_right R)
  obtain ⟨⟨⟨f, h1, h2⟩, h3, h4⟩, ha, hr⟩ := hS
  refine ⟨f, ⟨H.kp, h1, ?_, h3, ?_, hr⟩, h2⟩
  · intro c hc _ j hj hj'
    rcases List.mem_cons.1 hc with rfl | hc
    · rw [show j = b from hj] at hj'
      exact h4 hj'
    · exact ha c hc (by simp [cMem]) j (.inl hj) hj'
  · intro c hc _ j hj hj'
    exact ha c hc (by simp [cMem]) j (.inr hj) hj'
theorem St.memShut {f : κ -> Option Value} (H : St w0 w (cMap kenc id b f :: cRx B :: L) R) (hF : ∀ k v, f k = some v -> ∃ l, (F k).Ends l /\ Sl B.cells v l) : St w0 w (cMem kenc b B F :: L) R := by
  obtain ⟨h1, ha, h3, hb, hr⟩ := H.sep
  refine ⟨H.kp, ⟨⟨f, h1, hF⟩, h3, fun h => ha (cRx B) (by simp) (by simp [cMap]) b rfl h⟩, fun c hc _ j hj hj' => ?_, hr⟩
  rcases hj with hj | hj
  · exact ha c (List.mem_cons_of_mem _ hc) (by simp [cMap]) j hj hj'
  · exact hb c hc (by simp [cRx]) j hj hj'
theorem St.memShut1 {f : κ -> Option Value} {k : κ} {e : TypeId} {v : Value} {l : List Int} (H : St w0 w (cMap kenc id b (updF f k v) :: cRx B :: cOwn (α := Int) e v l :: L) R) (hF : ∀ k v, f k = some v -> ∃ l, (F k).Ends l /\ Sl B.cells v l) (hE : (F k).Ends l) :
    ∃ B', B.cells.Le B'.cells /\ Sl B'.cells v l /\ St w0 w (cMem kenc b B' F :: L) R := by
  have hS := H.sep
  obtain ⟨h1, ha, h3, hb, hown, hc, hr⟩ := hS
  have hlt : ∀ j, B.D j /\ j < B.w.heap.size -> (cRo B).D j := fun j hj => hj
  have hBB : B.cells.Le (Base.cells ⟨w, fun j => (B.D j /\ j < B.w.heap.size) ∨ v.ownBlock = some j⟩) := fun a c hc => by
    have hd : B.D a.block := by
      unfold Base.cells at hc
      split at hc
      · assumption
      · cases hc
    have hlt : a.block < B.w.heap.size := by
      unfold Base.cells at hc
      rw [if_pos hd] at hc
      exact World.block_lt_of_cell? B.w a hc
    unfold Base.cells
    rw [if_pos (show (B.D a.block /\ a.block < B.w.heap.size) ∨ v.ownBlock = some a.block from .inl ⟨hd, hlt⟩)]
    exact roLe w h3 a c hc
  have hvl : Sl (Base.cells ⟨w, fun j => (B.D j /\ j < B.w.heap.size) ∨ v.ownBlock = some j⟩) v l := (ownSl hown).mono fun a c hc => by
    have h1 := ownLe w hown a c hc
    unfold Base.cells
    rw [if_pos (Or.inr ?_)]
    · exact h1
    · unfold rowC at hc
      split at hc
      · rename_i p _ _
        split at hc
        · rename_i ha
          rw [ha]; rfl
        · cases hc
      · cases hc
  refine ⟨⟨w, fun j => (B.D j /\ j < B.w.heap.size) ∨ v.ownBlock = some j⟩, hBB, hvl, H.kp, ⟨⟨updF f k v, h1, fun k' v' hk' => ?_⟩, ⟨Nat.le_refl _, fun _ _ _ => rfl⟩, fun h => ?_⟩, fun c hc' _ j hj hj' => ?_, hr⟩
  · unfold updF at hk'
    split at hk'
    · rename_i ek
      subst ek
      obtain rfl := Option.some.inj hk'
      exact ⟨l, hE, hvl⟩
    · obtain ⟨l', e1, e2⟩ := hF k' v' hk'
      exact ⟨l', e1, e2.mono hBB⟩
  · rcases h.1 with h | h
    · exact ha (cRx B) (by simp) (by simp [cMap]) b rfl h
    · exact ha (cOwn (α := Int) e v l) (by simp) (by simp [cMap]) b rfl h
  · rcases hj with hj | ⟨hj | hj, _⟩
    · exact ha c (List.mem_cons_of_mem _ (List.mem_cons_of_mem _ hc')) (by simp [cMap]) j hj hj'
    · exact hb c (List.mem_cons_of_mem _ hc') (by simp [cRx]) j hj hj'
    · exact hc c hc' (by simp [cOwn]) j hj hj'
end
end Go.Nm
namespace Go.Nm
open Go
section
variable {P : Program} {w : World}
variable {all rest : List Oper} {Q : Post} {σ : Env} {w0 : World} {L R : List Chunk} {ty : TypeId} {pos : String} {af : Array Edge}
end
end Go.Nm
namespace Go.Nm
open Go
universe u
class NthR {α : Type u} (l : List α) (i : Nat) (x : outParam α) : Prop where
  is : l[i]? = some x
instance {α : Type u} {l : List α} {x : α} : NthR (x :: l) 0 x := ⟨rfl⟩
instance {α : Type u} {l : List α} {x y : α} {i : Nat} [h : NthR l i x] : NthR (y :: l) (i + 1) x := ⟨h.is⟩
instance (priority := high) {α : Type u} {l : List α} {x a b c d : α} {i : Nat} [h : NthR l i x] : NthR (a :: b :: c :: d :: l) (i + 4) x := ⟨h.is⟩
class PickR {α : Type u} (l : List α) (i : List Nat) (o : outParam (List α)) : Prop where
  is : i.mapM (fun j => l[j]?) = some o
instance {α : Type u} {l : List α} : PickR l [] [] := ⟨rfl⟩
instance {α : Type u} {l o : List α} {i : Nat} {is : List Nat} {x : α} [h : NthR l i x] [k : PickR l is o] : PickR l (i :: is) (x :: o) := ⟨by rw [List.mapM_cons, h.is, k.is]; rfl⟩
class AppR {α : Type u} (a b : List α) (o : outParam (List α)) : Prop where
  is : a ++ b = o
instance {α : Type u} {b : List α} : AppR [] b b := ⟨rfl⟩
instance {α : Type u} {x : α} {a b o : List α} [h : AppR a b o] : AppR (x :: a) b (x :: o) := ⟨by rw [List.cons_append, h.is]⟩
class LenR {α : Type u} (l : List α) (n : Nat) : Prop where
  is : l.length = n
instance {α : Type u} : LenR ([] : List α) 0 := ⟨rfl⟩
instance {α : Type u} {l : List α} {x : α} {n : Nat} [h : LenR l n] : LenR (x :: l) (n + 1) := ⟨by rw [List.length_cons, h.is]⟩
class EndR {α : Type u} (n : Nat) (l : List α) (a b : outParam (List α)) : Prop where
  is : a ++ b = l
instance (priority := low) {α : Type u} {x : α} {n : Nat} {l a b : List α} [h : EndR n l a b] : EndR n (x :: l) (x :: a) b := ⟨by rw [List.cons_append, h.is]⟩
instance {α : Type u} {n : Nat} {l : List α} [LenR l n] : EndR n l [] l := ⟨rfl⟩
class SetR {α : Type u} (l : List α) (k : Nat) (x : α) (o : outParam (List α)) : Prop where
  is : l.set k x = o
instance {α : Type u} {l : List α} {x y : α} : SetR (y :: l) 0 x (x :: l) := ⟨rfl⟩
instance {α : Type u} {l o : List α} {x y : α} {k : Nat} [h : SetR l k x o] : SetR (y :: l) (k + 1) x (y :: o) := ⟨by rw [List.set_cons_succ, h.is]⟩
class NfR {α : Type u} (l : List α) (o : outParam (List α)) : Prop where
  is : l = o
instance {α : Type u} : NfR ([] : List α) [] := ⟨rfl⟩
instance {α : Type u} {x : α} {l o : List α} [h : NfR l o] : NfR (x :: l) (x :: o) := ⟨by rw [← h.is]⟩
instance {α : Type u} {l o p : List α} {k : Nat} {x : α} [h : NfR l o] [s : SetR o k x p] : NfR (l.set k x) p := ⟨by rw [h.is, s.is]⟩
instance {α : Type u} {a b a' b' o : List α} [h : NfR a a'] [h' : NfR b b'] [s : AppR a' b' o] : NfR (a ++ b) o := ⟨by rw [h.is, h'.is, s.is]⟩
instance {α : Type u} {x : α} {l o : List α} [h : NfR l o] : NfR ((x :: l).eraseIdx 0) o := ⟨by rw [← h.is]; rfl⟩
instance {α : Type u} {x : α} {l o : List α} {k : Nat} [h : NfR (l.eraseIdx k) o] : NfR ((x :: l).eraseIdx (k + 1)) (x :: o) := ⟨by rw [List.eraseIdx_cons_succ, h.is]⟩
class OverR {α : Type u} (cs : List α) (off : Nat) (vs : List α) (o : outParam (List α)) : Prop where
  is : cs.take off ++ vs ++ cs.drop (off + vs.length) = o
instance {α : Type u} {cs : List α} : OverR cs 0 [] cs := ⟨by simp⟩
instance {α : Type u} {c v : α} {cs vs o : List α} [h : OverR cs 0 vs o] : OverR (c :: cs) 0 (v :: vs) (v :: o) := ⟨by
  have := h.is
  simp only [List.take_zero, List.nil_append, Nat.zero_add] at this ⊢
  simp [this]⟩
instance {α : Type u} {c : α} {cs vs o : List α} {n : Nat} [h : OverR cs n vs o] : OverR (c :: cs) (n + 1) vs (c :: o) := ⟨by
  have := h.is
  rw [List.take_succ_cons, show n + 1 + vs.length = n + vs.length + 1 by omega, List.drop_succ_cons, List.cons_append, List.cons_append, this]⟩
section
variable {w0 w w' : World} {L L' L1 R A T : List Chunk}
theorem St.nf (h : St w0 w L R) [n : NfR L L'] : St w0 w L' R := by
  have := n.is
  subst this
  exact h
theorem St.pk (h : St w0 w L R) (i : List Nat) [n : NfR L L1] [p : PickR L1 i L'] (hn : i.Nodup := by decide) : St w0 w L' R := h.nf.pick i hn p.is
theorem St.bk (h : St w0 w L R) (h' : St w w' A (T ++ R)) [a : NfR (A ++ T) L'] : St w0 w' L' R := h.back h' a.is
theorem St.gt (h : St w0 w L R) (k : Nat) [n : NfR L L1] [s : EndR k L1 A T] : St w w A (T ++ R) := h.nf.give s.is
end
section
variable {P : Program} {all rest : List Oper} {Q : Post} {σ : Env} {w0 w : World} {L L' R : List Chunk} {ty : TypeId} {pos : String} {af : Array Edge}
theorem t_sw {dst : Option Nat} {t : TypeId} {x y : Operand} {b n : Nat} {cs cs' : List Value} {et : TypeId} (k off : Nat) (vs : List Value) (v : Value) (H : St w0 w L R) [hk : NthR L k (cBlk b cs et)] [hc : OverR cs off vs cs'] [hL : SetR L k (cBlk b cs' et) L'] (hx : ev σ x = .pointer (some ⟨b, off, none⟩)) (hy : ev σ y = v)
    (hs : (P.info? t).map (·.size) = some n) (hv : v.cells = vs.toArray) (hn : vs.length = n) (hl : Nat.ble (off + n) cs.length = true) (h1 : vs.all (·.oneCell') = true)
    (kk : ∀ w', St w0 w' L' R -> SL P all Q rest (updo σ dst undef) w') : SL P all Q (⟨dst, .store t x y, ty, pos, af, none⟩ :: rest) σ w :=
  t_st H hk.is hx hy hs hv hn hl h1 (by rw [← hn]; exact hc.is) hL.is kk
end
end Go.Nm
namespace Go.Nm
open Go
section
variable {P : Program} {w : World} {σ : Env} {d : Nat} {ty : TypeId} {pos : String} {af : Array Edge} {g : Option (Nat × Bool)}
theorem x_pand0 {c x y : Operand} {b : Bool} (hc : ev σ c = .bool b) (hx : b = true -> ev σ x = .bool false) (hy : ev σ y = .bool false) :
    (execOp (ev σ) ⟨some d, .pick c x y, ty, pos, af, g⟩).run P w = .ok (.value (.bool false)) w := by
  have := x_pand (P := P) (w := w) (d := d) (ty := ty) (pos := pos) (af := af) (g := g) hc hx hy
  rwa [Bool.and_false] at this
end
end Go.Nm
namespace Go.Proofs.Ytbaehghammbjdaa
open Go Go.Nm
theorem cf8 : CF Try.prog 8 := ⟨_, Try.func8, rfl, by decide +kernel⟩
theorem cf9 : CF Try.prog 9 := ⟨_, Try.func9, rfl, by decide +kernel⟩
theorem cf10 : CF Try.prog 10 := ⟨_, Try.func10, rfl, by decide +kernel⟩
theorem cf11 : CF Try.prog 11 := ⟨_, Try.func11, rfl, by decide +kernel⟩
theorem cf12 : CF Try.prog 12 := ⟨_, Try.func12, rfl, by decide +kernel⟩
theorem cf13 : CF Try.prog 13 := ⟨_, Try.func13, rfl, by decide +kernel⟩
theorem cf14 : CF Try.prog 14 := ⟨_, Try.func14, rfl, by decide +kernel⟩
theorem cf15 : CF Try.prog 15 := ⟨_, Try.func15, rfl, by decide +kernel⟩
theorem cf18 : CF Try.prog 18 := ⟨_, Try.func18, rfl, by decide +kernel⟩
theorem cf22 : CF Try.prog 22 := ⟨_, Try.func22, rfl, by decide +kernel⟩
theorem cf24 : CF Try.prog 24 := ⟨_, Try.func24, rfl, by decide +kernel⟩
theorem cf27 : CF Try.prog 27 := ⟨_, Try.func27, rfl, by decide +kernel⟩
theorem cf28 : CF Try.prog 28 := ⟨_, Try.func28, rfl, by decide +kernel⟩
theorem cf31 : CF Try.prog 31 := ⟨_, Try.func31, rfl, by decide +kernel⟩
theorem cf32 : CF Try.prog 32 := ⟨_, Try.func32, rfl, by decide +kernel⟩
theorem cf33 : CF Try.prog 33 := ⟨_, Try.func33, rfl, by decide +kernel⟩
theorem cf34 : CF Try.prog 34 := ⟨_, Try.func34, rfl, by decide +kernel⟩
theorem cf35 : CF Try.prog 35 := ⟨_, Try.func35, rfl, by decide +kernel⟩
theorem cf36 : CF Try.prog 36 := ⟨_, Try.func36, rfl, by decide +kernel⟩
theorem cf37 : CF Try.prog 37 := ⟨_, Try.func37, rfl, by decide +kernel⟩
theorem cf38 : CF Try.prog 38 := ⟨_, Try.func38, rfl, by decide +kernel⟩
theorem cf39 : CF Try.prog 39 := ⟨_, Try.func39, rfl, by decide +kernel⟩
theorem cf40 : CF Try.prog 40 := ⟨_, Try.func40, rfl, by decide +kernel⟩
theorem cf41 : CF Try.prog 41 := ⟨_, Try.func41, rfl, by decide +kernel⟩
theorem cf42 : CF Try.prog 42 := ⟨_, Try.func42, rfl, by decide +kernel⟩
theorem cf43 : CF Try.prog 43 := ⟨_, Try.func43, rfl, by decide +kernel⟩
theorem cf44 : CF Try.prog 44 := ⟨_, Try.func44, rfl, by decide +kernel⟩
theorem cf45 : CF Try.prog 45 := ⟨_, Try.func45, rfl, by decide +kernel⟩
theorem cf46 : CF Try.prog 46 := ⟨_, Try.func46, rfl, by decide +kernel⟩
theorem cf47 : CF Try.prog 47 := ⟨_, Try.func47, rfl, by decide +kernel⟩
theorem cf50 : CF Try.prog 50 := ⟨_, Try.func50, rfl, by decide +kernel⟩
theorem cf51 : CF Try.prog 51 := ⟨_, Try.func51, rfl, by decide +kernel⟩
theorem cf52 : CF Try.prog 52 := ⟨_, Try.func52, rfl, by decide +kernel⟩
theorem cf53 : CF Try.prog 53 := ⟨_, Try.func53, rfl, by decide +kernel⟩
theorem cf54 : CF Try.prog 54 := ⟨_, Try.func54, rfl, by decide +kernel⟩
theorem cf57 : CF Try.prog 57 := ⟨_, Try.func57, rfl, by decide +kernel⟩
theorem cf59 : CF Try.prog 59 := ⟨_, Try.func59, rfl, by decide +kernel⟩
theorem cf60 : CF Try.prog 60 := ⟨_, Try.func60, rfl, by decide +kernel⟩
theorem cf62 : CF Try.prog 62 := ⟨_, Try.func62, rfl, by decide +kernel⟩
theorem cf63 : CF Try.prog 63 := ⟨_, Try.func63, rfl, by decide +kernel⟩
theorem cf64 : CF Try.prog 64 := ⟨_, Try.func64, rfl, by decide +kernel⟩
theorem cf65 : CF Try.prog 65 := ⟨_, Try.func65, rfl, by decide +kernel⟩
theorem cf66 : CF Try.prog 66 := ⟨_, Try.func66, rfl, by decide +kernel⟩
theorem cf67 : CF Try.prog 67 := ⟨_, Try.func67, rfl, by decide +kernel⟩
theorem cf68 : CF Try.prog 68 := ⟨_, Try.func68, rfl, by decide +kernel⟩
theorem cf69 : CF Try.prog 69 := ⟨_, Try.func69, rfl, by decide +kernel⟩
theorem cf70 : CF Try.prog 70 := ⟨_, Try.func70, rfl, by decide +kernel⟩
theorem cf71 : CF Try.prog 71 := ⟨_, Try.func71, rfl, by decide +kernel⟩
theorem cf72 : CF Try.prog 72 := ⟨_, Try.func72, rfl, by decide +kernel⟩
theorem cf73 : CF Try.prog 73 := ⟨_, Try.func73, rfl, by decide +kernel⟩
theorem cf74 : CF Try.prog 74 := ⟨_, Try.func74, rfl, by decide +kernel⟩
theorem cf75 : CF Try.prog 75 := ⟨_, Try.func75, rfl, by decide +kernel⟩
theorem cf76 : CF Try.prog 76 := ⟨_, Try.func76, rfl, by decide +kernel⟩
theorem cf77 : CF Try.prog 77 := ⟨_, Try.func77, rfl, by decide +kernel⟩
theorem cf78 : CF Try.prog 78 := ⟨_, Try.func78, rfl, by decide +kernel⟩
theorem cf79 : CF Try.prog 79 := ⟨_, Try.func79, rfl, by decide +kernel⟩
theorem cf80 : CF Try.prog 80 := ⟨_, Try.func80, rfl, by decide +kernel⟩
theorem cf81 : CF Try.prog 81 := ⟨_, Try.func81, rfl, by decide +kernel⟩
theorem cf82 : CF Try.prog 82 := ⟨_, Try.func82, rfl, by decide +kernel⟩
theorem cf83 : CF Try.prog 83 := ⟨_, Try.func83, rfl, by decide +kernel⟩
theorem cf84 : CF Try.prog 84 := ⟨_, Try.func84, rfl, by decide +kernel⟩
theorem cf85 : CF Try.prog 85 := ⟨_, Try.func85, rfl, by decide +kernel⟩
theorem cf86 : CF Try.prog 86 := ⟨_, Try.func86, rfl, by decide +kernel⟩
theorem cf87 : CF Try.prog 87 := ⟨_, Try.func87, rfl, by decide +kernel⟩
theorem cf90 : CF Try.prog 90 := ⟨_, Try.func90, rfl, by decide +kernel⟩
theorem cf91 : CF Try.prog 91 := ⟨_, Try.func91, rfl, by decide +kernel⟩
theorem T22 : SlT Try.prog 22 5 1 1 (.int .u8 0) := ⟨Try.underlying22, by kernel_rfl, rfl, by decide⟩
theorem T23 : SlT Try.prog 23 3 1 8 (I 0) := ⟨Try.underlying23, by kernel_rfl, rfl, by decide⟩
theorem T24 : SlT Try.prog 24 27 2 16 (.agg #[I 0, I 0]) := ⟨Try.underlying24, by kernel_rfl, rfl, by decide⟩
theorem T25 : SlT Try.prog 25 54 3 24 (.agg #[I 0, I 0, I 0]) := ⟨Try.underlying25, by kernel_rfl, rfl, by decide⟩
theorem T28 : SlT Try.prog 28 67 2 32 (.agg #[I 0, .slice none 0 0]) := ⟨Try.underlying28, by kernel_rfl, rfl, by decide⟩
theorem T57 : SlT Try.prog 57 62 2 16 (.agg #[I 0, I 0]) := ⟨Try.underlying57, by kernel_rfl, rfl, by decide⟩
theorem Sc3 : isSc (Try.prog.underlying 3) = true := by rw [Try.underlying3]; rfl
theorem Sc4 : isSc (Try.prog.underlying 4) = true := by rw [Try.underlying4]; rfl
theorem Sc5 : isSc (Try.prog.underlying 5) = true := by rw [Try.underlying5]; rfl
theorem Sc22 : isSc (Try.prog.underlying 22) = true := by rw [Try.underlying22]; rfl
theorem Sc23 : isSc (Try.prog.underlying 23) = true := by rw [Try.underlying23]; rfl
theorem Sc24 : isSc (Try.prog.underlying 24) = true := by rw [Try.underlying24]; rfl
theorem Sc25 : isSc (Try.prog.underlying 25) = true := by rw [Try.underlying25]; rfl
theorem Sc28 : isSc (Try.prog.underlying 28) = true := by rw [Try.underlying28]; rfl
theorem Sc72 : isSc (Try.prog.underlying 72) = true := by rw [Try.underlying72]; rfl
theorem Sc80 : isSc (Try.prog.underlying 80) = true := by rw [Try.underlying80]; rfl
theorem Sc84 : isSc (Try.prog.underlying 84) = true := by rw [Try.underlying84]; rfl
theorem Sc89 : isSc (Try.prog.underlying 89) = true := by rw [Try.underlying89]; rfl
theorem Sc105 : isSc (Try.prog.underlying 105) = true := by rw [Try.underlying105]; rfl
theorem Sc106 : isSc (Try.prog.underlying 106) = true := by rw [Try.underlying106]; rfl
theorem Sc111 : isSc (Try.prog.underlying 111) = true := by rw [Try.underlying111]; rfl
theorem Sc114 : isSc (Try.prog.underlying 114) = true := by rw [Try.underlying114]; rfl
theorem Sz3 : (Try.prog.info? 3).map (·.size) = some 1 := by kernel_rfl
theorem Sz4 : (Try.prog.info? 4).map (·.size) = some 1 := by kernel_rfl
theorem Sz22 : (Try.prog.info? 22).map (·.size) = some 1 := by kernel_rfl
theorem Sz23 : (Try.prog.info? 23).map (·.size) = some 1 := by kernel_rfl
theorem Sz24 : (Try.prog.info? 24).map (·.size) = some 1 := by kernel_rfl
theorem Sz25 : (Try.prog.info? 25).map (·.size) = some 1 := by kernel_rfl
theorem Ag27 : isAg (Try.prog.underlying 27) = true := by rw [Try.underlying27]; rfl
theorem Sz27 : (Try.prog.info? 27).map (·.size) = some 2 := by kernel_rfl
theorem Sz28 : (Try.prog.info? 28).map (·.size) = some 1 := by kernel_rfl
theorem Ag30 : isAg (Try.prog.underlying 30) = true := by rw [Try.underlying30]; rfl
theorem Sz30 : (Try.prog.info? 30).map (·.size) = some 7 := by kernel_rfl
theorem Ag54 : isAg (Try.prog.underlying 54) = true := by rw [Try.underlying54]; rfl
theorem Sz54 : (Try.prog.info? 54).map (·.size) = some 3 := by kernel_rfl
theorem Ag62 : isAg (Try.prog.underlying 62) = true := by rw [Try.underlying62]; rfl
theorem Sz62 : (Try.prog.info? 62).map (·.size) = some 2 := by kernel_rfl
theorem Ag67 : isAg (Try.prog.underlying 67) = true := by rw [Try.underlying67]; rfl
theorem Sz67 : (Try.prog.info? 67).map (·.size) = some 2 := by kernel_rfl
theorem Ag74 : isAg (Try.prog.underlying 74) = true := by rw [Try.underlying74]; rfl
theorem Sz74 : (Try.prog.info? 74).map (·.size) = some 12 := by kernel_rfl
theorem Ag79 : isAg (Try.prog.underlying 79) = true := by rw [Try.underlying79]; rfl
theorem Sz79 : (Try.prog.info? 79).map (·.size) = some 3 := by kernel_rfl
theorem Sz80 : (Try.prog.info? 80).map (·.size) = some 1 := by kernel_rfl
theorem Sz84 : (Try.prog.info? 84).map (·.size) = some 1 := by kernel_rfl
theorem Sz106 : (Try.prog.info? 106).map (·.size) = some 1 := by kernel_rfl
theorem Sz114 : (Try.prog.info? 114).map (·.size) = some 1 := by kernel_rfl
theorem Fd27_0 : (Try.prog.underlying 27).bind (fun d => match d with | .struct fs => (fs[0]?).map (fun f => (f.offset, f.type)) | _ => none) = some (0, 3) := by rw [Try.underlying27]; rfl
theorem Fd27_1 : (Try.prog.underlying 27).bind (fun d => match d with | .struct fs => (fs[1]?).map (fun f => (f.offset, f.type)) | _ => none) = some (1, 3) := by rw [Try.underlying27]; rfl
theorem Fd30_0 : (Try.prog.underlying 30).bind (fun d => match d with | .struct fs => (fs[0]?).map (fun f => (f.offset, f.type)) | _ => none) = some (0, 23) := by rw [Try.underlying30]; rfl
theorem Fd30_1 : (Try.prog.underlying 30).bind (fun d => match d with | .struct fs => (fs[1]?).map (fun f => (f.offset, f.type)) | _ => none) = some (1, 24) := by rw [Try.underlying30]; rfl
theorem Fd30_2 : (Try.prog.underlying 30).bind (fun d => match d with | .struct fs => (fs[2]?).map (fun f => (f.offset, f.type)) | _ => none) = some (2, 23) := by rw [Try.underlying30]; rfl
theorem Fd30_3 : (Try.prog.underlying 30).bind (fun d => match d with | .struct fs => (fs[3]?).map (fun f => (f.offset, f.type)) | _ => none) = some (3, 25) := by rw [Try.underlying30]; rfl
theorem Fd30_4 : (Try.prog.underlying 30).bind (fun d => match d with | .struct fs => (fs[4]?).map (fun f => (f.offset, f.type)) | _ => none) = some (4, 27) := by rw [Try.underlying30]; rfl
theorem Fd30_5 : (Try.prog.underlying 30).bind (fun d => match d with | .struct fs => (fs[5]?).map (fun f => (f.offset, f.type)) | _ => none) = some (6, 28) := by rw [Try.underlying30]; rfl
theorem Fd54_0 : (Try.prog.underlying 54).bind (fun d => match d with | .struct fs => (fs[0]?).map (fun f => (f.offset, f.type)) | _ => none) = some (0, 3) := by rw [Try.underlying54]; rfl
theorem Fd54_1 : (Try.prog.underlying 54).bind (fun d => match d with | .struct fs => (fs[1]?).map (fun f => (f.offset, f.type)) | _ => none) = some (1, 3) := by rw [Try.underlying54]; rfl
theorem Fd54_2 : (Try.prog.underlying 54).bind (fun d => match d with | .struct fs => (fs[2]?).map (fun f => (f.offset, f.type)) | _ => none) = some (2, 3) := by rw [Try.underlying54]; rfl
theorem Fd62_0 : (Try.prog.underlying 62).bind (fun d => match d with | .struct fs => (fs[0]?).map (fun f => (f.offset, f.type)) | _ => none) = some (0, 3) := by rw [Try.underlying62]; rfl
theorem Fd62_1 : (Try.prog.underlying 62).bind (fun d => match d with | .struct fs => (fs[1]?).map (fun f => (f.offset, f.type)) | _ => none) = some (1, 3) := by rw [Try.underlying62]; rfl
theorem Fd67_0 : (Try.prog.underlying 67).bind (fun d => match d with | .struct fs => (fs[0]?).map (fun f => (f.offset, f.type)) | _ => none) = some (0, 3) := by rw [Try.underlying67]; rfl
theorem Fd67_1 : (Try.prog.underlying 67).bind (fun d => match d with | .struct fs => (fs[1]?).map (fun f => (f.offset, f.type)) | _ => none) = some (1, 23) := by rw [Try.underlying67]; rfl
theorem Fd71_0 : (Try.prog.underlying 71).bind (fun d => match d with | .struct fs => (fs[0]?).map (fun f => (f.offset, f.type)) | _ => none) = some (0, 22) := by rw [Try.underlying71]; rfl
theorem Fd71_1 : (Try.prog.underlying 71).bind (fun d => match d with | .struct fs => (fs[1]?).map (fun f => (f.offset, f.type)) | _ => none) = some (1, 3) := by rw [Try.underlying71]; rfl
theorem Fd71_2 : (Try.prog.underlying 71).bind (fun d => match d with | .struct fs => (fs[2]?).map (fun f => (f.offset, f.type)) | _ => none) = some (2, 3) := by rw [Try.underlying71]; rfl
theorem Fd79_0 : (Try.prog.underlying 79).bind (fun d => match d with | .struct fs => (fs[0]?).map (fun f => (f.offset, f.type)) | _ => none) = some (0, 3) := by rw [Try.underlying79]; rfl
theorem Fd79_1 : (Try.prog.underlying 79).bind (fun d => match d with | .struct fs => (fs[1]?).map (fun f => (f.offset, f.type)) | _ => none) = some (1, 3) := by rw [Try.underlying79]; rfl
theorem Fd79_2 : (Try.prog.underlying 79).bind (fun d => match d with | .struct fs => (fs[2]?).map (fun f => (f.offset, f.type)) | _ => none) = some (2, 4) := by rw [Try.underlying79]; rfl
theorem Fd82_0 : (Try.prog.underlying 82).bind (fun d => match d with | .struct fs => (fs[0]?).map (fun f => (f.offset, f.type)) | _ => none) = some (0, 80) := by rw [Try.underlying82]; rfl
theorem Fd86_0 : (Try.prog.underlying 86).bind (fun d => match d with | .struct fs => (fs[0]?).map (fun f => (f.offset, f.type)) | _ => none) = some (0, 30) := by rw [Try.underlying86]; rfl
theorem Fd86_1 : (Try.prog.underlying 86).bind (fun d => match d with | .struct fs => (fs[1]?).map (fun f => (f.offset, f.type)) | _ => none) = some (7, 84) := by rw [Try.underlying86]; rfl
theorem Al3 : (Try.prog.info? 3).map (·.zero) = some (some (I 0)) := by kernel_rfl
theorem Al4 : (Try.prog.info? 4).map (·.zero) = some (some (B false)) := by kernel_rfl
theorem Al23 : (Try.prog.info? 23).map (·.zero) = some (some (.slice none 0 0)) := by kernel_rfl
theorem Al24 : (Try.prog.info? 24).map (·.zero) = some (some (.slice none 0 0)) := by kernel_rfl
theorem Al27 : (Try.prog.info? 27).map (·.zero) = some (some (.agg #[I 0, I 0])) := by kernel_rfl
theorem Al30 : (Try.prog.info? 30).map (·.zero) = some (some (.agg #[.slice none 0 0, .slice none 0 0, .slice none 0 0, .slice none 0 0, I 0, I 0, .slice none 0 0])) := by kernel_rfl
theorem Al54 : (Try.prog.info? 54).map (·.zero) = some (some (.agg #[I 0, I 0, I 0])) := by kernel_rfl
theorem Al62 : (Try.prog.info? 62).map (·.zero) = some (some (.agg #[I 0, I 0])) := by kernel_rfl
theorem Al67 : (Try.prog.info? 67).map (·.zero) = some (some (.agg #[I 0, .slice none 0 0])) := by kernel_rfl
theorem Al71 : (Try.prog.info? 71).map (·.zero) = some (some (.agg #[.slice none 0 0, I 0, I 0])) := by kernel_rfl
theorem Al74 : (Try.prog.info? 74).map (·.zero) = some (some (.agg #[B false, B false, B false, B false, B false, B false, B false, B false, B false, B false, B false, B false])) := by kernel_rfl
theorem Al79 : (Try.prog.info? 79).map (·.zero) = some (some (.agg #[I 0, I 0, B false])) := by kernel_rfl
theorem Al80 : (Try.prog.info? 80).map (·.zero) = some (some (.nilFunc)) := by kernel_rfl
theorem Al82 : (Try.prog.info? 82).map (·.zero) = some (some (.agg #[.nilFunc])) := by kernel_rfl
theorem Al86 : (Try.prog.info? 86).map (·.zero) = some (some (.agg #[.slice none 0 0, .slice none 0 0, .slice none 0 0, .slice none 0 0, I 0, I 0, .slice none 0 0, .map none])) := by kernel_rfl
theorem Al106 : (Try.prog.info? 106).map (·.zero) = some (some (.nilFunc)) := by kernel_rfl
theorem Al114 : (Try.prog.info? 114).map (·.zero) = some (some (.nilFunc)) := by kernel_rfl
theorem Bd27 {fs : Array Field} (h : Try.prog.underlying 27 = some (.struct fs)) : fs.toList.mapM (fun f => (Try.prog.info? f.type).map fun i => (f.offset, i.size)) = some [(0, 1), (1, 1)] := by rw [Try.underlying27] at h; simp only [Option.some.injEq, TypeDesc.struct.injEq] at h; subst h; kernel_rfl
theorem Bd30 {fs : Array Field} (h : Try.prog.underlying 30 = some (.struct fs)) : fs.toList.mapM (fun f => (Try.prog.info? f.type).map fun i => (f.offset, i.size)) = some [(0, 1), (1, 1), (2, 1), (3, 1), (4, 2), (6, 1)] := by rw [Try.underlying30] at h; simp only [Option.some.injEq, TypeDesc.struct.injEq] at h; subst h; kernel_rfl
theorem Bd54 {fs : Array Field} (h : Try.prog.underlying 54 = some (.struct fs)) : fs.toList.mapM (fun f => (Try.prog.info? f.type).map fun i => (f.offset, i.size)) = some [(0, 1), (1, 1), (2, 1)] := by rw [Try.underlying54] at h; simp only [Option.some.injEq, TypeDesc.struct.injEq] at h; subst h; kernel_rfl
theorem Bd62 {fs : Array Field} (h : Try.prog.underlying 62 = some (.struct fs)) : fs.toList.mapM (fun f => (Try.prog.info? f.type).map fun i => (f.offset, i.size)) = some [(0, 1), (1, 1)] := by rw [Try.underlying62] at h; simp only [Option.some.injEq, TypeDesc.struct.injEq] at h; subst h; kernel_rfl
theorem Bd67 {fs : Array Field} (h : Try.prog.underlying 67 = some (.struct fs)) : fs.toList.mapM (fun f => (Try.prog.info? f.type).map fun i => (f.offset, i.size)) = some [(0, 1), (1, 1)] := by rw [Try.underlying67] at h; simp only [Option.some.injEq, TypeDesc.struct.injEq] at h; subst h; kernel_rfl
theorem Bd71 {fs : Array Field} (h : Try.prog.underlying 71 = some (.struct fs)) : fs.toList.mapM (fun f => (Try.prog.info? f.type).map fun i => (f.offset, i.size)) = some [(0, 1), (1, 1), (2, 1)] := by rw [Try.underlying71] at h; simp only [Option.some.injEq, TypeDesc.struct.injEq] at h; subst h; kernel_rfl
theorem Bd79 {fs : Array Field} (h : Try.prog.underlying 79 = some (.struct fs)) : fs.toList.mapM (fun f => (Try.prog.info? f.type).map fun i => (f.offset, i.size)) = some [(0, 1), (1, 1), (2, 1)] := by rw [Try.underlying79] at h; simp only [Option.some.injEq, TypeDesc.struct.injEq] at h; subst h; kernel_rfl
theorem Bd82 {fs : Array Field} (h : Try.prog.underlying 82 = some (.struct fs)) : fs.toList.mapM (fun f => (Try.prog.info? f.type).map fun i => (f.offset, i.size)) = some [(0, 1)] := by rw [Try.underlying82] at h; simp only [Option.some.injEq, TypeDesc.struct.injEq] at h; subst h; kernel_rfl
theorem Bd86 {fs : Array Field} (h : Try.prog.underlying 86 = some (.struct fs)) : fs.toList.mapM (fun f => (Try.prog.info? f.type).map fun i => (f.offset, i.size)) = some [(0, 7), (7, 1)] := by rw [Try.underlying86] at h; simp only [Option.some.injEq, TypeDesc.struct.injEq] at h; subst h; kernel_rfl
theorem mixed : Try.prog.follows .mixedOrders = true := by kernel_rfl

end Go.Proofs.Ytbaehghammbjdaa
namespace Go.Nm
open Go
abbrev encDm (d : Dem) : Value := .agg #[I d.spring, I d.town]
end Go.Nm
namespace Go.Proofs.Ytbaehghammbjdaa
open Go Go.Nm Go.Proofs
theorem findAskDm {ν : Type} (k : Dem) (w : World) : ∀ (es : List MapEntry) (m : List (Dem × ν)) (venc : ν -> Value) (j : Nat), es.map (fun e => (e.key, e.val)) = m.map (fun p => (encDm p.1, venc p.2)) →
    (Instr.findAsking 62 (encDm k) es j).run Try.prog w = .ok ((idxM m k).bind fun i => (es[i]?).map fun e => (i + j, e.val)) w
  | [], [], _, _, _ => rfl
  | [], _ :: _, _, _, h => by simp at h
  | _ :: _, [], _, _, h => by simp at h
  | e :: es, p :: m, venc, j, h => by
    simp only [List.map_cons, List.cons.injEq, Prod.mk.injEq] at h
    have ih := findAskDm k w es m venc (j + 1) h.2
    unfold Instr.findAsking
    rw [h.1.1]
    have he := eqT62 k p.1 w
    unfold idxM
    by_cases hp : p.1 = k
    · rw [if_pos hp]
      have : decide (k = p.1) = true := by simp [hp]
      rw [this] at he
      simp [Op.equal, Op.maxDepth, he]
    · rw [if_neg hp]
      have : decide (k = p.1) = false := by simp; exact fun e => hp e.symm
      rw [this] at he
      simp only [Op.equal, Op.maxDepth, Sem.run_bind, he, Result.andThen_ok, Bool.false_eq_true, if_false, ih]
      cases hi : idxM m k with
      | none => rfl
      | some i =>
        simp only [Option.map_some, Option.bind_some, List.getElem?_cons_succ]
        cases es[i]? with
        | none => rfl
        | some e' => simp; omega
theorem keyDem {ν : Type} : KeyL (ν := ν) Try.prog 62 encDm := by
  refine ⟨fun e w k => ?_, fun w es m venc k h => ?_, fun k => ?_⟩
  · have u3 := Try.underlying3
    have a3 := Try.isAgg3
    have z3 := Try.sizeOf3
    have h1 : ∀ (n : Nat) (x : Int), (Instr.checkKey e (n + 1) 3 (I x)).run Try.prog w = .ok () w := fun n x => MapKept.run_checkKey u3 (show MapKept.IsKey (.int .i64) (I x) from rfl) e n
    have key : ∀ n : Nat, (Instr.checkKey e (n + 1 + 1) 62 (encDm k)).run Try.prog w = .ok () w := by
      intro n
      rw [Instr.checkKey]
      simp only [Sem.run_bind, run_underlying Try.underlying62, Result.andThen_ok]
      rw [← Array.forIn_toList]
      simp only [List.forIn_cons, List.forIn_nil]
      go_simp
    exact key 9998
  · rw [run_findKey_eq w (by rw [Try.underlying62]), findAskDm k w es m venc 0 h]
    rfl
  · simp [Instr.sameBits]
end Go.Proofs.Ytbaehghammbjdaa
namespace Go.Nm
open Go
theorem x_eqnilA {P : Program} {w : World} {σ : Env} {d : Nat} {ty : TypeId} {pos : String} {af : Array Edge} {g : Option (Nat × Bool)} {t e yt : TypeId} {x y : Operand} {a : Option Addr} {n c : Nat} (ht : P.underlying t = some (.slice e)) (hx : ev σ x = .slice a n c) (hy : ev σ y = .slice none 0 0) :
    (execOp (ev σ) ⟨some d, .binOp .eql t x y yt, ty, pos, af, g⟩).run P w = .ok (.value (.bool a.isNone)) w := by
  simp [execOp, hx, hy, eqGuard, binOp, run_equal_slice_nil w t e a n c ht]
end Go.Nm
namespace Go.Proofs.Ytbaehghammbjdaa
open Go Go.Nm
set_option maxRecDepth 100000 in
theorem clone_any {R : List Chunk} {C_s : Cells} {v_s : Value} (s : List Int) (hC_s : Reads R C_s) (hs_s : Sl C_s v_s s) (hlen : s.length * 8 <= 140737488355328) (w : World) (hsep : Sep w R) :
    Ret Try.prog 53 #[v_s] w fun v w' => St w w' [cOwn (α := Int) 3 v s] R := by
 have H : St w w [] R := St.refl hsep
 obtain ⟨a, c, hv, hc, hm, hk⟩ := hs_s.ex
 refine ret_of_W Try.func53 rfl rfl rfl ?_
 refine W.seq ?_
 refine W.region rfl ?_
 refine s_val (x_as (v := .slice none 0 0) rfl) ?_
 refine s_nil ?_
 refine W.seq ?_
 refine W.seq ?_
 refine W.region rfl ?_
 refine s_val (x_mv (v := v_s) rfl) ?_
 refine s_val (v := B a.isNone) (x_eqnilA (a := a) (n := s.length) (c := c) Try.underlying23 hv rfl) ?_
 refine s_nil ?_
 refine W.cond a.isNone rfl (fun h => ?_) (fun h => ?_)
 ·have e : s = [] := by
   cases s with
   | nil => rfl
   | cons x s =>
    obtain ⟨b, o, cs, ha, _⟩ := hk 0 x rfl
    subst ha
    cases h
  subst e
  refine W.seq ?_
  refine W.region rfl ?_
  refine s_val (x_as (v := .slice none 0 0) rfl) ?_
  refine s_nil ?_
  refine W.ret ?_
  exact ⟨_, resE_tmp rfl, H.nilOwn (α := Int) 3⟩
 ·refine W.skip ?_
  refine W.seq ?_
  refine W.region rfl ?_
  refine t_bs0 (α := Int) T23 H ?_
  intro v3z w4z H
  refine s_val (x_mv (v := v_s) rfl) ?_
  refine t_app (α := Int) (k := 0) (l := []) (l2 := s) (l' := s) (vy := v_s) T23 rfl H rfl rfl rfl hs_s (hC_s.at H) (List.nil_append _) (by simp only [List.length_nil]; omega) ?_
  intro v6z w7z H
  refine s_val (x_as (v := v6z) rfl) ?_
  refine s_nil ?_
  refine W.ret ?_
  exact ⟨_, resE_tmp rfl, H⟩
end Go.Proofs.Ytbaehghammbjdaa
section
set_option maxRecDepth 100000
set_option maxHeartbeats 16000000
namespace Go.Proofs.Ytbaehghammbjdaa
open Go Go.Nm
def zan (r__Down : List Int) (r__Travel : List Span) (r__Springs : List Int) (r__Towns : List Town) (r__Delay_Lo : Int) (r__Delay_Hi : Int) (r__Floods : List Flood) (station : Int) : M (Int × Int × Int) :=
  M.pure (station, r__Delay_Lo, r__Delay_Hi)
theorem za7 {R : List Chunk} {C_r__Down : Cells} {v_r__Down : Value} {C_r__Travel : Cells} {v_r__Travel : Value} {C_r__Springs : Cells} {v_r__Springs : Value} {C_r__Towns : Cells} {v_r__Towns : Value} {C_r__Floods : Cells} {v_r__Floods : Value} (r__Down : List Int) (r__Travel : List Span) (r__Springs : List Int) (r__Towns : List Town) (r__Delay_Lo : Int) (r__Delay_Hi : Int) (r__Floods : List Flood) (station : Int) (hC_r__Down : Reads R C_r__Down) (hs_r__Down : Sl C_r__Down v_r__Down r__Down) (hC_r__Travel : Reads R C_r__Travel) (hs_r__Travel : Sl C_r__Travel v_r__Travel r__Travel) (hC_r__Springs : Reads R C_r__Springs) (hs_r__Springs : Sl C_r__Springs v_r__Springs r__Springs) (hC_r__Towns : Reads R C_r__Towns) (hs_r__Towns : Sl C_r__Towns v_r__Towns r__Towns) (hC_r__Floods : Reads R C_r__Floods) (hs_r__Floods : Sl C_r__Floods v_r__Floods r__Floods) {r : (Int × Int × Int)} (hM : (zan r__Down r__Travel r__Springs r__Towns r__Delay_Lo r__Delay_Hi r__Floods station).Ends r) (w : World) (H : St w w [] R) : Ret Try.prog 46 #[.agg #[v_r__Down, v_r__Travel, v_r__Springs, v_r__Towns, I r__Delay_Lo, I r__Delay_Hi, v_r__Floods], I station] w fun v w' => ∃ (y0 : Int) (y1 : Int) (y2 : Int) (nb0 : Nat) (nb1 : Nat), (y0, y1, y2) = r /\ v = .func (.func 67) #[] #[.pointer (some ⟨nb0, 0, none⟩), .pointer (some ⟨nb1, 0, none⟩)] /\ St w w' [cBlk nb0 [I y0] 3, cBlk nb1 [v_r__Down, v_r__Travel, v_r__Springs, v_r__Towns, I y1, I y2, v_r__Floods] 30] R := by
 refine ret_of_W Try.func46 rfl rfl rfl ?_
 refine W.seq ?_
 refine W.region rfl ?_
 refine t_box (v := .agg #[v_r__Down, v_r__Travel, v_r__Springs, v_r__Towns, I r__Delay_Lo, I r__Delay_Hi, v_r__Floods]) (cs := [v_r__Down, v_r__Travel, v_r__Springs, v_r__Towns, I r__Delay_Lo, I r__Delay_Hi, v_r__Floods]) H rfl rfl ?_
 intro b_1 w1z H
 refine t_box (v := I station) (cs := [I station]) H rfl rfl ?_
 intro b_2 w2z H
 refine s_val (x_as (v := .nilFunc) rfl) ?_
 refine s_nil ?_
 refine W.seq ?_
 refine W.region rfl ?_
 refine s_val (x_mf (fs := []) (cs := [.pointer (some ⟨b_2, 0, none⟩), .pointer (some ⟨b_1, 0, none⟩)]) rfl rfl) ?_
 refine s_val (x_as (v := .func (.func 67) #[] #[.pointer (some ⟨b_2, 0, none⟩), .pointer (some ⟨b_1, 0, none⟩)]) rfl) ?_
 refine s_nil ?_
 refine W.ret ?_
 have hr_ := M.e_pure hM
 exact ⟨_, resE_tmp rfl, ⟨station, r__Delay_Lo, r__Delay_Hi, b_2, b_1, hr_, rfl, H⟩⟩

def za0 {T_ : Type} (yield_ : T_ -> (Int × Int) -> M (Bool × T_)) (k10 : List Int) : (Int × Nat × T_) -> M ((Int × Nat × T_) ⊕ ((T_ × Int) ⊕ (T_ × Int))) := fun (s, s2, t2) =>
  bif ((s != (-1)) && (decide (s < (k10.length : Int)))) then (
  M.bind (yield_ t2 ((s2 : Int), s)) fun (go, t) =>
  bif !go then (
  M.pure (.inr (.inl (t, s))))
  else (
  M.grd (decide ((0 : Int) <= s) && decide (s < (k10.length : Int))) <|
  M.grd (decide ((-9223372036854775808 : Int) <= ((s2 : Int) + 1)) && decide (((s2 : Int) + 1) <= (9223372036854775807 : Int))) <|
  M.pure (.inl (k10.getD (Int.toNat s) 0, s2 + 1, t))))
  else (
  M.pure (.inr (.inr (t2, s))))
def zap {T_ : Type} (yield_ : T_ -> (Int × Int) -> M (Bool × T_)) (t_ : T_) (k02 : Int) (k10 : List Int) (k11 : List Span) (k12 : List Int) (k13 : List Town) (k14 : Int) (k15 : Int) (k16 : List Flood) : M (T_ × Int) :=
  M.bind (M.iter (za0 yield_ k10) (k02, 0, t_)) fun x_ => match x_ with
  | (.inl (t3, s3)) => (
  M.pure (t3, s3))
  | (.inr (t4, s4)) => (
  M.pure (t4, s4))
theorem za4 {R : List Chunk} {T_ : Type} {Y_ : T_ -> List Chunk -> Prop} {v_yield_ : Value} {Ls_ : List Chunk} {b_k0 : Nat} {b_k1 : Nat} {C_k10 : Cells} {v_k10 : Value} {C_k11 : Cells} {v_k11 : Value} {C_k12 : Cells} {v_k12 : Value} {C_k13 : Cells} {v_k13 : Value} {C_k16 : Cells} {v_k16 : Value} (yield_ : T_ -> (Int × Int) -> M (Bool × T_)) (t_ : T_) (k02 : Int) (k10 : List Int) (k11 : List Span) (k12 : List Int) (k13 : List Town) (k14 : Int) (k15 : Int) (k16 : List Flood) (hf_yield_ : YieldC Try.prog R arII Y_ v_yield_ yield_) (hY_ : Y_ t_ Ls_) (hC_k10 : Reads R C_k10) (hs_k10 : Sl C_k10 v_k10 k10) (hC_k11 : Reads R C_k11) (hs_k11 : Sl C_k11 v_k11 k11) (hC_k12 : Reads R C_k12) (hs_k12 : Sl C_k12 v_k12 k12) (hC_k13 : Reads R C_k13) (hs_k13 : Sl C_k13 v_k13 k13) (hC_k16 : Reads R C_k16) (hs_k16 : Sl C_k16 v_k16 k16) (h_b_k1 : Has R (cBlk b_k1 [v_k10, v_k11, v_k12, v_k13, I k14, I k15, v_k16] 30)) {r : (T_ × Int)} (hM : (zap yield_ t_ k02 k10 k11 k12 k13 k14 k15 k16).Ends r) (w : World) (H : St w w [cAll Ls_, cBlk b_k0 [I k02] 3] R) : Ret Try.prog 67 #[v_yield_, .pointer (some ⟨b_k0, 0, none⟩), .pointer (some ⟨b_k1, 0, none⟩)] w fun v w' => ∃ (y0 : T_) (y1 : Int) (Ls0 : List Chunk), (y0, y1) = r /\ v = .tuple #[] /\ St w w' [cAll Ls0, cBlk b_k0 [I y1] 3] R /\ Y_ y0 Ls0 := by
 refine ret_of_W Try.func67 rfl rfl rfl ?_
 refine W.seq ?_
 refine W.region rfl ?_
 refine s_val (x_as (v := I 0) rfl) ?_
 refine s_nil ?_
 refine W.block ?_
 obtain ⟨ex1z, hi2z, hk3z⟩ := M.e_bind hM
 obtain ⟨m0_, hi2z⟩ := M.e_iter hi2z
 refine W.loop (fun m σ W => ∃ (s : Int) (s2 : Nat) (t2 : T_) (Ls_t2 : List Chunk) (ρ : Env), σ = upds ρ [(0, v_yield_), (1, .pointer (some ⟨b_k0, 0, none⟩)), (2, .pointer (some ⟨b_k1, 0, none⟩)), (4, I (s2 : Int))] /\ M.iterN (za0 yield_ k10) m (s, s2, t2) = some ex1z /\ St w W [cAll Ls_t2, cBlk b_k0 [I s] 3] R /\ Y_ t2 Ls_t2) ?_ ?_
 ·exact ⟨_, k02, 0, t_, Ls_, _, upds_of _ _ ⟨rfl, rfl, rfl, rfl, trivial⟩, hi2z, H, hY_⟩
 rintro m6z σ w4z ⟨s, s2, t2, Ls_t2, ρ, rfl, hI5z, H, hY_t2⟩
 obtain ⟨m7z, lt8z, x9z, hM, hN10z⟩ := M.e_iterN hI5z
 simp only [za0] at hM
 clear hI5z
 refine W.seq ?_
 refine W.seq ?_
 refine W.region rfl ?_
 refine s_val (x_ld (p := .pointer (some ⟨b_k0, 0, none⟩)) (v := I s) rfl (ldb_sc Sc3 (H.blk (k := 1) rfl) rfl)) ?_
 refine s_val (x_cmp (kd := .i64) (a := s) (b := -1) (r := s != (-1)) rfl rfl rfl) ?_
 refine s_val (x_mv (v := B (s != (-1))) rfl) ?_
 refine g_val (s != (-1)) (gy_t rfl) (fun hg => x_ld (p := .pointer (some ⟨b_k0, 0, none⟩)) (v := I s) rfl (ldb_sc Sc3 (H.blk (k := 1) rfl) rfl)) ?_
 refine g_val (s != (-1)) (gy_t rfl) (fun hg => x_fa (a := .pointer (some ⟨b_k1, 0, none⟩)) (v := .pointer (some ⟨b_k1, 0, none⟩)) rfl (fa_blk (o := 0) Fd30_0 Sz23)) ?_
 refine g_val (s != (-1)) (gy_t rfl) (fun hg => x_ld (p := .pointer (some ⟨b_k1, 0, none⟩)) (v := v_k10) (gd_of (c := s != (-1)) hg (.pointer (some ⟨b_k1, 0, none⟩))) (ldb_sc Sc23 (h_b_k1.blk H) rfl)) ?_
 have hl11z := (hs_k10).len_le
 refine g_val (s != (-1)) (gy_t rfl) (fun hg => x_lenS T23.und (gd_of (c := s != (-1)) hg (v_k10)) hs_k10) ?_
 refine g_val (s != (-1)) (gy_t rfl) (fun hg => x_cmp (kd := .i64) (a := s) (b := (k10.length : Int)) (r := decide (s < (k10.length : Int))) (gd_of (c := s != (-1)) hg (I s)) (gd_of (c := s != (-1)) hg (I (k10.length : Int))) rfl) ?_
 refine s_val (x_pand (b := s != (-1)) (r := decide (s < (k10.length : Int))) rfl (fun hb => gd_of (c := s != (-1)) (by first | exact hb | (rw [hb]; rfl) | simp_all) (B (decide (s < (k10.length : Int))))) rfl) ?_
 refine s_nil ?_
 refine W.cond ((s != (-1)) && (decide (s < (k10.length : Int)))) rfl (fun c12z => ?_) (fun c12z => ?_)
 ·replace hM := M.e_t hM c12z
  refine W.skip ?_
  refine W.seq ?_
  refine W.block ?_
  refine W.seq ?_
  refine W.seq ?_
  refine W.region rfl ?_
  refine s_val (x_mv (v := v_yield_) rfl) ?_
  refine s_val (x_mv (v := I (s2 : Int)) rfl) ?_
  refine s_val (x_ld (p := .pointer (some ⟨b_k0, 0, none⟩)) (v := I s) rfl (ldb_sc Sc3 (H.blk (k := 1) rfl) rfl)) ?_
  obtain ⟨⟨go, t⟩, hx13z, hM⟩ := M.e_bind hM
  try dsimp only at hM
  refine t_yield (L := [cBlk b_k0 [I s] 3]) H hf_yield_ hY_t2 rfl [I (s2 : Int), I s] rfl ((s2 : Int), s) Reads.none rfl hx13z ?_
  intro Ls14z w16z hY15z H
  replace H := H.nf
  refine s_val (x_not (b := go) rfl) ?_
  refine s_nil ?_
  refine W.cond (!go) rfl (fun c17z => ?_) (fun c17z => ?_)
  ·replace hM := M.e_t hM c17z
   refine W.ret ?_
   have hX18z := M.e_inr hM hN10z
   subst hX18z
   replace hM := hk3z
   try dsimp only at hM
   have hr_ := M.e_pure hM
   exact ⟨_, resE_tmp0 rfl, ⟨t, s, Ls14z, hr_, rfl, H, hY15z⟩⟩
  replace hM := M.e_f hM c17z
  refine W.skip ?_
  refine W.region rfl ?_
  refine s_val (x_fa (a := .pointer (some ⟨b_k1, 0, none⟩)) (v := .pointer (some ⟨b_k1, 0, none⟩)) rfl (fa_blk (o := 0) Fd30_0 Sz23)) ?_
  refine s_val (x_ld (p := .pointer (some ⟨b_k1, 0, none⟩)) (v := v_k10) rfl (ldb_sc Sc23 (h_b_k1.blk H) rfl)) ?_
  refine s_val (x_ld (p := .pointer (some ⟨b_k0, 0, none⟩)) (v := I s) rfl (ldb_sc Sc3 (H.blk (k := 1) rfl) rfl)) ?_
  obtain ⟨sd19z, hM⟩ := M.e_grd hM
  simp only [Bool.and_eq_true, decide_eq_true_eq] at sd19z
  refine s_val (x_ix (a := v_k10) (b := I s) (v := vat v_k10 1 (Int.toNat s)) rfl rfl (Sl.ix (α := Int) T23.und T23.size hs_k10 (by omega) (by omega))) ?_
  refine s_val (x_ld (p := vat v_k10 1 (Int.toNat s)) (v := I (k10.getD (Int.toNat s) 0)) rfl (ld_sc Sc3 (At.mono (Int_at hs_k10 (i := s) (by omega) (by omega)) (hC_k10.at H)))) ?_
  refine t_sw 1 0 [I (k10.getD (Int.toNat s) 0)] (I (k10.getD (Int.toNat s) 0)) H rfl rfl Sz3 rfl rfl rfl rfl ?_
  intro w20z H
  refine s_nil ?_
  refine W.region rfl ?_
  refine s_val (x_mv (v := I (s2 : Int)) rfl) ?_
  obtain ⟨sd21z, hM⟩ := M.e_grd hM
  simp only [Bool.and_eq_true, decide_eq_true_eq] at sd21z
  refine s_val (x_ari (a := (s2 : Int)) (b := 1) (r := (s2 : Int) + 1) rfl rfl rfl (by omega)) ?_
  refine s_val (x_as (v := I ((s2 : Int) + 1)) rfl) ?_
  refine s_nil ?_
  exact ⟨m7z, lt8z, k10.getD (Int.toNat s) 0, s2 + 1, t, Ls14z, _, upds_of _ _ ⟨rfl, rfl, rfl, rfl, trivial⟩, M.e_inl hM hN10z, H, hY15z⟩
 replace hM := M.e_f hM c12z
 refine W.exit ?_
 have hX22z := M.e_inr hM hN10z
 subst hX22z
 replace hM := hk3z
 try dsimp only at hM
 have hr_ := M.e_pure hM
 exact ⟨_, resE_tmp0 rfl, ⟨t2, s, Ls_t2, hr_, rfl, H, hY_t2⟩⟩
def zbZ (l : List Span) : (Int × Int × Nat) -> M ((Int × Int × Nat) ⊕ (Int × Int)) := fun (s, s2, s3) =>
  bif decide ((s3 : Int) < (l.length : Int)) then (
  M.grd (decide ((s3 : Int) < (l.length : Int))) <|
  M.grd (decide ((-9223372036854775808 : Int) <= (s + ((l.getD s3 default).lo))) && decide ((s + ((l.getD s3 default).lo)) <= (9223372036854775807 : Int))) <|
  M.grd (decide ((-9223372036854775808 : Int) <= (s2 + ((l.getD s3 default).hi))) && decide ((s2 + ((l.getD s3 default).hi)) <= (9223372036854775807 : Int))) <|
  M.pure (.inl (s + ((l.getD s3 default).lo), s2 + ((l.getD s3 default).hi), s3 + 1)))
  else (
  M.pure (.inr (s, s2)))
def zb2 (l : List Span) : M (Int × Int) :=
  M.bind (M.iter (zbZ l) (0, 0, 0)) fun (s4, s5) =>
  M.pure (s4, s5)
theorem zci {R : List Chunk} {C_l : Cells} {v_l : Value} (l : List Span) (hC_l : Reads R C_l) (hs_l : Sl C_l v_l l) {r : (Int × Int)} (hM : (zb2 l).Ends r) (w : World) (H : St w w [] R) : Ret Try.prog 59 #[v_l] w fun v w' => ∃ (y0 : Int) (y1 : Int), (y0, y1) = r /\ v = .agg #[I y0, I y1] /\ St w w' [] R := by
 refine ret_of_W Try.func59 rfl rfl rfl ?_
 refine W.seq ?_
 refine W.region rfl ?_
 refine t_alloc (cs := [I 0, I 0]) H Al27 rfl ?_
 intro b_1 w1z H
 refine s_nil ?_
 refine W.seq ?_
 refine W.region rfl ?_
 refine t_alloc (cs := [I 0, I 0]) H Al27 rfl ?_
 intro b_2 w2z H
 refine s_nil ?_
 refine W.seq ?_
 refine W.seq ?_
 refine W.region rfl ?_
 refine s_val (x_mv (v := v_l) rfl) ?_
 have hl3z := (hs_l).len_le
 refine s_val (x_lenS T24.und rfl hs_l) ?_
 refine s_val (x_mv (v := I 0) rfl) ?_
 refine s_nil ?_
 refine W.block ?_
 obtain ⟨ex4z, hi5z, hk6z⟩ := M.e_bind hM
 obtain ⟨m0_, hi5z⟩ := M.e_iter hi5z
 refine W.loop (fun m σ W => ∃ (s : Int) (s2 : Int) (s3 : Nat) (ρ : Env), σ = upds ρ [(2, .pointer (some ⟨b_1, 0, none⟩)), (3, .pointer (some ⟨b_2, 0, none⟩)), (6, v_l), (7, I (l.length : Int)), (8, I (s3 : Int))] /\ M.iterN (zbZ l) m (s, s2, s3) = some ex4z /\ St w W [cBlk b_2 [I s, I s2] 27, cBlk b_1 [I 0, I 0] 27] R) ?_ ?_
 ·exact ⟨_, 0, 0, 0, _, upds_of _ _ ⟨rfl, rfl, rfl, rfl, rfl, trivial⟩, hi5z, H⟩
 rintro m9z σ w7z ⟨s, s2, s3, ρ, rfl, hI8z, H⟩
 obtain ⟨m10z, lt11z, x12z, hM, hN13z⟩ := M.e_iterN hI8z
 simp only [zbZ] at hM
 clear hI8z
 refine W.seq ?_
 refine W.region rfl ?_
 refine s_val (x_cmp (kd := .i64) (a := (s3 : Int)) (b := (l.length : Int)) (r := decide ((s3 : Int) < (l.length : Int))) rfl rfl rfl) ?_
 refine s_nil ?_
 refine W.seq ?_
 refine W.cond (decide ((s3 : Int) < (l.length : Int))) rfl (fun c14z => ?_) (fun c14z => ?_)
 ·replace hM := M.e_t hM c14z
  simp only [decide_eq_true_eq, decide_eq_false_iff_not, beq_iff_eq, bne_iff_ne, beq_eq_false_iff_ne, bne_eq_false_iff_eq, ne_eq, Decidable.not_not] at c14z
  refine W.skip ?_
  refine W.seq ?_
  refine W.block ?_
  refine W.seq ?_
  refine W.region rfl ?_
  obtain ⟨sd15z, hM⟩ := M.e_grd hM
  simp only [Bool.and_eq_true, decide_eq_true_eq] at sd15z
  refine s_val (x_ix (a := v_l) (b := I (s3 : Int)) (v := vat v_l 2 (Int.toNat (s3 : Int))) rfl rfl (Sl.ix (α := Span) T24.und T24.size hs_l (by omega) (by omega))) ?_
  refine s_val (x_ld (p := vat v_l 2 (Int.toNat (s3 : Int))) (v := .agg #[I ((l.getD s3 default).lo), I ((l.getD s3 default).hi)]) rfl (ld_ag Ag27 Sz27 (At.mono (Span_atA hs_l (i := (s3 : Int)) (by omega) (by omega)) (hC_l.at H)))) ?_
  refine t_alloc (cs := [I 0, I 0]) H Al27 rfl ?_
  intro b_3 w16z H
  refine t_sw 0 0 [I ((l.getD s3 default).lo), I ((l.getD s3 default).hi)] (.agg #[I ((l.getD s3 default).lo), I ((l.getD s3 default).hi)]) H rfl rfl Sz27 rfl rfl rfl rfl ?_
  intro w17z H
  refine s_nil ?_
  refine W.region rfl ?_
  refine s_val (x_fa (a := .pointer (some ⟨b_2, 0, none⟩)) (v := .pointer (some ⟨b_2, 0, none⟩)) rfl (fa_blk (o := 0) Fd27_0 Sz3)) ?_
  refine s_val (x_ld (p := .pointer (some ⟨b_2, 0, none⟩)) (v := I s) rfl (ldb_sc Sc3 (H.blk (k := 1) rfl) rfl)) ?_
  refine s_val (x_fa (a := .pointer (some ⟨b_3, 0, none⟩)) (v := .pointer (some ⟨b_3, 0, none⟩)) rfl (fa_blk (o := 0) Fd27_0 Sz3)) ?_
  refine s_val (x_ld (p := .pointer (some ⟨b_3, 0, none⟩)) (v := I ((l.getD s3 default).lo)) rfl (ldb_sc Sc3 (H.blk (k := 0) rfl) rfl)) ?_
  obtain ⟨sd18z, hM⟩ := M.e_grd hM
  simp only [Bool.and_eq_true, decide_eq_true_eq] at sd18z
  refine s_val (x_ari (a := s) (b := (l.getD s3 default).lo) (r := s + ((l.getD s3 default).lo)) rfl rfl rfl (by omega)) ?_
  refine s_val (x_fa (a := .pointer (some ⟨b_2, 0, none⟩)) (v := .pointer (some ⟨b_2, 1, none⟩)) rfl (fa_blk (o := 0) Fd27_1 Sz3)) ?_
  refine s_val (x_ld (p := .pointer (some ⟨b_2, 1, none⟩)) (v := I s2) rfl (ldb_sc Sc3 (H.blk (k := 1) rfl) rfl)) ?_
  refine s_val (x_fa (a := .pointer (some ⟨b_3, 0, none⟩)) (v := .pointer (some ⟨b_3, 1, none⟩)) rfl (fa_blk (o := 0) Fd27_1 Sz3)) ?_
  refine s_val (x_ld (p := .pointer (some ⟨b_3, 1, none⟩)) (v := I ((l.getD s3 default).hi)) rfl (ldb_sc Sc3 (H.blk (k := 0) rfl) rfl)) ?_
  obtain ⟨sd19z, hM⟩ := M.e_grd hM
  simp only [Bool.and_eq_true, decide_eq_true_eq] at sd19z
  refine s_val (x_ari (a := s2) (b := (l.getD s3 default).hi) (r := s2 + ((l.getD s3 default).hi)) rfl rfl rfl (by omega)) ?_
  refine s_val (x_bld (ps := [(0, I (s + ((l.getD s3 default).lo))), (1, I (s2 + ((l.getD s3 default).hi)))]) (zs := [I 0, I 0]) (L' := [I (s + ((l.getD s3 default).lo)), I (s2 + ((l.getD s3 default).hi))]) rfl Try.underlying27 Al27 rfl (Bd27 Try.underlying27) (.cons (cs := [I (s + ((l.getD s3 default).lo))]) rfl rfl rfl rfl rfl <| .cons (cs := [I (s2 + ((l.getD s3 default).hi))]) rfl rfl rfl rfl rfl <| .nil)) ?_
  refine t_sw 1 0 [I (s + ((l.getD s3 default).lo)), I (s2 + ((l.getD s3 default).hi))] (.agg #[I (s + ((l.getD s3 default).lo)), I (s2 + ((l.getD s3 default).hi))]) H rfl rfl Sz27 rfl rfl rfl rfl ?_
  intro w20z H
  refine s_nil ?_
  refine W.region rfl ?_
  refine s_val (x_ari (a := (s3 : Int)) (b := 1) (r := (s3 : Int) + 1) rfl rfl rfl (by omega)) ?_
  refine s_val (x_mv (v := I ((s3 : Int) + 1)) rfl) ?_
  refine s_nil ?_
  exact ⟨m10z, lt11z, s + ((l.getD s3 default).lo), s2 + ((l.getD s3 default).hi), s3 + 1, _, upds_of _ _ ⟨rfl, rfl, rfl, rfl, rfl, trivial⟩, M.e_inl hM hN13z, (H.pk [1, 2])⟩
 replace hM := M.e_f hM c14z
 simp only [decide_eq_true_eq, decide_eq_false_iff_not, beq_iff_eq, bne_iff_ne, beq_eq_false_iff_ne, bne_eq_false_iff_eq, ne_eq, Decidable.not_not] at c14z
 refine W.exit ?_
 have hX21z := M.e_inr hM hN13z
 subst hX21z
 replace hM := hk6z
 try dsimp only at hM
 refine W.seq ?_
 refine W.region rfl ?_
 refine s_val (x_ld (p := .pointer (some ⟨b_2, 0, none⟩)) (v := .agg #[I s, I s2]) rfl (ldb_ag (ds := [I s, I s2]) Ag27 Sz27 (H.blk (k := 0) rfl) rfl rfl)) ?_
 refine t_sw 1 0 [I s, I s2] (.agg #[I s, I s2]) H rfl rfl Sz27 rfl rfl rfl rfl ?_
 intro w22z H
 refine s_nil ?_
 refine W.ret ?_
 have hb23z := (H.blk (k := 1) rfl)
 have hr_ := M.e_pure hM
 exact ⟨_, (resE_of1 (v := .agg #[I s, I s2]) rfl (.cell (v := .agg #[I s, I s2]) rfl (run_loadVar_ag (ds := [I s, I s2]) Ag27 Sz27 hb23z rfl rfl) <| .nil)), ⟨s, s2, hr_, rfl, (H.pk [])⟩⟩

def zaz (w__River_Travel : List Span) (to_ : Int) : (List Span) -> (Int × Int) -> M ((List Span) ⊕ ((List Span) × (List Span) × Int × Int)) := fun l (x, x2) =>
  bif x2 == to_ then (
  M.bind (zb2 l) fun (r0, r1) =>
  M.pure (.inr (l, l, r0, r1)))
  else (
  M.grd (decide ((0 : Int) <= x2) && decide (x2 < (w__River_Travel.length : Int))) <|
  M.grd (decide ((l.length + ([(w__River_Travel.getD (Int.toNat x2) default)]).length) * 16 <= 140737488355328)) <|
  M.pure (.inl (l ++ ([(w__River_Travel.getD (Int.toNat x2) default)]))))
def za1 (w__River_Down : List Int) (w__River_Travel : List Span) (w__River_Springs : List Int) (w__River_Towns : List Town) (w__River_Delay_Lo : Int) (w__River_Delay_Hi : Int) (w__River_Floods : List Flood) (from_ : Int) (to_ : Int) : M (Int × Int × Bool) :=
  M.bind (zan w__River_Down w__River_Travel w__River_Springs w__River_Towns w__River_Delay_Lo w__River_Delay_Hi w__River_Floods from_) fun (r00, r14, r15) =>
  M.bind (zap (M.yl (zaz w__River_Travel to_)) (.inl ([])) r00 w__River_Down w__River_Travel w__River_Springs w__River_Towns r14 r15 w__River_Floods) fun x_ => match x_ with
  | (.inl l, q0) => (
  M.pure (0, 0, false))
  | (.inr (l2, l3, s, s2), q0) => (
  M.pure (s, s2, true))
theorem zbH {R : List Chunk} {b_w_ : Nat} {C_w__River_Down : Cells} {v_w__River_Down : Value} {C_w__River_Travel : Cells} {v_w__River_Travel : Value} {C_w__River_Springs : Cells} {v_w__River_Springs : Value} {C_w__River_Towns : Cells} {v_w__River_Towns : Value} {C_w__River_Floods : Cells} {v_w__River_Floods : Value} {b_w__found : Nat} (w__River_Down : List Int) (w__River_Travel : List Span) (w__River_Springs : List Int) (w__River_Towns : List Town) (w__River_Delay_Lo : Int) (w__River_Delay_Hi : Int) (w__River_Floods : List Flood) (from_ : Int) (to_ : Int) (hC_w__River_Down : Reads R C_w__River_Down) (hs_w__River_Down : Sl C_w__River_Down v_w__River_Down w__River_Down) (hC_w__River_Travel : Reads R C_w__River_Travel) (hs_w__River_Travel : Sl C_w__River_Travel v_w__River_Travel w__River_Travel) (hC_w__River_Springs : Reads R C_w__River_Springs) (hs_w__River_Springs : Sl C_w__River_Springs v_w__River_Springs w__River_Springs) (hC_w__River_Towns : Reads R C_w__River_Towns) (hs_w__River_Towns : Sl C_w__River_Towns v_w__River_Towns w__River_Towns) (hC_w__River_Floods : Reads R C_w__River_Floods) (hs_w__River_Floods : Sl C_w__River_Floods v_w__River_Floods w__River_Floods) (h_b_w_ : Has R (cBlk b_w_ [v_w__River_Down, v_w__River_Travel, v_w__River_Springs, v_w__River_Towns, I w__River_Delay_Lo, I w__River_Delay_Hi, v_w__River_Floods, .map (some b_w__found)] 86)) {r : (Int × Int × Bool)} (hM : (za1 w__River_Down w__River_Travel w__River_Springs w__River_Towns w__River_Delay_Lo w__River_Delay_Hi w__River_Floods from_ to_).Ends r) (w : World) (H : St w w [] R) : Ret Try.prog 47 #[.pointer (some ⟨b_w_, 0, none⟩), I from_, I to_] w fun v w' => ∃ (y0 : Int) (y1 : Int) (y2 : Bool), (y0, y1, y2) = r /\ v = .tuple #[.agg #[I y0, I y1], B y2] /\ St w w' [] R := by
 refine ret_of_WD Try.func47 rfl rfl rfl ?_
 replace H : St w w [cMk ([])] R := H.mk0
 have hl_w__River_Down := hs_w__River_Down.len_le
 have hl_w__River_Travel := hs_w__River_Travel.len_le
 have hl_w__River_Springs := hs_w__River_Springs.len_le
 have hl_w__River_Towns := hs_w__River_Towns.len_le
 have hl_w__River_Floods := hs_w__River_Floods.len_le
 unfold za1 at hM
 refine WD.seq ?_
 refine WD.of ?_
 refine W.region rfl ?_
 refine t_box (v := .pointer (some ⟨b_w_, 0, none⟩)) (cs := [.pointer (some ⟨b_w_, 0, none⟩)]) H rfl rfl ?_
 intro b_1 w1z H
 refine t_box (v := I to_) (cs := [I to_]) H rfl rfl ?_
 intro b_2 w2z H
 refine t_alloc (cs := [I 0, I 0]) H Al27 rfl ?_
 intro b_3 w3z H
 refine t_alloc (cs := [B false]) H Al4 rfl ?_
 intro b_4 w4z H
 refine s_nil ?_
 refine WD.seq ?_
 refine WD.of ?_
 refine W.region rfl ?_
 refine t_alloc (cs := [.slice none 0 0]) H Al24 rfl ?_
 intro b_5 w5z H
 refine s_nil ?_
 refine WD.seq ?_
 refine WD.seq ?_
 refine WD.of ?_
 refine W.region rfl ?_
 refine s_val (x_ld (p := .pointer (some ⟨b_1, 0, none⟩)) (v := .pointer (some ⟨b_w_, 0, none⟩)) rfl (ldb_sc Sc72 (H.blk (k := 4) rfl) rfl)) ?_
 refine s_val (x_nc (a := ⟨b_w_, 0, none⟩) rfl) ?_
 refine s_val (x_fa (a := .pointer (some ⟨b_w_, 0, none⟩)) (v := .pointer (some ⟨b_w_, 0, none⟩)) rfl (fa_blk (o := 0) Fd86_0 Sz30)) ?_
 refine s_val (x_ld (p := .pointer (some ⟨b_w_, 0, none⟩)) (v := .agg #[v_w__River_Down, v_w__River_Travel, v_w__River_Springs, v_w__River_Towns, I w__River_Delay_Lo, I w__River_Delay_Hi, v_w__River_Floods]) rfl (ldb_ag (ds := [v_w__River_Down, v_w__River_Travel, v_w__River_Springs, v_w__River_Towns, I w__River_Delay_Lo, I w__River_Delay_Hi, v_w__River_Floods]) Ag30 Sz30 (h_b_w_.blk H) rfl rfl)) ?_
 refine s_val (x_mv (v := I from_) rfl) ?_
 obtain ⟨r7z, hx6z, hM⟩ := M.e_bind hM
 refine s_call cf46 [.agg #[v_w__River_Down, v_w__River_Travel, v_w__River_Springs, v_w__River_Towns, I w__River_Delay_Lo, I w__River_Delay_Hi, v_w__River_Floods], I from_] rfl (za7 w__River_Down w__River_Travel w__River_Springs w__River_Towns w__River_Delay_Lo w__River_Delay_Hi w__River_Floods from_ (hC_w__River_Down.app _) hs_w__River_Down (hC_w__River_Travel.app _) hs_w__River_Travel (hC_w__River_Springs.app _) hs_w__River_Springs (hC_w__River_Towns.app _) hs_w__River_Towns (hC_w__River_Floods.app _) hs_w__River_Floods hx6z _ (H.gt 6)) ?_
 rintro vq w8z ⟨r00, r14, r15, nb0_6, nb1_7, hr9z, hvq, H2_⟩
 subst hr9z
 subst vq
 try dsimp only at hM
 replace H := H.bk H2_
 clear H2_
 refine s_nil ?_
 refine WD.block ?_
 replace H := H.nilOwn (α := Span) 27
 obtain ⟨t10z, hx11z, hM⟩ := M.e_bind hM
 refine WD.range (L := [cOwn (α := Span) 27 (.slice none 0 0) ([]), cBlk b_5 [(.slice none 0 0)] 24, cBlk b_4 [B false] 4, cBlk b_3 [I 0, I 0] 27, cBlk nb1_7 [v_w__River_Down, v_w__River_Travel, v_w__River_Springs, v_w__River_Towns, I r14, I r15, v_w__River_Floods] 30, cBlk b_2 [I to_] 3, cBlk b_1 [.pointer (some ⟨b_w_, 0, none⟩)] 72, cBlk nb0_6 [I r00] 3]) [.pointer (some ⟨nb0_6, 0, none⟩), .pointer (some ⟨nb1_7, 0, none⟩)] (H.pk [8, 0, 3, 4, 5, 2, 6, 7, 1]) rfl cf67 ?_
 intro l12z D13z r14z w15z hr16z H
 have hYC : YieldC Try.prog ([cMk (D13z :: ([])), cBlk nb1_7 [v_w__River_Down, v_w__River_Travel, v_w__River_Springs, v_w__River_Towns, I r14, I r15, v_w__River_Floods] 30, cBlk b_2 [I to_] 3, cBlk b_1 [.pointer (some ⟨b_w_, 0, none⟩)] 72] ++ R) arII (yJ l12z r14z (fun l Ls_ => ∃ (v_l : Value), Ls_ = [cOwn (α := Span) 27 v_l l, cBlk b_5 [v_l] 24, cBlk b_4 [B false] 4, cBlk b_3 [I 0, I 0] 27]) (fun (l2, l3, s, s2) Ls_ => ∃ (v_o_10 : Value), Ls_ = [cOwn (α := Span) 27 v_o_10 l3, cBlk b_5 [v_o_10] 24, cBlk b_4 [B true] 4, cBlk b_3 [I s, I s2] 27]) (fun _ => .ret)) (.func (.yield l12z) #[] #[]) (M.yl (zaz w__River_Travel to_)) := by
  refine YieldC.mk hr16z (fun l Ls_ => ∃ (v_l : Value), Ls_ = [cOwn (α := Span) 27 v_l l, cBlk b_5 [v_l] 24, cBlk b_4 [B false] 4, cBlk b_3 [I 0, I 0] 27]) (fun (l2, l3, s, s2) Ls_ => ∃ (v_o_10 : Value), Ls_ = [cOwn (α := Span) 27 v_o_10 l3, cBlk b_5 [v_o_10] 24, cBlk b_4 [B true] 4, cBlk b_3 [I s, I s2] 27]) (fun _ => .ret) (zaz w__River_Travel to_) (by rintro l _ h_; obtain ⟨_, rfl⟩ := h_; rfl) (by rintro ⟨l2, l3, s, s2⟩ _ h_; (obtain ⟨_, rfl⟩ := h_; rfl)) rfl (arII_len rfl) ?_
  intro C_ vs_ x_ W_ hA_
  obtain ⟨x, x2⟩ := x_
  obtain rfl := hA_
  refine W.region rfl ?_
  refine s_val (x_as (v := I x2) rfl) ?_
  refine s_nil ?_
  refine ⟨rfl, rfl, ?_⟩
  intro w R hR_ Ls_ s_ r hY_ hM H
  skip
  obtain ⟨l, hs_eq_⟩ : ∃ y_, y_ = s_ := ⟨_, rfl⟩
  subst hs_eq_
  obtain ⟨v_l, rfl⟩ := hY_
  replace hC_w__River_Down := hC_w__River_Down.sub hR_
  replace hC_w__River_Travel := hC_w__River_Travel.sub hR_
  replace hC_w__River_Springs := hC_w__River_Springs.sub hR_
  replace hC_w__River_Towns := hC_w__River_Towns.sub hR_
  replace hC_w__River_Floods := hC_w__River_Floods.sub hR_
  replace h_b_w_ := h_b_w_.sub hR_
  replace hM : (zaz w__River_Travel to_ l (x, x2)).Ends r := hM
  simp only [zaz] at hM
  replace H := H.pk [0, 1, 2, 3, 5, 6, 7, 4]
  refine W.block ?_
  refine W.seq ?_
  refine W.seq ?_
  refine W.region rfl ?_
  refine s_val (x_mv (v := I x2) rfl) ?_
  refine s_val (x_ld (p := .pointer (some ⟨b_2, 0, none⟩)) (v := I to_) rfl (ldb_sc Sc3 (H.blk (k := 5) rfl) rfl)) ?_
  refine s_val (x_cmp (kd := .i64) (a := x2) (b := to_) (r := x2 == to_) rfl rfl rfl) ?_
  refine s_nil ?_
  refine W.cond (x2 == to_) rfl (fun c17z => ?_) (fun c17z => ?_)
  ·replace hM := M.e_t hM c17z
   simp only [decide_eq_true_eq, decide_eq_false_iff_not, beq_iff_eq, bne_iff_ne, beq_eq_false_iff_ne, bne_eq_false_iff_eq, ne_eq, Decidable.not_not] at c17z
   refine W.seq ?_
   refine W.region rfl ?_
   refine s_val (x_ld (p := .pointer (some ⟨b_5, 0, none⟩)) (v := v_l) rfl (ldb_sc Sc24 (H.blk (k := 1) rfl) rfl)) ?_
   obtain ⟨r19z, hx18z, hM⟩ := M.e_bind hM
   refine s_call cf59 [v_l] rfl (zci l (Reads.of (k := 0) rfl ownLe) (ownSl (H.get (k := 0) rfl)) hx18z _ (H.gt 8)) ?_
   rintro vq w20z ⟨r0, r1, hr21z, hvq, H2_⟩
   subst hr21z
   subst vq
   try dsimp only at hM
   replace H := H.bk H2_
   clear H2_
   refine t_sw 3 0 [I r0, I r1] (.agg #[I r0, I r1]) H rfl rfl Sz27 rfl rfl rfl rfl ?_
   intro w22z H
   refine t_sw 2 0 [B true] (B true) H rfl rfl Sz4 rfl rfl rfl rfl ?_
   intro w23z H
   refine s_nil ?_
   refine W.ret ?_
   exact ⟨(l, l, r0, r1), [cOwn (α := Span) 27 v_l l, cBlk b_5 [v_l] 24, cBlk b_4 [B true] 4, cBlk b_3 [I r0, I r1] 27], (M.e_pure hM).symm, ⟨v_l, rfl⟩, H.pick [0, 1, 2, 3, 7, 4, 5, 6] (by decide) rfl, rfl⟩
  replace hM := M.e_f hM c17z
  simp only [decide_eq_true_eq, decide_eq_false_iff_not, beq_iff_eq, bne_iff_ne, beq_eq_false_iff_ne, bne_eq_false_iff_eq, ne_eq, Decidable.not_not] at c17z
  refine W.skip ?_
  refine W.drawT (fun W => St w W [cBlk b_4 [B false] 4, cBlk b_3 [I 0, I 0] 27, cBlk nb1_7 [v_w__River_Down, v_w__River_Travel, v_w__River_Springs, v_w__River_Towns, I r14, I r15, v_w__River_Floods] 30, cBlk b_2 [I to_] 3, cBlk b_1 [.pointer (some ⟨b_w_, 0, none⟩)] 72, cMk (D13z :: ([]))] R) (.q 1 (.q 2 (.q 3 (.q 4 (.q 5 (.q 6 (.q 7 (.q 8 (.l2 0 (.l 9 (.l 10 (.l 11 .nil))) 9 (.l 0 (.l 10 (.l 11 .nil)))))))))))) mixed (by decide +kernel) rfl ?_
  intro w24z hx_
  replace H := H.ext hx_
  clear hx_
  refine ⟨(H.pk [2, 3, 4, 5, 6, 7]), ?_⟩
  refine t_q rfl (fun w' H => x_ld (p := .pointer (some ⟨b_1, 0, none⟩)) (v := .pointer (some ⟨b_w_, 0, none⟩)) rfl (ldb_sc Sc72 (H.blk (k := 4) rfl) rfl)) ?_
  refine t_q rfl (fun w' H => x_nc (a := ⟨b_w_, 0, none⟩) rfl) ?_
  refine t_q rfl (fun w' H => x_fa (a := .pointer (some ⟨b_w_, 0, none⟩)) (v := .pointer (some ⟨b_w_, 0, none⟩)) rfl (fa_blk (o := 0) Fd86_0 Sz30)) ?_
  refine t_q rfl (fun w' H => x_fa (a := .pointer (some ⟨b_w_, 0, none⟩)) (v := .pointer (some ⟨b_w_, 1, none⟩)) rfl (fa_blk (o := 0) Fd30_1 Sz24)) ?_
  refine t_q rfl (fun w' H => x_ld (p := .pointer (some ⟨b_w_, 1, none⟩)) (v := v_w__River_Travel) rfl (ldb_sc Sc24 (h_b_w_.blk H) rfl)) ?_
  refine t_q rfl (fun w' H => x_mv (v := I x2) rfl) ?_
  obtain ⟨sd25z, hM⟩ := M.e_grd hM
  simp only [Bool.and_eq_true, decide_eq_true_eq] at sd25z
  refine t_q rfl (fun w' H => x_ix (a := v_w__River_Travel) (b := I x2) (v := vat v_w__River_Travel 2 (Int.toNat x2)) rfl rfl (Sl.ix (α := Span) T24.und T24.size hs_w__River_Travel (by omega) (by omega))) ?_
  refine t_q rfl (fun w' H => x_ld (p := vat v_w__River_Travel 2 (Int.toNat x2)) (v := .agg #[I ((w__River_Travel.getD (Int.toNat x2) default).lo), I ((w__River_Travel.getD (Int.toNat x2) default).hi)]) rfl (ld_ag Ag27 Sz27 (At.mono (Span_atA hs_w__River_Travel (i := x2) (by omega) (by omega)) (hC_w__River_Travel.at H)))) ?_
  obtain ⟨sd28z, hM⟩ := M.e_grd hM
  simp only [Bool.and_eq_true, decide_eq_true_eq] at sd28z
  refine t_l2 rfl rfl ?_ ?_
  ·skip
   refine s_val (x_ld (p := .pointer (some ⟨b_5, 0, none⟩)) (v := v_l) rfl (ldb_sc Sc24 (H.blk (k := 1) rfl) rfl)) ?_
   have hvc_q32z := Sl.cells (ownSl (H.get (k := 0) rfl))
   have hvo_q32z := Sl.oc (ownSl (H.get (k := 0) rfl))
   refine s_nil ⟨(H.pk [2, 3, 4, 5, 6, 7]), ?_⟩
   refine t_l rfl ?_
   refine t_bs (α := Span) T24 [.agg #[I ((w__River_Travel.getD (Int.toNat x2) default).lo), I ((w__River_Travel.getD (Int.toNat x2) default).hi)]] [(w__River_Travel.getD (Int.toNat x2) default)] H rfl (.cons rfl (Flat.rep_enc _ (w__River_Travel.getD (Int.toNat x2) default)) <| .nil) rfl rfl rfl ?_
   intro v33z w34z H
   have hvc_q35z := Sl.cells (ownSl (H.get (k := 0) rfl))
   have hvo_q35z := Sl.oc (ownSl (H.get (k := 0) rfl))
   refine s_nil ⟨(H.pk [3, 4, 5, 6, 7, 8]), ?_⟩
   refine t_l rfl ?_
   refine t_app (α := Span) (k := 1) (l := l) (l2 := [(w__River_Travel.getD (Int.toNat x2) default)]) (l' := l ++ ([(w__River_Travel.getD (Int.toNat x2) default)])) (vy := v33z) T24 rfl H rfl rfl rfl (ownSl (H.get (k := 0) rfl)) (ownLe _ (H.get (k := 0) rfl)) (rfl) (by first | omega | (simp only [List.length_nil] at *; omega)) ?_
   intro v36z w37z H
   replace H := H.nf
   have hvc_q38z := Sl.cells (ownSl (H.get (k := 1) rfl))
   have hvo_q38z := Sl.oc (ownSl (H.get (k := 1) rfl))
   refine s_nil ⟨(H.pk [3, 4, 5, 6, 7, 8]), ?_⟩
   refine t_l rfl ?_
   refine t_sw 2 0 [v36z] v36z H rfl rfl Sz24 (Sl.cells (ownSl (H.get (k := 1) rfl))) rfl rfl (by simp only [List.all_cons, List.all_nil, Bool.true_and, Bool.and_true, Sl.oc (ownSl (H.get (k := 1) rfl))]; try rfl) ?_
   intro w39z H
   refine s_nil ⟨(H.pk [3, 4, 5, 6, 7, 8]), ?_⟩
   refine t_nil ?_
   exact ⟨l ++ ([(w__River_Travel.getD (Int.toNat x2) default)]), [cOwn (α := Span) 27 v36z (l ++ ([(w__River_Travel.getD (Int.toNat x2) default)])), cBlk b_5 [v36z] 24, cBlk b_4 [B false] 4, cBlk b_3 [I 0, I 0] 27], (M.e_pure hM).symm, ⟨v36z, rfl⟩, H.pick [1, 2, 3, 4, 8, 5, 6, 7] (by decide) rfl⟩
  skip
  refine t_bs (α := Span) T24 [.agg #[I ((w__River_Travel.getD (Int.toNat x2) default).lo), I ((w__River_Travel.getD (Int.toNat x2) default).hi)]] [(w__River_Travel.getD (Int.toNat x2) default)] H rfl (.cons rfl (Flat.rep_enc _ (w__River_Travel.getD (Int.toNat x2) default)) <| .nil) rfl rfl rfl ?_
  intro v40z w41z H
  have hvc_q42z := Sl.cells (ownSl (H.get (k := 0) rfl))
  have hvo_q42z := Sl.oc (ownSl (H.get (k := 0) rfl))
  have hvc_q43z := Sl.cells (ownSl (H.get (k := 1) rfl))
  have hvo_q43z := Sl.oc (ownSl (H.get (k := 1) rfl))
  refine s_nil ⟨(H.pk [3, 4, 5, 6, 7, 8]), ?_⟩
  refine t_l rfl ?_
  refine s_val (x_ld (p := .pointer (some ⟨b_5, 0, none⟩)) (v := v_l) rfl (ldb_sc Sc24 (H.blk (k := 2) rfl) rfl)) ?_
  refine s_nil ⟨(H.pk [3, 4, 5, 6, 7, 8]), ?_⟩
  refine t_l rfl ?_
  refine t_app (α := Span) (k := 1) (l := l) (l2 := [(w__River_Travel.getD (Int.toNat x2) default)]) (l' := l ++ ([(w__River_Travel.getD (Int.toNat x2) default)])) (vy := v40z) T24 rfl H rfl rfl rfl (ownSl (H.get (k := 0) rfl)) (ownLe _ (H.get (k := 0) rfl)) (rfl) (by first | omega | (simp only [List.length_nil] at *; omega)) ?_
  intro v44z w45z H
  replace H := H.nf
  have hvc_q46z := Sl.cells (ownSl (H.get (k := 1) rfl))
  have hvo_q46z := Sl.oc (ownSl (H.get (k := 1) rfl))
  refine s_nil ⟨(H.pk [3, 4, 5, 6, 7, 8]), ?_⟩
  refine t_l rfl ?_
  refine t_sw 2 0 [v44z] v44z H rfl rfl Sz24 (Sl.cells (ownSl (H.get (k := 1) rfl))) rfl rfl (by simp only [List.all_cons, List.all_nil, Bool.true_and, Bool.and_true, Sl.oc (ownSl (H.get (k := 1) rfl))]; try rfl) ?_
  intro w47z H
  refine s_nil ⟨(H.pk [3, 4, 5, 6, 7, 8]), ?_⟩
  refine t_nil ?_
  exact ⟨l ++ ([(w__River_Travel.getD (Int.toNat x2) default)]), [cOwn (α := Span) 27 v44z (l ++ ([(w__River_Travel.getD (Int.toNat x2) default)])), cBlk b_5 [v44z] 24, cBlk b_4 [B false] 4, cBlk b_3 [I 0, I 0] 27], (M.e_pure hM).symm, ⟨v44z, rfl⟩, H.pick [1, 2, 3, 4, 8, 5, 6, 7] (by decide) rfl⟩
 replace H : St w w15z (cAll (cObj l12z (.loop r14z) :: [cOwn (α := Span) 27 (.slice none 0 0) ([]), cBlk b_5 [(.slice none 0 0)] 24, cBlk b_4 [B false] 4, cBlk b_3 [I 0, I 0] 27]) :: [cBlk nb0_6 [I r00] 3, cMk (D13z :: ([])), cBlk nb1_7 [v_w__River_Down, v_w__River_Travel, v_w__River_Springs, v_w__River_Towns, I r14, I r15, v_w__River_Floods] 30, cBlk b_2 [I to_] 3, cBlk b_1 [.pointer (some ⟨b_w_, 0, none⟩)] 72]) R := St.bundleB (A := cObj l12z (.loop r14z) :: [cOwn (α := Span) 27 (.slice none 0 0) ([]), cBlk b_5 [(.slice none 0 0)] 24, cBlk b_4 [B false] 4, cBlk b_3 [I 0, I 0] 27]) (T := [cBlk nb0_6 [I r00] 3, cMk (D13z :: ([])), cBlk nb1_7 [v_w__River_Down, v_w__River_Travel, v_w__River_Springs, v_w__River_Towns, I r14, I r15, v_w__River_Floods] 30, cBlk b_2 [I to_] 3, cBlk b_1 [.pointer (some ⟨b_w_, 0, none⟩)] 72]) rfl (H.pk [0, 2, 3, 4, 5, 9, 1, 6, 7, 8])
 refine (za4 (M.yl (zaz w__River_Travel to_)) (.inl ([])) r00 w__River_Down w__River_Travel w__River_Springs w__River_Towns r14 r15 w__River_Floods hYC ⟨_, rfl, ⟨(.slice none 0 0), rfl⟩⟩ (hC_w__River_Down.app _) hs_w__River_Down (hC_w__River_Travel.app _) hs_w__River_Travel (hC_w__River_Springs.app _) hs_w__River_Springs (hC_w__River_Towns.app _) hs_w__River_Towns (hC_w__River_Floods.app _) hs_w__River_Floods (Has.here (k := 1) rfl) hx11z _ (H.gt 4)).mono ?_
 rintro vq w48z ⟨t52z, q0, Ls50z, hq53z, hvq, H2_, hY51z⟩
 subst hq53z
 replace H := H.back H2_ rfl
 clear H2_ hYC
 rcases t52z with l | ⟨l2, l3, s, s2⟩
 ·try dsimp only at hM
  obtain ⟨_, rfl, v_l, rfl⟩ := hY51z
  refine ⟨_, [cOwn (α := Span) 27 v_l l, cBlk b_5 [v_l] 24, cBlk b_4 [B false] 4, cBlk b_3 [I 0, I 0] 27, cBlk nb1_7 [v_w__River_Down, v_w__River_Travel, v_w__River_Springs, v_w__River_Towns, I r14, I r15, v_w__River_Floods] 30, cBlk b_2 [I to_] 3, cBlk b_1 [.pointer (some ⟨b_w_, 0, none⟩)] 72, cBlk nb0_6 [I q0] 3], H.unbundle.pick [0, 6, 1, 2, 3, 4, 7, 8, 9, 5] (by decide) rfl, hr16z.nb, ?_⟩
  intro w49z H
  rw [hr16z.pd]
  replace H := H.nf
  try simp only []
  replace H := H.pk [0, 3, 4]
  refine WD.seq ?_
  refine WD.of ?_
  refine W.region rfl ?_
  refine s_val (x_bld (ps := []) (zs := [I 0, I 0]) (L' := [I 0, I 0]) rfl Try.underlying27 Al27 rfl (Bd27 Try.underlying27) (.nil)) ?_
  refine t_sw 2 0 [I 0, I 0] (.agg #[I 0, I 0]) H rfl rfl Sz27 rfl rfl rfl rfl ?_
  intro w54z H
  refine t_sw 1 0 [B false] (B false) H rfl rfl Sz4 rfl rfl rfl rfl ?_
  intro w55z H
  refine s_nil ?_
  refine WD.of ?_
  refine W.ret ?_
  refine bodyD_r (H.pk [0, 1, 2]) ?_
  intro w56z H
  replace H := H.nf
  have hb57z := (H.blk (k := 1) rfl)
  have hb58z := (H.blk (k := 0) rfl)
  have hr_ := M.e_pure hM
  exact ⟨_, (resE_ofn (vs := [.agg #[I 0, I 0], B false]) rfl rfl (.cell (v := .agg #[I 0, I 0]) rfl (run_loadVar_ag (ds := [I 0, I 0]) Ag27 Sz27 hb57z rfl rfl) <| .cell (v := B false) rfl (run_loadVar_sc Sc4 hb58z rfl) <| .nil)), ⟨0, 0, false, hr_, rfl, (H.pk [])⟩⟩
 try dsimp only at hM
 obtain ⟨_, rfl, v_o_10, rfl⟩ := hY51z
 refine ⟨_, [cOwn (α := Span) 27 v_o_10 l3, cBlk b_5 [v_o_10] 24, cBlk b_4 [B true] 4, cBlk b_3 [I s, I s2] 27, cBlk nb1_7 [v_w__River_Down, v_w__River_Travel, v_w__River_Springs, v_w__River_Towns, I r14, I r15, v_w__River_Floods] 30, cBlk b_2 [I to_] 3, cBlk b_1 [.pointer (some ⟨b_w_, 0, none⟩)] 72, cBlk nb0_6 [I q0] 3], H.unbundle.pick [0, 6, 1, 2, 3, 4, 7, 8, 9, 5] (by decide) rfl, nofun, ?_⟩
 intro w49z H
 show WD _ _ _ (.ret) _ _ _
 refine WD.of ?_
 refine W.ret ?_
 replace H := H.nf
 refine bodyD_r (H.pk [0, 1, 2, 3, 4, 5, 6, 7, 8]) ?_
 intro w59z H
 replace H := H.nf
 have hb60z := (H.blk (k := 3) rfl)
 have hb61z := (H.blk (k := 2) rfl)
 have hr_ := M.e_pure hM
 exact ⟨_, (resE_ofn (vs := [.agg #[I s, I s2], B true]) rfl rfl (.cell (v := .agg #[I s, I s2]) rfl (run_loadVar_ag (ds := [I s, I s2]) Ag27 Sz27 hb60z rfl rfl) <| .cell (v := B true) rfl (run_loadVar_sc Sc4 hb61z rfl) <| .nil)), ⟨s, s2, true, hr_, rfl, (H.pk [])⟩⟩

def zaF (w__River_Down : List Int) (w__River_Travel : List Span) (w__River_Springs : List Int) (w__River_Towns : List Town) (w__River_Delay_Lo : Int) (w__River_Delay_Hi : Int) (w__River_Floods : List Flood) (d : Dem) : (List Int) -> (Int × Int) -> M ((List Int) ⊕ Unit) := fun l (x, x2) =>
  M.bind (za1 w__River_Down w__River_Travel w__River_Springs w__River_Towns w__River_Delay_Lo w__River_Delay_Hi w__River_Floods x2 ((w__River_Towns.getD (Int.toNat d.town) default).station)) fun (r002, r01, r1) =>
  M.grd ((!r1 || (decide ((-9223372036854775808 : Int) <= (((w__River_Towns.getD (Int.toNat d.town) default).lead) + w__River_Delay_Hi)) && decide ((((w__River_Towns.getD (Int.toNat d.town) default).lead) + w__River_Delay_Hi) <= (9223372036854775807 : Int))))) <|
  bif (r1 && (decide ((((w__River_Towns.getD (Int.toNat d.town) default).lead) + w__River_Delay_Hi) <= r002))) then (
  M.grd (decide ((l.length + ([(x2 : Int)]).length) * 8 <= 140737488355328)) <|
  M.pure (.inl (l ++ ([(x2 : Int)]))))
  else (
  M.pure (.inl l))
def zaa (w__River_Down : List Int) (w__River_Travel : List Span) (w__River_Springs : List Int) (w__River_Towns : List Town) (w__River_Delay_Lo : Int) (w__River_Delay_Hi : Int) (w__River_Floods : List Flood) (d : Dem) : M (List Int) :=
  M.grd (decide ((0 : Int) <= d.town) && decide (d.town < (w__River_Towns.length : Int))) <|
  M.bind (zan w__River_Down w__River_Travel w__River_Springs w__River_Towns w__River_Delay_Lo w__River_Delay_Hi w__River_Floods d.spring) fun (r00, r14, r15) =>
  M.bind (zap (M.yl (zaF w__River_Down w__River_Travel w__River_Springs w__River_Towns w__River_Delay_Lo w__River_Delay_Hi w__River_Floods d)) (.inl ([])) r00 w__River_Down w__River_Travel w__River_Springs w__River_Towns r14 r15 w__River_Floods) fun x_ => match x_ with
  | (.inl l, q0) => (
  M.pure l)
  | (.inr _, _) => M.fail
theorem zbh {R : List Chunk} {b_w_ : Nat} {C_w__River_Down : Cells} {v_w__River_Down : Value} {C_w__River_Travel : Cells} {v_w__River_Travel : Value} {C_w__River_Springs : Cells} {v_w__River_Springs : Value} {C_w__River_Towns : Cells} {v_w__River_Towns : Value} {C_w__River_Floods : Cells} {v_w__River_Floods : Value} {b_w__found : Nat} {B_b_w__found : Base} (w__River_Down : List Int) (w__River_Travel : List Span) (w__River_Springs : List Int) (w__River_Towns : List Town) (w__River_Delay_Lo : Int) (w__River_Delay_Hi : Int) (w__River_Floods : List Flood) (d : Dem) (hC_w__River_Down : Reads R C_w__River_Down) (hs_w__River_Down : Sl C_w__River_Down v_w__River_Down w__River_Down) (hC_w__River_Travel : Reads R C_w__River_Travel) (hs_w__River_Travel : Sl C_w__River_Travel v_w__River_Travel w__River_Travel) (hC_w__River_Springs : Reads R C_w__River_Springs) (hs_w__River_Springs : Sl C_w__River_Springs v_w__River_Springs w__River_Springs) (hC_w__River_Towns : Reads R C_w__River_Towns) (hs_w__River_Towns : Sl C_w__River_Towns v_w__River_Towns w__River_Towns) (hC_w__River_Floods : Reads R C_w__River_Floods) (hs_w__River_Floods : Sl C_w__River_Floods v_w__River_Floods w__River_Floods) (h_b_w_ : Has R (cBlk b_w_ [v_w__River_Down, v_w__River_Travel, v_w__River_Springs, v_w__River_Towns, I w__River_Delay_Lo, I w__River_Delay_Hi, v_w__River_Floods, .map (some b_w__found)] 86)) {r : (List Int)} (hM : (zaa w__River_Down w__River_Travel w__River_Springs w__River_Towns w__River_Delay_Lo w__River_Delay_Hi w__River_Floods d).Ends r) (w : World) (H : St w w [cMem encDm b_w__found B_b_w__found (zaa w__River_Down w__River_Travel w__River_Springs w__River_Towns w__River_Delay_Lo w__River_Delay_Hi w__River_Floods)] R) : Ret Try.prog 54 #[.pointer (some ⟨b_w_, 0, none⟩), .agg #[I d.spring, I d.town]] w fun v w' => ∃ (y0 : List Int) (u0 : Value) (Bs1 : Base), y0 = r /\ v = u0 /\ St w w' [cMem encDm b_w__found Bs1 (zaa w__River_Down w__River_Travel w__River_Springs w__River_Towns w__River_Delay_Lo w__River_Delay_Hi w__River_Floods)] R /\ Sl Bs1.cells u0 y0 := by
 refine ret_of_WD Try.func54 rfl rfl rfl ?_
 replace H : St w w [cMk ([]), cMem encDm b_w__found B_b_w__found (zaa w__River_Down w__River_Travel w__River_Springs w__River_Towns w__River_Delay_Lo w__River_Delay_Hi w__River_Floods)] R := H.mk0
 have hl_w__River_Down := hs_w__River_Down.len_le
 have hl_w__River_Travel := hs_w__River_Travel.len_le
 have hl_w__River_Springs := hs_w__River_Springs.len_le
 have hl_w__River_Towns := hs_w__River_Towns.len_le
 have hl_w__River_Floods := hs_w__River_Floods.len_le
 unfold zaa at hM
 have hM0 := hM
 obtain ⟨fm_, H, hF_⟩ := St.memOpen H (i := 1) rfl
 replace H := H.nf
 cases hf_ : fm_ d with
 | none =>
  refine WD.seq ?_
  refine WD.of ?_
  refine W.region rfl ?_
  refine t_box (v := .pointer (some ⟨b_w_, 0, none⟩)) (cs := [.pointer (some ⟨b_w_, 0, none⟩)]) H rfl rfl ?_
  intro b_1 w1z H
  refine t_box (v := .agg #[I d.spring, I d.town]) (cs := [I d.spring, I d.town]) H rfl rfl ?_
  intro b_2 w2z H
  refine s_val (x_as (v := .slice none 0 0) rfl) ?_
  refine s_nil ?_
  refine WD.seq ?_
  refine WD.seq ?_
  refine WD.of ?_
  refine W.draw (fun W => St w W [cBlk b_2 [I d.spring, I d.town] 62, cBlk b_1 [.pointer (some ⟨b_w_, 0, none⟩)] 72, cRx B_b_w__found, cMk ([])] R) [(0, true), (1, true), (2, true), (3, true), (4, true), (5, false), (6, true), (7, true), (8, true), (9, true), (10, true)] mixed (by decide +kernel) rfl ?_
  intro w3z hx_
  replace H := H.ext hx_
  clear hx_
  refine ⟨(H.pk [0, 1, 3, 4]), ?_⟩
  refine d_q rfl (fun w' H => x_ld (p := .pointer (some ⟨b_1, 0, none⟩)) (v := .pointer (some ⟨b_w_, 0, none⟩)) rfl (ldb_sc Sc72 (H.blk (k := 1) rfl) rfl)) ?_
  refine d_q rfl (fun w' H => x_nc (a := ⟨b_w_, 0, none⟩) rfl) ?_
  refine d_q rfl (fun w' H => x_fa (a := .pointer (some ⟨b_w_, 0, none⟩)) (v := .pointer (some ⟨b_w_, 7, none⟩)) rfl (fa_blk (o := 0) Fd86_1 Sz84)) ?_
  refine d_q rfl (fun w' H => x_ld (p := .pointer (some ⟨b_w_, 7, none⟩)) (v := .map (some b_w__found)) rfl (ldb_sc Sc84 (h_b_w_.blk H) rfl)) ?_
  refine d_q rfl (fun w' H => x_ld (p := .pointer (some ⟨b_2, 0, none⟩)) (v := .agg #[I d.spring, I d.town]) rfl (ldb_ag (ds := [I d.spring, I d.town]) Ag62 Sz62 (H.blk (k := 0) rfl) rfl rfl)) ?_
  refine d_l rfl ?_
  refine s_val (q_look (kenc := encDm) (venc := id) (f := fm_) (k := d) (z := .slice none 0 0) (v := .tuple #[.slice none 0 0, B false]) keyDem Try.underlying84 (by kernel_rfl) rfl rfl (H.get (k := 2) rfl) true (by simp [hf_])) ?_
  refine s_nil ⟨(H.pk [0, 1, 3, 4]), ?_⟩
  refine d_q rfl (fun w' H => x_mv (v := .tuple #[.slice none 0 0, B false]) rfl) ?_
  refine d_q rfl (fun w' H => x_ext (vs := [.slice none 0 0, B false]) (v := .slice none 0 0) rfl rfl) ?_
  refine d_q rfl (fun w' H => x_ext (vs := [.slice none 0 0, B false]) (v := B false) rfl rfl) ?_
  refine d_q rfl (fun w' H => x_as (v := .slice none 0 0) rfl) ?_
  refine d_q rfl (fun w' H => x_as (v := B false) rfl) ?_
  refine d_nil ?_
  refine WD.seq ?_
  refine WD.of ?_
  refine W.region rfl ?_
  refine s_val (x_mv (v := B false) rfl) ?_
  refine s_nil ?_
  refine WD.cond false rfl (fun c4z => ?_) (fun c4z => ?_)
  ·skip
   exact absurd c4z (by decide)
  skip
  refine WD.of ?_
  refine W.skip ?_
  refine WD.seq ?_
  refine WD.of ?_
  refine W.region rfl ?_
  refine t_alloc (cs := [.slice none 0 0]) H Al23 rfl ?_
  intro b_3 w5z H
  refine s_nil ?_
  refine WD.seq ?_
  refine WD.of ?_
  refine W.draw (fun W => St w W [cBlk b_3 [.slice none 0 0] 23, cBlk b_2 [I d.spring, I d.town] 62, cBlk b_1 [.pointer (some ⟨b_w_, 0, none⟩)] 72, cMap encDm id b_w__found fm_, cRx B_b_w__found, cMk ([])] R) [(0, true), (1, true), (2, true), (3, true), (4, true), (5, true), (6, true), (7, true), (8, true), (9, false), (10, false)] mixed (by decide +kernel) rfl ?_
  intro w6z hx_
  replace H := H.ext hx_
  clear hx_
  refine ⟨(H.pk [0, 1, 2, 3, 4, 5]), ?_⟩
  refine d_q rfl (fun w' H => x_ld (p := .pointer (some ⟨b_1, 0, none⟩)) (v := .pointer (some ⟨b_w_, 0, none⟩)) rfl (ldb_sc Sc72 (H.blk (k := 2) rfl) rfl)) ?_
  refine d_q rfl (fun w' H => x_nc (a := ⟨b_w_, 0, none⟩) rfl) ?_
  refine d_q rfl (fun w' H => x_fa (a := .pointer (some ⟨b_w_, 0, none⟩)) (v := .pointer (some ⟨b_w_, 0, none⟩)) rfl (fa_blk (o := 0) Fd86_0 Sz30)) ?_
  refine d_q rfl (fun w' H => x_fa (a := .pointer (some ⟨b_w_, 0, none⟩)) (v := .pointer (some ⟨b_w_, 3, none⟩)) rfl (fa_blk (o := 0) Fd30_3 Sz25)) ?_
  refine d_q rfl (fun w' H => x_ld (p := .pointer (some ⟨b_w_, 3, none⟩)) (v := v_w__River_Towns) rfl (ldb_sc Sc25 (h_b_w_.blk H) rfl)) ?_
  refine d_q rfl (fun w' H => x_fa (a := .pointer (some ⟨b_2, 0, none⟩)) (v := .pointer (some ⟨b_2, 1, none⟩)) rfl (fa_blk (o := 0) Fd62_1 Sz3)) ?_
  refine d_q rfl (fun w' H => x_ld (p := .pointer (some ⟨b_2, 1, none⟩)) (v := I d.town) rfl (ldb_sc Sc3 (H.blk (k := 1) rfl) rfl)) ?_
  obtain ⟨sd7z, hM⟩ := M.e_grd hM
  simp only [Bool.and_eq_true, decide_eq_true_eq] at sd7z
  refine d_q rfl (fun w' H => x_ix (a := v_w__River_Towns) (b := I d.town) (v := vat v_w__River_Towns 3 (Int.toNat d.town)) rfl rfl (Sl.ix (α := Town) T25.und T25.size hs_w__River_Towns (by omega) (by omega))) ?_
  refine d_q rfl (fun w' H => x_ld (p := vat v_w__River_Towns 3 (Int.toNat d.town)) (v := .agg #[I ((w__River_Towns.getD (Int.toNat d.town) default).station), I ((w__River_Towns.getD (Int.toNat d.town) default).lead), I ((w__River_Towns.getD (Int.toNat d.town) default).alarm)]) rfl (ld_ag Ag54 Sz54 (At.mono (Town_atA hs_w__River_Towns (i := d.town) (by omega) (by omega)) (hC_w__River_Towns.at H)))) ?_
  refine d_l rfl ?_
  refine t_alloc (cs := [I 0, I 0, I 0]) H Al54 rfl ?_
  intro b_4 w8z H
  refine s_nil ⟨(H.pk [1, 2, 3, 4, 5, 6]), ?_⟩
  refine d_l rfl ?_
  refine t_sw 0 0 [I ((w__River_Towns.getD (Int.toNat d.town) default).station), I ((w__River_Towns.getD (Int.toNat d.town) default).lead), I ((w__River_Towns.getD (Int.toNat d.town) default).alarm)] (.agg #[I ((w__River_Towns.getD (Int.toNat d.town) default).station), I ((w__River_Towns.getD (Int.toNat d.town) default).lead), I ((w__River_Towns.getD (Int.toNat d.town) default).alarm)]) H rfl rfl Sz54 rfl rfl rfl rfl ?_
  intro w9z H
  refine s_nil ⟨(H.pk [1, 2, 3, 4, 5, 6]), ?_⟩
  refine d_nil ?_
  refine WD.seq ?_
  refine WD.seq ?_
  refine WD.of ?_
  refine W.draw (fun W => St w W [cBlk b_4 [I ((w__River_Towns.getD (Int.toNat d.town) default).station), I ((w__River_Towns.getD (Int.toNat d.town) default).lead), I ((w__River_Towns.getD (Int.toNat d.town) default).alarm)] 54, cBlk b_3 [.slice none 0 0] 23, cBlk b_2 [I d.spring, I d.town] 62, cBlk b_1 [.pointer (some ⟨b_w_, 0, none⟩)] 72, cMap encDm id b_w__found fm_, cRx B_b_w__found, cMk ([])] R) [(0, true), (1, true), (2, true), (3, true), (4, true), (5, true), (6, false)] mixed (by decide +kernel) rfl ?_
  intro w10z hx_
  replace H := H.ext hx_
  clear hx_
  refine ⟨(H.pk [0, 1, 2, 3, 4, 5, 6]), ?_⟩
  refine d_q rfl (fun w' H => x_ld (p := .pointer (some ⟨b_1, 0, none⟩)) (v := .pointer (some ⟨b_w_, 0, none⟩)) rfl (ldb_sc Sc72 (H.blk (k := 3) rfl) rfl)) ?_
  refine d_q rfl (fun w' H => x_nc (a := ⟨b_w_, 0, none⟩) rfl) ?_
  refine d_q rfl (fun w' H => x_fa (a := .pointer (some ⟨b_w_, 0, none⟩)) (v := .pointer (some ⟨b_w_, 0, none⟩)) rfl (fa_blk (o := 0) Fd86_0 Sz30)) ?_
  refine d_q rfl (fun w' H => x_ld (p := .pointer (some ⟨b_w_, 0, none⟩)) (v := .agg #[v_w__River_Down, v_w__River_Travel, v_w__River_Springs, v_w__River_Towns, I w__River_Delay_Lo, I w__River_Delay_Hi, v_w__River_Floods]) rfl (ldb_ag (ds := [v_w__River_Down, v_w__River_Travel, v_w__River_Springs, v_w__River_Towns, I w__River_Delay_Lo, I w__River_Delay_Hi, v_w__River_Floods]) Ag30 Sz30 (h_b_w_.blk H) rfl rfl)) ?_
  refine d_q rfl (fun w' H => x_fa (a := .pointer (some ⟨b_2, 0, none⟩)) (v := .pointer (some ⟨b_2, 0, none⟩)) rfl (fa_blk (o := 0) Fd62_0 Sz3)) ?_
  refine d_q rfl (fun w' H => x_ld (p := .pointer (some ⟨b_2, 0, none⟩)) (v := I d.spring) rfl (ldb_sc Sc3 (H.blk (k := 2) rfl) rfl)) ?_
  refine d_l rfl ?_
  obtain ⟨r12z, hx11z, hM⟩ := M.e_bind hM
  refine s_call cf46 [.agg #[v_w__River_Down, v_w__River_Travel, v_w__River_Springs, v_w__River_Towns, I w__River_Delay_Lo, I w__River_Delay_Hi, v_w__River_Floods], I d.spring] rfl (za7 w__River_Down w__River_Travel w__River_Springs w__River_Towns w__River_Delay_Lo w__River_Delay_Hi w__River_Floods d.spring (hC_w__River_Down.app _) hs_w__River_Down (hC_w__River_Travel.app _) hs_w__River_Travel (hC_w__River_Springs.app _) hs_w__River_Springs (hC_w__River_Towns.app _) hs_w__River_Towns (hC_w__River_Floods.app _) hs_w__River_Floods hx11z _ (H.gt 7)) ?_
  rintro vq w13z ⟨r00, r14, r15, nb0_5, nb1_6, hr14z, hvq, H2_⟩
  subst hr14z
  subst vq
  try dsimp only at hM
  replace H := H.bk H2_
  clear H2_
  refine s_nil ⟨(H.pk [2, 3, 4, 5, 6, 7, 8]), ?_⟩
  refine d_nil ?_
  refine WD.block ?_
  replace H := H.nilOwn (α := Int) 3
  obtain ⟨t15z, hx16z, hM⟩ := M.e_bind hM
  refine WD.range (L := [cOwn (α := Int) 3 (.slice none 0 0) ([]), cBlk b_3 [(.slice none 0 0)] 23, cBlk nb1_6 [v_w__River_Down, v_w__River_Travel, v_w__River_Springs, v_w__River_Towns, I r14, I r15, v_w__River_Floods] 30, cBlk b_4 [I ((w__River_Towns.getD (Int.toNat d.town) default).station), I ((w__River_Towns.getD (Int.toNat d.town) default).lead), I ((w__River_Towns.getD (Int.toNat d.town) default).alarm)] 54, cBlk b_2 [I d.spring, I d.town] 62, cBlk b_1 [.pointer (some ⟨b_w_, 0, none⟩)] 72, cMap encDm id b_w__found fm_, cRx B_b_w__found, cBlk nb0_5 [I r00] 3]) [.pointer (some ⟨nb0_5, 0, none⟩), .pointer (some ⟨nb1_6, 0, none⟩)] (H.pk [9, 0, 4, 2, 3, 5, 6, 7, 8, 1]) rfl cf67 ?_
  intro l17z D18z r19z w20z hr21z H
  have hYC : YieldC Try.prog ([cMk (D18z :: ([])), cBlk nb1_6 [v_w__River_Down, v_w__River_Travel, v_w__River_Springs, v_w__River_Towns, I r14, I r15, v_w__River_Floods] 30, cBlk b_4 [I ((w__River_Towns.getD (Int.toNat d.town) default).station), I ((w__River_Towns.getD (Int.toNat d.town) default).lead), I ((w__River_Towns.getD (Int.toNat d.town) default).alarm)] 54, cBlk b_2 [I d.spring, I d.town] 62, cBlk b_1 [.pointer (some ⟨b_w_, 0, none⟩)] 72, cMap encDm id b_w__found fm_, cRx B_b_w__found] ++ R) arII (yJ l17z r19z (fun l Ls_ => ∃ (v_l : Value), Ls_ = [cOwn (α := Int) 3 v_l l, cBlk b_3 [v_l] 23]) (fun (_ : Unit) _ => False) (fun _ => .ret)) (.func (.yield l17z) #[] #[]) (M.yl (zaF w__River_Down w__River_Travel w__River_Springs w__River_Towns w__River_Delay_Lo w__River_Delay_Hi w__River_Floods d)) := by
   refine YieldC.mk hr21z (fun l Ls_ => ∃ (v_l : Value), Ls_ = [cOwn (α := Int) 3 v_l l, cBlk b_3 [v_l] 23]) (fun (_ : Unit) _ => False) (fun _ => .ret) (zaF w__River_Down w__River_Travel w__River_Springs w__River_Towns w__River_Delay_Lo w__River_Delay_Hi w__River_Floods d) (by rintro l _ h_; obtain ⟨_, rfl⟩ := h_; rfl) (fun _ _ h_ => h_.elim) rfl (arII_len rfl) ?_
   intro C_ vs_ x_ W_ hA_
   obtain ⟨x, x2⟩ := x_
   obtain rfl := hA_
   refine W.region rfl ?_
   refine s_val (x_as (v := I x2) rfl) ?_
   refine s_nil ?_
   refine ⟨rfl, rfl, ?_⟩
   intro w R hR_ Ls_ s_ r hY_ hM H
   skip
   obtain ⟨l, hs_eq_⟩ : ∃ y_, y_ = s_ := ⟨_, rfl⟩
   subst hs_eq_
   obtain ⟨v_l, rfl⟩ := hY_
   replace hC_w__River_Down := hC_w__River_Down.sub hR_
   replace hC_w__River_Travel := hC_w__River_Travel.sub hR_
   replace hC_w__River_Springs := hC_w__River_Springs.sub hR_
   replace hC_w__River_Towns := hC_w__River_Towns.sub hR_
   replace hC_w__River_Floods := hC_w__River_Floods.sub hR_
   replace h_b_w_ := h_b_w_.sub hR_
   replace hM : (zaF w__River_Down w__River_Travel w__River_Springs w__River_Towns w__River_Delay_Lo w__River_Delay_Hi w__River_Floods d l (x, x2)).Ends r := hM
   simp only [zaF] at hM
   replace H := H.pk [0, 1, 3, 4, 5, 6, 7, 8, 2]
   refine W.block ?_
   refine W.seq ?_
   refine W.region rfl ?_
   refine s_val (x_ld (p := .pointer (some ⟨b_1, 0, none⟩)) (v := .pointer (some ⟨b_w_, 0, none⟩)) rfl (ldb_sc Sc72 (H.blk (k := 5) rfl) rfl)) ?_
   refine s_val (x_mv (v := I x2) rfl) ?_
   refine s_val (x_fa (a := .pointer (some ⟨b_4, 0, none⟩)) (v := .pointer (some ⟨b_4, 0, none⟩)) rfl (fa_blk (o := 0) Fd54_0 Sz3)) ?_
   refine s_val (x_ld (p := .pointer (some ⟨b_4, 0, none⟩)) (v := I ((w__River_Towns.getD (Int.toNat d.town) default).station)) rfl (ldb_sc Sc3 (H.blk (k := 3) rfl) rfl)) ?_
   obtain ⟨r23z, hx22z, hM⟩ := M.e_bind hM
   refine s_call cf47 [.pointer (some ⟨b_w_, 0, none⟩), I x2, I ((w__River_Towns.getD (Int.toNat d.town) default).station)] rfl (zbH w__River_Down w__River_Travel w__River_Springs w__River_Towns w__River_Delay_Lo w__River_Delay_Hi w__River_Floods x2 ((w__River_Towns.getD (Int.toNat d.town) default).station) (hC_w__River_Down.app _) hs_w__River_Down (hC_w__River_Travel.app _) hs_w__River_Travel (hC_w__River_Springs.app _) hs_w__River_Springs (hC_w__River_Towns.app _) hs_w__River_Towns (hC_w__River_Floods.app _) hs_w__River_Floods (h_b_w_.app _) hx22z _ (H.gt 9)) ?_
   rintro vq w24z ⟨r002, r01, r1, hr25z, hvq, H2_⟩
   subst hr25z
   subst vq
   try dsimp only at hM
   replace H := H.bk H2_
   clear H2_
   refine s_val (x_mv (v := .tuple #[.agg #[I r002, I r01], B r1]) rfl) ?_
   refine s_val (x_ext (vs := [.agg #[I r002, I r01], B r1]) (v := .agg #[I r002, I r01]) rfl rfl) ?_
   refine s_val (x_ext (vs := [.agg #[I r002, I r01], B r1]) (v := B r1) rfl rfl) ?_
   refine t_alloc (cs := [I 0, I 0]) H Al27 rfl ?_
   intro b_7 w26z H
   refine t_sw 0 0 [I r002, I r01] (.agg #[I r002, I r01]) H rfl rfl Sz27 rfl rfl rfl rfl ?_
   intro w27z H
   refine s_val (x_as (v := B r1) rfl) ?_
   refine s_nil ?_
   refine W.seq ?_
   refine W.draw (fun W => St w W [cBlk b_7 [I r002, I r01] 27, cOwn (α := Int) 3 v_l l, cBlk b_3 [v_l] 23, cBlk nb1_6 [v_w__River_Down, v_w__River_Travel, v_w__River_Springs, v_w__River_Towns, I r14, I r15, v_w__River_Floods] 30, cBlk b_4 [I ((w__River_Towns.getD (Int.toNat d.town) default).station), I ((w__River_Towns.getD (Int.toNat d.town) default).lead), I ((w__River_Towns.getD (Int.toNat d.town) default).alarm)] 54, cBlk b_2 [I d.spring, I d.town] 62, cBlk b_1 [.pointer (some ⟨b_w_, 0, none⟩)] 72, cMap encDm id b_w__found fm_, cRx B_b_w__found, cMk (D18z :: ([]))] R) [(0, true), (1, true), (2, true), (3, true), (4, true), (5, true), (6, true), (7, true), (8, true), (9, true), (10, true), (11, true), (12, true), (13, true), (14, true)] mixed (by decide +kernel) rfl ?_
   intro w28z hx_
   replace H := H.ext hx_
   clear hx_
   refine ⟨(H.pk [0, 1, 2, 3, 4, 5, 6, 7, 8, 9]), ?_⟩
   refine d_q rfl (fun w' H => x_mv (v := B r1) rfl) ?_
   refine d_q rfl (fun w' H => x_mv (v := B r1) rfl) ?_
   refine d_qg r1 rfl (gy_t rfl) (fun hg => (fun w' H => x_fa (a := .pointer (some ⟨b_7, 0, none⟩)) (v := .pointer (some ⟨b_7, 0, none⟩)) rfl (fa_blk (o := 0) Fd27_0 Sz3))) ?_
   refine d_qg r1 rfl (gy_t rfl) (fun hg => (fun w' H => x_ld (p := .pointer (some ⟨b_7, 0, none⟩)) (v := I r002) (gd_of (c := r1) hg (.pointer (some ⟨b_7, 0, none⟩))) (ldb_sc Sc3 (H.blk (k := 0) rfl) rfl))) ?_
   refine d_qg r1 rfl (gy_t rfl) (fun hg => (fun w' H => x_fa (a := .pointer (some ⟨b_4, 0, none⟩)) (v := .pointer (some ⟨b_4, 1, none⟩)) rfl (fa_blk (o := 0) Fd54_1 Sz3))) ?_
   refine d_qg r1 rfl (gy_t rfl) (fun hg => (fun w' H => x_ld (p := .pointer (some ⟨b_4, 1, none⟩)) (v := I ((w__River_Towns.getD (Int.toNat d.town) default).lead)) (gd_of (c := r1) hg (.pointer (some ⟨b_4, 1, none⟩))) (ldb_sc Sc3 (H.blk (k := 4) rfl) rfl))) ?_
   refine d_qg r1 rfl (gy_t rfl) (fun hg => (fun w' H => x_ld (p := .pointer (some ⟨b_1, 0, none⟩)) (v := .pointer (some ⟨b_w_, 0, none⟩)) rfl (ldb_sc Sc72 (H.blk (k := 6) rfl) rfl))) ?_
   refine d_qg r1 rfl (gy_t rfl) (fun hg => (fun w' H => x_nc (a := ⟨b_w_, 0, none⟩) (gd_of (c := r1) hg (.pointer (some ⟨b_w_, 0, none⟩))))) ?_
   refine d_qg r1 rfl (gy_t rfl) (fun hg => (fun w' H => x_fa (a := .pointer (some ⟨b_w_, 0, none⟩)) (v := .pointer (some ⟨b_w_, 0, none⟩)) (gd_of (c := r1) hg (.pointer (some ⟨b_w_, 0, none⟩))) (fa_blk (o := 0) Fd86_0 Sz30))) ?_
   refine d_qg r1 rfl (gy_t rfl) (fun hg => (fun w' H => x_fa (a := .pointer (some ⟨b_w_, 0, none⟩)) (v := .pointer (some ⟨b_w_, 4, none⟩)) (gd_of (c := r1) hg (.pointer (some ⟨b_w_, 0, none⟩))) (fa_blk (o := 0) Fd30_4 Sz27))) ?_
   refine d_qg r1 rfl (gy_t rfl) (fun hg => (fun w' H => x_fa (a := .pointer (some ⟨b_w_, 4, none⟩)) (v := .pointer (some ⟨b_w_, 5, none⟩)) (gd_of (c := r1) hg (.pointer (some ⟨b_w_, 4, none⟩))) (fa_blk (o := 4) Fd27_1 Sz3))) ?_
   refine d_qg r1 rfl (gy_t rfl) (fun hg => (fun w' H => x_ld (p := .pointer (some ⟨b_w_, 5, none⟩)) (v := I w__River_Delay_Hi) (gd_of (c := r1) hg (.pointer (some ⟨b_w_, 5, none⟩))) (ldb_sc Sc3 (h_b_w_.blk H) rfl))) ?_
   obtain ⟨sd29z, hM⟩ := M.e_grd hM
   replace sd29z := M.imp_of sd29z
   simp only [Bool.and_eq_true, decide_eq_true_eq] at sd29z
   refine d_qg r1 rfl (gy_t rfl) (fun hg => (fun w' H => x_ari (a := (w__River_Towns.getD (Int.toNat d.town) default).lead) (b := w__River_Delay_Hi) (r := ((w__River_Towns.getD (Int.toNat d.town) default).lead) + w__River_Delay_Hi) (gd_of (c := r1) hg (I ((w__River_Towns.getD (Int.toNat d.town) default).lead))) (gd_of (c := r1) hg (I w__River_Delay_Hi)) rfl (by have h1_ := sd29z.resolve_left (by rw [hg]; decide); first | exact h1_ | exact h1_.1 | exact h1_.2 | omega | (have hx_ := hg; simp at hx_; omega)))) ?_
   refine d_qg r1 rfl (gy_t rfl) (fun hg => (fun w' H => x_cmp (kd := .i64) (a := r002) (b := ((w__River_Towns.getD (Int.toNat d.town) default).lead) + w__River_Delay_Hi) (r := decide ((((w__River_Towns.getD (Int.toNat d.town) default).lead) + w__River_Delay_Hi) <= r002)) (gd_of (c := r1) hg (I r002)) (gd_of (c := r1) hg (I (((w__River_Towns.getD (Int.toNat d.town) default).lead) + w__River_Delay_Hi))) rfl)) ?_
   refine d_q rfl (fun w' H => x_pand (b := r1) (r := decide ((((w__River_Towns.getD (Int.toNat d.town) default).lead) + w__River_Delay_Hi) <= r002)) rfl (fun hb => gd_of (c := r1) (by first | exact hb | (rw [hb]; rfl) | simp_all) (B (decide ((((w__River_Towns.getD (Int.toNat d.town) default).lead) + w__River_Delay_Hi) <= r002)))) rfl) ?_
   refine d_nil ?_
   refine W.cond (r1 && (decide ((((w__River_Towns.getD (Int.toNat d.town) default).lead) + w__River_Delay_Hi) <= r002))) rfl (fun c30z => ?_) (fun c30z => ?_)
   ·replace hM := M.e_t hM c30z
    refine W.region rfl ?_
    refine s_val (x_ld (p := .pointer (some ⟨b_3, 0, none⟩)) (v := v_l) rfl (ldb_sc Sc23 (H.blk (k := 2) rfl) rfl)) ?_
    refine s_val (x_mv (v := I x2) rfl) ?_
    refine t_bs (α := Int) T23 [I x2] [(x2 : Int)] H rfl (.cons rfl (Flat.rep_enc _ (x2 : Int)) <| .nil) rfl rfl rfl ?_
    intro v31z w32z H
    obtain ⟨sd33z, hM⟩ := M.e_grd hM
    simp only [Bool.and_eq_true, decide_eq_true_eq] at sd33z
    refine t_app (α := Int) (k := 2) (l := l) (l2 := [(x2 : Int)]) (l' := l ++ ([(x2 : Int)])) (vy := v31z) T23 rfl H rfl rfl rfl (ownSl (H.get (k := 0) rfl)) (ownLe _ (H.get (k := 0) rfl)) (rfl) (by first | omega | (simp only [List.length_nil] at *; omega)) ?_
    intro v34z w35z H
    replace H := H.nf
    refine t_sw 3 0 [v34z] v34z H rfl rfl Sz23 (Sl.cells (ownSl (H.get (k := 2) rfl))) rfl rfl (by simp only [List.all_cons, List.all_nil, Bool.true_and, Bool.and_true, Sl.oc (ownSl (H.get (k := 2) rfl))]; try rfl) ?_
    intro w36z H
    refine s_nil ?_
    exact ⟨l ++ ([(x2 : Int)]), [cOwn (α := Int) 3 v34z (l ++ ([(x2 : Int)])), cBlk b_3 [v34z] 23], (M.e_pure hM).symm, ⟨v34z, rfl⟩, H.pick [2, 3, 10, 4, 5, 6, 7, 8, 9] (by decide) rfl⟩
   replace hM := M.e_f hM c30z
   refine W.skip ?_
   exact ⟨l, [cOwn (α := Int) 3 v_l l, cBlk b_3 [v_l] 23], (M.e_pure hM).symm, ⟨v_l, rfl⟩, H.pick [1, 2, 9, 3, 4, 5, 6, 7, 8] (by decide) rfl⟩
  replace H : St w w20z (cAll (cObj l17z (.loop r19z) :: [cOwn (α := Int) 3 (.slice none 0 0) ([]), cBlk b_3 [(.slice none 0 0)] 23]) :: [cBlk nb0_5 [I r00] 3, cMk (D18z :: ([])), cBlk nb1_6 [v_w__River_Down, v_w__River_Travel, v_w__River_Springs, v_w__River_Towns, I r14, I r15, v_w__River_Floods] 30, cBlk b_4 [I ((w__River_Towns.getD (Int.toNat d.town) default).station), I ((w__River_Towns.getD (Int.toNat d.town) default).lead), I ((w__River_Towns.getD (Int.toNat d.town) default).alarm)] 54, cBlk b_2 [I d.spring, I d.town] 62, cBlk b_1 [.pointer (some ⟨b_w_, 0, none⟩)] 72, cMap encDm id b_w__found fm_, cRx B_b_w__found]) R := St.bundleB (A := cObj l17z (.loop r19z) :: [cOwn (α := Int) 3 (.slice none 0 0) ([]), cBlk b_3 [(.slice none 0 0)] 23]) (T := [cBlk nb0_5 [I r00] 3, cMk (D18z :: ([])), cBlk nb1_6 [v_w__River_Down, v_w__River_Travel, v_w__River_Springs, v_w__River_Towns, I r14, I r15, v_w__River_Floods] 30, cBlk b_4 [I ((w__River_Towns.getD (Int.toNat d.town) default).station), I ((w__River_Towns.getD (Int.toNat d.town) default).lead), I ((w__River_Towns.getD (Int.toNat d.town) default).alarm)] 54, cBlk b_2 [I d.spring, I d.town] 62, cBlk b_1 [.pointer (some ⟨b_w_, 0, none⟩)] 72, cMap encDm id b_w__found fm_, cRx B_b_w__found]) rfl (H.pk [0, 2, 3, 10, 1, 4, 5, 6, 7, 8, 9])
  refine (za4 (M.yl (zaF w__River_Down w__River_Travel w__River_Springs w__River_Towns w__River_Delay_Lo w__River_Delay_Hi w__River_Floods d)) (.inl ([])) r00 w__River_Down w__River_Travel w__River_Springs w__River_Towns r14 r15 w__River_Floods hYC ⟨_, rfl, ⟨(.slice none 0 0), rfl⟩⟩ (hC_w__River_Down.app _) hs_w__River_Down (hC_w__River_Travel.app _) hs_w__River_Travel (hC_w__River_Springs.app _) hs_w__River_Springs (hC_w__River_Towns.app _) hs_w__River_Towns (hC_w__River_Floods.app _) hs_w__River_Floods (Has.here (k := 1) rfl) hx16z _ (H.gt 7)).mono ?_
  rintro vq w37z ⟨t41z, q0, Ls39z, hq42z, hvq, H2_, hY40z⟩
  subst hq42z
  replace H := H.back H2_ rfl
  clear H2_ hYC
  rcases t41z with l | _
  ·try dsimp only at hM
   obtain ⟨_, rfl, v_l, rfl⟩ := hY40z
   refine ⟨_, [cOwn (α := Int) 3 v_l l, cBlk b_3 [v_l] 23, cBlk nb1_6 [v_w__River_Down, v_w__River_Travel, v_w__River_Springs, v_w__River_Towns, I r14, I r15, v_w__River_Floods] 30, cBlk b_4 [I ((w__River_Towns.getD (Int.toNat d.town) default).station), I ((w__River_Towns.getD (Int.toNat d.town) default).lead), I ((w__River_Towns.getD (Int.toNat d.town) default).alarm)] 54, cBlk b_2 [I d.spring, I d.town] 62, cBlk b_1 [.pointer (some ⟨b_w_, 0, none⟩)] 72, cMap encDm id b_w__found fm_, cRx B_b_w__found, cBlk nb0_5 [I q0] 3], H.unbundle.pick [0, 4, 1, 2, 5, 6, 7, 8, 9, 10, 3] (by decide) rfl, hr21z.nb, ?_⟩
   intro w38z H
   rw [hr21z.pd]
   replace H := H.nf
   try simp only []
   replace H := H.pk [0, 1, 2, 5, 6, 7, 8]
   refine WD.seq ?_
   refine WD.of ?_
   refine W.draw (fun W => St w W [cMk (D18z :: ([])), cOwn (α := Int) 3 v_l l, cBlk b_3 [v_l] 23, cBlk b_2 [I d.spring, I d.town] 62, cBlk b_1 [.pointer (some ⟨b_w_, 0, none⟩)] 72, cRx B_b_w__found] R) [(0, true), (1, true), (2, true), (3, true), (4, true), (5, true), (6, false)] mixed (by decide +kernel) rfl ?_
   intro w43z hx_
   replace H := H.ext hx_
   clear hx_
   refine ⟨(H.pk [0, 1, 2, 3, 4, 6]), ?_⟩
   refine d_q rfl (fun w' H => x_ld (p := .pointer (some ⟨b_1, 0, none⟩)) (v := .pointer (some ⟨b_w_, 0, none⟩)) rfl (ldb_sc Sc72 (H.blk (k := 4) rfl) rfl)) ?_
   refine d_q rfl (fun w' H => x_nc (a := ⟨b_w_, 0, none⟩) rfl) ?_
   refine d_q rfl (fun w' H => x_fa (a := .pointer (some ⟨b_w_, 0, none⟩)) (v := .pointer (some ⟨b_w_, 7, none⟩)) rfl (fa_blk (o := 0) Fd86_1 Sz84)) ?_
   refine d_q rfl (fun w' H => x_ld (p := .pointer (some ⟨b_w_, 7, none⟩)) (v := .map (some b_w__found)) rfl (ldb_sc Sc84 (h_b_w_.blk H) rfl)) ?_
   refine d_q rfl (fun w' H => x_ld (p := .pointer (some ⟨b_2, 0, none⟩)) (v := .agg #[I d.spring, I d.town]) rfl (ldb_ag (ds := [I d.spring, I d.town]) Ag62 Sz62 (H.blk (k := 3) rfl) rfl rfl)) ?_
   refine d_q rfl (fun w' H => x_ld (p := .pointer (some ⟨b_3, 0, none⟩)) (v := v_l) rfl (ldb_sc Sc23 (H.blk (k := 2) rfl) rfl)) ?_
   refine d_l rfl ?_
   refine t_mapu (i := 5) (kenc := encDm) (venc := id) (f := fm_) (k := d) (v := v_l) (L' := [cMk (D18z :: ([])), cOwn (α := Int) 3 v_l l, cBlk b_3 [v_l] 23, cBlk b_2 [I d.spring, I d.town] 62, cBlk b_1 [.pointer (some ⟨b_w_, 0, none⟩)] 72, cMap encDm id b_w__found (updF fm_ d v_l), cRx B_b_w__found]) keyDem Try.underlying84 H rfl rfl rfl rfl rfl ?_
   intro w44z H
   refine s_nil ⟨(H.pk [0, 1, 2, 3, 4, 6]), ?_⟩
   refine d_nil ?_
   replace H := H.pk [0, 1, 2, 5, 6]
   refine WD.seq ?_
   refine WD.of ?_
   refine W.region rfl ?_
   refine s_val (x_ld (p := .pointer (some ⟨b_3, 0, none⟩)) (v := v_l) rfl (ldb_sc Sc23 (H.blk (k := 2) rfl) rfl)) ?_
   refine s_val (x_as (v := v_l) rfl) ?_
   refine s_nil ?_
   refine WD.of ?_
   refine W.ret ?_
   refine bodyD_r (H.pk [0, 1, 2, 3, 4]) ?_
   intro w45z H
   replace H := H.nf
   obtain ⟨Bm1_, le47z, hs46z, H⟩ := St.memShut1 (H.pk [2, 3, 0, 1]) hF_ (by rw [M.e_pure hM]; exact hM0)
   replace H := H.nf
   have hr_ := M.e_pure hM
   exact ⟨_, resE_tmp rfl, ⟨l, v_l, Bm1_, hr_, rfl, (H.pk [0]), hs46z⟩⟩
  obtain ⟨_, _, h_⟩ := hY40z; exact h_.elim
 | some vm_ =>
  obtain ⟨lm_, he_, hs_⟩ := hF_ d vm_ hf_
  obtain rfl := M.Ends.det he_ hM0
  replace hM : (M.pure lm_).Ends lm_ := M.i_pure
  refine WD.seq ?_
  refine WD.of ?_
  refine W.region rfl ?_
  refine t_box (v := .pointer (some ⟨b_w_, 0, none⟩)) (cs := [.pointer (some ⟨b_w_, 0, none⟩)]) H rfl rfl ?_
  intro b_1 w48z H
  refine t_box (v := .agg #[I d.spring, I d.town]) (cs := [I d.spring, I d.town]) H rfl rfl ?_
  intro b_2 w49z H
  refine s_val (x_as (v := .slice none 0 0) rfl) ?_
  refine s_nil ?_
  refine WD.seq ?_
  refine WD.seq ?_
  refine WD.of ?_
  refine W.draw (fun W => St w W [cBlk b_2 [I d.spring, I d.town] 62, cBlk b_1 [.pointer (some ⟨b_w_, 0, none⟩)] 72, cRx B_b_w__found, cMk ([])] R) [(0, true), (1, true), (2, true), (3, true), (4, true), (5, false), (6, true), (7, true), (8, true), (9, true), (10, true)] mixed (by decide +kernel) rfl ?_
  intro w50z hx_
  replace H := H.ext hx_
  clear hx_
  refine ⟨(H.pk [0, 1, 3, 4]), ?_⟩
  refine d_q rfl (fun w' H => x_ld (p := .pointer (some ⟨b_1, 0, none⟩)) (v := .pointer (some ⟨b_w_, 0, none⟩)) rfl (ldb_sc Sc72 (H.blk (k := 1) rfl) rfl)) ?_
  refine d_q rfl (fun w' H => x_nc (a := ⟨b_w_, 0, none⟩) rfl) ?_
  refine d_q rfl (fun w' H => x_fa (a := .pointer (some ⟨b_w_, 0, none⟩)) (v := .pointer (some ⟨b_w_, 7, none⟩)) rfl (fa_blk (o := 0) Fd86_1 Sz84)) ?_
  refine d_q rfl (fun w' H => x_ld (p := .pointer (some ⟨b_w_, 7, none⟩)) (v := .map (some b_w__found)) rfl (ldb_sc Sc84 (h_b_w_.blk H) rfl)) ?_
  refine d_q rfl (fun w' H => x_ld (p := .pointer (some ⟨b_2, 0, none⟩)) (v := .agg #[I d.spring, I d.town]) rfl (ldb_ag (ds := [I d.spring, I d.town]) Ag62 Sz62 (H.blk (k := 0) rfl) rfl rfl)) ?_
  refine d_l rfl ?_
  refine s_val (q_look (kenc := encDm) (venc := id) (f := fm_) (k := d) (z := .slice none 0 0) (v := .tuple #[vm_, B true]) keyDem Try.underlying84 (by kernel_rfl) rfl rfl (H.get (k := 2) rfl) true (by simp [hf_])) ?_
  refine s_nil ⟨(H.pk [0, 1, 3, 4]), ?_⟩
  refine d_q rfl (fun w' H => x_mv (v := .tuple #[vm_, B true]) rfl) ?_
  refine d_q rfl (fun w' H => x_ext (vs := [vm_, B true]) (v := vm_) rfl rfl) ?_
  refine d_q rfl (fun w' H => x_ext (vs := [vm_, B true]) (v := B true) rfl rfl) ?_
  refine d_q rfl (fun w' H => x_as (v := vm_) rfl) ?_
  refine d_q rfl (fun w' H => x_as (v := B true) rfl) ?_
  refine d_nil ?_
  refine WD.seq ?_
  refine WD.of ?_
  refine W.region rfl ?_
  refine s_val (x_mv (v := B true) rfl) ?_
  refine s_nil ?_
  refine WD.cond true rfl (fun c51z => ?_) (fun c51z => ?_)
  ·skip
   refine WD.seq ?_
   refine WD.of ?_
   refine W.region rfl ?_
   refine s_val (x_mv (v := vm_) rfl) ?_
   refine s_val (x_as (v := vm_) rfl) ?_
   refine s_nil ?_
   replace H := H.pk [2, 3, 4]
   refine WD.of ?_
   refine W.ret ?_
   refine bodyD_r (H.pk [2, 0, 1]) ?_
   intro w52z H
   replace H := H.nf
   replace H := St.memShut (H.pk [0, 1]) hF_
   replace H := H.nf
   have hr_ := M.e_pure hM
   exact ⟨_, resE_tmp rfl, ⟨lm_, vm_, B_b_w__found, hr_, rfl, H, hs_⟩⟩
  skip
  exact absurd c51z (by decide)

def zaB (lo : Int) (hi : Int) : M (Int × Int) :=
  M.pure (lo, hi)
theorem zaY {R : List Chunk}  (lo : Int) (hi : Int)  {r : (Int × Int)} (hM : (zaB lo hi).Ends r) (w : World) (H : St w w [] R) : Ret Try.prog 43 #[I lo, I hi] w fun v w' => ∃ (y0 : Int) (y1 : Int), (y0, y1) = r /\ v = .agg #[I y0, I y1] /\ St w w' [] R := by
 refine ret_of_W Try.func43 rfl rfl rfl ?_
 refine W.seq ?_
 refine W.region rfl ?_
 refine t_alloc (cs := [I 0, I 0]) H Al27 rfl ?_
 intro b_1 w1z H
 refine s_nil ?_
 refine W.seq ?_
 refine W.region rfl ?_
 refine s_val (x_mv (v := I lo) rfl) ?_
 refine s_val (x_mv (v := I hi) rfl) ?_
 refine s_val (x_bld (ps := [(0, I lo), (1, I hi)]) (zs := [I 0, I 0]) (L' := [I lo, I hi]) rfl Try.underlying27 Al27 rfl (Bd27 Try.underlying27) (.cons (cs := [I lo]) rfl rfl rfl rfl rfl <| .cons (cs := [I hi]) rfl rfl rfl rfl rfl <| .nil)) ?_
 refine t_sw 0 0 [I lo, I hi] (.agg #[I lo, I hi]) H rfl rfl Sz27 rfl rfl rfl rfl ?_
 intro w2z H
 refine s_nil ?_
 refine W.ret ?_
 have hb3z := (H.blk (k := 0) rfl)
 have hr_ := M.e_pure hM
 exact ⟨_, (resE_of1 (v := .agg #[I lo, I hi]) rfl (.cell (v := .agg #[I lo, I hi]) rfl (run_loadVar_ag (ds := [I lo, I hi]) Ag27 Sz27 hb3z rfl rfl) <| .nil)), ⟨lo, hi, hr_, rfl, (H.pk [])⟩⟩

def zae (lead : Int) : M ((List Int) × (List Span) × (List Int) × (List Town) × Int × Int × (List Flood)) :=
  M.bind (zaB 5 6) fun (r0, r1) =>
  M.bind (zaB 2 4) fun (r02, r12) =>
  M.bind (zaB 3 5) fun (r03, r13) =>
  M.bind (zaB 1 2) fun (r04, r14) =>
  M.pure (([(2 : Int), (2 : Int), (3 : Int), (-1 : Int)]), ([(⟨(r0 : Int), (r1 : Int)⟩ : Span), (⟨(r02 : Int), (r12 : Int)⟩ : Span), (⟨(r03 : Int), (r13 : Int)⟩ : Span), (⟨(0 : Int), (0 : Int)⟩ : Span)]), ([(0 : Int), (1 : Int)]), ([(⟨(3 : Int), (lead : Int), (300 : Int)⟩ : Town)]), r04, r14, ([(⟨(0 : Int), ([(200 : Int), (250 : Int), (310 : Int)])⟩ : Flood), (⟨(1 : Int), ([(280 : Int), (240 : Int), (290 : Int)])⟩ : Flood), (⟨(0 : Int), ([(100 : Int), (260 : Int), (300 : Int)])⟩ : Flood)]))
theorem zaf {R : List Chunk}  (lead : Int)  {r : ((List Int) × (List Span) × (List Int) × (List Town) × Int × Int × (List Flood))} (hM : (zae lead).Ends r) (w : World) (H : St w w [] R) : Ret Try.prog 42 #[I lead] w fun v w' => ∃ (y0 : List Int) (y1 : List Span) (y2 : List Int) (y3 : List Town) (y4 : Int) (y5 : Int) (y6 : List Flood) (u0 : Value) (u1 : Value) (u2 : Value) (u3 : Value) (u4 : Value) (rr5 : List (Raw 1)) (Bs6 : Base), (y0, y1, y2, y3, y4, y5, y6) = r /\ v = .agg #[u0, u1, u2, u3, I y4, I y5, u4] /\ St w w' [cOwn (α := Int) 3 u0 y0, cOwn (α := Span) 27 u1 y1, cOwn (α := Int) 3 u2 y2, cOwn (α := Town) 54 u3 y3, cOwn (α := Raw 1) 67 u4 rr5, cRo Bs6] R /\ RepR (α := Flood) Bs6.cells rr5 y6 := by
 refine ret_of_W Try.func42 rfl rfl rfl ?_
 refine W.seq ?_
 refine W.region rfl ?_
 refine t_alloc (cs := [.slice none 0 0, .slice none 0 0, .slice none 0 0, .slice none 0 0, I 0, I 0, .slice none 0 0]) H Al30 rfl ?_
 intro b_1 w1z H
 refine s_nil ?_
 refine W.seq ?_
 refine W.region rfl ?_
 refine t_bs (α := Int) T23 [I 2, I 2, I 3, I (-1)] [(2 : Int), (2 : Int), (3 : Int), (-1 : Int)] H rfl (.cons rfl (Flat.rep_enc _ (2 : Int)) <| .cons rfl (Flat.rep_enc _ (2 : Int)) <| .cons rfl (Flat.rep_enc _ (3 : Int)) <| .cons rfl (Flat.rep_enc _ (-1 : Int)) <| .nil) rfl rfl rfl ?_
 intro v2z w3z H
 obtain ⟨r5z, hx4z, hM⟩ := M.e_bind hM
 refine s_call cf43 [I 5, I 6] rfl (zaY 5 6 hx4z _ (H.gt 2)) ?_
 rintro vq w6z ⟨r0, r1, hr7z, hvq, H2_⟩
 subst hr7z
 subst vq
 try dsimp only at hM
 replace H := H.bk H2_
 clear H2_
 obtain ⟨r9z, hx8z, hM⟩ := M.e_bind hM
 refine s_call cf43 [I 2, I 4] rfl (zaY 2 4 hx8z _ (H.gt 2)) ?_
 rintro vq w10z ⟨r02, r12, hr11z, hvq, H2_⟩
 subst hr11z
 subst vq
 try dsimp only at hM
 replace H := H.bk H2_
 clear H2_
 obtain ⟨r13z, hx12z, hM⟩ := M.e_bind hM
 refine s_call cf43 [I 3, I 5] rfl (zaY 3 5 hx12z _ (H.gt 2)) ?_
 rintro vq w14z ⟨r03, r13, hr15z, hvq, H2_⟩
 subst hr15z
 subst vq
 try dsimp only at hM
 replace H := H.bk H2_
 clear H2_
 refine s_val (x_bld (ps := []) (zs := [I 0, I 0]) (L' := [I 0, I 0]) rfl Try.underlying27 Al27 rfl (Bd27 Try.underlying27) (.nil)) ?_
 refine t_bs (α := Span) T24 [.agg #[I r0, I r1], .agg #[I r02, I r12], .agg #[I r03, I r13], .agg #[I 0, I 0]] [(⟨(r0 : Int), (r1 : Int)⟩ : Span), (⟨(r02 : Int), (r12 : Int)⟩ : Span), (⟨(r03 : Int), (r13 : Int)⟩ : Span), (⟨(0 : Int), (0 : Int)⟩ : Span)] H rfl (.cons rfl (Flat.rep_enc _ (⟨(r0 : Int), (r1 : Int)⟩ : Span)) <| .cons rfl (Flat.rep_enc _ (⟨(r02 : Int), (r12 : Int)⟩ : Span)) <| .cons rfl (Flat.rep_enc _ (⟨(r03 : Int), (r13 : Int)⟩ : Span)) <| .cons rfl (Flat.rep_enc _ (⟨(0 : Int), (0 : Int)⟩ : Span)) <| .nil) rfl rfl rfl ?_
 intro v16z w17z H
 refine t_bs (α := Int) T23 [I 0, I 1] [(0 : Int), (1 : Int)] H rfl (.cons rfl (Flat.rep_enc _ (0 : Int)) <| .cons rfl (Flat.rep_enc _ (1 : Int)) <| .nil) rfl rfl rfl ?_
 intro v18z w19z H
 refine s_val (x_mv (v := I lead) rfl) ?_
 refine s_val (x_bld (ps := [(0, I 3), (1, I lead), (2, I 300)]) (zs := [I 0, I 0, I 0]) (L' := [I 3, I lead, I 300]) rfl Try.underlying54 Al54 rfl (Bd54 Try.underlying54) (.cons (cs := [I 3]) rfl rfl rfl rfl rfl <| .cons (cs := [I lead]) rfl rfl rfl rfl rfl <| .cons (cs := [I 300]) rfl rfl rfl rfl rfl <| .nil)) ?_
 refine t_bs (α := Town) T25 [.agg #[I 3, I lead, I 300]] [(⟨(3 : Int), (lead : Int), (300 : Int)⟩ : Town)] H rfl (.cons rfl (Flat.rep_enc _ (⟨(3 : Int), (lead : Int), (300 : Int)⟩ : Town)) <| .nil) rfl rfl rfl ?_
 intro v20z w21z H
 obtain ⟨r23z, hx22z, hM⟩ := M.e_bind hM
 refine s_call cf43 [I 1, I 2] rfl (zaY 1 2 hx22z _ (H.gt 5)) ?_
 rintro vq w24z ⟨r04, r14, hr25z, hvq, H2_⟩
 subst hr25z
 subst vq
 try dsimp only at hM
 replace H := H.bk H2_
 clear H2_
 refine t_bs (α := Int) T23 [I 200, I 250, I 310] [(200 : Int), (250 : Int), (310 : Int)] H rfl (.cons rfl (Flat.rep_enc _ (200 : Int)) <| .cons rfl (Flat.rep_enc _ (250 : Int)) <| .cons rfl (Flat.rep_enc _ (310 : Int)) <| .nil) rfl rfl rfl ?_
 intro v26z w27z H
 refine s_val (x_bld (ps := [(0, I 0), (1, v26z)]) (zs := [I 0, .slice none 0 0]) (L' := [I 0, v26z]) rfl Try.underlying67 Al67 rfl (Bd67 Try.underlying67) (.cons (cs := [I 0]) rfl rfl rfl rfl rfl <| .cons (cs := [v26z]) (Sl.cells (ownSl (H.get (k := 0) rfl))) rfl rfl rfl rfl <| .nil)) ?_
 refine t_bs (α := Int) T23 [I 280, I 240, I 290] [(280 : Int), (240 : Int), (290 : Int)] H rfl (.cons rfl (Flat.rep_enc _ (280 : Int)) <| .cons rfl (Flat.rep_enc _ (240 : Int)) <| .cons rfl (Flat.rep_enc _ (290 : Int)) <| .nil) rfl rfl rfl ?_
 intro v28z w29z H
 refine s_val (x_bld (ps := [(0, I 1), (1, v28z)]) (zs := [I 0, .slice none 0 0]) (L' := [I 1, v28z]) rfl Try.underlying67 Al67 rfl (Bd67 Try.underlying67) (.cons (cs := [I 1]) rfl rfl rfl rfl rfl <| .cons (cs := [v28z]) (Sl.cells (ownSl (H.get (k := 0) rfl))) rfl rfl rfl rfl <| .nil)) ?_
 refine t_bs (α := Int) T23 [I 100, I 260, I 300] [(100 : Int), (260 : Int), (300 : Int)] H rfl (.cons rfl (Flat.rep_enc _ (100 : Int)) <| .cons rfl (Flat.rep_enc _ (260 : Int)) <| .cons rfl (Flat.rep_enc _ (300 : Int)) <| .nil) rfl rfl rfl ?_
 intro v30z w31z H
 refine s_val (x_bld (ps := [(0, I 0), (1, v30z)]) (zs := [I 0, .slice none 0 0]) (L' := [I 0, v30z]) rfl Try.underlying67 Al67 rfl (Bd67 Try.underlying67) (.cons (cs := [I 0]) rfl rfl rfl rfl rfl <| .cons (cs := [v30z]) (Sl.cells (ownSl (H.get (k := 0) rfl))) rfl rfl rfl rfl <| .nil)) ?_
 obtain ⟨Bs_9, H⟩ := H.emptyE
 obtain ⟨Bs_10, H, hs33z⟩ := H.freezeE (k := 3) rfl
 replace H := H.nf
 have hq32z := hs33z
 obtain ⟨Bs_11, H, le34z, le35z⟩ := H.joinE (i := 0) (j := 3) rfl rfl
 replace hq32z := hq32z.mono le35z
 obtain ⟨Bs_12, H, hs37z⟩ := H.freezeE (k := 3) rfl
 replace H := H.nf
 have hq36z := hs37z
 obtain ⟨Bs_13, H, le38z, le39z⟩ := H.joinE (i := 0) (j := 3) rfl rfl
 replace hq32z := hq32z.mono le38z
 replace hq36z := hq36z.mono le39z
 obtain ⟨Bs_14, H, hs41z⟩ := H.freezeE (k := 3) rfl
 replace H := H.nf
 have hq40z := hs41z
 obtain ⟨Bs_15, H, le42z, le43z⟩ := H.joinE (i := 0) (j := 3) rfl rfl
 replace hq32z := hq32z.mono le42z
 replace hq36z := hq36z.mono le42z
 replace hq40z := hq40z.mono le43z
 obtain ⟨rw44z, hrw_rw44z⟩ : ∃ r : Raw 1, r.cs = [I 0, v26z] := ⟨Raw.of [I 0, v26z] rfl (by simp only [List.all_cons, List.all_nil, Bool.true_and, Bool.and_true, Sl.oc hq32z]; try rfl), rfl⟩
 obtain ⟨rw45z, hrw_rw45z⟩ : ∃ r : Raw 1, r.cs = [I 1, v28z] := ⟨Raw.of [I 1, v28z] rfl (by simp only [List.all_cons, List.all_nil, Bool.true_and, Bool.and_true, Sl.oc hq36z]; try rfl), rfl⟩
 obtain ⟨rw46z, hrw_rw46z⟩ : ∃ r : Raw 1, r.cs = [I 0, v30z] := ⟨Raw.of [I 0, v30z] rfl (by simp only [List.all_cons, List.all_nil, Bool.true_and, Bool.and_true, Sl.oc hq40z]; try rfl), rfl⟩
 have hr47z : RepR (α := Flood) Bs_15.cells [rw44z, rw45z, rw46z] [(⟨(0 : Int), ([(200 : Int), (250 : Int), (310 : Int)])⟩ : Flood), (⟨(1 : Int), ([(280 : Int), (240 : Int), (290 : Int)])⟩ : Flood), (⟨(0 : Int), ([(100 : Int), (260 : Int), (300 : Int)])⟩ : Flood)] := .cons (by rw [hrw_rw44z]; exact ⟨_, rfl, hq32z⟩) <| .cons (by rw [hrw_rw45z]; exact ⟨_, rfl, hq36z⟩) <| .cons (by rw [hrw_rw46z]; exact ⟨_, rfl, hq40z⟩) <| .nil
 refine t_bs (α := Raw 1) T28 [.agg #[I 0, v26z], .agg #[I 1, v28z], .agg #[I 0, v30z]] [rw44z, rw45z, rw46z] H rfl (.cons (by rw [show (Flat.enc rw44z : List Value) = rw44z.cs from rfl, hrw_rw44z]; rfl) (Flat.rep_enc _ _) <| .cons (by rw [show (Flat.enc rw45z : List Value) = rw45z.cs from rfl, hrw_rw45z]; rfl) (Flat.rep_enc _ _) <| .cons (by rw [show (Flat.enc rw46z : List Value) = rw46z.cs from rfl, hrw_rw46z]; rfl) (Flat.rep_enc _ _) <| .nil) rfl rfl rfl ?_
 intro v48z w49z H
 replace H := H.nf
 refine s_val (x_bld (ps := [(0, v2z), (1, v16z), (2, v18z), (3, v20z), (4, .agg #[I r04, I r14]), (5, v48z)]) (zs := [.slice none 0 0, .slice none 0 0, .slice none 0 0, .slice none 0 0, I 0, I 0, .slice none 0 0]) (L' := [v2z, v16z, v18z, v20z, I r04, I r14, v48z]) rfl Try.underlying30 Al30 rfl (Bd30 Try.underlying30) (.cons (cs := [v2z]) (Sl.cells (ownSl (H.get (k := 11) rfl))) rfl rfl rfl rfl <| .cons (cs := [v16z]) (Sl.cells (ownSl (H.get (k := 10) rfl))) rfl rfl rfl rfl <| .cons (cs := [v18z]) (Sl.cells (ownSl (H.get (k := 9) rfl))) rfl rfl rfl rfl <| .cons (cs := [v20z]) (Sl.cells (ownSl (H.get (k := 8) rfl))) rfl rfl rfl rfl <| .cons (cs := [I r04, I r14]) rfl rfl rfl rfl rfl <| .cons (cs := [v48z]) (Sl.cells (rowSl rfl (H.get (k := 0) rfl) (roLe _ (H.get (k := 1) rfl)) hr47z)) rfl rfl rfl rfl <| .nil)) ?_
 refine t_sw 12 0 [v2z, v16z, v18z, v20z, I r04, I r14, v48z] (.agg #[v2z, v16z, v18z, v20z, I r04, I r14, v48z]) H rfl rfl Sz30 rfl rfl rfl (by simp only [List.all_cons, List.all_nil, Bool.true_and, Bool.and_true, Sl.oc (ownSl (H.get (k := 11) rfl)), Sl.oc (ownSl (H.get (k := 10) rfl)), Sl.oc (ownSl (H.get (k := 9) rfl)), Sl.oc (ownSl (H.get (k := 8) rfl)), Sl.oc (rowSl rfl (H.get (k := 0) rfl) (roLe _ (H.get (k := 1) rfl)) hr47z)]; try rfl) ?_
 intro w50z H
 refine s_nil ?_
 replace H := H.pk [0, 1, 8, 9, 10, 11, 12]
 refine W.ret ?_
 have hb51z := (H.blk (k := 6) rfl)
 have hr_ := M.e_pure hM
 exact ⟨_, (resE_of1 (v := .agg #[v2z, v16z, v18z, v20z, I r04, I r14, v48z]) rfl (.cell (v := .agg #[v2z, v16z, v18z, v20z, I r04, I r14, v48z]) rfl (run_loadVar_ag (ds := [v2z, v16z, v18z, v20z, I r04, I r14, v48z]) Ag30 Sz30 hb51z rfl rfl) <| .nil)), ⟨([(2 : Int), (2 : Int), (3 : Int), (-1 : Int)]), ([(⟨(r0 : Int), (r1 : Int)⟩ : Span), (⟨(r02 : Int), (r12 : Int)⟩ : Span), (⟨(r03 : Int), (r13 : Int)⟩ : Span), (⟨(0 : Int), (0 : Int)⟩ : Span)]), ([(0 : Int), (1 : Int)]), ([(⟨(3 : Int), (lead : Int), (300 : Int)⟩ : Town)]), r04, r14, ([(⟨(0 : Int), ([(200 : Int), (250 : Int), (310 : Int)])⟩ : Flood), (⟨(1 : Int), ([(280 : Int), (240 : Int), (290 : Int)])⟩ : Flood), (⟨(0 : Int), ([(100 : Int), (260 : Int), (300 : Int)])⟩ : Flood)]), v2z, v16z, v18z, v20z, v48z, [rw44z, rw45z, rw46z], Bs_15, hr_, rfl, (H.pk [5, 4, 3, 2, 0, 1]), hr47z⟩⟩

def zad (n : Int) (least : Int) (greatest : Int) : M Bool :=
  M.pure ((decide (least <= n)) && (decide (n <= greatest)))
theorem zag {R : List Chunk}  (n : Int) (least : Int) (greatest : Int)  {r : Bool} (hM : (zad n least greatest).Ends r) (w : World) (H : St w w [] R) : Ret Try.prog 37 #[I n, I least, I greatest] w fun v w' => ∃ (y0 : Bool), y0 = r /\ v = B y0 /\ St w w' [] R := by
 refine ret_of_W Try.func37 rfl rfl rfl ?_
 refine W.seq ?_
 refine W.region rfl ?_
 refine s_val (x_as (v := B false) rfl) ?_
 refine s_nil ?_
 refine W.seq ?_
 refine W.region rfl ?_
 refine s_val (x_mv (v := I n) rfl) ?_
 refine s_val (x_mv (v := I least) rfl) ?_
 refine s_val (x_cmp (kd := .i64) (a := n) (b := least) (r := decide (least <= n)) rfl rfl rfl) ?_
 refine s_val (x_mv (v := B (decide (least <= n))) rfl) ?_
 refine g_val (decide (least <= n)) (gy_t rfl) (fun hg => x_mv (v := I n) rfl) ?_
 refine g_val (decide (least <= n)) (gy_t rfl) (fun hg => x_mv (v := I greatest) rfl) ?_
 refine g_val (decide (least <= n)) (gy_t rfl) (fun hg => x_cmp (kd := .i64) (a := n) (b := greatest) (r := decide (n <= greatest)) (gd_of (c := decide (least <= n)) hg (I n)) (gd_of (c := decide (least <= n)) hg (I greatest)) rfl) ?_
 refine s_val (x_pand (b := decide (least <= n)) (r := decide (n <= greatest)) rfl (fun hb => gd_of (c := decide (least <= n)) (by first | exact hb | (rw [hb]; rfl) | simp_all) (B (decide (n <= greatest)))) rfl) ?_
 refine s_val (x_as (v := B ((decide (least <= n)) && (decide (n <= greatest)))) rfl) ?_
 refine s_nil ?_
 refine W.ret ?_
 have hr_ := M.e_pure hM
 exact ⟨_, resE_tmp rfl, ⟨((decide (least <= n)) && (decide (n <= greatest))), hr_, rfl, H⟩⟩

def zba (s : Span) : M Bool :=
  M.bind (zad s.lo 0 s.hi) fun r2 =>
  M.bind (M.opt r2 (zad s.hi 0 1000) false) fun r3 =>
  M.pure (r2 && r3)
theorem zcj {R : List Chunk}  (s : Span)  {r : Bool} (hM : (zba s).Ends r) (w : World) (H : St w w [] R) : Ret Try.prog 80 #[.agg #[I s.lo, I s.hi]] w fun v w' => ∃ (y0 : Bool), y0 = r /\ v = B y0 /\ St w w' [] R := by
 refine ret_of_W Try.func80 rfl rfl rfl ?_
 refine W.seq ?_
 refine W.region rfl ?_
 refine t_box (v := .agg #[I s.lo, I s.hi]) (cs := [I s.lo, I s.hi]) H rfl rfl ?_
 intro b_1 w1z H
 refine s_val (x_as (v := B false) rfl) ?_
 refine s_nil ?_
 refine W.seq ?_
 refine W.region rfl ?_
 refine s_val (x_fa (a := .pointer (some ⟨b_1, 0, none⟩)) (v := .pointer (some ⟨b_1, 0, none⟩)) rfl (fa_blk (o := 0) Fd27_0 Sz3)) ?_
 refine s_val (x_ld (p := .pointer (some ⟨b_1, 0, none⟩)) (v := I s.lo) rfl (ldb_sc Sc3 (H.blk (k := 0) rfl) rfl)) ?_
 refine s_val (x_fa (a := .pointer (some ⟨b_1, 0, none⟩)) (v := .pointer (some ⟨b_1, 1, none⟩)) rfl (fa_blk (o := 0) Fd27_1 Sz3)) ?_
 refine s_val (x_ld (p := .pointer (some ⟨b_1, 1, none⟩)) (v := I s.hi) rfl (ldb_sc Sc3 (H.blk (k := 0) rfl) rfl)) ?_
 obtain ⟨r3z, hx2z, hM⟩ := M.e_bind hM
 refine s_call cf37 [I s.lo, I 0, I s.hi] rfl (zag s.lo 0 s.hi hx2z _ (H.gt 1)) ?_
 rintro vq w4z ⟨r2, hr5z, hvq, H2_⟩
 subst hr5z
 subst vq
 try dsimp only at hM
 replace H := H.bk H2_
 clear H2_
 refine s_val (x_mv (v := B r2) rfl) ?_
 refine g_val r2 (gy_t rfl) (fun hg => x_fa (a := .pointer (some ⟨b_1, 0, none⟩)) (v := .pointer (some ⟨b_1, 1, none⟩)) rfl (fa_blk (o := 0) Fd27_1 Sz3)) ?_
 refine g_val r2 (gy_t rfl) (fun hg => x_ld (p := .pointer (some ⟨b_1, 1, none⟩)) (v := I s.hi) (gd_of (c := r2) hg (.pointer (some ⟨b_1, 1, none⟩))) (ldb_sc Sc3 (H.blk (k := 0) rfl) rfl)) ?_
 obtain ⟨r3, hx6z, hM⟩ := M.e_bind hM
 refine t_gcall r2 (gy_t rfl) cf37 (B r3) (fun _ => [I s.hi, I 0, I 1000]) (fun hg => lst3 (gd_of (c := r2) hg (I s.hi)) rfl rfl) H (fun hg => (zag s.hi 0 1000 (M.e_opt hx6z hg) _ (H.give (A := []) rfl)).mono fun v_ w_ ⟨y_, hr_, hv_, H_⟩ => by subst hr_; exact ⟨hv_, H.via H_⟩) ?_
 intro w7z H
 refine s_val (x_pand (b := r2) (r := r3) rfl (fun hb => gd_of (c := r2) (by first | exact hb | (rw [hb]; rfl) | simp_all) (B r3)) rfl) ?_
 refine s_val (x_as (v := B (r2 && r3)) rfl) ?_
 refine s_nil ?_
 refine W.ret ?_
 have hr_ := M.e_pure hM
 exact ⟨_, resE_tmp rfl, ⟨(r2 && r3), hr_, rfl, (H.pk [])⟩⟩

def zbf (l : List Int) (end_ : Int) : (Int × Nat) -> M ((Int × Nat) ⊕ (Unit ⊕ Unit)) := fun (last, s) =>
  bif decide ((s : Int) < (l.length : Int)) then (
  M.grd (decide ((s : Int) < (l.length : Int))) <|
  M.grd (decide ((-9223372036854775808 : Int) <= (last + 1)) && decide ((last + 1) <= (9223372036854775807 : Int))) <|
  M.grd (decide ((-9223372036854775808 : Int) <= (end_ - 1)) && decide ((end_ - 1) <= (9223372036854775807 : Int))) <|
  M.bind (zad (l.getD s 0) (last + 1) (end_ - 1)) fun r2 =>
  bif !r2 then (
  M.pure (.inr (.inl ())))
  else (
  M.pure (.inl (l.getD s 0, s + 1))))
  else (
  M.pure (.inr (.inr ())))
def zaP (l : List Int) (end_ : Int) : M Bool :=
  M.bind (M.iter (zbf l end_) (-1, 0)) fun x_ => match x_ with
  | (.inl (_ : Unit)) => (
  M.pure false)
  | (.inr (_ : Unit)) => (
  M.pure true)
theorem zb5 {R : List Chunk} {C_l : Cells} {v_l : Value} (l : List Int) (end_ : Int) (hC_l : Reads R C_l) (hs_l : Sl C_l v_l l) {r : Bool} (hM : (zaP l end_).Ends r) (w : World) (H : St w w [] R) : Ret Try.prog 62 #[v_l, I end_] w fun v w' => ∃ (y0 : Bool), y0 = r /\ v = B y0 /\ St w w' [] R := by
 refine ret_of_W Try.func62 rfl rfl rfl ?_
 refine W.seq ?_
 refine W.region rfl ?_
 refine s_val (x_as (v := B false) rfl) ?_
 refine s_nil ?_
 refine W.seq ?_
 refine W.region rfl ?_
 refine s_val (x_as (v := I (-1)) rfl) ?_
 refine s_nil ?_
 refine W.seq ?_
 refine W.seq ?_
 refine W.region rfl ?_
 refine s_val (x_mv (v := v_l) rfl) ?_
 have hl1z := (hs_l).len_le
 refine s_val (x_lenS T23.und rfl hs_l) ?_
 refine s_val (x_mv (v := I 0) rfl) ?_
 refine s_nil ?_
 refine W.block ?_
 obtain ⟨ex2z, hi3z, hk4z⟩ := M.e_bind hM
 obtain ⟨m0_, hi3z⟩ := M.e_iter hi3z
 refine W.loop (fun m σ W => ∃ (last : Int) (s : Nat) (ρ : Env), σ = upds ρ [(1, I end_), (5, I last), (8, v_l), (9, I (l.length : Int)), (10, I (s : Int))] /\ M.iterN (zbf l end_) m (last, s) = some ex2z /\ St w W [] R) ?_ ?_
 ·exact ⟨_, -1, 0, _, upds_of _ _ ⟨rfl, rfl, rfl, rfl, rfl, trivial⟩, hi3z, H⟩
 rintro m7z σ w5z ⟨last, s, ρ, rfl, hI6z, H⟩
 obtain ⟨m8z, lt9z, x10z, hM, hN11z⟩ := M.e_iterN hI6z
 simp only [zbf] at hM
 clear hI6z
 refine W.seq ?_
 refine W.region rfl ?_
 refine s_val (x_cmp (kd := .i64) (a := (s : Int)) (b := (l.length : Int)) (r := decide ((s : Int) < (l.length : Int))) rfl rfl rfl) ?_
 refine s_nil ?_
 refine W.seq ?_
 refine W.cond (decide ((s : Int) < (l.length : Int))) rfl (fun c12z => ?_) (fun c12z => ?_)
 ·replace hM := M.e_t hM c12z
  simp only [decide_eq_true_eq, decide_eq_false_iff_not, beq_iff_eq, bne_iff_ne, beq_eq_false_iff_ne, bne_eq_false_iff_eq, ne_eq, Decidable.not_not] at c12z
  refine W.skip ?_
  refine W.seq ?_
  refine W.block ?_
  refine W.seq ?_
  refine W.region rfl ?_
  obtain ⟨sd13z, hM⟩ := M.e_grd hM
  simp only [Bool.and_eq_true, decide_eq_true_eq] at sd13z
  refine s_val (x_ix (a := v_l) (b := I (s : Int)) (v := vat v_l 1 (Int.toNat (s : Int))) rfl rfl (Sl.ix (α := Int) T23.und T23.size hs_l (by omega) (by omega))) ?_
  refine s_val (x_ld (p := vat v_l 1 (Int.toNat (s : Int))) (v := I (l.getD s 0)) rfl (ld_sc Sc3 (At.mono (Int_at hs_l (i := (s : Int)) (by omega) (by omega)) (hC_l.at H)))) ?_
  refine s_val (x_as (v := I (l.getD s 0)) rfl) ?_
  refine s_nil ?_
  refine W.seq ?_
  refine W.seq ?_
  refine W.region rfl ?_
  refine s_val (x_mv (v := I (l.getD s 0)) rfl) ?_
  refine s_val (x_mv (v := I last) rfl) ?_
  obtain ⟨sd14z, hM⟩ := M.e_grd hM
  simp only [Bool.and_eq_true, decide_eq_true_eq] at sd14z
  refine s_val (x_ari (a := last) (b := 1) (r := last + 1) rfl rfl rfl (by omega)) ?_
  refine s_val (x_mv (v := I end_) rfl) ?_
  obtain ⟨sd15z, hM⟩ := M.e_grd hM
  simp only [Bool.and_eq_true, decide_eq_true_eq] at sd15z
  refine s_val (x_ari (a := end_) (b := 1) (r := end_ - 1) rfl rfl rfl (by omega)) ?_
  obtain ⟨r17z, hx16z, hM⟩ := M.e_bind hM
  refine s_call cf37 [I (l.getD s 0), I (last + 1), I (end_ - 1)] rfl (zag (l.getD s 0) (last + 1) (end_ - 1) hx16z _ (H.gt 0)) ?_
  rintro vq w18z ⟨r2, hr19z, hvq, H2_⟩
  subst hr19z
  subst vq
  try dsimp only at hM
  replace H := H.bk H2_
  clear H2_
  refine s_val (x_not (b := r2) rfl) ?_
  refine s_nil ?_
  refine W.cond (!r2) rfl (fun c20z => ?_) (fun c20z => ?_)
  ·replace hM := M.e_t hM c20z
   refine W.seq ?_
   refine W.region rfl ?_
   refine s_val (x_as (v := B false) rfl) ?_
   refine s_nil ?_
   refine W.ret ?_
   have hX21z := M.e_inr hM hN11z
   subst hX21z
   replace hM := hk4z
   try dsimp only at hM
   have hr_ := M.e_pure hM
   exact ⟨_, resE_tmp rfl, ⟨false, hr_, rfl, H⟩⟩
  replace hM := M.e_f hM c20z
  refine W.skip ?_
  refine W.region rfl ?_
  refine s_val (x_mv (v := I (l.getD s 0)) rfl) ?_
  refine s_val (x_as (v := I (l.getD s 0)) rfl) ?_
  refine s_nil ?_
  refine W.region rfl ?_
  refine s_val (x_ari (a := (s : Int)) (b := 1) (r := (s : Int) + 1) rfl rfl rfl (by omega)) ?_
  refine s_val (x_mv (v := I ((s : Int) + 1)) rfl) ?_
  refine s_nil ?_
  exact ⟨m8z, lt9z, l.getD s 0, s + 1, _, upds_of _ _ ⟨rfl, rfl, rfl, rfl, rfl, trivial⟩, M.e_inl hM hN11z, H⟩
 replace hM := M.e_f hM c12z
 simp only [decide_eq_true_eq, decide_eq_false_iff_not, beq_iff_eq, bne_iff_ne, beq_eq_false_iff_ne, bne_eq_false_iff_eq, ne_eq, Decidable.not_not] at c12z
 refine W.exit ?_
 have hX22z := M.e_inr hM hN11z
 subst hX22z
 replace hM := hk4z
 try dsimp only at hM
 refine W.seq ?_
 refine W.region rfl ?_
 refine s_val (x_as (v := B true) rfl) ?_
 refine s_nil ?_
 refine W.ret ?_
 have hr_ := M.e_pure hM
 exact ⟨_, resE_tmp rfl, ⟨true, hr_, rfl, H⟩⟩

def zaw (s : List Town) (f : Town -> M Bool) : Nat -> M (Nat ⊕ (Int ⊕ Unit)) := fun s2 =>
  bif decide ((s2 : Int) < (s.length : Int)) then (
  M.grd (decide ((s2 : Int) < (s.length : Int))) <|
  M.bind (f (s.getD s2 default)) fun r2 =>
  bif r2 then (
  M.pure (.inr (.inl (s2 : Int))))
  else (
  M.pure (.inl (s2 + 1))))
  else (
  M.pure (.inr (.inr ())))
def zbv (s : List Town) (f : Town -> M Bool) : M Int :=
  M.bind (M.iter (zaw s f) 0) fun x_ => match x_ with
  | (.inl s3) => (
  M.pure s3)
  | (.inr (_ : Unit)) => (
  M.pure (-1))
theorem zcK {R : List Chunk} {C_s : Cells} {v_s : Value} {v_f : Value} (s : List Town) (f : Town -> M Bool) (hC_s : Reads R C_s) (hs_s : Sl C_s v_s s) (hf_f : FnM Try.prog R v_f f) {r : Int} (hM : (zbv s f).Ends r) (w : World) (H : St w w [] R) : Ret Try.prog 79 #[v_s, v_f] w fun v w' => ∃ (y0 : Int), y0 = r /\ v = I y0 /\ St w w' [] R := by
 refine ret_of_W Try.func79 rfl rfl rfl ?_
 refine W.seq ?_
 refine W.region rfl ?_
 refine s_val (x_as (v := I 0) rfl) ?_
 refine s_nil ?_
 refine W.seq ?_
 refine W.seq ?_
 refine W.region rfl ?_
 refine s_val (x_mv (v := v_s) rfl) ?_
 have hl1z := (hs_s).len_le
 refine s_val (x_lenS T25.und rfl hs_s) ?_
 refine s_val (x_mv (v := I 0) rfl) ?_
 refine s_nil ?_
 refine W.block ?_
 obtain ⟨ex2z, hi3z, hk4z⟩ := M.e_bind hM
 obtain ⟨m0_, hi3z⟩ := M.e_iter hi3z
 refine W.loop (fun m σ W => ∃ (s2 : Nat) (ρ : Env), σ = upds ρ [(0, v_s), (1, v_f), (7, I (s.length : Int)), (8, I (s2 : Int))] /\ M.iterN (zaw s f) m s2 = some ex2z /\ St w W [] R) ?_ ?_
 ·exact ⟨_, 0, _, upds_of _ _ ⟨rfl, rfl, rfl, rfl, trivial⟩, hi3z, H⟩
 rintro m7z σ w5z ⟨s2, ρ, rfl, hI6z, H⟩
 obtain ⟨m8z, lt9z, x10z, hM, hN11z⟩ := M.e_iterN hI6z
 simp only [zaw] at hM
 clear hI6z
 refine W.seq ?_
 refine W.region rfl ?_
 refine s_val (x_cmp (kd := .i64) (a := (s2 : Int)) (b := (s.length : Int)) (r := decide ((s2 : Int) < (s.length : Int))) rfl rfl rfl) ?_
 refine s_nil ?_
 refine W.seq ?_
 refine W.cond (decide ((s2 : Int) < (s.length : Int))) rfl (fun c12z => ?_) (fun c12z => ?_)
 ·replace hM := M.e_t hM c12z
  simp only [decide_eq_true_eq, decide_eq_false_iff_not, beq_iff_eq, bne_iff_ne, beq_eq_false_iff_ne, bne_eq_false_iff_eq, ne_eq, Decidable.not_not] at c12z
  refine W.skip ?_
  refine W.seq ?_
  refine W.block ?_
  refine W.seq ?_
  refine W.region rfl ?_
  refine s_val (x_mv (v := I (s2 : Int)) rfl) ?_
  refine s_val (x_as (v := I (s2 : Int)) rfl) ?_
  refine s_nil ?_
  refine W.seq ?_
  refine W.region rfl ?_
  refine s_val (x_mv (v := v_f) rfl) ?_
  refine s_val (x_mv (v := v_s) rfl) ?_
  refine s_val (x_mv (v := I (s2 : Int)) rfl) ?_
  obtain ⟨sd13z, hM⟩ := M.e_grd hM
  simp only [Bool.and_eq_true, decide_eq_true_eq] at sd13z
  refine s_val (x_ix (a := v_s) (b := I (s2 : Int)) (v := vat v_s 3 (Int.toNat (s2 : Int))) rfl rfl (Sl.ix (α := Town) T25.und T25.size hs_s (by omega) (by omega))) ?_
  refine s_val (x_ld (p := vat v_s 3 (Int.toNat (s2 : Int))) (v := .agg #[I ((s.getD s2 default).station), I ((s.getD s2 default).lead), I ((s.getD s2 default).alarm)]) rfl (ld_ag Ag54 Sz54 (At.mono (Town_atA hs_s (i := (s2 : Int)) (by omega) (by omega)) (hC_s.at H)))) ?_
  obtain ⟨r2, hx15z, hM⟩ := M.e_bind hM
  refine t_callM H hf_f rfl rfl (s.getD s2 default) Reads.none ⟨_, rfl, rfl⟩ hx15z ?_
  intro w14z H
  refine s_nil ?_
  refine W.cond r2 rfl (fun c16z => ?_) (fun c16z => ?_)
  ·replace hM := M.e_t hM c16z
   refine W.seq ?_
   refine W.region rfl ?_
   refine s_val (x_mv (v := I (s2 : Int)) rfl) ?_
   refine s_val (x_as (v := I (s2 : Int)) rfl) ?_
   refine s_nil ?_
   refine W.ret ?_
   have hX17z := M.e_inr hM hN11z
   subst hX17z
   replace hM := hk4z
   try dsimp only at hM
   have hr_ := M.e_pure hM
   exact ⟨_, resE_tmp rfl, ⟨(s2 : Int), hr_, rfl, H⟩⟩
  replace hM := M.e_f hM c16z
  refine W.skip ?_
  refine W.region rfl ?_
  refine s_val (x_ari (a := (s2 : Int)) (b := 1) (r := (s2 : Int) + 1) rfl rfl rfl (by omega)) ?_
  refine s_val (x_mv (v := I ((s2 : Int) + 1)) rfl) ?_
  refine s_nil ?_
  exact ⟨m8z, lt9z, s2 + 1, _, upds_of _ _ ⟨rfl, rfl, rfl, rfl, trivial⟩, M.e_inl hM hN11z, H⟩
 replace hM := M.e_f hM c12z
 simp only [decide_eq_true_eq, decide_eq_false_iff_not, beq_iff_eq, bne_iff_ne, beq_eq_false_iff_ne, bne_eq_false_iff_eq, ne_eq, Decidable.not_not] at c12z
 refine W.exit ?_
 have hX18z := M.e_inr hM hN11z
 subst hX18z
 replace hM := hk4z
 try dsimp only at hM
 refine W.seq ?_
 refine W.region rfl ?_
 refine s_val (x_as (v := I (-1)) rfl) ?_
 refine s_nil ?_
 refine W.ret ?_
 have hr_ := M.e_pure hM
 exact ⟨_, resE_tmp rfl, ⟨(-1), hr_, rfl, H⟩⟩

def zam (s : List Town) (f : Town -> M Bool) : M Bool :=
  M.bind (zbv s f) fun r2 =>
  M.pure (decide (0 <= r2))
theorem zbR {R : List Chunk} {C_s : Cells} {v_s : Value} {v_f : Value} (s : List Town) (f : Town -> M Bool) (hC_s : Reads R C_s) (hs_s : Sl C_s v_s s) (hf_f : FnM Try.prog R v_f f) {r : Bool} (hM : (zam s f).Ends r) (w : World) (H : St w w [] R) : Ret Try.prog 63 #[v_s, v_f] w fun v w' => ∃ (y0 : Bool), y0 = r /\ v = B y0 /\ St w w' [] R := by
 refine ret_of_W Try.func63 rfl rfl rfl ?_
 refine W.seq ?_
 refine W.region rfl ?_
 refine s_val (x_as (v := B false) rfl) ?_
 refine s_nil ?_
 refine W.seq ?_
 refine W.region rfl ?_
 refine s_val (x_mv (v := v_s) rfl) ?_
 refine s_val (x_mv (v := v_f) rfl) ?_
 obtain ⟨r2z, hx1z, hM⟩ := M.e_bind hM
 refine s_call cf79 [v_s, v_f] rfl (zcK s f (hC_s.app _) hs_s (hf_f.app _) hx1z _ (H.gt 0)) ?_
 rintro vq w3z ⟨r2, hr4z, hvq, H2_⟩
 subst hr4z
 subst vq
 try dsimp only at hM
 replace H := H.bk H2_
 clear H2_
 refine s_val (x_cmp (kd := .i64) (a := r2) (b := 0) (r := decide (0 <= r2)) rfl rfl rfl) ?_
 refine s_val (x_as (v := B (decide (0 <= r2))) rfl) ?_
 refine s_nil ?_
 refine W.ret ?_
 have hr_ := M.e_pure hM
 exact ⟨_, resE_tmp rfl, ⟨(decide (0 <= r2)), hr_, rfl, H⟩⟩

def zbj (x : Town) (k02 : Town -> M Bool) : M Bool :=
  M.bind (k02 x) fun r2 =>
  M.pure (!r2)
theorem zc7 {R : List Chunk} {b_k0 : Nat} {v_k02 : Value} (x : Town) (k02 : Town -> M Bool) (hf_k02 : FnM Try.prog R v_k02 k02) (h_b_k0 : Has R (cBlk b_k0 [v_k02] 111)) {r : Bool} (hM : (zbj x k02).Ends r) (w : World) (H : St w w [] R) : Ret Try.prog 90 #[.agg #[I x.station, I x.lead, I x.alarm], .pointer (some ⟨b_k0, 0, none⟩)] w fun v w' => ∃ (y0 : Bool), y0 = r /\ v = B y0 /\ St w w' [] R := by
 refine ret_of_W Try.func90 rfl rfl rfl ?_
 refine W.seq ?_
 refine W.region rfl ?_
 refine t_box (v := .agg #[I x.station, I x.lead, I x.alarm]) (cs := [I x.station, I x.lead, I x.alarm]) H rfl rfl ?_
 intro b_1 w1z H
 refine s_val (x_as (v := B false) rfl) ?_
 refine s_nil ?_
 refine W.seq ?_
 refine W.region rfl ?_
 refine s_val (x_ld (p := .pointer (some ⟨b_k0, 0, none⟩)) (v := v_k02) rfl (ldb_sc Sc111 (h_b_k0.blk H) rfl)) ?_
 refine s_val (x_ld (p := .pointer (some ⟨b_1, 0, none⟩)) (v := .agg #[I x.station, I x.lead, I x.alarm]) rfl (ldb_ag (ds := [I x.station, I x.lead, I x.alarm]) Ag54 Sz54 (H.blk (k := 0) rfl) rfl rfl)) ?_
 obtain ⟨r2, hx3z, hM⟩ := M.e_bind hM
 refine t_callM H hf_k02 rfl rfl x Reads.none ⟨_, rfl, rfl⟩ hx3z ?_
 intro w2z H
 refine s_val (x_not (b := r2) rfl) ?_
 refine s_val (x_as (v := B (!r2)) rfl) ?_
 refine s_nil ?_
 refine W.ret ?_
 have hr_ := M.e_pure hM
 exact ⟨_, resE_tmp rfl, ⟨(!r2), hr_, rfl, (H.pk [])⟩⟩

def za6 (l : List Town) (so : Town -> M Bool) : M Bool :=
  M.bind (zam l (fun xqz => zbj xqz so)) fun r2 =>
  M.pure (!r2)
theorem zco {R : List Chunk} {C_l : Cells} {v_l : Value} {v_so : Value} (l : List Town) (so : Town -> M Bool) (hC_l : Reads R C_l) (hs_l : Sl C_l v_l l) (hf_so : FnM Try.prog R v_so so) {r : Bool} (hM : (za6 l so).Ends r) (w : World) (H : St w w [] R) : Ret Try.prog 81 #[v_l, v_so] w fun v w' => ∃ (y0 : Bool), y0 = r /\ v = B y0 /\ St w w' [] R := by
 refine ret_of_W Try.func81 rfl rfl rfl ?_
 refine W.seq ?_
 refine W.region rfl ?_
 refine t_box (v := v_so) (cs := [v_so]) H rfl (FnM.cells hf_so) ?_
 intro b_1 w1z H
 refine s_val (x_as (v := B false) rfl) ?_
 refine s_nil ?_
 refine W.seq ?_
 refine W.region rfl ?_
 refine s_val (x_mv (v := v_l) rfl) ?_
 refine s_val (x_mf (fs := []) (cs := [.pointer (some ⟨b_1, 0, none⟩)]) rfl rfl) ?_
 obtain ⟨r3z, hx2z, hM⟩ := M.e_bind hM
 refine s_call cf63 [v_l, .func (.func 90) #[] #[.pointer (some ⟨b_1, 0, none⟩)]] rfl (zbR l (fun xqz => zbj xqz so) (hC_l.app _) hs_l ⟨90, [.pointer (some ⟨b_1, 0, none⟩)], rfl, cf90, fun wqz Lqz Cqz vqz xqz bqz hsqz hCqz hAqz hpqz => by obtain rfl := Town_arg hAqz; exact (zc7 xqz so (FnM.app (hf_so.app _) _) (Has.app (Has.here (k := 0) rfl) _) hpqz wqz (St.refl hsqz)).mono fun vqz wqz ⟨yqz, hrqz, hvqz, Hqz⟩ => by subst hrqz; exact ⟨hvqz, Hqz⟩⟩ hx2z _ (H.gt 1)) ?_
 rintro vq w4z ⟨r2, hr5z, hvq, H2_⟩
 subst hr5z
 subst vq
 try dsimp only at hM
 replace H := H.bk H2_
 clear H2_
 refine s_val (x_not (b := r2) rfl) ?_
 refine s_val (x_as (v := B (!r2)) rfl) ?_
 refine s_nil ?_
 refine W.ret ?_
 have hr_ := M.e_pure hM
 exact ⟨_, resE_tmp rfl, ⟨(!r2), hr_, rfl, (H.pk [])⟩⟩

def zaK (n : Int) : M Bool :=
  M.bind (zad n 0 2000) fun r2 =>
  M.pure r2
theorem zcm {R : List Chunk}  (n : Int)  {r : Bool} (hM : (zaK n).Ends r) (w : World) (H : St w w [] R) : Ret Try.prog 85 #[I n] w fun v w' => ∃ (y0 : Bool), y0 = r /\ v = B y0 /\ St w w' [] R := by
 refine ret_of_W Try.func85 rfl rfl rfl ?_
 refine W.seq ?_
 refine W.region rfl ?_
 refine s_val (x_as (v := B false) rfl) ?_
 refine s_nil ?_
 refine W.seq ?_
 refine W.region rfl ?_
 refine s_val (x_mv (v := I n) rfl) ?_
 obtain ⟨r2z, hx1z, hM⟩ := M.e_bind hM
 refine s_call cf37 [I n, I 0, I 2000] rfl (zag n 0 2000 hx1z _ (H.gt 0)) ?_
 rintro vq w3z ⟨r2, hr4z, hvq, H2_⟩
 subst hr4z
 subst vq
 try dsimp only at hM
 replace H := H.bk H2_
 clear H2_
 refine s_val (x_as (v := B r2) rfl) ?_
 refine s_nil ?_
 refine W.ret ?_
 have hr_ := M.e_pure hM
 exact ⟨_, resE_tmp rfl, ⟨r2, hr_, rfl, H⟩⟩

def zbw (t : Town) : M Bool :=
  M.bind (zad t.lead 0 1000) fun r2 =>
  M.bind (M.opt r2 (zaK t.alarm) false) fun r3 =>
  M.pure (r2 && r3)
theorem zcM {R : List Chunk}  (t : Town)  {r : Bool} (hM : (zbw t).Ends r) (w : World) (H : St w w [] R) : Ret Try.prog 82 #[.agg #[I t.station, I t.lead, I t.alarm]] w fun v w' => ∃ (y0 : Bool), y0 = r /\ v = B y0 /\ St w w' [] R := by
 refine ret_of_W Try.func82 rfl rfl rfl ?_
 refine W.seq ?_
 refine W.region rfl ?_
 refine t_box (v := .agg #[I t.station, I t.lead, I t.alarm]) (cs := [I t.station, I t.lead, I t.alarm]) H rfl rfl ?_
 intro b_1 w1z H
 refine s_val (x_as (v := B false) rfl) ?_
 refine s_nil ?_
 refine W.seq ?_
 refine W.region rfl ?_
 refine s_val (x_fa (a := .pointer (some ⟨b_1, 0, none⟩)) (v := .pointer (some ⟨b_1, 1, none⟩)) rfl (fa_blk (o := 0) Fd54_1 Sz3)) ?_
 refine s_val (x_ld (p := .pointer (some ⟨b_1, 1, none⟩)) (v := I t.lead) rfl (ldb_sc Sc3 (H.blk (k := 0) rfl) rfl)) ?_
 obtain ⟨r3z, hx2z, hM⟩ := M.e_bind hM
 refine s_call cf37 [I t.lead, I 0, I 1000] rfl (zag t.lead 0 1000 hx2z _ (H.gt 1)) ?_
 rintro vq w4z ⟨r2, hr5z, hvq, H2_⟩
 subst hr5z
 subst vq
 try dsimp only at hM
 replace H := H.bk H2_
 clear H2_
 refine s_val (x_mv (v := B r2) rfl) ?_
 refine g_val r2 (gy_t rfl) (fun hg => x_fa (a := .pointer (some ⟨b_1, 0, none⟩)) (v := .pointer (some ⟨b_1, 2, none⟩)) rfl (fa_blk (o := 0) Fd54_2 Sz3)) ?_
 refine g_val r2 (gy_t rfl) (fun hg => x_ld (p := .pointer (some ⟨b_1, 2, none⟩)) (v := I t.alarm) (gd_of (c := r2) hg (.pointer (some ⟨b_1, 2, none⟩))) (ldb_sc Sc3 (H.blk (k := 0) rfl) rfl)) ?_
 obtain ⟨r3, hx6z, hM⟩ := M.e_bind hM
 refine t_gcall r2 (gy_t rfl) cf85 (B r3) (fun _ => [I t.alarm]) (fun hg => lst1 (gd_of (c := r2) hg (I t.alarm))) H (fun hg => (zcm t.alarm (M.e_opt hx6z hg) _ (H.give (A := []) rfl)).mono fun v_ w_ ⟨y_, hr_, hv_, H_⟩ => by subst hr_; exact ⟨hv_, H.via H_⟩) ?_
 intro w7z H
 refine s_val (x_pand (b := r2) (r := r3) rfl (fun hb => gd_of (c := r2) (by first | exact hb | (rw [hb]; rfl) | simp_all) (B r3)) rfl) ?_
 refine s_val (x_as (v := B (r2 && r3)) rfl) ?_
 refine s_nil ?_
 refine W.ret ?_
 have hr_ := M.e_pure hM
 exact ⟨_, resE_tmp rfl, ⟨(r2 && r3), hr_, rfl, (H.pk [])⟩⟩

def zbm (t : Town) (k02 : Int) : M Bool :=
  M.grd (decide ((-9223372036854775808 : Int) <= (k02 - 1)) && decide ((k02 - 1) <= (9223372036854775807 : Int))) <|
  M.bind (zad t.station 0 (k02 - 1)) fun r2 =>
  M.pure r2
theorem zc4 {R : List Chunk} {b_k0 : Nat} (t : Town) (k02 : Int) (h_b_k0 : Has R (cBlk b_k0 [I k02] 3)) {r : Bool} (hM : (zbm t k02).Ends r) (w : World) (H : St w w [] R) : Ret Try.prog 83 #[.agg #[I t.station, I t.lead, I t.alarm], .pointer (some ⟨b_k0, 0, none⟩)] w fun v w' => ∃ (y0 : Bool), y0 = r /\ v = B y0 /\ St w w' [] R := by
 refine ret_of_W Try.func83 rfl rfl rfl ?_
 refine W.seq ?_
 refine W.region rfl ?_
 refine t_box (v := .agg #[I t.station, I t.lead, I t.alarm]) (cs := [I t.station, I t.lead, I t.alarm]) H rfl rfl ?_
 intro b_1 w1z H
 refine s_val (x_as (v := B false) rfl) ?_
 refine s_nil ?_
 refine W.seq ?_
 refine W.region rfl ?_
 refine s_val (x_fa (a := .pointer (some ⟨b_1, 0, none⟩)) (v := .pointer (some ⟨b_1, 0, none⟩)) rfl (fa_blk (o := 0) Fd54_0 Sz3)) ?_
 refine s_val (x_ld (p := .pointer (some ⟨b_1, 0, none⟩)) (v := I t.station) rfl (ldb_sc Sc3 (H.blk (k := 0) rfl) rfl)) ?_
 refine s_val (x_ld (p := .pointer (some ⟨b_k0, 0, none⟩)) (v := I k02) rfl (ldb_sc Sc3 (h_b_k0.blk H) rfl)) ?_
 obtain ⟨sd2z, hM⟩ := M.e_grd hM
 simp only [Bool.and_eq_true, decide_eq_true_eq] at sd2z
 refine s_val (x_ari (a := k02) (b := 1) (r := k02 - 1) rfl rfl rfl (by omega)) ?_
 obtain ⟨r4z, hx3z, hM⟩ := M.e_bind hM
 refine s_call cf37 [I t.station, I 0, I (k02 - 1)] rfl (zag t.station 0 (k02 - 1) hx3z _ (H.gt 1)) ?_
 rintro vq w5z ⟨r2, hr6z, hvq, H2_⟩
 subst hr6z
 subst vq
 try dsimp only at hM
 replace H := H.bk H2_
 clear H2_
 refine s_val (x_as (v := B r2) rfl) ?_
 refine s_nil ?_
 refine W.ret ?_
 have hr_ := M.e_pure hM
 exact ⟨_, resE_tmp rfl, ⟨r2, hr_, rfl, (H.pk [])⟩⟩

def zau (s : List Int) (v : Int) : Nat -> M (Nat ⊕ (Int ⊕ Unit)) := fun s2 =>
  bif decide ((s2 : Int) < (s.length : Int)) then (
  M.grd (decide ((s2 : Int) < (s.length : Int))) <|
  bif v == (s.getD s2 0) then (
  M.pure (.inr (.inl (s2 : Int))))
  else (
  M.pure (.inl (s2 + 1))))
  else (
  M.pure (.inr (.inr ())))
def zat (s : List Int) (v : Int) : M Int :=
  M.bind (M.iter (zau s v) 0) fun x_ => match x_ with
  | (.inl s3) => (
  M.pure s3)
  | (.inr (_ : Unit)) => (
  M.pure (-1))
theorem zct {R : List Chunk} {C_s : Cells} {v_s : Value} (s : List Int) (v : Int) (hC_s : Reads R C_s) (hs_s : Sl C_s v_s s) {r : Int} (hM : (zat s v).Ends r) (w : World) (H : St w w [] R) : Ret Try.prog 39 #[v_s, I v] w fun v w' => ∃ (y0 : Int), y0 = r /\ v = I y0 /\ St w w' [] R := by
 refine ret_of_W Try.func39 rfl rfl rfl ?_
 refine W.seq ?_
 refine W.region rfl ?_
 refine s_val (x_as (v := I 0) rfl) ?_
 refine s_nil ?_
 refine W.seq ?_
 refine W.seq ?_
 refine W.region rfl ?_
 refine s_val (x_mv (v := v_s) rfl) ?_
 have hl1z := (hs_s).len_le
 refine s_val (x_lenS T23.und rfl hs_s) ?_
 refine s_val (x_mv (v := I 0) rfl) ?_
 refine s_nil ?_
 refine W.block ?_
 obtain ⟨ex2z, hi3z, hk4z⟩ := M.e_bind hM
 obtain ⟨m0_, hi3z⟩ := M.e_iter hi3z
 refine W.loop (fun m σ W => ∃ (s2 : Nat) (ρ : Env), σ = upds ρ [(0, v_s), (1, I v), (7, I (s.length : Int)), (8, I (s2 : Int))] /\ M.iterN (zau s v) m s2 = some ex2z /\ St w W [] R) ?_ ?_
 ·exact ⟨_, 0, _, upds_of _ _ ⟨rfl, rfl, rfl, rfl, trivial⟩, hi3z, H⟩
 rintro m7z σ w5z ⟨s2, ρ, rfl, hI6z, H⟩
 obtain ⟨m8z, lt9z, x10z, hM, hN11z⟩ := M.e_iterN hI6z
 simp only [zau] at hM
 clear hI6z
 refine W.seq ?_
 refine W.region rfl ?_
 refine s_val (x_cmp (kd := .i64) (a := (s2 : Int)) (b := (s.length : Int)) (r := decide ((s2 : Int) < (s.length : Int))) rfl rfl rfl) ?_
 refine s_nil ?_
 refine W.seq ?_
 refine W.cond (decide ((s2 : Int) < (s.length : Int))) rfl (fun c12z => ?_) (fun c12z => ?_)
 ·replace hM := M.e_t hM c12z
  simp only [decide_eq_true_eq, decide_eq_false_iff_not, beq_iff_eq, bne_iff_ne, beq_eq_false_iff_ne, bne_eq_false_iff_eq, ne_eq, Decidable.not_not] at c12z
  refine W.skip ?_
  refine W.seq ?_
  refine W.block ?_
  refine W.seq ?_
  refine W.region rfl ?_
  refine s_val (x_mv (v := I (s2 : Int)) rfl) ?_
  refine s_val (x_as (v := I (s2 : Int)) rfl) ?_
  refine s_nil ?_
  refine W.seq ?_
  refine W.region rfl ?_
  refine s_val (x_mv (v := I v) rfl) ?_
  refine s_val (x_mv (v := v_s) rfl) ?_
  refine s_val (x_mv (v := I (s2 : Int)) rfl) ?_
  obtain ⟨sd13z, hM⟩ := M.e_grd hM
  simp only [Bool.and_eq_true, decide_eq_true_eq] at sd13z
  refine s_val (x_ix (a := v_s) (b := I (s2 : Int)) (v := vat v_s 1 (Int.toNat (s2 : Int))) rfl rfl (Sl.ix (α := Int) T23.und T23.size hs_s (by omega) (by omega))) ?_
  refine s_val (x_ld (p := vat v_s 1 (Int.toNat (s2 : Int))) (v := I (s.getD s2 0)) rfl (ld_sc Sc3 (At.mono (Int_at hs_s (i := (s2 : Int)) (by omega) (by omega)) (hC_s.at H)))) ?_
  refine s_val (x_cmp (kd := .i64) (a := v) (b := s.getD s2 0) (r := v == (s.getD s2 0)) rfl rfl rfl) ?_
  refine s_nil ?_
  refine W.cond (v == (s.getD s2 0)) rfl (fun c14z => ?_) (fun c14z => ?_)
  ·replace hM := M.e_t hM c14z
   simp only [decide_eq_true_eq, decide_eq_false_iff_not, beq_iff_eq, bne_iff_ne, beq_eq_false_iff_ne, bne_eq_false_iff_eq, ne_eq, Decidable.not_not] at c14z
   refine W.seq ?_
   refine W.region rfl ?_
   refine s_val (x_mv (v := I (s2 : Int)) rfl) ?_
   refine s_val (x_as (v := I (s2 : Int)) rfl) ?_
   refine s_nil ?_
   refine W.ret ?_
   have hX15z := M.e_inr hM hN11z
   subst hX15z
   replace hM := hk4z
   try dsimp only at hM
   have hr_ := M.e_pure hM
   exact ⟨_, resE_tmp rfl, ⟨(s2 : Int), hr_, rfl, H⟩⟩
  replace hM := M.e_f hM c14z
  simp only [decide_eq_true_eq, decide_eq_false_iff_not, beq_iff_eq, bne_iff_ne, beq_eq_false_iff_ne, bne_eq_false_iff_eq, ne_eq, Decidable.not_not] at c14z
  refine W.skip ?_
  refine W.region rfl ?_
  refine s_val (x_ari (a := (s2 : Int)) (b := 1) (r := (s2 : Int) + 1) rfl rfl rfl (by omega)) ?_
  refine s_val (x_mv (v := I ((s2 : Int) + 1)) rfl) ?_
  refine s_nil ?_
  exact ⟨m8z, lt9z, s2 + 1, _, upds_of _ _ ⟨rfl, rfl, rfl, rfl, trivial⟩, M.e_inl hM hN11z, H⟩
 replace hM := M.e_f hM c12z
 simp only [decide_eq_true_eq, decide_eq_false_iff_not, beq_iff_eq, bne_iff_ne, beq_eq_false_iff_ne, bne_eq_false_iff_eq, ne_eq, Decidable.not_not] at c12z
 refine W.exit ?_
 have hX16z := M.e_inr hM hN11z
 subst hX16z
 replace hM := hk4z
 try dsimp only at hM
 refine W.seq ?_
 refine W.region rfl ?_
 refine s_val (x_as (v := I (-1)) rfl) ?_
 refine s_nil ?_
 refine W.ret ?_
 have hr_ := M.e_pure hM
 exact ⟨_, resE_tmp rfl, ⟨(-1), hr_, rfl, H⟩⟩

def zbp (s : List Int) (v : Int) : M Bool :=
  M.bind (zat s v) fun r2 =>
  M.pure (decide (0 <= r2))
theorem zc8 {R : List Chunk} {C_s : Cells} {v_s : Value} (s : List Int) (v : Int) (hC_s : Reads R C_s) (hs_s : Sl C_s v_s s) {r : Bool} (hM : (zbp s v).Ends r) (w : World) (H : St w w [] R) : Ret Try.prog 84 #[v_s, I v] w fun v w' => ∃ (y0 : Bool), y0 = r /\ v = B y0 /\ St w w' [] R := by
 refine ret_of_W Try.func84 rfl rfl rfl ?_
 refine W.seq ?_
 refine W.region rfl ?_
 refine s_val (x_as (v := B false) rfl) ?_
 refine s_nil ?_
 refine W.seq ?_
 refine W.region rfl ?_
 refine s_val (x_mv (v := v_s) rfl) ?_
 refine s_val (x_mv (v := I v) rfl) ?_
 obtain ⟨r2z, hx1z, hM⟩ := M.e_bind hM
 refine s_call cf39 [v_s, I v] rfl (zct s v (hC_s.app _) hs_s hx1z _ (H.gt 0)) ?_
 rintro vq w3z ⟨r2, hr4z, hvq, H2_⟩
 subst hr4z
 subst vq
 try dsimp only at hM
 replace H := H.bk H2_
 clear H2_
 refine s_val (x_cmp (kd := .i64) (a := r2) (b := 0) (r := decide (0 <= r2)) rfl rfl rfl) ?_
 refine s_val (x_as (v := B (decide (0 <= r2))) rfl) ?_
 refine s_nil ?_
 refine W.ret ?_
 have hr_ := M.e_pure hM
 exact ⟨_, resE_tmp rfl, ⟨(decide (0 <= r2)), hr_, rfl, H⟩⟩

def za3 (s : List Int) (f : Int -> M Bool) : Nat -> M (Nat ⊕ (Int ⊕ Unit)) := fun s2 =>
  bif decide ((s2 : Int) < (s.length : Int)) then (
  M.grd (decide ((s2 : Int) < (s.length : Int))) <|
  M.bind (f (s.getD s2 0)) fun r2 =>
  bif r2 then (
  M.pure (.inr (.inl (s2 : Int))))
  else (
  M.pure (.inl (s2 + 1))))
  else (
  M.pure (.inr (.inr ())))
def zbF (s : List Int) (f : Int -> M Bool) : M Int :=
  M.bind (M.iter (za3 s f) 0) fun x_ => match x_ with
  | (.inl s3) => (
  M.pure s3)
  | (.inr (_ : Unit)) => (
  M.pure (-1))
theorem zc5 {R : List Chunk} {C_s : Cells} {v_s : Value} {v_f : Value} (s : List Int) (f : Int -> M Bool) (hC_s : Reads R C_s) (hs_s : Sl C_s v_s s) (hf_f : FnM Try.prog R v_f f) {r : Int} (hM : (zbF s f).Ends r) (w : World) (H : St w w [] R) : Ret Try.prog 77 #[v_s, v_f] w fun v w' => ∃ (y0 : Int), y0 = r /\ v = I y0 /\ St w w' [] R := by
 refine ret_of_W Try.func77 rfl rfl rfl ?_
 refine W.seq ?_
 refine W.region rfl ?_
 refine s_val (x_as (v := I 0) rfl) ?_
 refine s_nil ?_
 refine W.seq ?_
 refine W.seq ?_
 refine W.region rfl ?_
 refine s_val (x_mv (v := v_s) rfl) ?_
 have hl1z := (hs_s).len_le
 refine s_val (x_lenS T23.und rfl hs_s) ?_
 refine s_val (x_mv (v := I 0) rfl) ?_
 refine s_nil ?_
 refine W.block ?_
 obtain ⟨ex2z, hi3z, hk4z⟩ := M.e_bind hM
 obtain ⟨m0_, hi3z⟩ := M.e_iter hi3z
 refine W.loop (fun m σ W => ∃ (s2 : Nat) (ρ : Env), σ = upds ρ [(0, v_s), (1, v_f), (7, I (s.length : Int)), (8, I (s2 : Int))] /\ M.iterN (za3 s f) m s2 = some ex2z /\ St w W [] R) ?_ ?_
 ·exact ⟨_, 0, _, upds_of _ _ ⟨rfl, rfl, rfl, rfl, trivial⟩, hi3z, H⟩
 rintro m7z σ w5z ⟨s2, ρ, rfl, hI6z, H⟩
 obtain ⟨m8z, lt9z, x10z, hM, hN11z⟩ := M.e_iterN hI6z
 simp only [za3] at hM
 clear hI6z
 refine W.seq ?_
 refine W.region rfl ?_
 refine s_val (x_cmp (kd := .i64) (a := (s2 : Int)) (b := (s.length : Int)) (r := decide ((s2 : Int) < (s.length : Int))) rfl rfl rfl) ?_
 refine s_nil ?_
 refine W.seq ?_
 refine W.cond (decide ((s2 : Int) < (s.length : Int))) rfl (fun c12z => ?_) (fun c12z => ?_)
 ·replace hM := M.e_t hM c12z
  simp only [decide_eq_true_eq, decide_eq_false_iff_not, beq_iff_eq, bne_iff_ne, beq_eq_false_iff_ne, bne_eq_false_iff_eq, ne_eq, Decidable.not_not] at c12z
  refine W.skip ?_
  refine W.seq ?_
  refine W.block ?_
  refine W.seq ?_
  refine W.region rfl ?_
  refine s_val (x_mv (v := I (s2 : Int)) rfl) ?_
  refine s_val (x_as (v := I (s2 : Int)) rfl) ?_
  refine s_nil ?_
  refine W.seq ?_
  refine W.region rfl ?_
  refine s_val (x_mv (v := v_f) rfl) ?_
  refine s_val (x_mv (v := v_s) rfl) ?_
  refine s_val (x_mv (v := I (s2 : Int)) rfl) ?_
  obtain ⟨sd13z, hM⟩ := M.e_grd hM
  simp only [Bool.and_eq_true, decide_eq_true_eq] at sd13z
  refine s_val (x_ix (a := v_s) (b := I (s2 : Int)) (v := vat v_s 1 (Int.toNat (s2 : Int))) rfl rfl (Sl.ix (α := Int) T23.und T23.size hs_s (by omega) (by omega))) ?_
  refine s_val (x_ld (p := vat v_s 1 (Int.toNat (s2 : Int))) (v := I (s.getD s2 0)) rfl (ld_sc Sc3 (At.mono (Int_at hs_s (i := (s2 : Int)) (by omega) (by omega)) (hC_s.at H)))) ?_
  obtain ⟨r2, hx15z, hM⟩ := M.e_bind hM
  refine t_callM H hf_f rfl rfl (s.getD s2 0) Reads.none (Arg.mkI (fun _ => none) _) hx15z ?_
  intro w14z H
  refine s_nil ?_
  refine W.cond r2 rfl (fun c16z => ?_) (fun c16z => ?_)
  ·replace hM := M.e_t hM c16z
   refine W.seq ?_
   refine W.region rfl ?_
   refine s_val (x_mv (v := I (s2 : Int)) rfl) ?_
   refine s_val (x_as (v := I (s2 : Int)) rfl) ?_
   refine s_nil ?_
   refine W.ret ?_
   have hX17z := M.e_inr hM hN11z
   subst hX17z
   replace hM := hk4z
   try dsimp only at hM
   have hr_ := M.e_pure hM
   exact ⟨_, resE_tmp rfl, ⟨(s2 : Int), hr_, rfl, H⟩⟩
  replace hM := M.e_f hM c16z
  refine W.skip ?_
  refine W.region rfl ?_
  refine s_val (x_ari (a := (s2 : Int)) (b := 1) (r := (s2 : Int) + 1) rfl rfl rfl (by omega)) ?_
  refine s_val (x_mv (v := I ((s2 : Int) + 1)) rfl) ?_
  refine s_nil ?_
  exact ⟨m8z, lt9z, s2 + 1, _, upds_of _ _ ⟨rfl, rfl, rfl, rfl, trivial⟩, M.e_inl hM hN11z, H⟩
 replace hM := M.e_f hM c12z
 simp only [decide_eq_true_eq, decide_eq_false_iff_not, beq_iff_eq, bne_iff_ne, beq_eq_false_iff_ne, bne_eq_false_iff_eq, ne_eq, Decidable.not_not] at c12z
 refine W.exit ?_
 have hX18z := M.e_inr hM hN11z
 subst hX18z
 replace hM := hk4z
 try dsimp only at hM
 refine W.seq ?_
 refine W.region rfl ?_
 refine s_val (x_as (v := I (-1)) rfl) ?_
 refine s_nil ?_
 refine W.ret ?_
 have hr_ := M.e_pure hM
 exact ⟨_, resE_tmp rfl, ⟨(-1), hr_, rfl, H⟩⟩

def zb6 (s : List Int) (f : Int -> M Bool) : M Bool :=
  M.bind (zbF s f) fun r2 =>
  M.pure (decide (0 <= r2))
theorem zcY {R : List Chunk} {C_s : Cells} {v_s : Value} {v_f : Value} (s : List Int) (f : Int -> M Bool) (hC_s : Reads R C_s) (hs_s : Sl C_s v_s s) (hf_f : FnM Try.prog R v_f f) {r : Bool} (hM : (zb6 s f).Ends r) (w : World) (H : St w w [] R) : Ret Try.prog 57 #[v_s, v_f] w fun v w' => ∃ (y0 : Bool), y0 = r /\ v = B y0 /\ St w w' [] R := by
 refine ret_of_W Try.func57 rfl rfl rfl ?_
 refine W.seq ?_
 refine W.region rfl ?_
 refine s_val (x_as (v := B false) rfl) ?_
 refine s_nil ?_
 refine W.seq ?_
 refine W.region rfl ?_
 refine s_val (x_mv (v := v_s) rfl) ?_
 refine s_val (x_mv (v := v_f) rfl) ?_
 obtain ⟨r2z, hx1z, hM⟩ := M.e_bind hM
 refine s_call cf77 [v_s, v_f] rfl (zc5 s f (hC_s.app _) hs_s (hf_f.app _) hx1z _ (H.gt 0)) ?_
 rintro vq w3z ⟨r2, hr4z, hvq, H2_⟩
 subst hr4z
 subst vq
 try dsimp only at hM
 replace H := H.bk H2_
 clear H2_
 refine s_val (x_cmp (kd := .i64) (a := r2) (b := 0) (r := decide (0 <= r2)) rfl rfl rfl) ?_
 refine s_val (x_as (v := B (decide (0 <= r2))) rfl) ?_
 refine s_nil ?_
 refine W.ret ?_
 have hr_ := M.e_pure hM
 exact ⟨_, resE_tmp rfl, ⟨(decide (0 <= r2)), hr_, rfl, H⟩⟩

def zbt (x : Int) (k02 : Int -> M Bool) : M Bool :=
  M.bind (k02 x) fun r2 =>
  M.pure (!r2)
theorem zc9 {R : List Chunk} {b_k0 : Nat} {v_k02 : Value} (x : Int) (k02 : Int -> M Bool) (hf_k02 : FnM Try.prog R v_k02 k02) (h_b_k0 : Has R (cBlk b_k0 [v_k02] 89)) {r : Bool} (hM : (zbt x k02).Ends r) (w : World) (H : St w w [] R) : Ret Try.prog 65 #[I x, .pointer (some ⟨b_k0, 0, none⟩)] w fun v w' => ∃ (y0 : Bool), y0 = r /\ v = B y0 /\ St w w' [] R := by
 refine ret_of_W Try.func65 rfl rfl rfl ?_
 refine W.seq ?_
 refine W.region rfl ?_
 refine s_val (x_as (v := B false) rfl) ?_
 refine s_nil ?_
 refine W.seq ?_
 refine W.region rfl ?_
 refine s_val (x_ld (p := .pointer (some ⟨b_k0, 0, none⟩)) (v := v_k02) rfl (ldb_sc Sc89 (h_b_k0.blk H) rfl)) ?_
 refine s_val (x_mv (v := I x) rfl) ?_
 obtain ⟨r2, hx2z, hM⟩ := M.e_bind hM
 refine t_callM H hf_k02 rfl rfl x Reads.none (Arg.mkI (fun _ => none) _) hx2z ?_
 intro w1z H
 refine s_val (x_not (b := r2) rfl) ?_
 refine s_val (x_as (v := B (!r2)) rfl) ?_
 refine s_nil ?_
 refine W.ret ?_
 have hr_ := M.e_pure hM
 exact ⟨_, resE_tmp rfl, ⟨(!r2), hr_, rfl, H⟩⟩

def zaV (l : List Int) (so : Int -> M Bool) : M Bool :=
  M.bind (zb6 l (fun xqz => zbt xqz so)) fun r2 =>
  M.pure (!r2)
theorem zb9 {R : List Chunk} {C_l : Cells} {v_l : Value} {v_so : Value} (l : List Int) (so : Int -> M Bool) (hC_l : Reads R C_l) (hs_l : Sl C_l v_l l) (hf_so : FnM Try.prog R v_so so) {r : Bool} (hM : (zaV l so).Ends r) (w : World) (H : St w w [] R) : Ret Try.prog 35 #[v_l, v_so] w fun v w' => ∃ (y0 : Bool), y0 = r /\ v = B y0 /\ St w w' [] R := by
 refine ret_of_W Try.func35 rfl rfl rfl ?_
 refine W.seq ?_
 refine W.region rfl ?_
 refine t_box (v := v_so) (cs := [v_so]) H rfl (FnM.cells hf_so) ?_
 intro b_1 w1z H
 refine s_val (x_as (v := B false) rfl) ?_
 refine s_nil ?_
 refine W.seq ?_
 refine W.region rfl ?_
 refine s_val (x_mv (v := v_l) rfl) ?_
 refine s_val (x_mf (fs := []) (cs := [.pointer (some ⟨b_1, 0, none⟩)]) rfl rfl) ?_
 obtain ⟨r3z, hx2z, hM⟩ := M.e_bind hM
 refine s_call cf57 [v_l, .func (.func 65) #[] #[.pointer (some ⟨b_1, 0, none⟩)]] rfl (zcY l (fun xqz => zbt xqz so) (hC_l.app _) hs_l ⟨65, [.pointer (some ⟨b_1, 0, none⟩)], rfl, cf65, fun wqz Lqz Cqz vqz xqz bqz hsqz hCqz hAqz hpqz => by obtain rfl := Arg.int hAqz; exact (zc9 xqz so (FnM.app (hf_so.app _) _) (Has.app (Has.here (k := 0) rfl) _) hpqz wqz (St.refl hsqz)).mono fun vqz wqz ⟨yqz, hrqz, hvqz, Hqz⟩ => by subst hrqz; exact ⟨hvqz, Hqz⟩⟩ hx2z _ (H.gt 1)) ?_
 rintro vq w4z ⟨r2, hr5z, hvq, H2_⟩
 subst hr5z
 subst vq
 try dsimp only at hM
 replace H := H.bk H2_
 clear H2_
 refine s_val (x_not (b := r2) rfl) ?_
 refine s_val (x_as (v := B (!r2)) rfl) ?_
 refine s_nil ?_
 refine W.ret ?_
 have hr_ := M.e_pure hM
 exact ⟨_, resE_tmp rfl, ⟨(!r2), hr_, rfl, (H.pk [])⟩⟩

end Go.Proofs.Ytbaehghammbjdaa
end
