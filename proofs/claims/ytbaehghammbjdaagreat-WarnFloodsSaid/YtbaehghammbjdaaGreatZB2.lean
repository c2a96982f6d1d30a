/- Part 2 of the texts on which the proof rests. Conditions: none. -/
import Derived.Test.YtbaehghammbjdaaGreatProg
import Derived.Shelf.SlIterI.Nil
import Derived.Shelf.SortM.Plain
import Derived.Shelf.SortM.SortNone
import Derived.WideKeyRuns
import Derived.Test.YtbaehghammbjdaaGreatZB1
set_option linter.unusedVariables false
set_option linter.unusedSimpArgs false
set_option linter.unusedSectionVars false
namespace Go.Proofs
open Go.RowKit Go.Maps Go.Sort Go.Shelf
def Tryz.sortA_ren : Go.Shelf.Ren := ⟨fun | 5 => 106 | 7 => 111 | 8 => 112 | 10 => 115 | 11 => 116 | 12 => 117 | 13 => 118 | 14 => 119 | 15 => 120 | 16 => 121 | 17 => 122 | 18 => 123 | 19 => 124 | 20 => 125 | 30 => 127 | 31 => 128 | 32 => 129 | 33 => 130 | 34 => 131 | 35 => 110 | 40 => 133 | n => n, fun | 0 => 0 | 3 => 3 | 4 => 4 | 5 => 5 | 9 => 9 | 22 => 22 | 23 => 22 | 25 => 3 | 32 => 155 | 35 => 159 | 36 => 160 | 41 => 164 | 44 => 167 | 46 => 169 | 53 => 170 | 57 => 174 | 63 => 176 | 64 => 177 | n => n, fun | n => n⟩
theorem Tryz.sortA : Go.Proofs.SlLaysM.n5 Tryz.prog Tryz.sortA_ren := {
  mixed := by kernel_rfl
  f5 := ⟨"slices.Sort[[]int,int]", by kernel_rfl, Tryz.func106.trans (congrArg some (by kernel_rfl))⟩
  f7 := ⟨"slices.pdqsortOrdered[int]", by kernel_rfl, Tryz.func111.trans (congrArg some (by kernel_rfl))⟩
  f8 := Tryz.func112.trans (congrArg some (by kernel_rfl))
  f10 := ⟨"slices.insertionSortOrdered[int]", by kernel_rfl, Tryz.func115.trans (congrArg some (by kernel_rfl))⟩
  f11 := ⟨"slices.heapSortOrdered[int]", by kernel_rfl, Tryz.func116.trans (congrArg some (by kernel_rfl))⟩
  f12 := ⟨"slices.breakPatternsOrdered[int]", by kernel_rfl, Tryz.func117.trans (congrArg some (by kernel_rfl))⟩
  f13 := ⟨"slices.choosePivotOrdered[int]", by kernel_rfl, Tryz.func118.trans (congrArg some (by kernel_rfl))⟩
  f14 := ⟨"slices.reverseRangeOrdered[int]", by kernel_rfl, Tryz.func119.trans (congrArg some (by kernel_rfl))⟩
  f15 := ⟨"slices.partialInsertionSortOrdered[int]", by kernel_rfl, Tryz.func120.trans (congrArg some (by kernel_rfl))⟩
  f16 := ⟨"cmp.Less[int]", by kernel_rfl, Tryz.func121.trans (congrArg some (by kernel_rfl))⟩
  f17 := ⟨"slices.partitionEqualOrdered[int]", by kernel_rfl, Tryz.func122.trans (congrArg some (by kernel_rfl))⟩
  f18 := ⟨"slices.partitionOrdered[int]", by kernel_rfl, Tryz.func123.trans (congrArg some (by kernel_rfl))⟩
  f19 := Tryz.func124.trans (congrArg some (by kernel_rfl))
  f20 := Tryz.func125.trans (congrArg some (by kernel_rfl))
  f30 := ⟨"slices.siftDownOrdered[int]", by kernel_rfl, Tryz.func127.trans (congrArg some (by kernel_rfl))⟩
  f31 := Tryz.func128.trans (congrArg some (by kernel_rfl))
  f32 := Tryz.func129.trans (congrArg some (by kernel_rfl))
  f33 := ⟨"slices.medianAdjacentOrdered[int]", by kernel_rfl, Tryz.func130.trans (congrArg some (by kernel_rfl))⟩
  f34 := ⟨"slices.medianOrdered[int]", by kernel_rfl, Tryz.func131.trans (congrArg some (by kernel_rfl))⟩
  f35 := ⟨"cmp.isNaN[int]", by kernel_rfl, Tryz.func110.trans (congrArg some (by kernel_rfl))⟩
  f40 := ⟨"slices.order2Ordered[int]", by kernel_rfl, Tryz.func133.trans (congrArg some (by kernel_rfl))⟩
  t0 := Tryz.underlying0
  a0 := Tryz.isAgg0
  z0 := Tryz.sizeOf0
  v0 := Tryz.zeroValue0
  t3 := Tryz.underlying3
  a3 := Tryz.isAgg3
  z3 := Tryz.sizeOf3
  v3 := Tryz.zeroValue3
  t4 := Tryz.underlying4
  a4 := Tryz.isAgg4
  z4 := Tryz.sizeOf4
  v4 := Tryz.zeroValue4
  t5 := Tryz.underlying5
  a5 := Tryz.isAgg5
  z5 := Tryz.sizeOf5
  v5 := Tryz.zeroValue5
  t9 := Tryz.underlying9
  a9 := Tryz.isAgg9
  z9 := Tryz.sizeOf9
  v9 := Tryz.zeroValue9
  t22 := Tryz.underlying22
  a22 := Tryz.isAgg22
  z22 := Tryz.sizeOf22
  v22 := Tryz.zeroValue22
  t23 := Tryz.underlying22
  a23 := Tryz.isAgg22
  z23 := Tryz.sizeOf22
  v23 := Tryz.zeroValue22
  t25 := Tryz.underlying3
  a25 := Tryz.isAgg3
  z25 := Tryz.sizeOf3
  v25 := Tryz.zeroValue3
  t32 := Tryz.underlying155
  a32 := Tryz.isAgg155
  z32 := Tryz.sizeOf155
  v32 := Tryz.zeroValue155
  t35 := Tryz.underlying159
  a35 := Tryz.isAgg159
  z35 := Tryz.sizeOf159
  v35 := Tryz.zeroValue159
  t36 := Tryz.underlying160
  a36 := Tryz.isAgg160
  z36 := Tryz.sizeOf160
  v36 := Tryz.zeroValue160
  t41 := Tryz.underlying164
  a41 := Tryz.isAgg164
  z41 := Tryz.sizeOf164
  v41 := Tryz.zeroValue164
  t44 := Tryz.underlying167
  a44 := Tryz.isAgg167
  z44 := Tryz.sizeOf167
  v44 := Tryz.zeroValue167
  t46 := Tryz.underlying169
  a46 := Tryz.isAgg169
  z46 := Tryz.sizeOf169
  v46 := Tryz.zeroValue169
  t53 := Tryz.underlying170
  a53 := Tryz.isAgg170
  z53 := Tryz.sizeOf170
  v53 := Tryz.zeroValue170
  t57 := Tryz.underlying174
  a57 := Tryz.isAgg174
  z57 := Tryz.sizeOf174
  v57 := Tryz.zeroValue174
  t63 := Tryz.underlying176
  a63 := Tryz.isAgg176
  z63 := Tryz.sizeOf176
  v63 := Tryz.zeroValue176
  t64 := Tryz.underlying177
  a64 := Tryz.isAgg177
  z64 := Tryz.sizeOf177
  v64 := Tryz.zeroValue177 }

end Go.Proofs
namespace Go.Nm
open Go
theorem OwnF.row {B : Nat} {e : TypeId} {w : World} {l : List Int} {g cap : Nat} {cur : Array Value} (ho : OwnF B e w (.slice (some ⟨g, 0, none⟩) l.length cap) l) (hg : w.heap[g]? = some (.cells cur e (0, 0)))
    (hcs : l.length <= cap) (hsz : cur.size = cap) (hb : B <= g) (hm : cap <= maxLen) (d : Array Int) (hl : d.size = l.length) (q : Nat) :
    OwnF B e (Sort.putRow (Value.int .i64) (Sort.ahead w q) g 0 d) (.slice (some ⟨g, 0, none⟩) l.length cap) d.toList /\ Grow B (.slice (some ⟨g, 0, none⟩) l.length cap) w (Sort.putRow (Value.int .i64) (Sort.ahead w q) g 0 d) := by
  have hs1 : Elt.sz Int = 1 := rfl
  have h1 : (Sort.putRow (Value.int .i64) (Sort.ahead w q) g 0 d).heap[g]? = some (.cells (Sort.putCells (Value.int .i64) 0 d cur) e (0, 0)) := by
    show (w.heap.modify g _)[g]? = _
    rw [Array.getElem?_modify, if_pos rfl, hg]
    rfl
  have h2 : ∀ k, k ≠ g -> (Sort.putRow (Value.int .i64) (Sort.ahead w q) g 0 d).heap[k]? = w.heap[k]? := by
    intro k hk
    show (w.heap.modify g _)[k]? = _
    rw [Array.getElem?_modify, if_neg (fun h => hk h.symm)]
  refine ⟨⟨by rw [enc_ints]; simp [hs1], .inr ⟨g, cap, _, by simp [hl], hb, h1, by simp [hl]; omega, hm, by simp [hs1, Sort.putCells]; omega, ?_⟩⟩, ⟨rfl, rfl, by simp [Sort.putRow, Sort.mapBlock, Sort.ahead], fun k _ hk => ?_, fun g' hg' => (ho.lt g' hg').1, fun a => by simp⟩⟩
  · rw [enc_ints, hs1]
    apply List.ext_getElem?
    intro i
    rw [List.getElem?_take, List.getElem?_map]
    by_cases hi : i < d.toList.length * 1
    · rw [if_pos hi]
      have hi' : i < d.size := by simpa using hi
      have hc : i < cur.size := by omega
      simp [Sort.putCells, hi', hc]
    · rw [if_neg hi, List.getElem?_eq_none (by simpa using hi)]
      rfl
  · refine h2 k (fun e' => hk ?_)
    rw [e']
    rfl
end Go.Nm
namespace Go.Proofs.YtbaehghammbjdaaGreat
open Go Go.Nm Go.Proofs
theorem sort_any {w : World} {v : Value} {l : List Int} (ho : OwnF 0 3 w v l) (hl : l.length <= 1000000) : Ret Tryz.prog 106 #[v] w fun u w' => u = .tuple #[] /\ OwnF 0 3 w' v (isort l) /\ Keep w w' /\ ∀ b, b < w.heap.size -> v.ownBlock ≠ some b -> w'.heap[b]? = w.heap[b]? := by
  have ho' := ho
  rcases ho.2 with ⟨rfl, hn⟩ | ⟨g, cap, cur, rfl, hb, hg, hc, hm, hcs, htake⟩
  · obtain rfl := List.length_eq_zero_iff.1 hn
    have h := AnyM.slices_Sort_int_none Tryz.sortA none 0 w
    refine Calls.mono h ?_
    rintro _ w' ⟨rfl, rfl⟩
    exact ⟨_, rfl, rfl, ho, Keep.refl _, fun _ _ _ => rfl⟩
  · have hs1 : Elt.sz Int = 1 := rfl
    rw [hs1] at hcs htake
    rw [enc_ints] at htake
    have hcell : ∀ j, j < l.length -> w.cell? ⟨g, 0 + j, none⟩ = some (.int .i64 (l.getD j 0)) := by
      intro j hj
      rw [Nat.zero_add, cell_of_row w g j cur 3 (0, 0) hg]
      have h1 : (cur.toList.take (l.length * 1))[j]? = (l.map I)[j]? := by rw [htake]
      rw [List.getElem?_take, if_pos (by omega), List.getElem?_map, getD_some l hj 0] at h1
      simpa using h1
    have hH : Sort.Holds (Value.int .i64) w g 0 l.toArray := by
      intro j hj
      have hj : j < l.length := by simpa using hj
      refine ⟨?_, by simp [World.frozen?, hg]⟩
      rw [hcell j hj]
      have : l.getD j 0 = l.toArray[j]! := by
        rw [List.getD_eq_getElem?_getD, List.getElem?_eq_getElem hj]
        simp [getElem!_pos, hj]
      rw [this]
    have h := AnyM.slices_Sort_int Tryz.sortA g 0 cap l w hH (heap_lt hg) (by omega)
    refine Calls.mono h ?_
    rintro _ w' ⟨rfl, q, os, rfl⟩
    rw [merge_isort (List.Perm.refl l)]
    have hlen : (isort l).length = l.length := (isort_perm l).length_eq
    obtain ⟨h1, h2⟩ := OwnF.row ho hg hc (by omega) hb hm (isort l).toArray (by simp [hlen]) q
    have hlt : g < (Sort.putRow (Value.int .i64) (Sort.ahead w q) g 0 (isort l).toArray).heap.size := Nat.lt_of_lt_of_le (heap_lt hg) h2.size
    refine ⟨_, rfl, rfl, ?_, ⟨h2.os, h2.out, by rw [Sort.size_grow]; exact Nat.le_trans h2.size (Nat.le_add_right _ _)⟩, fun b hb' hne => ?_⟩
    · rcases h1 with ⟨h3, h4 | ⟨g', cap', cur', h5, h6, h7, h8⟩⟩
      · exact absurd h4.1 (by simp)
      · simp only [Value.slice.injEq, Option.some.injEq, Addr.mk.injEq, and_true] at h5
        obtain ⟨rfl, _, rfl⟩ := h5
        refine ⟨h3, .inr ⟨g, cap, cur', by simp [hlen], h6, by rw [Sort.heap_grow_old _ _ hlt]; exact h7, h8⟩⟩
    · rw [Sort.heap_grow_old _ _ (Nat.lt_of_lt_of_le hb' h2.size)]
      exact h2.blk b hb' hne
end Go.Proofs.YtbaehghammbjdaaGreat
namespace Go.Nm
open Go
theorem St.sorted {w0 w w' : World} {L L' R : List Chunk} {k : Nat} {v : Value} {l l' : List Int} {e : TypeId} (H : St w0 w L R) (hk : L[k]? = some (cOwn (α := Int) e v l)) (ho : OwnF 0 e w' v l') (kp : Keep w w') (hs : ∀ b, b < w.heap.size -> v.ownBlock ≠ some b -> w'.heap[b]? = w.heap[b]?)
    (hl : L.set k (cOwn (α := Int) e v l') = L') : St w0 w' L' R :=
  H.set (c' := cOwn (α := Int) e v l') hk rfl kp hs (fun b hb => .inl hb) ho hl
end Go.Nm
namespace Go.Nm
open Go
end Go.Nm
namespace Go.Nm
open Go
section
variable {P : Program} {w : World} {σ : Env} {d : Nat} {ty : TypeId} {pos : String} {af : Array Edge} {g : Option (Nat × Bool)}
end
end Go.Nm
namespace Go.Nm
open Go
section
variable {P : Program} {ops : Array Oper} {md : Region.Mode} {C : World -> Prop} {z : Nat}
end
section
variable {P : Program} {all : List Oper} {C : World -> Prop} {z : Nat} {Q : Post} {r : List Nat} {σ : Env} {w : World}
end
end Go.Nm
namespace Go.Nm
open Go
section
variable {P : Program} {ops : Array Oper} {md : Region.Mode} {C : World -> Prop} {z : Nat}
end
section
variable {P : Program} {all : List Oper} {C : World -> Prop} {z : Nat} {Q : Post} {r r2 : Ord} {σ : Env} {w : World}
end
end Go.Nm
namespace Go.Nm
open Go
section
set_option linter.unusedSectionVars false
variable {α β : Type} [Flat α] [Flat β] [Inhabited β] {iv : β -> Value} {e1 e2 : TypeId} {v : Value} {us : List β} {T : List (List α)} {w0 w : World} {L L' R : List Chunk}
variable {P : Program} {all rest : List Oper} {Q : Post} {σ : Env} {d : Nat} {ty : TypeId} {pos : String} {af : Array Edge}
end
end Go.Nm
namespace Go.Nm
open Go
/-- A map of slices, with the rows to which they lead (they are read on only). -/
def cMem {κ : Type} [DecidableEq κ] (kenc : κ -> Value) (b : Nat) (B : Base) (F : κ -> M (List Int)) : Chunk where
  D k := k = b ∨ (B.D k /\ k < B.w.heap.size)
  ex := true
  ok w := (∃ f : κ -> Option Value, (cMap kenc id b f).ok w /\ ∀ k v, f k = some v -> ∃ l, (F k).Ends l /\ Sl B.cells v l) /\ (cRo B).ok w /\ ¬ (B.D b /\ b < B.w.heap.size)
  st w w' h hs k := by
    obtain ⟨⟨f, h1, h2⟩, h3, h4⟩ := h
    exact ⟨⟨f, (cMap kenc id b f).st w w' h1 hs fun j hj => k j (.inl hj), h2⟩, (cRo B).st w w' h3 hs fun j hj => k j (.inr hj), h4⟩
  bd w k h e := by
    obtain ⟨⟨f, h1, h2⟩, h3, h4⟩ := h
    rcases e with e | e
    · exact (cMap kenc id b f).bd w k h1 e
    · exact (cRo B).bd w k h3 e
/-- A base that nothing else knows. -/
def cRx (B : Base) : Chunk where
  D b := B.D b /\ b < B.w.heap.size
  ex := true
  ok w := (cRo B).ok w
  st w w' h hs k := (cRo B).st w w' h hs k
  bd w b h hb := (cRo B).bd w b h hb
section
variable {κ : Type} [DecidableEq κ] {kenc : κ -> Value} {b : Nat} {B : Base} {F : κ -> M (List Int)} {P : Program} {w w0 : World} {L L' R : List Chunk} {kt et t : TypeId}
variable {all rest : List Oper} {Q : Post} {σ : Env} {d : Nat} {ty : TypeId} {pos : String} {af : Array Edge}
theorem memLe : ∀ w, (cMem kenc b B F).ok w -> B.cells.Le w.cell? := fun w h => roLe w h.2.1
/-- A new one. -/
theorem t_mkmem {t' : TypeId} (kenc : κ -> Value) (F : κ -> M (List Int)) (H : St w0 w L R) (k : ∀ b B w', St w0 w' (cMem kenc b B F :: L) R -> SL P all Q rest (upd σ d (.map (some b))) w') : SL P all Q (⟨some d, .makeMap t' none, ty, pos, af, none⟩ :: rest) σ w :=
  s_mkmap fun b w' hn => k b ⟨w', fun _ => False⟩ w' (H.push (c := cMem kenc b ⟨w', fun _ => False⟩ F) hn.ext
    ⟨⟨fun _ => none, ⟨_, _, hn.same, MapR.nil kenc id 0⟩, fun k v h => by cases h⟩, ⟨Nat.le_refl _, fun _ h => h.elim⟩, fun h => h.1.elim⟩ (fun j hj => by
      rcases hj with hj | hj
      · rw [hj]; exact hn.ge
      · exact hj.1.elim))
/-- The map by itself, the rows beside it. -/
theorem St.memOpen {i : Nat} (H : St w0 w L R) (hk : L[i]? = some (cMem kenc b B F)) : ∃ f : κ -> Option Value, St w0 w (cMap kenc id b f :: cRx B :: L.eraseIdx i) R /\ ∀ k v, f k = some v -> ∃ l, (F k).Ends l /\ Sl B.cells v l := by
  have hlt := (List.getElem?_eq_some_iff.1 hk).1
  have hp : (cMem kenc b B F :: L.eraseIdx i).Perm L := by
    have e : L.take i ++ cMem kenc b B F :: L.drop (i + 1) = L := by
      rw [← (List.getElem?_eq_some_iff.1 hk).2, ← List.drop_eq_getElem_cons hlt, List.take_append_drop]
    rw [List.eraseIdx_eq_take_drop_succ]
    exact List.Perm.trans List.perm_middle.symm (by rw [e])
  have hS : Sep w (cMem kenc b B F :: (L.eraseIdx i ++ R)) := H.sep.perm (by rw [← List.cons_append]; exact hp.append_right R)
  obtain ⟨⟨⟨f, h1, h2⟩, h3, h4⟩, ha, hr⟩ := hS
  refine ⟨f, ⟨H.kp, h1, ?_, h3, ?_, hr⟩, h2⟩
  · intro c hc _ j hj hj'
    rcases List.mem_cons.1 hc with rfl | hc
    · rw [show j = b from hj] at hj'
      exact h4 hj'
    · exact ha c hc (by simp [cMem]) j (.inl hj) hj'
  · intro c hc _ j hj hj'
    exact ha c hc (by simp [cMem]) j (.inr hj) hj'
theorem St.memShut {f : κ -> Option Value} (H : St w0 w (cMap kenc id b f :: cRx B :: L) R) (hF : ∀ k v, f k = some v -> ∃ l, (F k).Ends l /\ Sl B.cells v l) : St w0 w (cMem kenc b B F :: L) R := by
  obtain ⟨h1, ha, h3, hb, hr⟩ := H.sep
  refine ⟨H.kp, ⟨⟨f, h1, hF⟩, h3, fun h => ha (cRx B) (by simp) (by simp [cMap]) b rfl h⟩, fun c hc _ j hj hj' => ?_, hr⟩
  rcases hj with hj | hj
  · exact ha c (List.mem_cons_of_mem _ hc) (by simp [cMap]) j hj hj'
  · exact hb c hc (by simp [cRx]) j hj hj'
theorem St.memShut1 {f : κ -> Option Value} {k : κ} {e : TypeId} {v : Value} {l : List Int} (H : St w0 w (cMap kenc id b (updF f k v) :: cRx B :: cOwn (α := Int) e v l :: L) R) (hF : ∀ k v, f k = some v -> ∃ l, (F k).Ends l /\ Sl B.cells v l) (hE : (F k).Ends l) :
    ∃ B', B.cells.Le B'.cells /\ Sl B'.cells v l /\ St w0 w (cMem kenc b B' F :: L) R := by
  have hS := H.sep
  obtain ⟨h1, ha, h3, hb, hown, hc, hr⟩ := hS
  have hlt : ∀ j, B.D j /\ j < B.w.heap.size -> (cRo B).D j := fun j hj => hj
  have hBB : B.cells.Le (Base.cells ⟨w, fun j => (B.D j /\ j < B.w.heap.size) ∨ v.ownBlock = some j⟩) := fun a c hc => by
    have hd : B.D a.block := by
      unfold Base.cells at hc
      split at hc
      · assumption
      · cases hc
    have hlt : a.block < B.w.heap.size := by
      unfold Base.cells at hc
      rw [if_pos hd] at hc
      exact World.block_lt_of_cell? B.w a hc
    unfold Base.cells
    rw [if_pos (show (B.D a.block /\ a.block < B.w.heap.size) ∨ v.ownBlock = some a.block from .inl ⟨hd, hlt⟩)]
    exact roLe w h3 a c hc
  have hvl : Sl (Base.cells ⟨w, fun j => (B.D j /\ j < B.w.heap.size) ∨ v.ownBlock = some j⟩) v l := (ownSl hown).mono fun a c hc => by
    have h1 := ownLe w hown a c hc
    unfold Base.cells
    rw [if_pos (Or.inr ?_)]
    · exact h1
    · unfold rowC at hc
      split at hc
      · rename_i p _ _
        split at hc
        · rename_i ha
          rw [ha]; rfl
        · cases hc
      · cases hc
  refine ⟨⟨w, fun j => (B.D j /\ j < B.w.heap.size) ∨ v.ownBlock = some j⟩, hBB, hvl, H.kp, ⟨⟨updF f k v, h1, fun k' v' hk' => ?_⟩, ⟨Nat.le_refl _, fun _ _ _ => rfl⟩, fun h => ?_⟩, fun c hc' _ j hj hj' => ?_, hr⟩
  · unfold updF at hk'
    split at hk'
    · rename_i ek
      subst ek
      obtain rfl := Option.some.inj hk'
      exact ⟨l, hE, hvl⟩
    · obtain ⟨l', e1, e2⟩ := hF k' v' hk'
      exact ⟨l', e1, e2.mono hBB⟩
  · rcases h.1 with h | h
    · exact ha (cRx B) (by simp) (by simp [cMap]) b rfl h
    · exact ha (cOwn (α := Int) e v l) (by simp) (by simp [cMap]) b rfl h
  · rcases hj with hj | ⟨hj | hj, _⟩
    · exact ha c (List.mem_cons_of_mem _ (List.mem_cons_of_mem _ hc')) (by simp [cMap]) j hj hj'
    · exact hb c (List.mem_cons_of_mem _ hc') (by simp [cRx]) j hj hj'
    · exact hc c hc' (by simp [cOwn]) j hj hj'
end
end Go.Nm
namespace Go.Nm
open Go
section
variable {P : Program} {w : World}
variable {all rest : List Oper} {Q : Post} {σ : Env} {w0 : World} {L R : List Chunk} {ty : TypeId} {pos : String} {af : Array Edge}
end
end Go.Nm
namespace Go.Nm
open Go
universe u
theorem qy1 {p : Prop} [Decidable p] : (decide p = true) = p := decide_eq_true_eq
theorem qy2 {p : Prop} [Decidable p] : (decide p = false) ↔ ¬p := decide_eq_false_iff_not
theorem qy3 {α : Type _} [BEq α] [LawfulBEq α] {a b : α} : (a == b) = true ↔ a = b := beq_iff_eq
theorem qy4 {α : Type _} [BEq α] [LawfulBEq α] {a b : α} : (a != b) = true ↔ a ≠ b := bne_iff_ne
theorem qy5 {α : Type _} [BEq α] [LawfulBEq α] {a b : α} : (a == b) = false ↔ a ≠ b := beq_eq_false_iff_ne
theorem qy6 {α : Type _} [BEq α] [LawfulBEq α] {a b : α} : (a != b) = false ↔ a = b := bne_eq_false_iff_eq
theorem qy7 {p : Prop} [Decidable p] : ¬¬p ↔ p := Decidable.not_not
abbrev Pq (b : Nat) : Value := .pointer (some ⟨b, 0, none⟩)
abbrev Oq (b o : Nat) : Value := .pointer (some ⟨b, o, none⟩)
class NthR {α : Type u} (l : List α) (i : Nat) (x : outParam α) : Prop where
  is : l[i]? = some x
instance {α : Type u} {l : List α} {x : α} : NthR (x :: l) 0 x := ⟨rfl⟩
instance {α : Type u} {l : List α} {x y : α} {i : Nat} [h : NthR l i x] : NthR (y :: l) (i + 1) x := ⟨h.is⟩
instance (priority := high) {α : Type u} {l : List α} {x a b c d : α} {i : Nat} [h : NthR l i x] : NthR (a :: b :: c :: d :: l) (i + 4) x := ⟨h.is⟩
class PickR {α : Type u} (l : List α) (i : List Nat) (o : outParam (List α)) : Prop where
  is : i.mapM (fun j => l[j]?) = some o
instance {α : Type u} {l : List α} : PickR l [] [] := ⟨rfl⟩
instance {α : Type u} {l o : List α} {i : Nat} {is : List Nat} {x : α} [h : NthR l i x] [k : PickR l is o] : PickR l (i :: is) (x :: o) := ⟨by rw [List.mapM_cons, h.is, k.is]; rfl⟩
class AppR {α : Type u} (a b : List α) (o : outParam (List α)) : Prop where
  is : a ++ b = o
instance {α : Type u} {b : List α} : AppR [] b b := ⟨rfl⟩
instance {α : Type u} {x : α} {a b o : List α} [h : AppR a b o] : AppR (x :: a) b (x :: o) := ⟨by rw [List.cons_append, h.is]⟩
class LenR {α : Type u} (l : List α) (n : Nat) : Prop where
  is : l.length = n
instance {α : Type u} : LenR ([] : List α) 0 := ⟨rfl⟩
instance {α : Type u} {l : List α} {x : α} {n : Nat} [h : LenR l n] : LenR (x :: l) (n + 1) := ⟨by rw [List.length_cons, h.is]⟩
class EndR {α : Type u} (n : Nat) (l : List α) (a b : outParam (List α)) : Prop where
  is : a ++ b = l
instance (priority := low) {α : Type u} {x : α} {n : Nat} {l a b : List α} [h : EndR n l a b] : EndR n (x :: l) (x :: a) b := ⟨by rw [List.cons_append, h.is]⟩
instance {α : Type u} {n : Nat} {l : List α} [LenR l n] : EndR n l [] l := ⟨rfl⟩
class SetR {α : Type u} (l : List α) (k : Nat) (x : α) (o : outParam (List α)) : Prop where
  is : l.set k x = o
instance {α : Type u} {l : List α} {x y : α} : SetR (y :: l) 0 x (x :: l) := ⟨rfl⟩
instance {α : Type u} {l o : List α} {x y : α} {k : Nat} [h : SetR l k x o] : SetR (y :: l) (k + 1) x (y :: o) := ⟨by rw [List.set_cons_succ, h.is]⟩
class NfR {α : Type u} (l : List α) (o : outParam (List α)) : Prop where
  is : l = o
instance {α : Type u} : NfR ([] : List α) [] := ⟨rfl⟩
instance {α : Type u} {x : α} {l o : List α} [h : NfR l o] : NfR (x :: l) (x :: o) := ⟨by rw [← h.is]⟩
instance {α : Type u} {l o p : List α} {k : Nat} {x : α} [h : NfR l o] [s : SetR o k x p] : NfR (l.set k x) p := ⟨by rw [h.is, s.is]⟩
instance {α : Type u} {a b a' b' o : List α} [h : NfR a a'] [h' : NfR b b'] [s : AppR a' b' o] : NfR (a ++ b) o := ⟨by rw [h.is, h'.is, s.is]⟩
instance {α : Type u} {x : α} {l o : List α} [h : NfR l o] : NfR ((x :: l).eraseIdx 0) o := ⟨by rw [← h.is]; rfl⟩
instance {α : Type u} {x : α} {l o : List α} {k : Nat} [h : NfR (l.eraseIdx k) o] : NfR ((x :: l).eraseIdx (k + 1)) (x :: o) := ⟨by rw [List.eraseIdx_cons_succ, h.is]⟩
class OverR {α : Type u} (cs : List α) (off : Nat) (vs : List α) (o : outParam (List α)) : Prop where
  is : cs.take off ++ vs ++ cs.drop (off + vs.length) = o
instance {α : Type u} {cs : List α} : OverR cs 0 [] cs := ⟨by simp⟩
instance {α : Type u} {c v : α} {cs vs o : List α} [h : OverR cs 0 vs o] : OverR (c :: cs) 0 (v :: vs) (v :: o) := ⟨by
  have := h.is
  simp only [List.take_zero, List.nil_append, Nat.zero_add] at this ⊢
  simp [this]⟩
instance {α : Type u} {c : α} {cs vs o : List α} {n : Nat} [h : OverR cs n vs o] : OverR (c :: cs) (n + 1) vs (c :: o) := ⟨by
  have := h.is
  rw [List.take_succ_cons, show n + 1 + vs.length = n + vs.length + 1 by omega, List.drop_succ_cons, List.cons_append, List.cons_append, this]⟩
section
variable {w0 w w' : World} {L L' L1 R A T : List Chunk}
theorem St.os {α : Type} [Flat α] {e : TypeId} {v : Value} {l : List α} (h : St w0 w L R) (k : Nat) [n : NthR L k (cOwn e v l)] : Sl (rowC v (l.flatMap Flat.enc)) v l := ownSl (h.get n.is)
theorem St.ol {α : Type} [Flat α] {e : TypeId} {v : Value} {l : List α} (h : St w0 w L R) (k : Nat) [n : NthR L k (cOwn e v l)] : (rowC v (l.flatMap Flat.enc)).Le w.cell? := ownLe w (h.get n.is)
theorem rdo {α : Type} [Flat α] {e : TypeId} {v : Value} {l : List α} (k : Nat) [n : NthR L k (cOwn e v l)] : Reads (L ++ R) (rowC v (l.flatMap Flat.enc)) := Reads.of n.is ownLe
theorem St.bl {b : Nat} {cs : List Value} {t : TypeId} (h : St w0 w L R) (k : Nat) [n : NthR L k (cBlk b cs t)] : w.heap[b]? = some (.cells cs.toArray t (0, 0)) := h.blk n.is
theorem St.nf (h : St w0 w L R) [n : NfR L L'] : St w0 w L' R := by
  have := n.is
  subst this
  exact h
theorem St.pk (h : St w0 w L R) (i : List Nat) [n : NfR L L1] [p : PickR L1 i L'] (hn : i.Nodup := by decide) : St w0 w L' R := h.nf.pick i hn p.is
theorem St.bk (h : St w0 w L R) (h' : St w w' A (T ++ R)) [a : NfR (A ++ T) L'] : St w0 w' L' R := h.back h' a.is
theorem St.gt (h : St w0 w L R) (k : Nat) [n : NfR L L1] [s : EndR k L1 A T] : St w w A (T ++ R) := h.nf.give s.is
end
section
variable {P : Program} {all rest : List Oper} {Q : Post} {σ : Env} {w0 w : World} {L L' R : List Chunk} {ty : TypeId} {pos : String} {af : Array Edge}
theorem zM {d : Nat} {x : Operand} (v : Value) (h : ev σ x = v) (k : SL P all Q rest (upd σ d v) w) : SL P all Q (⟨some d, .move x, ty, pos, af, none⟩ :: rest) σ w := s_val (x_mv h) k
theorem zA {d : Nat} {x : Operand} (v : Value) (h : ev σ x = v) (k : SL P all Q rest (upd σ d v) w) : SL P all Q (⟨some d, .assign x, ty, pos, af, none⟩ :: rest) σ w := s_val (x_as h) k
theorem zC {d : Nat} {op : BinOp} {t yt : TypeId} {x y : Operand} (a b : Int) (r : Bool) (hx : ev σ x = .int .i64 a) (hy : ev σ y = .int .i64 b) (hr : cmpV op a b = some r) (k : SL P all Q rest (upd σ d (.bool r)) w) : SL P all Q (⟨some d, .binOp op t x y yt, ty, pos, af, none⟩ :: rest) σ w := s_val (x_cmp hx hy hr) k
theorem zR {d : Nat} {op : BinOp} {t yt : TypeId} {x y : Operand} (a b r : Int) (hx : ev σ x = .int .i64 a) (hy : ev σ y = .int .i64 b) (hr : ariV op a b = some r) (h : -9223372036854775808 <= r /\ r <= 9223372036854775807) (k : SL P all Q rest (upd σ d (.int .i64 r)) w) : SL P all Q (⟨some d, .binOp op t x y yt, ty, pos, af, none⟩ :: rest) σ w := s_val (x_ari hx hy hr h) k
theorem zX {d i : Nat} {x : Operand} (vs : List Value) (v : Value) (h : ev σ x = .tuple vs.toArray) (hv : vs[i]? = some v) (k : SL P all Q rest (upd σ d v) w) : SL P all Q (⟨some d, .extract x i, ty, pos, af, none⟩ :: rest) σ w := s_val (x_ext h hv) k
theorem t_sw {dst : Option Nat} {t : TypeId} {x y : Operand} {b n : Nat} {cs cs' : List Value} {et : TypeId} (k off : Nat) (vs : List Value) (v : Value) (H : St w0 w L R) [hk : NthR L k (cBlk b cs et)] [hc : OverR cs off vs cs'] [hL : SetR L k (cBlk b cs' et) L'] (hx : ev σ x = .pointer (some ⟨b, off, none⟩)) (hy : ev σ y = v)
    (hs : (P.info? t).map (·.size) = some n) (hv : v.cells = vs.toArray) (hn : vs.length = n) (hl : Nat.ble (off + n) cs.length = true) (h1 : vs.all (·.oneCell') = true)
    (kk : ∀ w', St w0 w' L' R -> SL P all Q rest (updo σ dst undef) w') : SL P all Q (⟨dst, .store t x y, ty, pos, af, none⟩ :: rest) σ w :=
  t_st H hk.is hx hy hs hv hn hl h1 (by rw [← hn]; exact hc.is) hL.is kk
end
end Go.Nm
namespace Go.Nm
open Go
section
variable {P : Program} {w : World} {σ : Env} {d : Nat} {ty : TypeId} {pos : String} {af : Array Edge} {g : Option (Nat × Bool)}
end
end Go.Nm
namespace Go.Proofs.YtbaehghammbjdaaGreat
open Go Go.Nm
theorem cf6 : CF Tryz.prog 6 := ⟨_, Tryz.func6, rfl, by decide +kernel⟩
theorem cf7 : CF Tryz.prog 7 := ⟨_, Tryz.func7, rfl, by decide +kernel⟩
theorem cf8 : CF Tryz.prog 8 := ⟨_, Tryz.func8, rfl, by decide +kernel⟩
theorem cf9 : CF Tryz.prog 9 := ⟨_, Tryz.func9, rfl, by decide +kernel⟩
theorem cf10 : CF Tryz.prog 10 := ⟨_, Tryz.func10, rfl, by decide +kernel⟩
theorem cf11 : CF Tryz.prog 11 := ⟨_, Tryz.func11, rfl, by decide +kernel⟩
theorem cf12 : CF Tryz.prog 12 := ⟨_, Tryz.func12, rfl, by decide +kernel⟩
theorem cf13 : CF Tryz.prog 13 := ⟨_, Tryz.func13, rfl, by decide +kernel⟩
theorem cf14 : CF Tryz.prog 14 := ⟨_, Tryz.func14, rfl, by decide +kernel⟩
theorem cf15 : CF Tryz.prog 15 := ⟨_, Tryz.func15, rfl, by decide +kernel⟩
theorem cf16 : CF Tryz.prog 16 := ⟨_, Tryz.func16, rfl, by decide +kernel⟩
theorem cf17 : CF Tryz.prog 17 := ⟨_, Tryz.func17, rfl, by decide +kernel⟩
theorem cf18 : CF Tryz.prog 18 := ⟨_, Tryz.func18, rfl, by decide +kernel⟩
theorem cf19 : CF Tryz.prog 19 := ⟨_, Tryz.func19, rfl, by decide +kernel⟩
theorem cf20 : CF Tryz.prog 20 := ⟨_, Tryz.func20, rfl, by decide +kernel⟩
theorem cf25 : CF Tryz.prog 25 := ⟨_, Tryz.func25, rfl, by decide +kernel⟩
theorem cf32 : CF Tryz.prog 32 := ⟨_, Tryz.func32, rfl, by decide +kernel⟩
theorem cf35 : CF Tryz.prog 35 := ⟨_, Tryz.func35, rfl, by decide +kernel⟩
theorem cf36 : CF Tryz.prog 36 := ⟨_, Tryz.func36, rfl, by decide +kernel⟩
theorem cf42 : CF Tryz.prog 42 := ⟨_, Tryz.func42, rfl, by decide +kernel⟩
theorem cf43 : CF Tryz.prog 43 := ⟨_, Tryz.func43, rfl, by decide +kernel⟩
theorem cf44 : CF Tryz.prog 44 := ⟨_, Tryz.func44, rfl, by decide +kernel⟩
theorem cf45 : CF Tryz.prog 45 := ⟨_, Tryz.func45, rfl, by decide +kernel⟩
theorem cf46 : CF Tryz.prog 46 := ⟨_, Tryz.func46, rfl, by decide +kernel⟩
theorem cf47 : CF Tryz.prog 47 := ⟨_, Tryz.func47, rfl, by decide +kernel⟩
theorem cf48 : CF Tryz.prog 48 := ⟨_, Tryz.func48, rfl, by decide +kernel⟩
theorem cf49 : CF Tryz.prog 49 := ⟨_, Tryz.func49, rfl, by decide +kernel⟩
theorem cf50 : CF Tryz.prog 50 := ⟨_, Tryz.func50, rfl, by decide +kernel⟩
theorem cf51 : CF Tryz.prog 51 := ⟨_, Tryz.func51, rfl, by decide +kernel⟩
theorem cf52 : CF Tryz.prog 52 := ⟨_, Tryz.func52, rfl, by decide +kernel⟩
theorem cf53 : CF Tryz.prog 53 := ⟨_, Tryz.func53, rfl, by decide +kernel⟩
theorem cf54 : CF Tryz.prog 54 := ⟨_, Tryz.func54, rfl, by decide +kernel⟩
theorem cf55 : CF Tryz.prog 55 := ⟨_, Tryz.func55, rfl, by decide +kernel⟩
theorem cf56 : CF Tryz.prog 56 := ⟨_, Tryz.func56, rfl, by decide +kernel⟩
theorem cf57 : CF Tryz.prog 57 := ⟨_, Tryz.func57, rfl, by decide +kernel⟩
theorem cf58 : CF Tryz.prog 58 := ⟨_, Tryz.func58, rfl, by decide +kernel⟩
theorem cf59 : CF Tryz.prog 59 := ⟨_, Tryz.func59, rfl, by decide +kernel⟩
theorem cf60 : CF Tryz.prog 60 := ⟨_, Tryz.func60, rfl, by decide +kernel⟩
theorem cf61 : CF Tryz.prog 61 := ⟨_, Tryz.func61, rfl, by decide +kernel⟩
theorem cf62 : CF Tryz.prog 62 := ⟨_, Tryz.func62, rfl, by decide +kernel⟩
theorem cf63 : CF Tryz.prog 63 := ⟨_, Tryz.func63, rfl, by decide +kernel⟩
theorem cf64 : CF Tryz.prog 64 := ⟨_, Tryz.func64, rfl, by decide +kernel⟩
theorem cf65 : CF Tryz.prog 65 := ⟨_, Tryz.func65, rfl, by decide +kernel⟩
theorem cf66 : CF Tryz.prog 66 := ⟨_, Tryz.func66, rfl, by decide +kernel⟩
theorem cf67 : CF Tryz.prog 67 := ⟨_, Tryz.func67, rfl, by decide +kernel⟩
theorem cf68 : CF Tryz.prog 68 := ⟨_, Tryz.func68, rfl, by decide +kernel⟩
theorem cf69 : CF Tryz.prog 69 := ⟨_, Tryz.func69, rfl, by decide +kernel⟩
theorem cf70 : CF Tryz.prog 70 := ⟨_, Tryz.func70, rfl, by decide +kernel⟩
theorem cf71 : CF Tryz.prog 71 := ⟨_, Tryz.func71, rfl, by decide +kernel⟩
theorem cf72 : CF Tryz.prog 72 := ⟨_, Tryz.func72, rfl, by decide +kernel⟩
theorem cf73 : CF Tryz.prog 73 := ⟨_, Tryz.func73, rfl, by decide +kernel⟩
theorem cf74 : CF Tryz.prog 74 := ⟨_, Tryz.func74, rfl, by decide +kernel⟩
theorem cf75 : CF Tryz.prog 75 := ⟨_, Tryz.func75, rfl, by decide +kernel⟩
theorem cf76 : CF Tryz.prog 76 := ⟨_, Tryz.func76, rfl, by decide +kernel⟩
theorem cf77 : CF Tryz.prog 77 := ⟨_, Tryz.func77, rfl, by decide +kernel⟩
theorem cf78 : CF Tryz.prog 78 := ⟨_, Tryz.func78, rfl, by decide +kernel⟩
theorem cf79 : CF Tryz.prog 79 := ⟨_, Tryz.func79, rfl, by decide +kernel⟩
theorem cf80 : CF Tryz.prog 80 := ⟨_, Tryz.func80, rfl, by decide +kernel⟩
theorem cf81 : CF Tryz.prog 81 := ⟨_, Tryz.func81, rfl, by decide +kernel⟩
theorem cf83 : CF Tryz.prog 83 := ⟨_, Tryz.func83, rfl, by decide +kernel⟩
theorem cf86 : CF Tryz.prog 86 := ⟨_, Tryz.func86, rfl, by decide +kernel⟩
theorem cf88 : CF Tryz.prog 88 := ⟨_, Tryz.func88, rfl, by decide +kernel⟩
theorem cf89 : CF Tryz.prog 89 := ⟨_, Tryz.func89, rfl, by decide +kernel⟩
theorem cf90 : CF Tryz.prog 90 := ⟨_, Tryz.func90, rfl, by decide +kernel⟩
theorem cf92 : CF Tryz.prog 92 := ⟨_, Tryz.func92, rfl, by decide +kernel⟩
theorem cf93 : CF Tryz.prog 93 := ⟨_, Tryz.func93, rfl, by decide +kernel⟩
theorem cf94 : CF Tryz.prog 94 := ⟨_, Tryz.func94, rfl, by decide +kernel⟩
theorem cf95 : CF Tryz.prog 95 := ⟨_, Tryz.func95, rfl, by decide +kernel⟩
theorem cf96 : CF Tryz.prog 96 := ⟨_, Tryz.func96, rfl, by decide +kernel⟩
theorem cf97 : CF Tryz.prog 97 := ⟨_, Tryz.func97, rfl, by decide +kernel⟩
theorem cf98 : CF Tryz.prog 98 := ⟨_, Tryz.func98, rfl, by decide +kernel⟩
theorem cf99 : CF Tryz.prog 99 := ⟨_, Tryz.func99, rfl, by decide +kernel⟩
theorem cf100 : CF Tryz.prog 100 := ⟨_, Tryz.func100, rfl, by decide +kernel⟩
theorem cf101 : CF Tryz.prog 101 := ⟨_, Tryz.func101, rfl, by decide +kernel⟩
theorem cf102 : CF Tryz.prog 102 := ⟨_, Tryz.func102, rfl, by decide +kernel⟩
theorem cf103 : CF Tryz.prog 103 := ⟨_, Tryz.func103, rfl, by decide +kernel⟩
theorem cf104 : CF Tryz.prog 104 := ⟨_, Tryz.func104, rfl, by decide +kernel⟩
theorem cf105 : CF Tryz.prog 105 := ⟨_, Tryz.func105, rfl, by decide +kernel⟩
theorem cf106 : CF Tryz.prog 106 := ⟨_, Tryz.func106, rfl, by decide +kernel⟩
theorem cf107 : CF Tryz.prog 107 := ⟨_, Tryz.func107, rfl, by decide +kernel⟩
theorem cf108 : CF Tryz.prog 108 := ⟨_, Tryz.func108, rfl, by decide +kernel⟩
theorem cf109 : CF Tryz.prog 109 := ⟨_, Tryz.func109, rfl, by decide +kernel⟩
theorem cf110 : CF Tryz.prog 110 := ⟨_, Tryz.func110, rfl, by decide +kernel⟩
theorem cf113 : CF Tryz.prog 113 := ⟨_, Tryz.func113, rfl, by decide +kernel⟩
theorem T22 : SlT Tryz.prog 22 3 1 8 (I 0) := ⟨Tryz.underlying22, by kernel_rfl, rfl, by decide⟩
theorem T23 : SlT Tryz.prog 23 26 2 16 (.agg #[I 0, I 0]) := ⟨Tryz.underlying23, by kernel_rfl, rfl, by decide⟩
theorem T24 : SlT Tryz.prog 24 91 3 24 (.agg #[I 0, I 0, I 0]) := ⟨Tryz.underlying24, by kernel_rfl, rfl, by decide⟩
theorem T27 : SlT Tryz.prog 27 85 2 32 (.agg #[I 0, .slice none 0 0]) := ⟨Tryz.underlying27, by kernel_rfl, rfl, by decide⟩
theorem T34 : SlT Tryz.prog 34 92 3 24 (.agg #[I 0, I 0, I 0]) := ⟨Tryz.underlying34, by kernel_rfl, rfl, by decide⟩
theorem T35 : SlT Tryz.prog 35 93 2 32 (.agg #[I 0, .slice none 0 0]) := ⟨Tryz.underlying35, by kernel_rfl, rfl, by decide⟩
theorem T62 : SlT Tryz.prog 62 61 2 16 (.agg #[I 0, I 0]) := ⟨Tryz.underlying62, by kernel_rfl, rfl, by decide⟩
theorem T66 : SlT Tryz.prog 66 70 2 16 (.agg #[I 0, I 0]) := ⟨Tryz.underlying66, by kernel_rfl, rfl, by decide⟩
theorem Sc3 : isSc (Tryz.prog.underlying 3) = true := by rw [Tryz.underlying3]; rfl
theorem Sc4 : isSc (Tryz.prog.underlying 4) = true := by rw [Tryz.underlying4]; rfl
theorem Sc22 : isSc (Tryz.prog.underlying 22) = true := by rw [Tryz.underlying22]; rfl
theorem Sc23 : isSc (Tryz.prog.underlying 23) = true := by rw [Tryz.underlying23]; rfl
theorem Sc24 : isSc (Tryz.prog.underlying 24) = true := by rw [Tryz.underlying24]; rfl
theorem Sc27 : isSc (Tryz.prog.underlying 27) = true := by rw [Tryz.underlying27]; rfl
theorem Sc34 : isSc (Tryz.prog.underlying 34) = true := by rw [Tryz.underlying34]; rfl
theorem Sc35 : isSc (Tryz.prog.underlying 35) = true := by rw [Tryz.underlying35]; rfl
theorem Sc94 : isSc (Tryz.prog.underlying 94) = true := by rw [Tryz.underlying94]; rfl
theorem Sc106 : isSc (Tryz.prog.underlying 106) = true := by rw [Tryz.underlying106]; rfl
theorem Sc109 : isSc (Tryz.prog.underlying 109) = true := by rw [Tryz.underlying109]; rfl
theorem Sc113 : isSc (Tryz.prog.underlying 113) = true := by rw [Tryz.underlying113]; rfl
theorem Sc120 : isSc (Tryz.prog.underlying 120) = true := by rw [Tryz.underlying120]; rfl
theorem Sc133 : isSc (Tryz.prog.underlying 133) = true := by rw [Tryz.underlying133]; rfl
theorem Sc134 : isSc (Tryz.prog.underlying 134) = true := by rw [Tryz.underlying134]; rfl
theorem Sc146 : isSc (Tryz.prog.underlying 146) = true := by rw [Tryz.underlying146]; rfl
theorem Sz3 : (Tryz.prog.info? 3).map (·.size) = some 1 := by kernel_rfl
theorem Sz4 : (Tryz.prog.info? 4).map (·.size) = some 1 := by kernel_rfl
theorem Sz22 : (Tryz.prog.info? 22).map (·.size) = some 1 := by kernel_rfl
theorem Sz23 : (Tryz.prog.info? 23).map (·.size) = some 1 := by kernel_rfl
theorem Sz24 : (Tryz.prog.info? 24).map (·.size) = some 1 := by kernel_rfl
theorem Ag26 : isAg (Tryz.prog.underlying 26) = true := by rw [Tryz.underlying26]; rfl
theorem Sz26 : (Tryz.prog.info? 26).map (·.size) = some 2 := by kernel_rfl
theorem Sz27 : (Tryz.prog.info? 27).map (·.size) = some 1 := by kernel_rfl
theorem Ag29 : isAg (Tryz.prog.underlying 29) = true := by rw [Tryz.underlying29]; rfl
theorem Sz29 : (Tryz.prog.info? 29).map (·.size) = some 7 := by kernel_rfl
theorem Sz34 : (Tryz.prog.info? 34).map (·.size) = some 1 := by kernel_rfl
theorem Sz35 : (Tryz.prog.info? 35).map (·.size) = some 1 := by kernel_rfl
theorem Ag37 : isAg (Tryz.prog.underlying 37) = true := by rw [Tryz.underlying37]; rfl
theorem Sz37 : (Tryz.prog.info? 37).map (·.size) = some 7 := by kernel_rfl
theorem Ag61 : isAg (Tryz.prog.underlying 61) = true := by rw [Tryz.underlying61]; rfl
theorem Sz61 : (Tryz.prog.info? 61).map (·.size) = some 2 := by kernel_rfl
theorem Ag70 : isAg (Tryz.prog.underlying 70) = true := by rw [Tryz.underlying70]; rfl
theorem Sz70 : (Tryz.prog.info? 70).map (·.size) = some 2 := by kernel_rfl
theorem Ag85 : isAg (Tryz.prog.underlying 85) = true := by rw [Tryz.underlying85]; rfl
theorem Sz85 : (Tryz.prog.info? 85).map (·.size) = some 2 := by kernel_rfl
theorem Ag91 : isAg (Tryz.prog.underlying 91) = true := by rw [Tryz.underlying91]; rfl
theorem Sz91 : (Tryz.prog.info? 91).map (·.size) = some 3 := by kernel_rfl
theorem Ag92 : isAg (Tryz.prog.underlying 92) = true := by rw [Tryz.underlying92]; rfl
theorem Sz92 : (Tryz.prog.info? 92).map (·.size) = some 3 := by kernel_rfl
theorem Ag93 : isAg (Tryz.prog.underlying 93) = true := by rw [Tryz.underlying93]; rfl
theorem Sz93 : (Tryz.prog.info? 93).map (·.size) = some 2 := by kernel_rfl
theorem Ag96 : isAg (Tryz.prog.underlying 96) = true := by rw [Tryz.underlying96]; rfl
theorem Sz96 : (Tryz.prog.info? 96).map (·.size) = some 12 := by kernel_rfl
theorem Ag101 : isAg (Tryz.prog.underlying 101) = true := by rw [Tryz.underlying101]; rfl
theorem Sz101 : (Tryz.prog.info? 101).map (·.size) = some 3 := by kernel_rfl
theorem Sz106 : (Tryz.prog.info? 106).map (·.size) = some 1 := by kernel_rfl
theorem Sz109 : (Tryz.prog.info? 109).map (·.size) = some 1 := by kernel_rfl
theorem Sz134 : (Tryz.prog.info? 134).map (·.size) = some 1 := by kernel_rfl
theorem Sz146 : (Tryz.prog.info? 146).map (·.size) = some 1 := by kernel_rfl
theorem Fd26_0 : (Tryz.prog.underlying 26).bind (fun d => match d with | .struct fs => (fs[0]?).map (fun f => (f.offset, f.type)) | _ => none) = some (0, 3) := by rw [Tryz.underlying26]; rfl
theorem Fd26_1 : (Tryz.prog.underlying 26).bind (fun d => match d with | .struct fs => (fs[1]?).map (fun f => (f.offset, f.type)) | _ => none) = some (1, 3) := by rw [Tryz.underlying26]; rfl
theorem Fd29_0 : (Tryz.prog.underlying 29).bind (fun d => match d with | .struct fs => (fs[0]?).map (fun f => (f.offset, f.type)) | _ => none) = some (0, 22) := by rw [Tryz.underlying29]; rfl
theorem Fd29_1 : (Tryz.prog.underlying 29).bind (fun d => match d with | .struct fs => (fs[1]?).map (fun f => (f.offset, f.type)) | _ => none) = some (1, 23) := by rw [Tryz.underlying29]; rfl
theorem Fd29_2 : (Tryz.prog.underlying 29).bind (fun d => match d with | .struct fs => (fs[2]?).map (fun f => (f.offset, f.type)) | _ => none) = some (2, 22) := by rw [Tryz.underlying29]; rfl
theorem Fd29_3 : (Tryz.prog.underlying 29).bind (fun d => match d with | .struct fs => (fs[3]?).map (fun f => (f.offset, f.type)) | _ => none) = some (3, 24) := by rw [Tryz.underlying29]; rfl
theorem Fd29_4 : (Tryz.prog.underlying 29).bind (fun d => match d with | .struct fs => (fs[4]?).map (fun f => (f.offset, f.type)) | _ => none) = some (4, 26) := by rw [Tryz.underlying29]; rfl
theorem Fd29_5 : (Tryz.prog.underlying 29).bind (fun d => match d with | .struct fs => (fs[5]?).map (fun f => (f.offset, f.type)) | _ => none) = some (6, 27) := by rw [Tryz.underlying29]; rfl
theorem Fd37_0 : (Tryz.prog.underlying 37).bind (fun d => match d with | .struct fs => (fs[0]?).map (fun f => (f.offset, f.type)) | _ => none) = some (0, 22) := by rw [Tryz.underlying37]; rfl
theorem Fd37_1 : (Tryz.prog.underlying 37).bind (fun d => match d with | .struct fs => (fs[1]?).map (fun f => (f.offset, f.type)) | _ => none) = some (1, 23) := by rw [Tryz.underlying37]; rfl
theorem Fd37_2 : (Tryz.prog.underlying 37).bind (fun d => match d with | .struct fs => (fs[2]?).map (fun f => (f.offset, f.type)) | _ => none) = some (2, 22) := by rw [Tryz.underlying37]; rfl
theorem Fd37_3 : (Tryz.prog.underlying 37).bind (fun d => match d with | .struct fs => (fs[3]?).map (fun f => (f.offset, f.type)) | _ => none) = some (3, 34) := by rw [Tryz.underlying37]; rfl
theorem Fd37_4 : (Tryz.prog.underlying 37).bind (fun d => match d with | .struct fs => (fs[4]?).map (fun f => (f.offset, f.type)) | _ => none) = some (4, 26) := by rw [Tryz.underlying37]; rfl
theorem Fd37_5 : (Tryz.prog.underlying 37).bind (fun d => match d with | .struct fs => (fs[5]?).map (fun f => (f.offset, f.type)) | _ => none) = some (6, 35) := by rw [Tryz.underlying37]; rfl
theorem Fd61_0 : (Tryz.prog.underlying 61).bind (fun d => match d with | .struct fs => (fs[0]?).map (fun f => (f.offset, f.type)) | _ => none) = some (0, 3) := by rw [Tryz.underlying61]; rfl
theorem Fd61_1 : (Tryz.prog.underlying 61).bind (fun d => match d with | .struct fs => (fs[1]?).map (fun f => (f.offset, f.type)) | _ => none) = some (1, 3) := by rw [Tryz.underlying61]; rfl
theorem Fd70_0 : (Tryz.prog.underlying 70).bind (fun d => match d with | .struct fs => (fs[0]?).map (fun f => (f.offset, f.type)) | _ => none) = some (0, 3) := by rw [Tryz.underlying70]; rfl
theorem Fd70_1 : (Tryz.prog.underlying 70).bind (fun d => match d with | .struct fs => (fs[1]?).map (fun f => (f.offset, f.type)) | _ => none) = some (1, 3) := by rw [Tryz.underlying70]; rfl
theorem Fd85_0 : (Tryz.prog.underlying 85).bind (fun d => match d with | .struct fs => (fs[0]?).map (fun f => (f.offset, f.type)) | _ => none) = some (0, 3) := by rw [Tryz.underlying85]; rfl
theorem Fd85_1 : (Tryz.prog.underlying 85).bind (fun d => match d with | .struct fs => (fs[1]?).map (fun f => (f.offset, f.type)) | _ => none) = some (1, 22) := by rw [Tryz.underlying85]; rfl
theorem Fd91_0 : (Tryz.prog.underlying 91).bind (fun d => match d with | .struct fs => (fs[0]?).map (fun f => (f.offset, f.type)) | _ => none) = some (0, 3) := by rw [Tryz.underlying91]; rfl
theorem Fd91_1 : (Tryz.prog.underlying 91).bind (fun d => match d with | .struct fs => (fs[1]?).map (fun f => (f.offset, f.type)) | _ => none) = some (1, 3) := by rw [Tryz.underlying91]; rfl
theorem Fd91_2 : (Tryz.prog.underlying 91).bind (fun d => match d with | .struct fs => (fs[2]?).map (fun f => (f.offset, f.type)) | _ => none) = some (2, 3) := by rw [Tryz.underlying91]; rfl
theorem Fd92_0 : (Tryz.prog.underlying 92).bind (fun d => match d with | .struct fs => (fs[0]?).map (fun f => (f.offset, f.type)) | _ => none) = some (0, 3) := by rw [Tryz.underlying92]; rfl
theorem Fd92_1 : (Tryz.prog.underlying 92).bind (fun d => match d with | .struct fs => (fs[1]?).map (fun f => (f.offset, f.type)) | _ => none) = some (1, 3) := by rw [Tryz.underlying92]; rfl
theorem Fd92_2 : (Tryz.prog.underlying 92).bind (fun d => match d with | .struct fs => (fs[2]?).map (fun f => (f.offset, f.type)) | _ => none) = some (2, 3) := by rw [Tryz.underlying92]; rfl
theorem Fd93_0 : (Tryz.prog.underlying 93).bind (fun d => match d with | .struct fs => (fs[0]?).map (fun f => (f.offset, f.type)) | _ => none) = some (0, 3) := by rw [Tryz.underlying93]; rfl
theorem Fd93_1 : (Tryz.prog.underlying 93).bind (fun d => match d with | .struct fs => (fs[1]?).map (fun f => (f.offset, f.type)) | _ => none) = some (1, 22) := by rw [Tryz.underlying93]; rfl
theorem Fd101_0 : (Tryz.prog.underlying 101).bind (fun d => match d with | .struct fs => (fs[0]?).map (fun f => (f.offset, f.type)) | _ => none) = some (0, 3) := by rw [Tryz.underlying101]; rfl
theorem Fd101_1 : (Tryz.prog.underlying 101).bind (fun d => match d with | .struct fs => (fs[1]?).map (fun f => (f.offset, f.type)) | _ => none) = some (1, 3) := by rw [Tryz.underlying101]; rfl
theorem Fd101_2 : (Tryz.prog.underlying 101).bind (fun d => match d with | .struct fs => (fs[2]?).map (fun f => (f.offset, f.type)) | _ => none) = some (2, 4) := by rw [Tryz.underlying101]; rfl
theorem Fd108_0 : (Tryz.prog.underlying 108).bind (fun d => match d with | .struct fs => (fs[0]?).map (fun f => (f.offset, f.type)) | _ => none) = some (0, 106) := by rw [Tryz.underlying108]; rfl
theorem Fd111_0 : (Tryz.prog.underlying 111).bind (fun d => match d with | .struct fs => (fs[0]?).map (fun f => (f.offset, f.type)) | _ => none) = some (0, 29) := by rw [Tryz.underlying111]; rfl
theorem Fd111_1 : (Tryz.prog.underlying 111).bind (fun d => match d with | .struct fs => (fs[1]?).map (fun f => (f.offset, f.type)) | _ => none) = some (7, 109) := by rw [Tryz.underlying111]; rfl
theorem Al3 : (Tryz.prog.info? 3).map (·.zero) = some (some (I 0)) := by kernel_rfl
theorem Al4 : (Tryz.prog.info? 4).map (·.zero) = some (some (B false)) := by kernel_rfl
theorem Al22 : (Tryz.prog.info? 22).map (·.zero) = some (some (.slice none 0 0)) := by kernel_rfl
theorem Al23 : (Tryz.prog.info? 23).map (·.zero) = some (some (.slice none 0 0)) := by kernel_rfl
theorem Al26 : (Tryz.prog.info? 26).map (·.zero) = some (some (.agg #[I 0, I 0])) := by kernel_rfl
theorem Al29 : (Tryz.prog.info? 29).map (·.zero) = some (some (.agg #[.slice none 0 0, .slice none 0 0, .slice none 0 0, .slice none 0 0, I 0, I 0, .slice none 0 0])) := by kernel_rfl
theorem Al37 : (Tryz.prog.info? 37).map (·.zero) = some (some (.agg #[.slice none 0 0, .slice none 0 0, .slice none 0 0, .slice none 0 0, I 0, I 0, .slice none 0 0])) := by kernel_rfl
theorem Al61 : (Tryz.prog.info? 61).map (·.zero) = some (some (.agg #[I 0, I 0])) := by kernel_rfl
theorem Al70 : (Tryz.prog.info? 70).map (·.zero) = some (some (.agg #[I 0, I 0])) := by kernel_rfl
theorem Al85 : (Tryz.prog.info? 85).map (·.zero) = some (some (.agg #[I 0, .slice none 0 0])) := by kernel_rfl
theorem Al91 : (Tryz.prog.info? 91).map (·.zero) = some (some (.agg #[I 0, I 0, I 0])) := by kernel_rfl
theorem Al92 : (Tryz.prog.info? 92).map (·.zero) = some (some (.agg #[I 0, I 0, I 0])) := by kernel_rfl
theorem Al93 : (Tryz.prog.info? 93).map (·.zero) = some (some (.agg #[I 0, .slice none 0 0])) := by kernel_rfl
theorem Al96 : (Tryz.prog.info? 96).map (·.zero) = some (some (.agg #[B false, B false, B false, B false, B false, B false, B false, B false, B false, B false, B false, B false])) := by kernel_rfl
theorem Al101 : (Tryz.prog.info? 101).map (·.zero) = some (some (.agg #[I 0, I 0, B false])) := by kernel_rfl
theorem Al106 : (Tryz.prog.info? 106).map (·.zero) = some (some (.nilFunc)) := by kernel_rfl
theorem Al108 : (Tryz.prog.info? 108).map (·.zero) = some (some (.agg #[.nilFunc])) := by kernel_rfl
theorem Al111 : (Tryz.prog.info? 111).map (·.zero) = some (some (.agg #[.slice none 0 0, .slice none 0 0, .slice none 0 0, .slice none 0 0, I 0, I 0, .slice none 0 0, .map none])) := by kernel_rfl
theorem Al134 : (Tryz.prog.info? 134).map (·.zero) = some (some (.nilFunc)) := by kernel_rfl
theorem Al146 : (Tryz.prog.info? 146).map (·.zero) = some (some (.nilFunc)) := by kernel_rfl
theorem Bd26 {fs : Array Field} (h : Tryz.prog.underlying 26 = some (.struct fs)) : fs.toList.mapM (fun f => (Tryz.prog.info? f.type).map fun i => (f.offset, i.size)) = some [(0, 1), (1, 1)] := by rw [Tryz.underlying26] at h; simp only [Option.some.injEq, TypeDesc.struct.injEq] at h; subst h; kernel_rfl
theorem Bd29 {fs : Array Field} (h : Tryz.prog.underlying 29 = some (.struct fs)) : fs.toList.mapM (fun f => (Tryz.prog.info? f.type).map fun i => (f.offset, i.size)) = some [(0, 1), (1, 1), (2, 1), (3, 1), (4, 2), (6, 1)] := by rw [Tryz.underlying29] at h; simp only [Option.some.injEq, TypeDesc.struct.injEq] at h; subst h; kernel_rfl
theorem Bd37 {fs : Array Field} (h : Tryz.prog.underlying 37 = some (.struct fs)) : fs.toList.mapM (fun f => (Tryz.prog.info? f.type).map fun i => (f.offset, i.size)) = some [(0, 1), (1, 1), (2, 1), (3, 1), (4, 2), (6, 1)] := by rw [Tryz.underlying37] at h; simp only [Option.some.injEq, TypeDesc.struct.injEq] at h; subst h; kernel_rfl
theorem Bd61 {fs : Array Field} (h : Tryz.prog.underlying 61 = some (.struct fs)) : fs.toList.mapM (fun f => (Tryz.prog.info? f.type).map fun i => (f.offset, i.size)) = some [(0, 1), (1, 1)] := by rw [Tryz.underlying61] at h; simp only [Option.some.injEq, TypeDesc.struct.injEq] at h; subst h; kernel_rfl
theorem Bd70 {fs : Array Field} (h : Tryz.prog.underlying 70 = some (.struct fs)) : fs.toList.mapM (fun f => (Tryz.prog.info? f.type).map fun i => (f.offset, i.size)) = some [(0, 1), (1, 1)] := by rw [Tryz.underlying70] at h; simp only [Option.some.injEq, TypeDesc.struct.injEq] at h; subst h; kernel_rfl
theorem Bd85 {fs : Array Field} (h : Tryz.prog.underlying 85 = some (.struct fs)) : fs.toList.mapM (fun f => (Tryz.prog.info? f.type).map fun i => (f.offset, i.size)) = some [(0, 1), (1, 1)] := by rw [Tryz.underlying85] at h; simp only [Option.some.injEq, TypeDesc.struct.injEq] at h; subst h; kernel_rfl
theorem Bd91 {fs : Array Field} (h : Tryz.prog.underlying 91 = some (.struct fs)) : fs.toList.mapM (fun f => (Tryz.prog.info? f.type).map fun i => (f.offset, i.size)) = some [(0, 1), (1, 1), (2, 1)] := by rw [Tryz.underlying91] at h; simp only [Option.some.injEq, TypeDesc.struct.injEq] at h; subst h; kernel_rfl
theorem Bd101 {fs : Array Field} (h : Tryz.prog.underlying 101 = some (.struct fs)) : fs.toList.mapM (fun f => (Tryz.prog.info? f.type).map fun i => (f.offset, i.size)) = some [(0, 1), (1, 1), (2, 1)] := by rw [Tryz.underlying101] at h; simp only [Option.some.injEq, TypeDesc.struct.injEq] at h; subst h; kernel_rfl
theorem Bd108 {fs : Array Field} (h : Tryz.prog.underlying 108 = some (.struct fs)) : fs.toList.mapM (fun f => (Tryz.prog.info? f.type).map fun i => (f.offset, i.size)) = some [(0, 1)] := by rw [Tryz.underlying108] at h; simp only [Option.some.injEq, TypeDesc.struct.injEq] at h; subst h; kernel_rfl
theorem Bd111 {fs : Array Field} (h : Tryz.prog.underlying 111 = some (.struct fs)) : fs.toList.mapM (fun f => (Tryz.prog.info? f.type).map fun i => (f.offset, i.size)) = some [(0, 7), (7, 1)] := by rw [Tryz.underlying111] at h; simp only [Option.some.injEq, TypeDesc.struct.injEq] at h; subst h; kernel_rfl
theorem mixed : Tryz.prog.follows .mixedOrders = true := by kernel_rfl

end Go.Proofs.YtbaehghammbjdaaGreat
namespace Go.Nm
open Go
abbrev encDm (d : Dem) : Value := .agg #[I d.spring, I d.town]
end Go.Nm
namespace Go.Proofs.YtbaehghammbjdaaGreat
open Go Go.Nm Go.Proofs
theorem findAskDm {ν : Type} (k : Dem) (w : World) : ∀ (es : List MapEntry) (m : List (Dem × ν)) (venc : ν -> Value) (j : Nat), es.map (fun e => (e.key, e.val)) = m.map (fun p => (encDm p.1, venc p.2)) →
    (Instr.findAsking 61 (encDm k) es j).run Tryz.prog w = .ok ((idxM m k).bind fun i => (es[i]?).map fun e => (i + j, e.val)) w
  | [], [], _, _, _ => rfl
  | [], _ :: _, _, _, h => by simp at h
  | _ :: _, [], _, _, h => by simp at h
  | e :: es, p :: m, venc, j, h => by
    simp only [List.map_cons, List.cons.injEq, Prod.mk.injEq] at h
    have ih := findAskDm k w es m venc (j + 1) h.2
    unfold Instr.findAsking
    rw [h.1.1]
    have he := eqT61 k p.1 w
    unfold idxM
    by_cases hp : p.1 = k
    · rw [if_pos hp]
      have : decide (k = p.1) = true := by simp [hp]
      rw [this] at he
      simp [Op.equal, Op.maxDepth, he]
    · rw [if_neg hp]
      have : decide (k = p.1) = false := by simp; exact fun e => hp e.symm
      rw [this] at he
      simp only [Op.equal, Op.maxDepth, Sem.run_bind, he, Result.andThen_ok, Bool.false_eq_true, if_false, ih]
      cases hi : idxM m k with
      | none => rfl
      | some i =>
        simp only [Option.map_some, Option.bind_some, List.getElem?_cons_succ]
        cases es[i]? with
        | none => rfl
        | some e' => simp; omega
theorem keyDem {ν : Type} : KeyL (ν := ν) Tryz.prog 61 encDm := by
  refine ⟨fun e w k => ?_, fun w es m venc k h => ?_, fun k => ?_⟩
  · have u3 := Tryz.underlying3
    have a3 := Tryz.isAgg3
    have z3 := Tryz.sizeOf3
    have h1 : ∀ (n : Nat) (x : Int), (Instr.checkKey e (n + 1) 3 (I x)).run Tryz.prog w = .ok () w := fun n x => MapKept.run_checkKey u3 (show MapKept.IsKey (.int .i64) (I x) from rfl) e n
    have key : ∀ n : Nat, (Instr.checkKey e (n + 1 + 1) 61 (encDm k)).run Tryz.prog w = .ok () w := by
      intro n
      rw [Instr.checkKey]
      simp only [Sem.run_bind, run_underlying Tryz.underlying61, Result.andThen_ok]
      rw [← Array.forIn_toList]
      simp only [List.forIn_cons, List.forIn_nil]
      go_simp
    exact key 9998
  · rw [run_findKey_eq w (by rw [Tryz.underlying61]), findAskDm k w es m venc 0 h]
    rfl
  · simp [Instr.sameBits]
end Go.Proofs.YtbaehghammbjdaaGreat
namespace Go.Nm
open Go
theorem x_eqnilA {P : Program} {w : World} {σ : Env} {d : Nat} {ty : TypeId} {pos : String} {af : Array Edge} {g : Option (Nat × Bool)} {t e yt : TypeId} {x y : Operand} {a : Option Addr} {n c : Nat} (ht : P.underlying t = some (.slice e)) (hx : ev σ x = .slice a n c) (hy : ev σ y = .slice none 0 0) :
    (execOp (ev σ) ⟨some d, .binOp .eql t x y yt, ty, pos, af, g⟩).run P w = .ok (.value (.bool a.isNone)) w := by
  simp [execOp, hx, hy, eqGuard, binOp, run_equal_slice_nil w t e a n c ht]
end Go.Nm
namespace Go.Proofs.YtbaehghammbjdaaGreat
open Go Go.Nm
set_option maxRecDepth 100000 in
theorem clone_any {R : List Chunk} {C_s : Cells} {v_s : Value} (s : List Int) (hC_s : Reads R C_s) (hs_s : Sl C_s v_s s) (hlen : s.length * 8 <= 140737488355328) (w : World) (hsep : Sep w R) :
    Ret Tryz.prog 80 #[v_s] w fun v w' => St w w' [cOwn (α := Int) 3 v s] R := by
 have H : St w w [] R := St.refl hsep
 obtain ⟨a, c, hv, hc, hm, hk⟩ := hs_s.ex
 refine ret_of_W Tryz.func80 rfl rfl rfl ?_
 refine W.seq ?_
 refine W.region rfl ?_
 refine s_val (x_as (v := .slice none 0 0) rfl) ?_
 refine s_nil ?_
 refine W.seq ?_
 refine W.seq ?_
 refine W.region rfl ?_
 refine s_val (x_mv (v := v_s) rfl) ?_
 refine s_val (v := B a.isNone) (x_eqnilA (a := a) (n := s.length) (c := c) Tryz.underlying22 hv rfl) ?_
 refine s_nil ?_
 refine W.cond a.isNone rfl (fun h => ?_) (fun h => ?_)
 ·have e : s = [] := by
   cases s with
   | nil => rfl
   | cons x s =>
    obtain ⟨b, o, cs, ha, _⟩ := hk 0 x rfl
    subst ha
    cases h
  subst e
  refine W.seq ?_
  refine W.region rfl ?_
  refine s_val (x_as (v := .slice none 0 0) rfl) ?_
  refine s_nil ?_
  refine W.ret ?_
  exact ⟨_, resE_tmp rfl, H.nilOwn (α := Int) 3⟩
 ·refine W.skip ?_
  refine W.seq ?_
  refine W.region rfl ?_
  refine t_bs0 (α := Int) T22 H ?_
  intro v3z w4z H
  refine s_val (x_mv (v := v_s) rfl) ?_
  refine t_app (α := Int) (k := 0) (l := []) (l2 := s) (l' := s) (vy := v_s) T22 rfl H rfl rfl rfl hs_s (hC_s.at H) (List.nil_append _) (by simp only [List.length_nil]; omega) ?_
  intro v6z w7z H
  refine s_val (x_as (v := v6z) rfl) ?_
  refine s_nil ?_
  refine W.ret ?_
  exact ⟨_, resE_tmp rfl, H⟩
end Go.Proofs.YtbaehghammbjdaaGreat
section
set_option maxRecDepth 100000
set_option maxHeartbeats 16000000
namespace Go.Proofs.YtbaehghammbjdaaGreat
open Go Go.Nm
def zap (ac : List Int) (ae : List Span) (ag : List Int) (ah : List Town) (aa : Int) (ab : Int) (ai : List Flood) (station : Int) : M (Int × Int × Int) :=
  M.pure (station, aa, ab)
theorem zbG {R : List Chunk} {am : Cells} {aa : Value} {ao : Cells} {ab : Value} {ap : Cells} {ac : Value} {aq : Cells} {ae : Value} {au : Cells} {ag : Value} (av : List Int) (aw : List Span) (ax : List Int) (ay : List Town) (ah : Int) (ai : Int) (az : List Flood) (station : Int) (aD : Reads R am) (aE : Sl am aa av) (aF : Reads R ao) (aG : Sl ao ab aw) (aH : Reads R ap) (aI : Sl ap ac ax) (aJ : Reads R aq) (aK : Sl aq ae ay) (aL : Reads R au) (aM : Sl au ag az) {r : (Int × Int × Int)} (hM : (zap av aw ax ay ah ai az station).Ends r) (w : World) (H : St w w [] R) : Ret Tryz.prog 66 #[.agg #[aa, ab, ac, ae, I ah, I ai, ag], I station] w fun v w' => ∃ (y0 : Int) (y1 : Int) (y2 : Int) (aA : Nat) (aB : Nat), (y0, y1, y2) = r /\ v = .func (.func 96) #[] #[Pq aA, Pq aB] /\ St w w' [cBlk aA [I y0] 3, cBlk aB [aa, ab, ac, ae, I y1, I y2, ag] 29] R := by
 refine ret_of_W Tryz.func66 rfl rfl rfl ?_
 refine W.seq ?_
 refine W.region rfl ?_
 refine t_box (v := .agg #[aa, ab, ac, ae, I ah, I ai, ag]) (cs := [aa, ab, ac, ae, I ah, I ai, ag]) H rfl rfl ?_
 intro aj aN H
 refine t_box (v := I station) (cs := [I station]) H rfl rfl ?_
 intro ak aO H
 refine zA .nilFunc rfl ?_
 refine s_nil ?_
 refine W.seq ?_
 refine W.region rfl ?_
 refine s_val (x_mf (fs := []) (cs := [Pq ak, Pq aj]) rfl rfl) ?_
 refine zA (.func (.func 96) #[] #[Pq ak, Pq aj]) rfl ?_
 refine s_nil ?_
 refine W.ret ?_
 have aC := M.e_pure hM
 exact ⟨_, resE_tmp rfl, ⟨station, ah, ai, ak, aj, aC, rfl, H⟩⟩

def za1 {T_ : Type} (ab : T_ -> (Int × Int) -> M (Bool × T_)) (aa : List Int) : (Int × Nat × T_) -> M ((Int × Nat × T_) ⊕ ((T_ × Int) ⊕ (T_ × Int))) := fun (s, s2, t2) =>
  bif ((s != (-1)) && (decide (s < (aa.length : Int)))) then (
  M.bind (ab t2 ((s2 : Int), s)) fun (go, t) =>
  bif !go then (
  M.pure (.inr (.inl (t, s))))
  else (
  M.grd (decide ((0 : Int) <= s) && decide (s < (aa.length : Int))) <|
  M.grd (decide ((-9223372036854775808 : Int) <= ((s2 : Int) + 1)) && decide (((s2 : Int) + 1) <= (9223372036854775807 : Int))) <|
  M.pure (.inl (aa.getD (Int.toNat s) 0, s2 + 1, t))))
  else (
  M.pure (.inr (.inr (t2, s))))
def zan {T_ : Type} (aa : T_ -> (Int × Int) -> M (Bool × T_)) (t_ : T_) (ab : Int) (ac : List Int) (ae : List Span) (ag : List Int) (ah : List Town) (ai : Int) (aj : Int) (ak : List Flood) : M (T_ × Int) :=
  M.bind (M.iter (za1 aa ac) (ab, 0, t_)) fun x_ => match x_ with
  | (.inl (t3, s3)) => (
  M.pure (t3, s3))
  | (.inr (t4, s4)) => (
  M.pure (t4, s4))
theorem zbL {R : List Chunk} {T_ : Type} {Y_ : T_ -> List Chunk -> Prop} {ag : Value} {ai : List Chunk} {ab : Nat} {ac : Nat} {av : Cells} {ae : Value} {aw : Cells} {ax : Value} {ay : Cells} {az : Value} {aA : Cells} {aB : Value} {aC : Cells} {aD : Value} (aj : T_ -> (Int × Int) -> M (Bool × T_)) (t_ : T_) (ak : Int) (aa : List Int) (aE : List Span) (aF : List Int) (aG : List Town) (aH : Int) (aI : Int) (aJ : List Flood) (aP : YieldC Tryz.prog R arII Y_ ag aj) (aQ : Y_ t_ ai) (aR : Reads R av) (ah : Sl av ae aa) (a6 : Reads R aw) (a7 : Sl aw ax aE) (a8 : Reads R ay) (ba : Sl ay az aF) (bc : Reads R aA) (bf : Sl aA aB aG) (bg : Reads R aC) (bh : Sl aC aD aJ) (aK : Has R (cBlk ac [ae, ax, az, aB, I aH, I aI, aD] 29)) {r : (T_ × Int)} (hM : (zan aj t_ ak aa aE aF aG aH aI aJ).Ends r) (w : World) (H : St w w [cAll ai, cBlk ab [I ak] 3] R) : Ret Tryz.prog 96 #[ag, Pq ab, Pq ac] w fun v w' => ∃ (y0 : T_) (y1 : Int) (Ls0 : List Chunk), (y0, y1) = r /\ v = .tuple #[] /\ St w w' [cAll Ls0, cBlk ab [I y1] 3] R /\ Y_ y0 Ls0 := by
 refine ret_of_W Tryz.func96 rfl rfl rfl ?_
 refine W.seq ?_
 refine W.region rfl ?_
 refine zA (I 0) rfl ?_
 refine s_nil ?_
 refine W.block ?_
 obtain ⟨aS, am, aL⟩ := M.e_bind hM
 obtain ⟨bi, am⟩ := M.e_iter am
 refine W.loop (fun m σ W => ∃ (s : Int) (s2 : Nat) (t2 : T_) (Ls_t2 : List Chunk) (ρ : Env), σ = upds ρ [(0, ag), (1, Pq ab), (2, Pq ac), (4, I (s2 : Int))] /\ M.iterN (za1 aj aa) m (s, s2, t2) = some aS /\ St w W [cAll Ls_t2, cBlk ab [I s] 3] R /\ Y_ t2 Ls_t2) ?_ ?_
 ·exact ⟨_, ak, 0, t_, ai, _, upds_of _ _ ⟨rfl, rfl, rfl, rfl, trivial⟩, am, H, aQ⟩
 rintro bj σ bm ⟨s, s2, t2, Ls_t2, ρ, rfl, aM, H, hY_t2⟩
 obtain ⟨aT, aU, bn, hM, ao⟩ := M.e_iterN aM
 simp only [za1] at hM
 clear aM
 refine W.seq ?_
 refine W.seq ?_
 refine W.region rfl ?_
 refine s_val (x_ld (p := Pq ab) (v := I s) rfl (ldb_sc Sc3 (H.bl 1) rfl)) ?_
 refine zC s (-1) (s != (-1)) rfl rfl rfl ?_
 refine zM (B (s != (-1))) rfl ?_
 refine g_val (s != (-1)) (gy_t rfl) (fun hg => x_ld (p := Pq ab) (v := I s) rfl (ldb_sc Sc3 (H.bl 1) rfl)) ?_
 refine g_val (s != (-1)) (gy_t rfl) (fun hg => x_fa (a := Pq ac) (v := Pq ac) rfl (fa_blk (o := 0) Fd29_0 Sz22)) ?_
 refine g_val (s != (-1)) (gy_t rfl) (fun hg => x_ld (p := Pq ac) (v := ae) (gd_of (c := s != (-1)) hg (Pq ac)) (ldb_sc Sc22 (aK.blk H) rfl)) ?_
 have bo := (ah).len_le
 refine g_val (s != (-1)) (gy_t rfl) (fun hg => x_lenS T22.und (gd_of (c := s != (-1)) hg (ae)) ah) ?_
 refine g_val (s != (-1)) (gy_t rfl) (fun hg => x_cmp (kd := .i64) (a := s) (b := (aa.length : Int)) (r := decide (s < (aa.length : Int))) (gd_of (c := s != (-1)) hg (I s)) (gd_of (c := s != (-1)) hg (I (aa.length : Int))) rfl) ?_
 refine s_val (x_pand (b := s != (-1)) (r := decide (s < (aa.length : Int))) rfl (fun hb => gd_of (c := s != (-1)) (by first | exact hb | (rw [hb]; rfl) | simp_all) (B (decide (s < (aa.length : Int))))) rfl) ?_
 refine s_nil ?_
 refine W.cond ((s != (-1)) && (decide (s < (aa.length : Int)))) rfl (fun ap => ?_) (fun ap => ?_)
 ·replace hM := M.e_t hM ap
  refine W.skip ?_
  refine W.seq ?_
  refine W.block ?_
  refine W.seq ?_
  refine W.seq ?_
  refine W.region rfl ?_
  refine zM ag rfl ?_
  refine zM (I (s2 : Int)) rfl ?_
  refine s_val (x_ld (p := Pq ab) (v := I s) rfl (ldb_sc Sc3 (H.bl 1) rfl)) ?_
  obtain ⟨⟨go, t⟩, aV, hM⟩ := M.e_bind hM
  try dsimp only at hM
  refine t_yield (L := [cBlk ab [I s] 3]) H aP hY_t2 rfl [I (s2 : Int), I s] rfl ((s2 : Int), s) Reads.none rfl aV ?_
  intro aN bp aO H
  replace H := H.nf
  refine s_val (x_not (b := go) rfl) ?_
  refine s_nil ?_
  refine W.cond (!go) rfl (fun aq => ?_) (fun aq => ?_)
  ·replace hM := M.e_t hM aq
   refine W.ret ?_
   have aW := M.e_inr hM ao
   subst aW
   replace hM := aL
   try dsimp only at hM
   have au := M.e_pure hM
   exact ⟨_, resE_tmp0 rfl, ⟨t, s, aN, au, rfl, H, aO⟩⟩
  replace hM := M.e_f hM aq
  refine W.skip ?_
  refine W.region rfl ?_
  refine s_val (x_fa (a := Pq ac) (v := Pq ac) rfl (fa_blk (o := 0) Fd29_0 Sz22)) ?_
  refine s_val (x_ld (p := Pq ac) (v := ae) rfl (ldb_sc Sc22 (aK.blk H) rfl)) ?_
  refine s_val (x_ld (p := Pq ab) (v := I s) rfl (ldb_sc Sc3 (H.bl 1) rfl)) ?_
  obtain ⟨aX, hM⟩ := M.e_grd hM
  simp only [Bool.and_eq_true, decide_eq_true_eq] at aX
  refine s_val (x_ix (a := ae) (b := I s) (v := vat ae 1 (Int.toNat s)) rfl rfl (Sl.ix (α := Int) T22.und T22.size ah (by omega) (by omega))) ?_
  refine s_val (x_ld (p := vat ae 1 (Int.toNat s)) (v := I (aa.getD (Int.toNat s) 0)) rfl (ld_sc Sc3 (At.mono (Int_at ah (i := s) (by omega) (by omega)) (aR.at H)))) ?_
  refine t_sw 1 0 [I (aa.getD (Int.toNat s) 0)] (I (aa.getD (Int.toNat s) 0)) H rfl rfl Sz3 rfl rfl rfl rfl ?_
  intro bq H
  refine s_nil ?_
  refine W.region rfl ?_
  refine zM (I (s2 : Int)) rfl ?_
  obtain ⟨aY, hM⟩ := M.e_grd hM
  simp only [Bool.and_eq_true, decide_eq_true_eq] at aY
  refine zR (s2 : Int) 1 ((s2 : Int) + 1) rfl rfl rfl (by omega) ?_
  refine zA (I ((s2 : Int) + 1)) rfl ?_
  refine s_nil ?_
  exact ⟨aT, aU, aa.getD (Int.toNat s) 0, s2 + 1, t, aN, _, upds_of _ _ ⟨rfl, rfl, rfl, rfl, trivial⟩, M.e_inl hM ao, H, aO⟩
 replace hM := M.e_f hM ap
 refine W.exit ?_
 have aZ := M.e_inr hM ao
 subst aZ
 replace hM := aL
 try dsimp only at hM
 have au := M.e_pure hM
 exact ⟨_, resE_tmp0 rfl, ⟨t2, s, Ls_t2, au, rfl, H, hY_t2⟩⟩
def zcs (l : List Span) : (Int × Int × Nat) -> M ((Int × Int × Nat) ⊕ (Int × Int)) := fun (s, s2, s3) =>
  bif decide ((s3 : Int) < (l.length : Int)) then (
  M.grd (decide ((s3 : Int) < (l.length : Int))) <|
  M.grd (decide ((-9223372036854775808 : Int) <= (s + ((l.getD s3 default).lo))) && decide ((s + ((l.getD s3 default).lo)) <= (9223372036854775807 : Int))) <|
  M.grd (decide ((-9223372036854775808 : Int) <= (s2 + ((l.getD s3 default).hi))) && decide ((s2 + ((l.getD s3 default).hi)) <= (9223372036854775807 : Int))) <|
  M.pure (.inl (s + ((l.getD s3 default).lo), s2 + ((l.getD s3 default).hi), s3 + 1)))
  else (
  M.pure (.inr (s, s2)))
def zco (l : List Span) : M (Int × Int) :=
  M.bind (M.iter (zcs l) (0, 0, 0)) fun (s4, s5) =>
  M.pure (s4, s5)
theorem zcY {R : List Chunk} {ai : Cells} {ab : Value} (l : List Span) (ao : Reads R ai) (ag : Sl ai ab l) {r : (Int × Int)} (hM : (zco l).Ends r) (w : World) (H : St w w [] R) : Ret Tryz.prog 76 #[ab] w fun v w' => ∃ (y0 : Int) (y1 : Int), (y0, y1) = r /\ v = .agg #[I y0, I y1] /\ St w w' [] R := by
 refine ret_of_W Tryz.func76 rfl rfl rfl ?_
 refine W.seq ?_
 refine W.region rfl ?_
 refine t_alloc (cs := [I 0, I 0]) H Al26 rfl ?_
 intro aj aC H
 refine s_nil ?_
 refine W.seq ?_
 refine W.region rfl ?_
 refine t_alloc (cs := [I 0, I 0]) H Al26 rfl ?_
 intro aa aD H
 refine s_nil ?_
 refine W.seq ?_
 refine W.seq ?_
 refine W.region rfl ?_
 refine zM ab rfl ?_
 have aE := (ag).len_le
 refine s_val (x_lenS T23.und rfl ag) ?_
 refine zM (I 0) rfl ?_
 refine s_nil ?_
 refine W.block ?_
 obtain ⟨ap, ah, aq⟩ := M.e_bind hM
 obtain ⟨aF, ah⟩ := M.e_iter ah
 refine W.loop (fun m σ W => ∃ (s : Int) (s2 : Int) (s3 : Nat) (ρ : Env), σ = upds ρ [(2, Pq aj), (3, Pq aa), (6, ab), (7, I (l.length : Int)), (8, I (s3 : Int))] /\ M.iterN (zcs l) m (s, s2, s3) = some ap /\ St w W [cBlk aa [I s, I s2] 26, cBlk aj [I 0, I 0] 26] R) ?_ ?_
 ·exact ⟨_, 0, 0, 0, _, upds_of _ _ ⟨rfl, rfl, rfl, rfl, rfl, trivial⟩, ah, H⟩
 rintro aG σ aH ⟨s, s2, s3, ρ, rfl, ak, H⟩
 obtain ⟨au, av, aI, hM, am⟩ := M.e_iterN ak
 simp only [zcs] at hM
 clear ak
 refine W.seq ?_
 refine W.region rfl ?_
 refine zC (s3 : Int) (l.length : Int) (decide ((s3 : Int) < (l.length : Int))) rfl rfl rfl ?_
 refine s_nil ?_
 refine W.seq ?_
 refine W.cond (decide ((s3 : Int) < (l.length : Int))) rfl (fun ae => ?_) (fun ae => ?_)
 ·replace hM := M.e_t hM ae
  simp only [qy1, qy2, qy3, qy4, qy5, qy6, ne_eq, qy7] at ae
  refine W.skip ?_
  refine W.seq ?_
  refine W.block ?_
  refine W.seq ?_
  refine W.region rfl ?_
  obtain ⟨aw, hM⟩ := M.e_grd hM
  simp only [Bool.and_eq_true, decide_eq_true_eq] at aw
  refine s_val (x_ix (a := ab) (b := I (s3 : Int)) (v := vat ab 2 (Int.toNat (s3 : Int))) rfl rfl (Sl.ix (α := Span) T23.und T23.size ag (by omega) (by omega))) ?_
  refine s_val (x_ld (p := vat ab 2 (Int.toNat (s3 : Int))) (v := .agg #[I ((l.getD s3 default).lo), I ((l.getD s3 default).hi)]) rfl (ld_ag Ag26 Sz26 (At.mono (Span_atA ag (i := (s3 : Int)) (by omega) (by omega)) (ao.at H)))) ?_
  refine t_alloc (cs := [I 0, I 0]) H Al26 rfl ?_
  intro ac aJ H
  refine t_sw 0 0 [I ((l.getD s3 default).lo), I ((l.getD s3 default).hi)] (.agg #[I ((l.getD s3 default).lo), I ((l.getD s3 default).hi)]) H rfl rfl Sz26 rfl rfl rfl rfl ?_
  intro aK H
  refine s_nil ?_
  refine W.region rfl ?_
  refine s_val (x_fa (a := Pq aa) (v := Pq aa) rfl (fa_blk (o := 0) Fd26_0 Sz3)) ?_
  refine s_val (x_ld (p := Pq aa) (v := I s) rfl (ldb_sc Sc3 (H.bl 1) rfl)) ?_
  refine s_val (x_fa (a := Pq ac) (v := Pq ac) rfl (fa_blk (o := 0) Fd26_0 Sz3)) ?_
  refine s_val (x_ld (p := Pq ac) (v := I ((l.getD s3 default).lo)) rfl (ldb_sc Sc3 (H.bl 0) rfl)) ?_
  obtain ⟨ax, hM⟩ := M.e_grd hM
  simp only [Bool.and_eq_true, decide_eq_true_eq] at ax
  refine zR s ((l.getD s3 default).lo) (s + ((l.getD s3 default).lo)) rfl rfl rfl (by omega) ?_
  refine s_val (x_fa (a := Pq aa) (v := Oq aa 1) rfl (fa_blk (o := 0) Fd26_1 Sz3)) ?_
  refine s_val (x_ld (p := Oq aa 1) (v := I s2) rfl (ldb_sc Sc3 (H.bl 1) rfl)) ?_
  refine s_val (x_fa (a := Pq ac) (v := Oq ac 1) rfl (fa_blk (o := 0) Fd26_1 Sz3)) ?_
  refine s_val (x_ld (p := Oq ac 1) (v := I ((l.getD s3 default).hi)) rfl (ldb_sc Sc3 (H.bl 0) rfl)) ?_
  obtain ⟨ay, hM⟩ := M.e_grd hM
  simp only [Bool.and_eq_true, decide_eq_true_eq] at ay
  refine zR s2 ((l.getD s3 default).hi) (s2 + ((l.getD s3 default).hi)) rfl rfl rfl (by omega) ?_
  refine s_val (x_bld (ps := [(0, I (s + ((l.getD s3 default).lo))), (1, I (s2 + ((l.getD s3 default).hi)))]) (zs := [I 0, I 0]) (L' := [I (s + ((l.getD s3 default).lo)), I (s2 + ((l.getD s3 default).hi))]) rfl Tryz.underlying26 Al26 rfl (Bd26 Tryz.underlying26) (.cons (cs := [I (s + ((l.getD s3 default).lo))]) rfl rfl rfl rfl rfl <| .cons (cs := [I (s2 + ((l.getD s3 default).hi))]) rfl rfl rfl rfl rfl <| .nil)) ?_
  refine t_sw 1 0 [I (s + ((l.getD s3 default).lo)), I (s2 + ((l.getD s3 default).hi))] (.agg #[I (s + ((l.getD s3 default).lo)), I (s2 + ((l.getD s3 default).hi))]) H rfl rfl Sz26 rfl rfl rfl rfl ?_
  intro aL H
  refine s_nil ?_
  refine W.region rfl ?_
  refine zR (s3 : Int) 1 ((s3 : Int) + 1) rfl rfl rfl (by omega) ?_
  refine zM (I ((s3 : Int) + 1)) rfl ?_
  refine s_nil ?_
  exact ⟨au, av, s + ((l.getD s3 default).lo), s2 + ((l.getD s3 default).hi), s3 + 1, _, upds_of _ _ ⟨rfl, rfl, rfl, rfl, rfl, trivial⟩, M.e_inl hM am, (H.pk [1, 2])⟩
 replace hM := M.e_f hM ae
 simp only [qy1, qy2, qy3, qy4, qy5, qy6, ne_eq, qy7] at ae
 refine W.exit ?_
 have az := M.e_inr hM am
 subst az
 replace hM := aq
 try dsimp only at hM
 refine W.seq ?_
 refine W.region rfl ?_
 refine s_val (x_ld (p := Pq aa) (v := .agg #[I s, I s2]) rfl (ldb_ag (ds := [I s, I s2]) Ag26 Sz26 (H.bl 0) rfl rfl)) ?_
 refine t_sw 1 0 [I s, I s2] (.agg #[I s, I s2]) H rfl rfl Sz26 rfl rfl rfl rfl ?_
 intro aM H
 refine s_nil ?_
 refine W.ret ?_
 have aA := (H.bl 1)
 have aB := M.e_pure hM
 exact ⟨_, (resE_of1 (v := .agg #[I s, I s2]) rfl (.cell (v := .agg #[I s, I s2]) rfl (run_loadVar_ag (ds := [I s, I s2]) Ag26 Sz26 aA rfl rfl) <| .nil)), ⟨s, s2, aB, rfl, (H.pk [])⟩⟩

def zaW (aa : List Span) (ab : Int) : (List Span) -> (Int × Int) -> M ((List Span) ⊕ ((List Span) × (List Span) × Int × Int)) := fun l (x, x2) =>
  bif x2 == ab then (
  M.bind (zco l) fun (r0, r1) =>
  M.pure (.inr (l, l, r0, r1)))
  else (
  M.grd (decide ((0 : Int) <= x2) && decide (x2 < (aa.length : Int))) <|
  M.grd (decide ((l.length + ([(aa.getD (Int.toNat x2) default)]).length) * 16 <= 140737488355328)) <|
  M.pure (.inl (l ++ ([(aa.getD (Int.toNat x2) default)]))))
def zbj (ab : List Int) (aa : List Span) (ac : List Int) (ae : List Town) (ah : Int) (ai : Int) (ag : List Flood) (aj : Int) (ak : Int) : M (Int × Int × Bool) :=
  M.bind (zap ab aa ac ae ah ai ag aj) fun (am, ao, ap) =>
  M.bind (zan (M.yl (zaW aa ak)) (.inl ([])) am ab aa ac ae ao ap ag) fun x_ => match x_ with
  | (.inl l, q0) => (
  M.pure (0, 0, false))
  | (.inr (l2, l3, s, s2), q0) => (
  M.pure (s, s2, true))
theorem zcy {R : List Chunk} {ab : Nat} {bc : Cells} {ak : Value} {bf : Cells} {ae : Value} {bg : Cells} {am : Value} {bh : Cells} {ao : Value} {bi : Cells} {ap : Value} {bn : Nat} (aL : List Int) (aa : List Span) (aM : List Int) (aN : List Town) (aB : Int) (aC : Int) (aO : List Flood) (aF : Int) (ac : Int) (aP : Reads R bc) (aX : Sl bc ak aL) (aG : Reads R bf) (aH : Sl bf ae aa) (aQ : Reads R bg) (aY : Sl bg am aM) (aR : Reads R bh) (aZ : Sl bh ao aN) (aS : Reads R bi) (a6 : Sl bi ap aO) (aT : Has R (cBlk ab [ak, ae, am, ao, I aB, I aC, ap, .map (some bn)] 111)) {r : (Int × Int × Bool)} (hM : (zbj aL aa aM aN aB aC aO aF ac).Ends r) (w : World) (H : St w w [] R) : Ret Tryz.prog 74 #[Pq ab, I aF, I ac] w fun v w' => ∃ (y0 : Int) (y1 : Int) (y2 : Bool), (y0, y1, y2) = r /\ v = .tuple #[.agg #[I y0, I y1], B y2] /\ St w w' [] R := by
 refine ret_of_WD Tryz.func74 rfl rfl rfl ?_
 replace H : St w w [cMk ([])] R := H.mk0
 have bK := aX.len_le
 have bL := aH.len_le
 have bM := aY.len_le
 have bN := aZ.len_le
 have bO := a6.len_le
 unfold zbj at hM
 refine WD.seq ?_
 refine WD.of ?_
 refine W.region rfl ?_
 refine t_box (v := Pq ab) (cs := [Pq ab]) H rfl rfl ?_
 intro aq bP H
 refine t_box (v := I ac) (cs := [I ac]) H rfl rfl ?_
 intro au bQ H
 refine t_alloc (cs := [I 0, I 0]) H Al26 rfl ?_
 intro ai bR H
 refine t_alloc (cs := [B false]) H Al4 rfl ?_
 intro aj bS H
 refine s_nil ?_
 refine WD.seq ?_
 refine WD.of ?_
 refine W.region rfl ?_
 refine t_alloc (cs := [.slice none 0 0]) H Al23 rfl ?_
 intro ah bT H
 refine s_nil ?_
 refine WD.seq ?_
 refine WD.seq ?_
 refine WD.of ?_
 refine W.region rfl ?_
 refine s_val (x_ld (p := Pq aq) (v := Pq ab) rfl (ldb_sc Sc94 (H.bl 4) rfl)) ?_
 refine s_val (x_nc (a := ⟨ab, 0, none⟩) rfl) ?_
 refine s_val (x_fa (a := Pq ab) (v := Pq ab) rfl (fa_blk (o := 0) Fd111_0 Sz29)) ?_
 refine s_val (x_ld (p := Pq ab) (v := .agg #[ak, ae, am, ao, I aB, I aC, ap]) rfl (ldb_ag (ds := [ak, ae, am, ao, I aB, I aC, ap]) Ag29 Sz29 (aT.blk H) rfl rfl)) ?_
 refine zM (I aF) rfl ?_
 obtain ⟨bU, bo, hM⟩ := M.e_bind hM
 refine s_call cf66 [.agg #[ak, ae, am, ao, I aB, I aC, ap], I aF] rfl (zbG aL aa aM aN aB aC aO aF (aP.app _) aX (aG.app _) aH (aQ.app _) aY (aR.app _) aZ (aS.app _) a6 bo _ (H.gt 6)) ?_
 rintro vq bV ⟨aU, av, aw, aD, ax, bp, hvq, ay⟩
 subst bp
 subst vq
 try dsimp only at hM
 replace H := H.bk ay
 clear ay
 refine s_nil ?_
 refine WD.block ?_
 replace H := H.nilOwn (α := Span) 26
 obtain ⟨bW, bq, hM⟩ := M.e_bind hM
 refine WD.range (L := [cOwn (α := Span) 26 (.slice none 0 0) ([]), cBlk ah [(.slice none 0 0)] 23, cBlk aj [B false] 4, cBlk ai [I 0, I 0] 26, cBlk ax [ak, ae, am, ao, I av, I aw, ap] 29, cBlk au [I ac] 3, cBlk aq [Pq ab] 94, cBlk aD [I aU] 3]) [Pq aD, Pq ax] (H.pk [8, 0, 3, 4, 5, 2, 6, 7, 1]) rfl cf96 ?_
 intro aV aW a7 br a8 H
 have hYC : YieldC Tryz.prog ([cMk (aW :: ([])), cBlk ax [ak, ae, am, ao, I av, I aw, ap] 29, cBlk au [I ac] 3, cBlk aq [Pq ab] 94] ++ R) arII (yJ aV a7 (fun l az => ∃ (ag : Value), az = [cOwn (α := Span) 26 ag l, cBlk ah [ag] 23, cBlk aj [B false] 4, cBlk ai [I 0, I 0] 26]) (fun (l2, l3, s, s2) az => ∃ (aA : Value), az = [cOwn (α := Span) 26 aA l3, cBlk ah [aA] 23, cBlk aj [B true] 4, cBlk ai [I s, I s2] 26]) (fun _ => .ret)) (.func (.yield aV) #[] #[]) (M.yl (zaW aa ac)) := by
  refine YieldC.mk a8 (fun l az => ∃ (ag : Value), az = [cOwn (α := Span) 26 ag l, cBlk ah [ag] 23, cBlk aj [B false] 4, cBlk ai [I 0, I 0] 26]) (fun (l2, l3, s, s2) az => ∃ (aA : Value), az = [cOwn (α := Span) 26 aA l3, cBlk ah [aA] 23, cBlk aj [B true] 4, cBlk ai [I s, I s2] 26]) (fun _ => .ret) (zaW aa ac) (by rintro l _ h_; obtain ⟨_, rfl⟩ := h_; rfl) (by rintro ⟨l2, l3, s, s2⟩ _ h_; (obtain ⟨_, rfl⟩ := h_; rfl)) rfl (arII_len rfl) ?_
  intro C_ bX x_ W_ bt
  obtain ⟨x, x2⟩ := x_
  obtain rfl := bt
  refine W.region rfl ?_
  refine zA (I x2) rfl ?_
  refine s_nil ?_
  refine ⟨rfl, rfl, ?_⟩
  intro w R aE az s_ r bu hM H
  skip
  obtain ⟨l, bv⟩ : ∃ y_, y_ = s_ := ⟨_, rfl⟩
  subst bv
  obtain ⟨ag, rfl⟩ := bu
  replace aP := aP.sub aE
  replace aG := aG.sub aE
  replace aQ := aQ.sub aE
  replace aR := aR.sub aE
  replace aS := aS.sub aE
  replace aT := aT.sub aE
  replace hM : (zaW aa ac l (x, x2)).Ends r := hM
  simp only [zaW] at hM
  replace H := H.pk [0, 1, 2, 3, 5, 6, 7, 4]
  refine W.block ?_
  refine W.seq ?_
  refine W.seq ?_
  refine W.region rfl ?_
  refine zM (I x2) rfl ?_
  refine s_val (x_ld (p := Pq au) (v := I ac) rfl (ldb_sc Sc3 (H.bl 5) rfl)) ?_
  refine zC x2 ac (x2 == ac) rfl rfl rfl ?_
  refine s_nil ?_
  refine W.cond (x2 == ac) rfl (fun aI => ?_) (fun aI => ?_)
  ·replace hM := M.e_t hM aI
   simp only [qy1, qy2, qy3, qy4, qy5, qy6, ne_eq, qy7] at aI
   refine W.seq ?_
   refine W.region rfl ?_
   refine s_val (x_ld (p := Pq ah) (v := ag) rfl (ldb_sc Sc23 (H.bl 1) rfl)) ?_
   obtain ⟨bY, bw, hM⟩ := M.e_bind hM
   refine s_call cf76 [ag] rfl (zcY l (rdo 0) (H.os 0) bw _ (H.gt 8)) ?_
   rintro vq bZ ⟨r0, r1, bx, hvq, ay⟩
   subst bx
   subst vq
   try dsimp only at hM
   replace H := H.bk ay
   clear ay
   refine t_sw 3 0 [I r0, I r1] (.agg #[I r0, I r1]) H rfl rfl Sz26 rfl rfl rfl rfl ?_
   intro b3 H
   refine t_sw 2 0 [B true] (B true) H rfl rfl Sz4 rfl rfl rfl rfl ?_
   intro b4 H
   refine s_nil ?_
   refine W.ret ?_
   exact ⟨(l, l, r0, r1), [cOwn (α := Span) 26 ag l, cBlk ah [ag] 23, cBlk aj [B true] 4, cBlk ai [I r0, I r1] 26], (M.e_pure hM).symm, ⟨ag, rfl⟩, H.pick [0, 1, 2, 3, 7, 4, 5, 6] (by decide) rfl, rfl⟩
  replace hM := M.e_f hM aI
  simp only [qy1, qy2, qy3, qy4, qy5, qy6, ne_eq, qy7] at aI
  refine W.skip ?_
  refine W.drawT (fun W => St w W [cBlk aj [B false] 4, cBlk ai [I 0, I 0] 26, cBlk ax [ak, ae, am, ao, I av, I aw, ap] 29, cBlk au [I ac] 3, cBlk aq [Pq ab] 94, cMk (aW :: ([]))] R) (.q 1 (.q 2 (.q 3 (.q 4 (.q 5 (.q 6 (.q 7 (.q 8 (.l2 0 (.l 9 (.l 10 (.l 11 .nil))) 9 (.l 0 (.l 10 (.l 11 .nil)))))))))))) mixed (by decide +kernel) rfl ?_
  intro b5 bj
  replace H := H.ext bj
  clear bj
  refine ⟨(H.pk [2, 3, 4, 5, 6, 7]), ?_⟩
  refine t_q rfl (fun w' H => x_ld (p := Pq aq) (v := Pq ab) rfl (ldb_sc Sc94 (H.bl 4) rfl)) ?_
  refine t_q rfl (fun w' H => x_nc (a := ⟨ab, 0, none⟩) rfl) ?_
  refine t_q rfl (fun w' H => x_fa (a := Pq ab) (v := Pq ab) rfl (fa_blk (o := 0) Fd111_0 Sz29)) ?_
  refine t_q rfl (fun w' H => x_fa (a := Pq ab) (v := Oq ab 1) rfl (fa_blk (o := 0) Fd29_1 Sz23)) ?_
  refine t_q rfl (fun w' H => x_ld (p := Oq ab 1) (v := ae) rfl (ldb_sc Sc23 (aT.blk H) rfl)) ?_
  refine t_q rfl (fun w' H => x_mv (v := I x2) rfl) ?_
  obtain ⟨bz, hM⟩ := M.e_grd hM
  simp only [Bool.and_eq_true, decide_eq_true_eq] at bz
  refine t_q rfl (fun w' H => x_ix (a := ae) (b := I x2) (v := vat ae 2 (Int.toNat x2)) rfl rfl (Sl.ix (α := Span) T23.und T23.size aH (by omega) (by omega))) ?_
  refine t_q rfl (fun w' H => x_ld (p := vat ae 2 (Int.toNat x2)) (v := .agg #[I ((aa.getD (Int.toNat x2) default).lo), I ((aa.getD (Int.toNat x2) default).hi)]) rfl (ld_ag Ag26 Sz26 (At.mono (Span_atA aH (i := x2) (by omega) (by omega)) (aG.at H)))) ?_
  obtain ⟨bA, hM⟩ := M.e_grd hM
  simp only [Bool.and_eq_true, decide_eq_true_eq] at bA
  refine t_l2 rfl rfl ?_ ?_
  ·skip
   refine s_val (x_ld (p := Pq ah) (v := ag) rfl (ldb_sc Sc23 (H.bl 1) rfl)) ?_
   have b6 := Sl.cells (H.os 0)
   have b7 := Sl.oc (H.os 0)
   refine s_nil ⟨(H.pk [2, 3, 4, 5, 6, 7]), ?_⟩
   refine t_l rfl ?_
   refine t_bs (α := Span) T23 [.agg #[I ((aa.getD (Int.toNat x2) default).lo), I ((aa.getD (Int.toNat x2) default).hi)]] [(aa.getD (Int.toNat x2) default)] H rfl (.cons rfl (Flat.rep_enc _ (aa.getD (Int.toNat x2) default)) <| .nil) rfl rfl rfl ?_
   intro bB b8 H
   have b9 := Sl.cells (H.os 0)
   have ca := Sl.oc (H.os 0)
   refine s_nil ⟨(H.pk [3, 4, 5, 6, 7, 8]), ?_⟩
   refine t_l rfl ?_
   refine t_app (α := Span) (k := 1) (l := l) (l2 := [(aa.getD (Int.toNat x2) default)]) (l' := l ++ ([(aa.getD (Int.toNat x2) default)])) (vy := bB) T23 rfl H rfl rfl rfl (H.os 0) (H.ol 0) (rfl) (by first | omega | (simp only [List.length_nil] at *; omega)) ?_
   intro aJ cb H
   replace H := H.nf
   have cc := Sl.cells (H.os 1)
   have ce := Sl.oc (H.os 1)
   refine s_nil ⟨(H.pk [3, 4, 5, 6, 7, 8]), ?_⟩
   refine t_l rfl ?_
   refine t_sw 2 0 [aJ] aJ H rfl rfl Sz23 (Sl.cells (H.os 1)) rfl rfl (by simp only [List.all_cons, List.all_nil, Bool.true_and, Bool.and_true, Sl.oc (H.os 1)]; try rfl) ?_
   intro cf H
   refine s_nil ⟨(H.pk [3, 4, 5, 6, 7, 8]), ?_⟩
   refine t_nil ?_
   exact ⟨l ++ ([(aa.getD (Int.toNat x2) default)]), [cOwn (α := Span) 26 aJ (l ++ ([(aa.getD (Int.toNat x2) default)])), cBlk ah [aJ] 23, cBlk aj [B false] 4, cBlk ai [I 0, I 0] 26], (M.e_pure hM).symm, ⟨aJ, rfl⟩, H.pick [1, 2, 3, 4, 8, 5, 6, 7] (by decide) rfl⟩
  skip
  refine t_bs (α := Span) T23 [.agg #[I ((aa.getD (Int.toNat x2) default).lo), I ((aa.getD (Int.toNat x2) default).hi)]] [(aa.getD (Int.toNat x2) default)] H rfl (.cons rfl (Flat.rep_enc _ (aa.getD (Int.toNat x2) default)) <| .nil) rfl rfl rfl ?_
  intro bC cg H
  have ci := Sl.cells (H.os 0)
  have cj := Sl.oc (H.os 0)
  have ck := Sl.cells (H.os 1)
  have cl := Sl.oc (H.os 1)
  refine s_nil ⟨(H.pk [3, 4, 5, 6, 7, 8]), ?_⟩
  refine t_l rfl ?_
  refine s_val (x_ld (p := Pq ah) (v := ag) rfl (ldb_sc Sc23 (H.bl 2) rfl)) ?_
  refine s_nil ⟨(H.pk [3, 4, 5, 6, 7, 8]), ?_⟩
  refine t_l rfl ?_
  refine t_app (α := Span) (k := 1) (l := l) (l2 := [(aa.getD (Int.toNat x2) default)]) (l' := l ++ ([(aa.getD (Int.toNat x2) default)])) (vy := bC) T23 rfl H rfl rfl rfl (H.os 0) (H.ol 0) (rfl) (by first | omega | (simp only [List.length_nil] at *; omega)) ?_
  intro aK cm H
  replace H := H.nf
  have cn := Sl.cells (H.os 1)
  have co := Sl.oc (H.os 1)
  refine s_nil ⟨(H.pk [3, 4, 5, 6, 7, 8]), ?_⟩
  refine t_l rfl ?_
  refine t_sw 2 0 [aK] aK H rfl rfl Sz23 (Sl.cells (H.os 1)) rfl rfl (by simp only [List.all_cons, List.all_nil, Bool.true_and, Bool.and_true, Sl.oc (H.os 1)]; try rfl) ?_
  intro cp H
  refine s_nil ⟨(H.pk [3, 4, 5, 6, 7, 8]), ?_⟩
  refine t_nil ?_
  exact ⟨l ++ ([(aa.getD (Int.toNat x2) default)]), [cOwn (α := Span) 26 aK (l ++ ([(aa.getD (Int.toNat x2) default)])), cBlk ah [aK] 23, cBlk aj [B false] 4, cBlk ai [I 0, I 0] 26], (M.e_pure hM).symm, ⟨aK, rfl⟩, H.pick [1, 2, 3, 4, 8, 5, 6, 7] (by decide) rfl⟩
 replace H : St w br (cAll (cObj aV (.loop a7) :: [cOwn (α := Span) 26 (.slice none 0 0) ([]), cBlk ah [(.slice none 0 0)] 23, cBlk aj [B false] 4, cBlk ai [I 0, I 0] 26]) :: [cBlk aD [I aU] 3, cMk (aW :: ([])), cBlk ax [ak, ae, am, ao, I av, I aw, ap] 29, cBlk au [I ac] 3, cBlk aq [Pq ab] 94]) R := St.bundleB (A := cObj aV (.loop a7) :: [cOwn (α := Span) 26 (.slice none 0 0) ([]), cBlk ah [(.slice none 0 0)] 23, cBlk aj [B false] 4, cBlk ai [I 0, I 0] 26]) (T := [cBlk aD [I aU] 3, cMk (aW :: ([])), cBlk ax [ak, ae, am, ao, I av, I aw, ap] 29, cBlk au [I ac] 3, cBlk aq [Pq ab] 94]) rfl (H.pk [0, 2, 3, 4, 5, 9, 1, 6, 7, 8])
 refine (zbL (M.yl (zaW aa ac)) (.inl ([])) aU aL aa aM aN av aw aO hYC ⟨_, rfl, ⟨(.slice none 0 0), rfl⟩⟩ (aP.app _) aX (aG.app _) aH (aQ.app _) aY (aR.app _) aZ (aS.app _) a6 (Has.here (k := 1) rfl) bq _ (H.gt 4)).mono ?_
 rintro vq cq ⟨bD, q0, cr, bE, hvq, ay, bm⟩
 subst bE
 replace H := H.back ay rfl
 clear ay hYC
 rcases bD with l | ⟨l2, l3, s, s2⟩
 ·try dsimp only at hM
  obtain ⟨_, rfl, ag, rfl⟩ := bm
  refine ⟨_, [cOwn (α := Span) 26 ag l, cBlk ah [ag] 23, cBlk aj [B false] 4, cBlk ai [I 0, I 0] 26, cBlk ax [ak, ae, am, ao, I av, I aw, ap] 29, cBlk au [I ac] 3, cBlk aq [Pq ab] 94, cBlk aD [I q0] 3], H.unbundle.pick [0, 6, 1, 2, 3, 4, 7, 8, 9, 5] (by decide) rfl, a8.nb, ?_⟩
  intro bF H
  rw [a8.pd]
  replace H := H.nf
  try simp only []
  replace H := H.pk [0, 3, 4]
  refine WD.seq ?_
  refine WD.of ?_
  refine W.region rfl ?_
  refine s_val (x_bld (ps := []) (zs := [I 0, I 0]) (L' := [I 0, I 0]) rfl Tryz.underlying26 Al26 rfl (Bd26 Tryz.underlying26) (.nil)) ?_
  refine t_sw 2 0 [I 0, I 0] (.agg #[I 0, I 0]) H rfl rfl Sz26 rfl rfl rfl rfl ?_
  intro cu H
  refine t_sw 1 0 [B false] (B false) H rfl rfl Sz4 rfl rfl rfl rfl ?_
  intro cv H
  refine s_nil ?_
  refine WD.of ?_
  refine W.ret ?_
  refine bodyD_r (H.pk [0, 1, 2]) ?_
  intro cw H
  replace H := H.nf
  have bG := (H.bl 1)
  have bH := (H.bl 0)
  have ba := M.e_pure hM
  exact ⟨_, (resE_ofn (vs := [.agg #[I 0, I 0], B false]) rfl rfl (.cell (v := .agg #[I 0, I 0]) rfl (run_loadVar_ag (ds := [I 0, I 0]) Ag26 Sz26 bG rfl rfl) <| .cell (v := B false) rfl (run_loadVar_sc Sc4 bH rfl) <| .nil)), ⟨0, 0, false, ba, rfl, (H.pk [])⟩⟩
 try dsimp only at hM
 obtain ⟨_, rfl, aA, rfl⟩ := bm
 refine ⟨_, [cOwn (α := Span) 26 aA l3, cBlk ah [aA] 23, cBlk aj [B true] 4, cBlk ai [I s, I s2] 26, cBlk ax [ak, ae, am, ao, I av, I aw, ap] 29, cBlk au [I ac] 3, cBlk aq [Pq ab] 94, cBlk aD [I q0] 3], H.unbundle.pick [0, 6, 1, 2, 3, 4, 7, 8, 9, 5] (by decide) rfl, nofun, ?_⟩
 intro bF H
 show WD _ _ _ (.ret) _ _ _
 refine WD.of ?_
 refine W.ret ?_
 replace H := H.nf
 refine bodyD_r (H.pk [0, 1, 2, 3, 4, 5, 6, 7, 8]) ?_
 intro cx H
 replace H := H.nf
 have bI := (H.bl 3)
 have bJ := (H.bl 2)
 have ba := M.e_pure hM
 exact ⟨_, (resE_ofn (vs := [.agg #[I s, I s2], B true]) rfl rfl (.cell (v := .agg #[I s, I s2]) rfl (run_loadVar_ag (ds := [I s, I s2]) Ag26 Sz26 bI rfl rfl) <| .cell (v := B true) rfl (run_loadVar_sc Sc4 bJ rfl) <| .nil)), ⟨s, s2, true, ba, rfl, (H.pk [])⟩⟩

def za7 (ac : List Int) (ae : List Span) (ag : List Int) (aa : List Town) (ah : Int) (ab : Int) (ai : List Flood) (d : Dem) : (List Int) -> (Int × Int) -> M ((List Int) ⊕ Unit) := fun l (x, x2) =>
  M.bind (zbj ac ae ag aa ah ab ai x2 ((aa.getD (Int.toNat d.town) default).station)) fun (aj, ak, r1) =>
  M.grd ((!r1 || (decide ((-9223372036854775808 : Int) <= (((aa.getD (Int.toNat d.town) default).lead) + ab)) && decide ((((aa.getD (Int.toNat d.town) default).lead) + ab) <= (9223372036854775807 : Int))))) <|
  bif (r1 && (decide ((((aa.getD (Int.toNat d.town) default).lead) + ab) <= aj))) then (
  M.grd (decide ((l.length + ([(x2 : Int)]).length) * 8 <= 140737488355328)) <|
  M.pure (.inl (l ++ ([(x2 : Int)]))))
  else (
  M.pure (.inl l))
def zaa (ab : List Int) (ac : List Span) (ae : List Int) (aa : List Town) (ah : Int) (ai : Int) (ag : List Flood) (d : Dem) : M (List Int) :=
  M.grd (decide ((0 : Int) <= d.town) && decide (d.town < (aa.length : Int))) <|
  M.bind (zap ab ac ae aa ah ai ag d.spring) fun (aj, ak, am) =>
  M.bind (zan (M.yl (za7 ab ac ae aa ah ai ag d)) (.inl ([])) aj ab ac ae aa ak am ag) fun x_ => match x_ with
  | (.inl l, q0) => (
  M.pure l)
  | (.inr _, _) => M.fail
theorem zbS {R : List Chunk} {aa : Nat} {bo : Cells} {aA : Value} {bp : Cells} {aB : Value} {bq : Cells} {aC : Value} {br : Cells} {am : Value} {bt : Cells} {aD : Value} {aj : Nat} {ao : Base} (aw : List Int) (ax : List Span) (ay : List Int) (ab : List Town) (ap : Int) (ae : Int) (az : List Flood) (d : Dem) (aP : Reads R bo) (aW : Sl bo aA aw) (aQ : Reads R bp) (aX : Sl bp aB ax) (aR : Reads R bq) (aY : Sl bq aC ay) (aL : Reads R br) (aM : Sl br am ab) (aS : Reads R bt) (aZ : Sl bt aD az) (aF : Has R (cBlk aa [aA, aB, aC, am, I ap, I ae, aD, .map (some aj)] 111)) {r : (List Int)} (hM : (zaa aw ax ay ab ap ae az d).Ends r) (w : World) (H : St w w [cMem encDm aj ao (zaa aw ax ay ab ap ae az)] R) : Ret Tryz.prog 81 #[Pq aa, .agg #[I d.spring, I d.town]] w fun v w' => ∃ (y0 : List Int) (u0 : Value) (bu : Base), y0 = r /\ v = u0 /\ St w w' [cMem encDm aj bu (zaa aw ax ay ab ap ae az)] R /\ Sl bu.cells u0 y0 := by
 refine ret_of_WD Tryz.func81 rfl rfl rfl ?_
 replace H : St w w [cMk ([]), cMem encDm aj ao (zaa aw ax ay ab ap ae az)] R := H.mk0
 have bR := aW.len_le
 have bS := aX.len_le
 have bT := aY.len_le
 have bU := aM.len_le
 have bV := aZ.len_le
 unfold zaa at hM
 have hM0 := hM
 obtain ⟨av, H, bc⟩ := St.memOpen H (i := 1) rfl
 replace H := H.nf
 cases bf : av d with
 | none =>
  refine WD.seq ?_
  refine WD.of ?_
  refine W.region rfl ?_
  refine t_box (v := Pq aa) (cs := [Pq aa]) H rfl rfl ?_
  intro ah bW H
  refine t_box (v := .agg #[I d.spring, I d.town]) (cs := [I d.spring, I d.town]) H rfl rfl ?_
  intro ag bX H
  refine zA (.slice none 0 0) rfl ?_
  refine s_nil ?_
  refine WD.seq ?_
  refine WD.seq ?_
  refine WD.of ?_
  refine W.draw (fun W => St w W [cBlk ag [I d.spring, I d.town] 61, cBlk ah [Pq aa] 94, cRx ao, cMk ([])] R) [(0, true), (1, true), (2, true), (3, true), (4, true), (5, false), (6, true), (7, true), (8, true), (9, true), (10, true)] mixed (by decide +kernel) rfl ?_
  intro bY ai
  replace H := H.ext ai
  clear ai
  refine ⟨(H.pk [0, 1, 3, 4]), ?_⟩
  refine d_q rfl (fun w' H => x_ld (p := Pq ah) (v := Pq aa) rfl (ldb_sc Sc94 (H.bl 1) rfl)) ?_
  refine d_q rfl (fun w' H => x_nc (a := ⟨aa, 0, none⟩) rfl) ?_
  refine d_q rfl (fun w' H => x_fa (a := Pq aa) (v := Oq aa 7) rfl (fa_blk (o := 0) Fd111_1 Sz109)) ?_
  refine d_q rfl (fun w' H => x_ld (p := Oq aa 7) (v := .map (some aj)) rfl (ldb_sc Sc109 (aF.blk H) rfl)) ?_
  refine d_q rfl (fun w' H => x_ld (p := Pq ag) (v := .agg #[I d.spring, I d.town]) rfl (ldb_ag (ds := [I d.spring, I d.town]) Ag61 Sz61 (H.bl 0) rfl rfl)) ?_
  refine d_l rfl ?_
  refine s_val (q_look (kenc := encDm) (venc := id) (f := av) (k := d) (z := .slice none 0 0) (v := .tuple #[.slice none 0 0, B false]) keyDem Tryz.underlying109 (by kernel_rfl) rfl rfl (H.get (k := 2) rfl) true (by simp [bf])) ?_
  refine s_nil ⟨(H.pk [0, 1, 3, 4]), ?_⟩
  refine d_q rfl (fun w' H => x_mv (v := .tuple #[.slice none 0 0, B false]) rfl) ?_
  refine d_q rfl (fun w' H => x_ext (vs := [.slice none 0 0, B false]) (v := .slice none 0 0) rfl rfl) ?_
  refine d_q rfl (fun w' H => x_ext (vs := [.slice none 0 0, B false]) (v := B false) rfl rfl) ?_
  refine d_q rfl (fun w' H => x_as (v := .slice none 0 0) rfl) ?_
  refine d_q rfl (fun w' H => x_as (v := B false) rfl) ?_
  refine d_nil ?_
  refine WD.seq ?_
  refine WD.of ?_
  refine W.region rfl ?_
  refine zM (B false) rfl ?_
  refine s_nil ?_
  refine WD.cond false rfl (fun bv => ?_) (fun bv => ?_)
  ·skip
   exact absurd bv (by decide)
  skip
  refine WD.of ?_
  refine W.skip ?_
  refine WD.seq ?_
  refine WD.of ?_
  refine W.region rfl ?_
  refine t_alloc (cs := [.slice none 0 0]) H Al22 rfl ?_
  intro ak bZ H
  refine s_nil ?_
  refine WD.seq ?_
  refine WD.of ?_
  refine W.draw (fun W => St w W [cBlk ak [.slice none 0 0] 22, cBlk ag [I d.spring, I d.town] 61, cBlk ah [Pq aa] 94, cMap encDm id aj av, cRx ao, cMk ([])] R) [(0, true), (1, true), (2, true), (3, true), (4, true), (5, true), (6, true), (7, true), (8, true), (9, false), (10, false)] mixed (by decide +kernel) rfl ?_
  intro b3 ai
  replace H := H.ext ai
  clear ai
  refine ⟨(H.pk [0, 1, 2, 3, 4, 5]), ?_⟩
  refine d_q rfl (fun w' H => x_ld (p := Pq ah) (v := Pq aa) rfl (ldb_sc Sc94 (H.bl 2) rfl)) ?_
  refine d_q rfl (fun w' H => x_nc (a := ⟨aa, 0, none⟩) rfl) ?_
  refine d_q rfl (fun w' H => x_fa (a := Pq aa) (v := Pq aa) rfl (fa_blk (o := 0) Fd111_0 Sz29)) ?_
  refine d_q rfl (fun w' H => x_fa (a := Pq aa) (v := Oq aa 3) rfl (fa_blk (o := 0) Fd29_3 Sz24)) ?_
  refine d_q rfl (fun w' H => x_ld (p := Oq aa 3) (v := am) rfl (ldb_sc Sc24 (aF.blk H) rfl)) ?_
  refine d_q rfl (fun w' H => x_fa (a := Pq ag) (v := Oq ag 1) rfl (fa_blk (o := 0) Fd61_1 Sz3)) ?_
  refine d_q rfl (fun w' H => x_ld (p := Oq ag 1) (v := I d.town) rfl (ldb_sc Sc3 (H.bl 1) rfl)) ?_
  obtain ⟨bz, hM⟩ := M.e_grd hM
  simp only [Bool.and_eq_true, decide_eq_true_eq] at bz
  refine d_q rfl (fun w' H => x_ix (a := am) (b := I d.town) (v := vat am 3 (Int.toNat d.town)) rfl rfl (Sl.ix (α := Town) T24.und T24.size aM (by omega) (by omega))) ?_
  refine d_q rfl (fun w' H => x_ld (p := vat am 3 (Int.toNat d.town)) (v := .agg #[I ((ab.getD (Int.toNat d.town) default).station), I ((ab.getD (Int.toNat d.town) default).lead), I ((ab.getD (Int.toNat d.town) default).alarm)]) rfl (ld_ag Ag91 Sz91 (At.mono (Town_atA aM (i := d.town) (by omega) (by omega)) (aL.at H)))) ?_
  refine d_l rfl ?_
  refine t_alloc (cs := [I 0, I 0, I 0]) H Al91 rfl ?_
  intro aq b4 H
  refine s_nil ⟨(H.pk [1, 2, 3, 4, 5, 6]), ?_⟩
  refine d_l rfl ?_
  refine t_sw 0 0 [I ((ab.getD (Int.toNat d.town) default).station), I ((ab.getD (Int.toNat d.town) default).lead), I ((ab.getD (Int.toNat d.town) default).alarm)] (.agg #[I ((ab.getD (Int.toNat d.town) default).station), I ((ab.getD (Int.toNat d.town) default).lead), I ((ab.getD (Int.toNat d.town) default).alarm)]) H rfl rfl Sz91 rfl rfl rfl rfl ?_
  intro b5 H
  refine s_nil ⟨(H.pk [1, 2, 3, 4, 5, 6]), ?_⟩
  refine d_nil ?_
  refine WD.seq ?_
  refine WD.seq ?_
  refine WD.of ?_
  refine W.draw (fun W => St w W [cBlk aq [I ((ab.getD (Int.toNat d.town) default).station), I ((ab.getD (Int.toNat d.town) default).lead), I ((ab.getD (Int.toNat d.town) default).alarm)] 91, cBlk ak [.slice none 0 0] 22, cBlk ag [I d.spring, I d.town] 61, cBlk ah [Pq aa] 94, cMap encDm id aj av, cRx ao, cMk ([])] R) [(0, true), (1, true), (2, true), (3, true), (4, true), (5, true), (6, false)] mixed (by decide +kernel) rfl ?_
  intro b6 ai
  replace H := H.ext ai
  clear ai
  refine ⟨(H.pk [0, 1, 2, 3, 4, 5, 6]), ?_⟩
  refine d_q rfl (fun w' H => x_ld (p := Pq ah) (v := Pq aa) rfl (ldb_sc Sc94 (H.bl 3) rfl)) ?_
  refine d_q rfl (fun w' H => x_nc (a := ⟨aa, 0, none⟩) rfl) ?_
  refine d_q rfl (fun w' H => x_fa (a := Pq aa) (v := Pq aa) rfl (fa_blk (o := 0) Fd111_0 Sz29)) ?_
  refine d_q rfl (fun w' H => x_ld (p := Pq aa) (v := .agg #[aA, aB, aC, am, I ap, I ae, aD]) rfl (ldb_ag (ds := [aA, aB, aC, am, I ap, I ae, aD]) Ag29 Sz29 (aF.blk H) rfl rfl)) ?_
  refine d_q rfl (fun w' H => x_fa (a := Pq ag) (v := Pq ag) rfl (fa_blk (o := 0) Fd61_0 Sz3)) ?_
  refine d_q rfl (fun w' H => x_ld (p := Pq ag) (v := I d.spring) rfl (ldb_sc Sc3 (H.bl 2) rfl)) ?_
  refine d_l rfl ?_
  obtain ⟨b7, bA, hM⟩ := M.e_bind hM
  refine s_call cf66 [.agg #[aA, aB, aC, am, I ap, I ae, aD], I d.spring] rfl (zbG aw ax ay ab ap ae az d.spring (aP.app _) aW (aQ.app _) aX (aR.app _) aY (aL.app _) aM (aS.app _) aZ bA _ (H.gt 7)) ?_
  rintro vq b8 ⟨a6, aH, aI, aT, aJ, bB, hvq, aG⟩
  subst bB
  subst vq
  try dsimp only at hM
  replace H := H.bk aG
  clear aG
  refine s_nil ⟨(H.pk [2, 3, 4, 5, 6, 7, 8]), ?_⟩
  refine d_nil ?_
  refine WD.block ?_
  replace H := H.nilOwn (α := Int) 3
  obtain ⟨b9, bC, hM⟩ := M.e_bind hM
  refine WD.range (L := [cOwn (α := Int) 3 (.slice none 0 0) ([]), cBlk ak [(.slice none 0 0)] 22, cBlk aJ [aA, aB, aC, am, I aH, I aI, aD] 29, cBlk aq [I ((ab.getD (Int.toNat d.town) default).station), I ((ab.getD (Int.toNat d.town) default).lead), I ((ab.getD (Int.toNat d.town) default).alarm)] 91, cBlk ag [I d.spring, I d.town] 61, cBlk ah [Pq aa] 94, cMap encDm id aj av, cRx ao, cBlk aT [I a6] 3]) [Pq aT, Pq aJ] (H.pk [9, 0, 4, 2, 3, 5, 6, 7, 8, 1]) rfl cf96 ?_
  intro a7 aN bg bD bh H
  have hYC : YieldC Tryz.prog ([cMk (aN :: ([])), cBlk aJ [aA, aB, aC, am, I aH, I aI, aD] 29, cBlk aq [I ((ab.getD (Int.toNat d.town) default).station), I ((ab.getD (Int.toNat d.town) default).lead), I ((ab.getD (Int.toNat d.town) default).alarm)] 91, cBlk ag [I d.spring, I d.town] 61, cBlk ah [Pq aa] 94, cMap encDm id aj av, cRx ao] ++ R) arII (yJ a7 bg (fun l a8 => ∃ (ac : Value), a8 = [cOwn (α := Int) 3 ac l, cBlk ak [ac] 22]) (fun (_ : Unit) _ => False) (fun _ => .ret)) (.func (.yield a7) #[] #[]) (M.yl (za7 aw ax ay ab ap ae az d)) := by
   refine YieldC.mk bh (fun l a8 => ∃ (ac : Value), a8 = [cOwn (α := Int) 3 ac l, cBlk ak [ac] 22]) (fun (_ : Unit) _ => False) (fun _ => .ret) (za7 aw ax ay ab ap ae az d) (by rintro l _ h_; obtain ⟨_, rfl⟩ := h_; rfl) (fun _ _ h_ => h_.elim) rfl (arII_len rfl) ?_
   intro C_ ca x_ W_ bE
   obtain ⟨x, x2⟩ := x_
   obtain rfl := bE
   refine W.region rfl ?_
   refine zA (I x2) rfl ?_
   refine s_nil ?_
   refine ⟨rfl, rfl, ?_⟩
   intro w R aO a8 s_ r bF hM H
   skip
   obtain ⟨l, bG⟩ : ∃ y_, y_ = s_ := ⟨_, rfl⟩
   subst bG
   obtain ⟨ac, rfl⟩ := bF
   replace aP := aP.sub aO
   replace aQ := aQ.sub aO
   replace aR := aR.sub aO
   replace aL := aL.sub aO
   replace aS := aS.sub aO
   replace aF := aF.sub aO
   replace hM : (za7 aw ax ay ab ap ae az d l (x, x2)).Ends r := hM
   simp only [za7] at hM
   replace H := H.pk [0, 1, 3, 4, 5, 6, 7, 8, 2]
   refine W.block ?_
   refine W.seq ?_
   refine W.region rfl ?_
   refine s_val (x_ld (p := Pq ah) (v := Pq aa) rfl (ldb_sc Sc94 (H.bl 5) rfl)) ?_
   refine zM (I x2) rfl ?_
   refine s_val (x_fa (a := Pq aq) (v := Pq aq) rfl (fa_blk (o := 0) Fd91_0 Sz3)) ?_
   refine s_val (x_ld (p := Pq aq) (v := I ((ab.getD (Int.toNat d.town) default).station)) rfl (ldb_sc Sc3 (H.bl 3) rfl)) ?_
   obtain ⟨cb, bH, hM⟩ := M.e_bind hM
   refine s_call cf74 [Pq aa, I x2, I ((ab.getD (Int.toNat d.town) default).station)] rfl (zcy aw ax ay ab ap ae az x2 ((ab.getD (Int.toNat d.town) default).station) (aP.app _) aW (aQ.app _) aX (aR.app _) aY (aL.app _) aM (aS.app _) aZ (aF.app _) bH _ (H.gt 9)) ?_
   rintro vq cc ⟨au, aK, r1, bI, hvq, aG⟩
   subst bI
   subst vq
   try dsimp only at hM
   replace H := H.bk aG
   clear aG
   refine zM (.tuple #[.agg #[I au, I aK], B r1]) rfl ?_
   refine zX [.agg #[I au, I aK], B r1] (.agg #[I au, I aK]) rfl rfl ?_
   refine zX [.agg #[I au, I aK], B r1] (B r1) rfl rfl ?_
   refine t_alloc (cs := [I 0, I 0]) H Al26 rfl ?_
   intro aU ce H
   refine t_sw 0 0 [I au, I aK] (.agg #[I au, I aK]) H rfl rfl Sz26 rfl rfl rfl rfl ?_
   intro cf H
   refine zA (B r1) rfl ?_
   refine s_nil ?_
   refine W.seq ?_
   refine W.draw (fun W => St w W [cBlk aU [I au, I aK] 26, cOwn (α := Int) 3 ac l, cBlk ak [ac] 22, cBlk aJ [aA, aB, aC, am, I aH, I aI, aD] 29, cBlk aq [I ((ab.getD (Int.toNat d.town) default).station), I ((ab.getD (Int.toNat d.town) default).lead), I ((ab.getD (Int.toNat d.town) default).alarm)] 91, cBlk ag [I d.spring, I d.town] 61, cBlk ah [Pq aa] 94, cMap encDm id aj av, cRx ao, cMk (aN :: ([]))] R) [(0, true), (1, true), (2, true), (3, true), (4, true), (5, true), (6, true), (7, true), (8, true), (9, true), (10, true), (11, true), (12, true), (13, true), (14, true)] mixed (by decide +kernel) rfl ?_
   intro cg ai
   replace H := H.ext ai
   clear ai
   refine ⟨(H.pk [0, 1, 2, 3, 4, 5, 6, 7, 8, 9]), ?_⟩
   refine d_q rfl (fun w' H => x_mv (v := B r1) rfl) ?_
   refine d_q rfl (fun w' H => x_mv (v := B r1) rfl) ?_
   refine d_qg r1 rfl (gy_t rfl) (fun hg => (fun w' H => x_fa (a := Pq aU) (v := Pq aU) rfl (fa_blk (o := 0) Fd26_0 Sz3))) ?_
   refine d_qg r1 rfl (gy_t rfl) (fun hg => (fun w' H => x_ld (p := Pq aU) (v := I au) (gd_of (c := r1) hg (Pq aU)) (ldb_sc Sc3 (H.bl 0) rfl))) ?_
   refine d_qg r1 rfl (gy_t rfl) (fun hg => (fun w' H => x_fa (a := Pq aq) (v := Oq aq 1) rfl (fa_blk (o := 0) Fd91_1 Sz3))) ?_
   refine d_qg r1 rfl (gy_t rfl) (fun hg => (fun w' H => x_ld (p := Oq aq 1) (v := I ((ab.getD (Int.toNat d.town) default).lead)) (gd_of (c := r1) hg (Oq aq 1)) (ldb_sc Sc3 (H.bl 4) rfl))) ?_
   refine d_qg r1 rfl (gy_t rfl) (fun hg => (fun w' H => x_ld (p := Pq ah) (v := Pq aa) rfl (ldb_sc Sc94 (H.bl 6) rfl))) ?_
   refine d_qg r1 rfl (gy_t rfl) (fun hg => (fun w' H => x_nc (a := ⟨aa, 0, none⟩) (gd_of (c := r1) hg (Pq aa)))) ?_
   refine d_qg r1 rfl (gy_t rfl) (fun hg => (fun w' H => x_fa (a := Pq aa) (v := Pq aa) (gd_of (c := r1) hg (Pq aa)) (fa_blk (o := 0) Fd111_0 Sz29))) ?_
   refine d_qg r1 rfl (gy_t rfl) (fun hg => (fun w' H => x_fa (a := Pq aa) (v := Oq aa 4) (gd_of (c := r1) hg (Pq aa)) (fa_blk (o := 0) Fd29_4 Sz26))) ?_
   refine d_qg r1 rfl (gy_t rfl) (fun hg => (fun w' H => x_fa (a := Oq aa 4) (v := Oq aa 5) (gd_of (c := r1) hg (Oq aa 4)) (fa_blk (o := 4) Fd26_1 Sz3))) ?_
   refine d_qg r1 rfl (gy_t rfl) (fun hg => (fun w' H => x_ld (p := Oq aa 5) (v := I ae) (gd_of (c := r1) hg (Oq aa 5)) (ldb_sc Sc3 (aF.blk H) rfl))) ?_
   obtain ⟨ba, hM⟩ := M.e_grd hM
   replace ba := M.imp_of ba
   simp only [Bool.and_eq_true, decide_eq_true_eq] at ba
   refine d_qg r1 rfl (gy_t rfl) (fun hg => (fun w' H => x_ari (a := (ab.getD (Int.toNat d.town) default).lead) (b := ae) (r := ((ab.getD (Int.toNat d.town) default).lead) + ae) (gd_of (c := r1) hg (I ((ab.getD (Int.toNat d.town) default).lead))) (gd_of (c := r1) hg (I ae)) rfl (by have bi := ba.resolve_left (by rw [hg]; decide); first | exact bi | exact bi.1 | exact bi.2 | omega | (have ai := hg; simp at ai; omega)))) ?_
   refine d_qg r1 rfl (gy_t rfl) (fun hg => (fun w' H => x_cmp (kd := .i64) (a := au) (b := ((ab.getD (Int.toNat d.town) default).lead) + ae) (r := decide ((((ab.getD (Int.toNat d.town) default).lead) + ae) <= au)) (gd_of (c := r1) hg (I au)) (gd_of (c := r1) hg (I (((ab.getD (Int.toNat d.town) default).lead) + ae))) rfl)) ?_
   refine d_q rfl (fun w' H => x_pand (b := r1) (r := decide ((((ab.getD (Int.toNat d.town) default).lead) + ae) <= au)) rfl (fun hb => gd_of (c := r1) (by first | exact hb | (rw [hb]; rfl) | simp_all) (B (decide ((((ab.getD (Int.toNat d.town) default).lead) + ae) <= au)))) rfl) ?_
   refine d_nil ?_
   refine W.cond (r1 && (decide ((((ab.getD (Int.toNat d.town) default).lead) + ae) <= au))) rfl (fun bj => ?_) (fun bj => ?_)
   ·replace hM := M.e_t hM bj
    refine W.region rfl ?_
    refine s_val (x_ld (p := Pq ak) (v := ac) rfl (ldb_sc Sc22 (H.bl 2) rfl)) ?_
    refine zM (I x2) rfl ?_
    refine t_bs (α := Int) T22 [I x2] [(x2 : Int)] H rfl (.cons rfl (Flat.rep_enc _ (x2 : Int)) <| .nil) rfl rfl rfl ?_
    intro bJ ci H
    obtain ⟨bK, hM⟩ := M.e_grd hM
    simp only [Bool.and_eq_true, decide_eq_true_eq] at bK
    refine t_app (α := Int) (k := 2) (l := l) (l2 := [(x2 : Int)]) (l' := l ++ ([(x2 : Int)])) (vy := bJ) T22 rfl H rfl rfl rfl (H.os 0) (H.ol 0) (rfl) (by first | omega | (simp only [List.length_nil] at *; omega)) ?_
    intro aV cj H
    replace H := H.nf
    refine t_sw 3 0 [aV] aV H rfl rfl Sz22 (Sl.cells (H.os 2)) rfl rfl (by simp only [List.all_cons, List.all_nil, Bool.true_and, Bool.and_true, Sl.oc (H.os 2)]; try rfl) ?_
    intro ck H
    refine s_nil ?_
    exact ⟨l ++ ([(x2 : Int)]), [cOwn (α := Int) 3 aV (l ++ ([(x2 : Int)])), cBlk ak [aV] 22], (M.e_pure hM).symm, ⟨aV, rfl⟩, H.pick [2, 3, 10, 4, 5, 6, 7, 8, 9] (by decide) rfl⟩
   replace hM := M.e_f hM bj
   refine W.skip ?_
   exact ⟨l, [cOwn (α := Int) 3 ac l, cBlk ak [ac] 22], (M.e_pure hM).symm, ⟨ac, rfl⟩, H.pick [1, 2, 9, 3, 4, 5, 6, 7, 8] (by decide) rfl⟩
  replace H : St w bD (cAll (cObj a7 (.loop bg) :: [cOwn (α := Int) 3 (.slice none 0 0) ([]), cBlk ak [(.slice none 0 0)] 22]) :: [cBlk aT [I a6] 3, cMk (aN :: ([])), cBlk aJ [aA, aB, aC, am, I aH, I aI, aD] 29, cBlk aq [I ((ab.getD (Int.toNat d.town) default).station), I ((ab.getD (Int.toNat d.town) default).lead), I ((ab.getD (Int.toNat d.town) default).alarm)] 91, cBlk ag [I d.spring, I d.town] 61, cBlk ah [Pq aa] 94, cMap encDm id aj av, cRx ao]) R := St.bundleB (A := cObj a7 (.loop bg) :: [cOwn (α := Int) 3 (.slice none 0 0) ([]), cBlk ak [(.slice none 0 0)] 22]) (T := [cBlk aT [I a6] 3, cMk (aN :: ([])), cBlk aJ [aA, aB, aC, am, I aH, I aI, aD] 29, cBlk aq [I ((ab.getD (Int.toNat d.town) default).station), I ((ab.getD (Int.toNat d.town) default).lead), I ((ab.getD (Int.toNat d.town) default).alarm)] 91, cBlk ag [I d.spring, I d.town] 61, cBlk ah [Pq aa] 94, cMap encDm id aj av, cRx ao]) rfl (H.pk [0, 2, 3, 10, 1, 4, 5, 6, 7, 8, 9])
  refine (zbL (M.yl (za7 aw ax ay ab ap ae az d)) (.inl ([])) a6 aw ax ay ab aH aI az hYC ⟨_, rfl, ⟨(.slice none 0 0), rfl⟩⟩ (aP.app _) aW (aQ.app _) aX (aR.app _) aY (aL.app _) aM (aS.app _) aZ (Has.here (k := 1) rfl) bC _ (H.gt 7)).mono ?_
  rintro vq cl ⟨bL, q0, cm, bM, hvq, aG, bw⟩
  subst bM
  replace H := H.back aG rfl
  clear aG hYC
  rcases bL with l | _
  ·try dsimp only at hM
   obtain ⟨_, rfl, ac, rfl⟩ := bw
   refine ⟨_, [cOwn (α := Int) 3 ac l, cBlk ak [ac] 22, cBlk aJ [aA, aB, aC, am, I aH, I aI, aD] 29, cBlk aq [I ((ab.getD (Int.toNat d.town) default).station), I ((ab.getD (Int.toNat d.town) default).lead), I ((ab.getD (Int.toNat d.town) default).alarm)] 91, cBlk ag [I d.spring, I d.town] 61, cBlk ah [Pq aa] 94, cMap encDm id aj av, cRx ao, cBlk aT [I q0] 3], H.unbundle.pick [0, 4, 1, 2, 5, 6, 7, 8, 9, 10, 3] (by decide) rfl, bh.nb, ?_⟩
   intro cn H
   rw [bh.pd]
   replace H := H.nf
   try simp only []
   replace H := H.pk [0, 1, 2, 5, 6, 7, 8]
   refine WD.seq ?_
   refine WD.of ?_
   refine W.draw (fun W => St w W [cMk (aN :: ([])), cOwn (α := Int) 3 ac l, cBlk ak [ac] 22, cBlk ag [I d.spring, I d.town] 61, cBlk ah [Pq aa] 94, cRx ao] R) [(0, true), (1, true), (2, true), (3, true), (4, true), (5, true), (6, false)] mixed (by decide +kernel) rfl ?_
   intro co ai
   replace H := H.ext ai
   clear ai
   refine ⟨(H.pk [0, 1, 2, 3, 4, 6]), ?_⟩
   refine d_q rfl (fun w' H => x_ld (p := Pq ah) (v := Pq aa) rfl (ldb_sc Sc94 (H.bl 4) rfl)) ?_
   refine d_q rfl (fun w' H => x_nc (a := ⟨aa, 0, none⟩) rfl) ?_
   refine d_q rfl (fun w' H => x_fa (a := Pq aa) (v := Oq aa 7) rfl (fa_blk (o := 0) Fd111_1 Sz109)) ?_
   refine d_q rfl (fun w' H => x_ld (p := Oq aa 7) (v := .map (some aj)) rfl (ldb_sc Sc109 (aF.blk H) rfl)) ?_
   refine d_q rfl (fun w' H => x_ld (p := Pq ag) (v := .agg #[I d.spring, I d.town]) rfl (ldb_ag (ds := [I d.spring, I d.town]) Ag61 Sz61 (H.bl 3) rfl rfl)) ?_
   refine d_q rfl (fun w' H => x_ld (p := Pq ak) (v := ac) rfl (ldb_sc Sc22 (H.bl 2) rfl)) ?_
   refine d_l rfl ?_
   refine t_mapu (i := 5) (kenc := encDm) (venc := id) (f := av) (k := d) (v := ac) (L' := [cMk (aN :: ([])), cOwn (α := Int) 3 ac l, cBlk ak [ac] 22, cBlk ag [I d.spring, I d.town] 61, cBlk ah [Pq aa] 94, cMap encDm id aj (updF av d ac), cRx ao]) keyDem Tryz.underlying109 H rfl rfl rfl rfl rfl ?_
   intro cp H
   refine s_nil ⟨(H.pk [0, 1, 2, 3, 4, 6]), ?_⟩
   refine d_nil ?_
   replace H := H.pk [0, 1, 2, 5, 6]
   refine WD.seq ?_
   refine WD.of ?_
   refine W.region rfl ?_
   refine s_val (x_ld (p := Pq ak) (v := ac) rfl (ldb_sc Sc22 (H.bl 2) rfl)) ?_
   refine zA ac rfl ?_
   refine s_nil ?_
   refine WD.of ?_
   refine W.ret ?_
   refine bodyD_r (H.pk [0, 1, 2, 3, 4]) ?_
   intro cq H
   replace H := H.nf
   obtain ⟨bN, cr, bO, H⟩ := St.memShut1 (H.pk [2, 3, 0, 1]) bc (by rw [M.e_pure hM]; exact hM0)
   replace H := H.nf
   have bm := M.e_pure hM
   exact ⟨_, resE_tmp rfl, ⟨l, ac, bN, bm, rfl, (H.pk [0]), bO⟩⟩
  obtain ⟨_, _, h_⟩ := bw; exact h_.elim
 | some aE =>
  obtain ⟨bn, bP, bQ⟩ := bc d aE bf
  obtain rfl := M.Ends.det bP hM0
  replace hM : (M.pure bn).Ends bn := M.i_pure
  refine WD.seq ?_
  refine WD.of ?_
  refine W.region rfl ?_
  refine t_box (v := Pq aa) (cs := [Pq aa]) H rfl rfl ?_
  intro ah cu H
  refine t_box (v := .agg #[I d.spring, I d.town]) (cs := [I d.spring, I d.town]) H rfl rfl ?_
  intro ag cv H
  refine zA (.slice none 0 0) rfl ?_
  refine s_nil ?_
  refine WD.seq ?_
  refine WD.seq ?_
  refine WD.of ?_
  refine W.draw (fun W => St w W [cBlk ag [I d.spring, I d.town] 61, cBlk ah [Pq aa] 94, cRx ao, cMk ([])] R) [(0, true), (1, true), (2, true), (3, true), (4, true), (5, false), (6, true), (7, true), (8, true), (9, true), (10, true)] mixed (by decide +kernel) rfl ?_
  intro cw ai
  replace H := H.ext ai
  clear ai
  refine ⟨(H.pk [0, 1, 3, 4]), ?_⟩
  refine d_q rfl (fun w' H => x_ld (p := Pq ah) (v := Pq aa) rfl (ldb_sc Sc94 (H.bl 1) rfl)) ?_
  refine d_q rfl (fun w' H => x_nc (a := ⟨aa, 0, none⟩) rfl) ?_
  refine d_q rfl (fun w' H => x_fa (a := Pq aa) (v := Oq aa 7) rfl (fa_blk (o := 0) Fd111_1 Sz109)) ?_
  refine d_q rfl (fun w' H => x_ld (p := Oq aa 7) (v := .map (some aj)) rfl (ldb_sc Sc109 (aF.blk H) rfl)) ?_
  refine d_q rfl (fun w' H => x_ld (p := Pq ag) (v := .agg #[I d.spring, I d.town]) rfl (ldb_ag (ds := [I d.spring, I d.town]) Ag61 Sz61 (H.bl 0) rfl rfl)) ?_
  refine d_l rfl ?_
  refine s_val (q_look (kenc := encDm) (venc := id) (f := av) (k := d) (z := .slice none 0 0) (v := .tuple #[aE, B true]) keyDem Tryz.underlying109 (by kernel_rfl) rfl rfl (H.get (k := 2) rfl) true (by simp [bf])) ?_
  refine s_nil ⟨(H.pk [0, 1, 3, 4]), ?_⟩
  refine d_q rfl (fun w' H => x_mv (v := .tuple #[aE, B true]) rfl) ?_
  refine d_q rfl (fun w' H => x_ext (vs := [aE, B true]) (v := aE) rfl rfl) ?_
  refine d_q rfl (fun w' H => x_ext (vs := [aE, B true]) (v := B true) rfl rfl) ?_
  refine d_q rfl (fun w' H => x_as (v := aE) rfl) ?_
  refine d_q rfl (fun w' H => x_as (v := B true) rfl) ?_
  refine d_nil ?_
  refine WD.seq ?_
  refine WD.of ?_
  refine W.region rfl ?_
  refine zM (B true) rfl ?_
  refine s_nil ?_
  refine WD.cond true rfl (fun bx => ?_) (fun bx => ?_)
  ·skip
   refine WD.seq ?_
   refine WD.of ?_
   refine W.region rfl ?_
   refine zM aE rfl ?_
   refine zA aE rfl ?_
   refine s_nil ?_
   replace H := H.pk [2, 3, 4]
   refine WD.of ?_
   refine W.ret ?_
   refine bodyD_r (H.pk [2, 0, 1]) ?_
   intro cx H
   replace H := H.nf
   replace H := St.memShut (H.pk [0, 1]) bc
   replace H := H.nf
   have bm := M.e_pure hM
   exact ⟨_, resE_tmp rfl, ⟨bn, aE, ao, bm, rfl, H, bQ⟩⟩
  skip
  exact absurd bx (by decide)

def za2 (lo : Int) (hi : Int) : M (Int × Int) :=
  M.pure (lo, hi)
theorem zbw {R : List Chunk}  (lo : Int) (hi : Int)  {r : (Int × Int)} (hM : (za2 lo hi).Ends r) (w : World) (H : St w w [] R) : Ret Tryz.prog 43 #[I lo, I hi] w fun v w' => ∃ (y0 : Int) (y1 : Int), (y0, y1) = r /\ v = .agg #[I y0, I y1] /\ St w w' [] R := by
 refine ret_of_W Tryz.func43 rfl rfl rfl ?_
 refine W.seq ?_
 refine W.region rfl ?_
 refine t_alloc (cs := [I 0, I 0]) H Al26 rfl ?_
 intro ac ae H
 refine s_nil ?_
 refine W.seq ?_
 refine W.region rfl ?_
 refine zM (I lo) rfl ?_
 refine zM (I hi) rfl ?_
 refine s_val (x_bld (ps := [(0, I lo), (1, I hi)]) (zs := [I 0, I 0]) (L' := [I lo, I hi]) rfl Tryz.underlying26 Al26 rfl (Bd26 Tryz.underlying26) (.cons (cs := [I lo]) rfl rfl rfl rfl rfl <| .cons (cs := [I hi]) rfl rfl rfl rfl rfl <| .nil)) ?_
 refine t_sw 0 0 [I lo, I hi] (.agg #[I lo, I hi]) H rfl rfl Sz26 rfl rfl rfl rfl ?_
 intro ag H
 refine s_nil ?_
 refine W.ret ?_
 have aa := (H.bl 0)
 have ab := M.e_pure hM
 exact ⟨_, (resE_of1 (v := .agg #[I lo, I hi]) rfl (.cell (v := .agg #[I lo, I hi]) rfl (run_loadVar_ag (ds := [I lo, I hi]) Ag26 Sz26 aa rfl rfl) <| .nil)), ⟨lo, hi, ab, rfl, (H.pk [])⟩⟩

def zag (aa : Int) : M ((List Int) × (List Span) × (List Int) × (List Town) × Int × Int × (List Flood)) :=
  M.bind (za2 5 6) fun (r0, r1) =>
  M.bind (za2 2 4) fun (ab, ac) =>
  M.bind (za2 3 5) fun (ae, ag) =>
  M.bind (za2 1 2) fun (ah, ai) =>
  M.pure (([(2 : Int), (2 : Int), (3 : Int), (-1 : Int)]), ([(⟨(r0 : Int), (r1 : Int)⟩ : Span), (⟨(ab : Int), (ac : Int)⟩ : Span), (⟨(ae : Int), (ag : Int)⟩ : Span), (⟨(0 : Int), (0 : Int)⟩ : Span)]), ([(0 : Int), (1 : Int)]), ([(⟨(3 : Int), (aa : Int), (300 : Int)⟩ : Town)]), ah, ai, ([(⟨(0 : Int), ([(200 : Int), (250 : Int), (310 : Int)])⟩ : Flood), (⟨(1 : Int), ([(280 : Int), (240 : Int), (290 : Int)])⟩ : Flood), (⟨(0 : Int), ([(100 : Int), (260 : Int), (300 : Int)])⟩ : Flood)]))
theorem zai {R : List Chunk}  (ab : Int)  {r : ((List Int) × (List Span) × (List Int) × (List Town) × Int × Int × (List Flood))} (hM : (zag ab).Ends r) (w : World) (H : St w w [] R) : Ret Tryz.prog 42 #[I ab] w fun v w' => ∃ (y0 : List Int) (y1 : List Span) (y2 : List Int) (y3 : List Town) (y4 : Int) (y5 : Int) (y6 : List Flood) (u0 : Value) (u1 : Value) (u2 : Value) (u3 : Value) (u4 : Value) (rr5 : List (Raw 1)) (aE : Base), (y0, y1, y2, y3, y4, y5, y6) = r /\ v = .agg #[u0, u1, u2, u3, I y4, I y5, u4] /\ St w w' [cOwn (α := Int) 3 u0 y0, cOwn (α := Span) 26 u1 y1, cOwn (α := Int) 3 u2 y2, cOwn (α := Town) 91 u3 y3, cOwn (α := Raw 1) 85 u4 rr5, cRo aE] R /\ RepR (α := Flood) aE.cells rr5 y6 := by
 refine ret_of_W Tryz.func42 rfl rfl rfl ?_
 refine W.seq ?_
 refine W.region rfl ?_
 refine t_alloc (cs := [.slice none 0 0, .slice none 0 0, .slice none 0 0, .slice none 0 0, I 0, I 0, .slice none 0 0]) H Al29 rfl ?_
 intro a7 a8 H
 refine s_nil ?_
 refine W.seq ?_
 refine W.region rfl ?_
 refine t_bs (α := Int) T22 [I 2, I 2, I 3, I (-1)] [(2 : Int), (2 : Int), (3 : Int), (-1 : Int)] H rfl (.cons rfl (Flat.rep_enc _ (2 : Int)) <| .cons rfl (Flat.rep_enc _ (2 : Int)) <| .cons rfl (Flat.rep_enc _ (3 : Int)) <| .cons rfl (Flat.rep_enc _ (-1 : Int)) <| .nil) rfl rfl rfl ?_
 intro ac ba H
 obtain ⟨bc, aK, hM⟩ := M.e_bind hM
 refine s_call cf43 [I 5, I 6] rfl (zbw 5 6 aK _ (H.gt 2)) ?_
 rintro vq bf ⟨r0, r1, aL, hvq, aa⟩
 subst aL
 subst vq
 try dsimp only at hM
 replace H := H.bk aa
 clear aa
 obtain ⟨bg, aM, hM⟩ := M.e_bind hM
 refine s_call cf43 [I 2, I 4] rfl (zbw 2 4 aM _ (H.gt 2)) ?_
 rintro vq bh ⟨ay, az, aN, hvq, aa⟩
 subst aN
 subst vq
 try dsimp only at hM
 replace H := H.bk aa
 clear aa
 obtain ⟨bi, aO, hM⟩ := M.e_bind hM
 refine s_call cf43 [I 3, I 5] rfl (zbw 3 5 aO _ (H.gt 2)) ?_
 rintro vq bj ⟨aA, aB, aP, hvq, aa⟩
 subst aP
 subst vq
 try dsimp only at hM
 replace H := H.bk aa
 clear aa
 refine s_val (x_bld (ps := []) (zs := [I 0, I 0]) (L' := [I 0, I 0]) rfl Tryz.underlying26 Al26 rfl (Bd26 Tryz.underlying26) (.nil)) ?_
 refine t_bs (α := Span) T23 [.agg #[I r0, I r1], .agg #[I ay, I az], .agg #[I aA, I aB], .agg #[I 0, I 0]] [(⟨(r0 : Int), (r1 : Int)⟩ : Span), (⟨(ay : Int), (az : Int)⟩ : Span), (⟨(aA : Int), (aB : Int)⟩ : Span), (⟨(0 : Int), (0 : Int)⟩ : Span)] H rfl (.cons rfl (Flat.rep_enc _ (⟨(r0 : Int), (r1 : Int)⟩ : Span)) <| .cons rfl (Flat.rep_enc _ (⟨(ay : Int), (az : Int)⟩ : Span)) <| .cons rfl (Flat.rep_enc _ (⟨(aA : Int), (aB : Int)⟩ : Span)) <| .cons rfl (Flat.rep_enc _ (⟨(0 : Int), (0 : Int)⟩ : Span)) <| .nil) rfl rfl rfl ?_
 intro ae bm H
 refine t_bs (α := Int) T22 [I 0, I 1] [(0 : Int), (1 : Int)] H rfl (.cons rfl (Flat.rep_enc _ (0 : Int)) <| .cons rfl (Flat.rep_enc _ (1 : Int)) <| .nil) rfl rfl rfl ?_
 intro ag bn H
 refine zM (I ab) rfl ?_
 refine s_val (x_bld (ps := [(0, I 3), (1, I ab), (2, I 300)]) (zs := [I 0, I 0, I 0]) (L' := [I 3, I ab, I 300]) rfl Tryz.underlying91 Al91 rfl (Bd91 Tryz.underlying91) (.cons (cs := [I 3]) rfl rfl rfl rfl rfl <| .cons (cs := [I ab]) rfl rfl rfl rfl rfl <| .cons (cs := [I 300]) rfl rfl rfl rfl rfl <| .nil)) ?_
 refine t_bs (α := Town) T24 [.agg #[I 3, I ab, I 300]] [(⟨(3 : Int), (ab : Int), (300 : Int)⟩ : Town)] H rfl (.cons rfl (Flat.rep_enc _ (⟨(3 : Int), (ab : Int), (300 : Int)⟩ : Town)) <| .nil) rfl rfl rfl ?_
 intro ah bo H
 obtain ⟨bp, aQ, hM⟩ := M.e_bind hM
 refine s_call cf43 [I 1, I 2] rfl (zbw 1 2 aQ _ (H.gt 5)) ?_
 rintro vq bq ⟨ai, aj, aR, hvq, aa⟩
 subst aR
 subst vq
 try dsimp only at hM
 replace H := H.bk aa
 clear aa
 refine t_bs (α := Int) T22 [I 200, I 250, I 310] [(200 : Int), (250 : Int), (310 : Int)] H rfl (.cons rfl (Flat.rep_enc _ (200 : Int)) <| .cons rfl (Flat.rep_enc _ (250 : Int)) <| .cons rfl (Flat.rep_enc _ (310 : Int)) <| .nil) rfl rfl rfl ?_
 intro ao br H
 refine s_val (x_bld (ps := [(0, I 0), (1, ao)]) (zs := [I 0, .slice none 0 0]) (L' := [I 0, ao]) rfl Tryz.underlying85 Al85 rfl (Bd85 Tryz.underlying85) (.cons (cs := [I 0]) rfl rfl rfl rfl rfl <| .cons (cs := [ao]) (Sl.cells (H.os 0)) rfl rfl rfl rfl <| .nil)) ?_
 refine t_bs (α := Int) T22 [I 280, I 240, I 290] [(280 : Int), (240 : Int), (290 : Int)] H rfl (.cons rfl (Flat.rep_enc _ (280 : Int)) <| .cons rfl (Flat.rep_enc _ (240 : Int)) <| .cons rfl (Flat.rep_enc _ (290 : Int)) <| .nil) rfl rfl rfl ?_
 intro ap bt H
 refine s_val (x_bld (ps := [(0, I 1), (1, ap)]) (zs := [I 0, .slice none 0 0]) (L' := [I 1, ap]) rfl Tryz.underlying85 Al85 rfl (Bd85 Tryz.underlying85) (.cons (cs := [I 1]) rfl rfl rfl rfl rfl <| .cons (cs := [ap]) (Sl.cells (H.os 0)) rfl rfl rfl rfl <| .nil)) ?_
 refine t_bs (α := Int) T22 [I 100, I 260, I 300] [(100 : Int), (260 : Int), (300 : Int)] H rfl (.cons rfl (Flat.rep_enc _ (100 : Int)) <| .cons rfl (Flat.rep_enc _ (260 : Int)) <| .cons rfl (Flat.rep_enc _ (300 : Int)) <| .nil) rfl rfl rfl ?_
 intro aq bu H
 refine s_val (x_bld (ps := [(0, I 0), (1, aq)]) (zs := [I 0, .slice none 0 0]) (L' := [I 0, aq]) rfl Tryz.underlying85 Al85 rfl (Bd85 Tryz.underlying85) (.cons (cs := [I 0]) rfl rfl rfl rfl rfl <| .cons (cs := [aq]) (Sl.cells (H.os 0)) rfl rfl rfl rfl <| .nil)) ?_
 obtain ⟨bv, H⟩ := H.emptyE
 obtain ⟨bw, H, aS⟩ := H.freezeE (k := 3) rfl
 replace H := H.nf
 have am := aS
 obtain ⟨bx, H, bz, aT⟩ := H.joinE (i := 0) (j := 3) rfl rfl
 replace am := am.mono aT
 obtain ⟨bA, H, aU⟩ := H.freezeE (k := 3) rfl
 replace H := H.nf
 have au := aU
 obtain ⟨bB, H, aV, aW⟩ := H.joinE (i := 0) (j := 3) rfl rfl
 replace am := am.mono aV
 replace au := au.mono aW
 obtain ⟨bC, H, aX⟩ := H.freezeE (k := 3) rfl
 replace H := H.nf
 have aC := aX
 obtain ⟨aF, H, aG, aY⟩ := H.joinE (i := 0) (j := 3) rfl rfl
 replace am := am.mono aG
 replace au := au.mono aG
 replace aC := aC.mono aY
 obtain ⟨av, aH⟩ : ∃ r : Raw 1, r.cs = [I 0, ao] := ⟨Raw.of [I 0, ao] rfl (by simp only [List.all_cons, List.all_nil, Bool.true_and, Bool.and_true, Sl.oc am]; try rfl), rfl⟩
 obtain ⟨aw, aI⟩ : ∃ r : Raw 1, r.cs = [I 1, ap] := ⟨Raw.of [I 1, ap] rfl (by simp only [List.all_cons, List.all_nil, Bool.true_and, Bool.and_true, Sl.oc au]; try rfl), rfl⟩
 obtain ⟨ax, aJ⟩ : ∃ r : Raw 1, r.cs = [I 0, aq] := ⟨Raw.of [I 0, aq] rfl (by simp only [List.all_cons, List.all_nil, Bool.true_and, Bool.and_true, Sl.oc aC]; try rfl), rfl⟩
 have aD : RepR (α := Flood) aF.cells [av, aw, ax] [(⟨(0 : Int), ([(200 : Int), (250 : Int), (310 : Int)])⟩ : Flood), (⟨(1 : Int), ([(280 : Int), (240 : Int), (290 : Int)])⟩ : Flood), (⟨(0 : Int), ([(100 : Int), (260 : Int), (300 : Int)])⟩ : Flood)] := .cons (by rw [aH]; exact ⟨_, rfl, am⟩) <| .cons (by rw [aI]; exact ⟨_, rfl, au⟩) <| .cons (by rw [aJ]; exact ⟨_, rfl, aC⟩) <| .nil
 refine t_bs (α := Raw 1) T27 [.agg #[I 0, ao], .agg #[I 1, ap], .agg #[I 0, aq]] [av, aw, ax] H rfl (.cons (by rw [show (Flat.enc av : List Value) = av.cs from rfl, aH]; rfl) (Flat.rep_enc _ _) <| .cons (by rw [show (Flat.enc aw : List Value) = aw.cs from rfl, aI]; rfl) (Flat.rep_enc _ _) <| .cons (by rw [show (Flat.enc ax : List Value) = ax.cs from rfl, aJ]; rfl) (Flat.rep_enc _ _) <| .nil) rfl rfl rfl ?_
 intro ak bD H
 replace H := H.nf
 refine s_val (x_bld (ps := [(0, ac), (1, ae), (2, ag), (3, ah), (4, .agg #[I ai, I aj]), (5, ak)]) (zs := [.slice none 0 0, .slice none 0 0, .slice none 0 0, .slice none 0 0, I 0, I 0, .slice none 0 0]) (L' := [ac, ae, ag, ah, I ai, I aj, ak]) rfl Tryz.underlying29 Al29 rfl (Bd29 Tryz.underlying29) (.cons (cs := [ac]) (Sl.cells (H.os 11)) rfl rfl rfl rfl <| .cons (cs := [ae]) (Sl.cells (H.os 10)) rfl rfl rfl rfl <| .cons (cs := [ag]) (Sl.cells (H.os 9)) rfl rfl rfl rfl <| .cons (cs := [ah]) (Sl.cells (H.os 8)) rfl rfl rfl rfl <| .cons (cs := [I ai, I aj]) rfl rfl rfl rfl rfl <| .cons (cs := [ak]) (Sl.cells (rowSl rfl (H.get (k := 0) rfl) (roLe _ (H.get (k := 1) rfl)) aD)) rfl rfl rfl rfl <| .nil)) ?_
 refine t_sw 12 0 [ac, ae, ag, ah, I ai, I aj, ak] (.agg #[ac, ae, ag, ah, I ai, I aj, ak]) H rfl rfl Sz29 rfl rfl rfl (by simp only [List.all_cons, List.all_nil, Bool.true_and, Bool.and_true, Sl.oc (H.os 11), Sl.oc (H.os 10), Sl.oc (H.os 9), Sl.oc (H.os 8), Sl.oc (rowSl rfl (H.get (k := 0) rfl) (roLe _ (H.get (k := 1) rfl)) aD)]; try rfl) ?_
 intro bE H
 refine s_nil ?_
 replace H := H.pk [0, 1, 8, 9, 10, 11, 12]
 refine W.ret ?_
 have aZ := (H.bl 6)
 have a6 := M.e_pure hM
 exact ⟨_, (resE_of1 (v := .agg #[ac, ae, ag, ah, I ai, I aj, ak]) rfl (.cell (v := .agg #[ac, ae, ag, ah, I ai, I aj, ak]) rfl (run_loadVar_ag (ds := [ac, ae, ag, ah, I ai, I aj, ak]) Ag29 Sz29 aZ rfl rfl) <| .nil)), ⟨([(2 : Int), (2 : Int), (3 : Int), (-1 : Int)]), ([(⟨(r0 : Int), (r1 : Int)⟩ : Span), (⟨(ay : Int), (az : Int)⟩ : Span), (⟨(aA : Int), (aB : Int)⟩ : Span), (⟨(0 : Int), (0 : Int)⟩ : Span)]), ([(0 : Int), (1 : Int)]), ([(⟨(3 : Int), (ab : Int), (300 : Int)⟩ : Town)]), ai, aj, ([(⟨(0 : Int), ([(200 : Int), (250 : Int), (310 : Int)])⟩ : Flood), (⟨(1 : Int), ([(280 : Int), (240 : Int), (290 : Int)])⟩ : Flood), (⟨(0 : Int), ([(100 : Int), (260 : Int), (300 : Int)])⟩ : Flood)]), ac, ae, ag, ah, ak, [av, aw, ax], aF, a6, rfl, (H.pk [5, 4, 3, 2, 0, 1]), aD⟩⟩

def zad (n : Int) (aa : Int) (greatest : Int) : M Bool :=
  M.pure ((decide (aa <= n)) && (decide (n <= greatest)))
theorem zaj {R : List Chunk}  (n : Int) (aa : Int) (greatest : Int)  {r : Bool} (hM : (zad n aa greatest).Ends r) (w : World) (H : St w w [] R) : Ret Tryz.prog 47 #[I n, I aa, I greatest] w fun v w' => ∃ (y0 : Bool), y0 = r /\ v = B y0 /\ St w w' [] R := by
 refine ret_of_W Tryz.func47 rfl rfl rfl ?_
 refine W.seq ?_
 refine W.region rfl ?_
 refine zA (B false) rfl ?_
 refine s_nil ?_
 refine W.seq ?_
 refine W.region rfl ?_
 refine zM (I n) rfl ?_
 refine zM (I aa) rfl ?_
 refine zC n aa (decide (aa <= n)) rfl rfl rfl ?_
 refine zM (B (decide (aa <= n))) rfl ?_
 refine g_val (decide (aa <= n)) (gy_t rfl) (fun hg => x_mv (v := I n) rfl) ?_
 refine g_val (decide (aa <= n)) (gy_t rfl) (fun hg => x_mv (v := I greatest) rfl) ?_
 refine g_val (decide (aa <= n)) (gy_t rfl) (fun hg => x_cmp (kd := .i64) (a := n) (b := greatest) (r := decide (n <= greatest)) (gd_of (c := decide (aa <= n)) hg (I n)) (gd_of (c := decide (aa <= n)) hg (I greatest)) rfl) ?_
 refine s_val (x_pand (b := decide (aa <= n)) (r := decide (n <= greatest)) rfl (fun hb => gd_of (c := decide (aa <= n)) (by first | exact hb | (rw [hb]; rfl) | simp_all) (B (decide (n <= greatest)))) rfl) ?_
 refine zA (B ((decide (aa <= n)) && (decide (n <= greatest)))) rfl ?_
 refine s_nil ?_
 refine W.ret ?_
 have ab := M.e_pure hM
 exact ⟨_, resE_tmp rfl, ⟨((decide (aa <= n)) && (decide (n <= greatest))), ab, rfl, H⟩⟩

def zaH (s : Span) : M Bool :=
  M.bind (zad s.lo 0 s.hi) fun r2 =>
  M.bind (M.opt r2 (zad s.hi 0 1000) false) fun r3 =>
  M.pure (r2 && r3)
theorem zcS {R : List Chunk}  (s : Span)  {r : Bool} (hM : (zaH s).Ends r) (w : World) (H : St w w [] R) : Ret Tryz.prog 61 #[.agg #[I s.lo, I s.hi]] w fun v w' => ∃ (y0 : Bool), y0 = r /\ v = B y0 /\ St w w' [] R := by
 refine ret_of_W Tryz.func61 rfl rfl rfl ?_
 refine W.seq ?_
 refine W.region rfl ?_
 refine t_box (v := .agg #[I s.lo, I s.hi]) (cs := [I s.lo, I s.hi]) H rfl rfl ?_
 intro aa aj H
 refine zA (B false) rfl ?_
 refine s_nil ?_
 refine W.seq ?_
 refine W.region rfl ?_
 refine s_val (x_fa (a := Pq aa) (v := Pq aa) rfl (fa_blk (o := 0) Fd26_0 Sz3)) ?_
 refine s_val (x_ld (p := Pq aa) (v := I s.lo) rfl (ldb_sc Sc3 (H.bl 0) rfl)) ?_
 refine s_val (x_fa (a := Pq aa) (v := Oq aa 1) rfl (fa_blk (o := 0) Fd26_1 Sz3)) ?_
 refine s_val (x_ld (p := Oq aa 1) (v := I s.hi) rfl (ldb_sc Sc3 (H.bl 0) rfl)) ?_
 obtain ⟨ak, ae, hM⟩ := M.e_bind hM
 refine s_call cf47 [I s.lo, I 0, I s.hi] rfl (zaj s.lo 0 s.hi ae _ (H.gt 1)) ?_
 rintro vq am ⟨r2, ag, hvq, ac⟩
 subst ag
 subst vq
 try dsimp only at hM
 replace H := H.bk ac
 clear ac
 refine zM (B r2) rfl ?_
 refine g_val r2 (gy_t rfl) (fun hg => x_fa (a := Pq aa) (v := Oq aa 1) rfl (fa_blk (o := 0) Fd26_1 Sz3)) ?_
 refine g_val r2 (gy_t rfl) (fun hg => x_ld (p := Oq aa 1) (v := I s.hi) (gd_of (c := r2) hg (Oq aa 1)) (ldb_sc Sc3 (H.bl 0) rfl)) ?_
 obtain ⟨r3, ah, hM⟩ := M.e_bind hM
 refine t_gcall r2 (gy_t rfl) cf47 (B r3) (fun _ => [I s.hi, I 0, I 1000]) (fun hg => lst3 (gd_of (c := r2) hg (I s.hi)) rfl rfl) H (fun hg => (zaj s.hi 0 1000 (M.e_opt ah hg) _ (H.give (A := []) rfl)).mono fun v_ w_ ⟨y_, ab, ai, H_⟩ => by subst ab; exact ⟨ai, H.via H_⟩) ?_
 intro ao H
 refine s_val (x_pand (b := r2) (r := r3) rfl (fun hb => gd_of (c := r2) (by first | exact hb | (rw [hb]; rfl) | simp_all) (B r3)) rfl) ?_
 refine zA (B (r2 && r3)) rfl ?_
 refine s_nil ?_
 refine W.ret ?_
 have ab := M.e_pure hM
 exact ⟨_, resE_tmp rfl, ⟨(r2 && r3), ab, rfl, (H.pk [])⟩⟩

def zaO (l : List Int) (aa : Int) : (Int × Nat) -> M ((Int × Nat) ⊕ (Unit ⊕ Unit)) := fun (last, s) =>
  bif decide ((s : Int) < (l.length : Int)) then (
  M.grd (decide ((s : Int) < (l.length : Int))) <|
  M.grd (decide ((-9223372036854775808 : Int) <= (last + 1)) && decide ((last + 1) <= (9223372036854775807 : Int))) <|
  M.grd (decide ((-9223372036854775808 : Int) <= (aa - 1)) && decide ((aa - 1) <= (9223372036854775807 : Int))) <|
  M.bind (zad (l.getD s 0) (last + 1) (aa - 1)) fun r2 =>
  bif !r2 then (
  M.pure (.inr (.inl ())))
  else (
  M.pure (.inl (l.getD s 0, s + 1))))
  else (
  M.pure (.inr (.inr ())))
def zay (l : List Int) (aa : Int) : M Bool :=
  M.bind (M.iter (zaO l aa) (-1, 0)) fun x_ => match x_ with
  | (.inl (_ : Unit)) => (
  M.pure false)
  | (.inr (_ : Unit)) => (
  M.pure true)
theorem zcv {R : List Chunk} {ak : Cells} {ab : Value} (l : List Int) (aa : Int) (aq : Reads R ak) (ae : Sl ak ab l) {r : Bool} (hM : (zay l aa).Ends r) (w : World) (H : St w w [] R) : Ret Tryz.prog 62 #[ab, I aa] w fun v w' => ∃ (y0 : Bool), y0 = r /\ v = B y0 /\ St w w' [] R := by
 refine ret_of_W Tryz.func62 rfl rfl rfl ?_
 refine W.seq ?_
 refine W.region rfl ?_
 refine zA (B false) rfl ?_
 refine s_nil ?_
 refine W.seq ?_
 refine W.region rfl ?_
 refine zA (I (-1)) rfl ?_
 refine s_nil ?_
 refine W.seq ?_
 refine W.seq ?_
 refine W.region rfl ?_
 refine zM ab rfl ?_
 have aE := (ae).len_le
 refine s_val (x_lenS T22.und rfl ae) ?_
 refine zM (I 0) rfl ?_
 refine s_nil ?_
 refine W.block ?_
 obtain ⟨au, ag, am⟩ := M.e_bind hM
 obtain ⟨aF, ag⟩ := M.e_iter ag
 refine W.loop (fun m σ W => ∃ (last : Int) (s : Nat) (ρ : Env), σ = upds ρ [(1, I aa), (5, I last), (8, ab), (9, I (l.length : Int)), (10, I (s : Int))] /\ M.iterN (zaO l aa) m (last, s) = some au /\ St w W [] R) ?_ ?_
 ·exact ⟨_, -1, 0, _, upds_of _ _ ⟨rfl, rfl, rfl, rfl, rfl, trivial⟩, ag, H⟩
 rintro aG σ aH ⟨last, s, ρ, rfl, ao, H⟩
 obtain ⟨av, aw, aI, hM, ah⟩ := M.e_iterN ao
 simp only [zaO] at hM
 clear ao
 refine W.seq ?_
 refine W.region rfl ?_
 refine zC (s : Int) (l.length : Int) (decide ((s : Int) < (l.length : Int))) rfl rfl rfl ?_
 refine s_nil ?_
 refine W.seq ?_
 refine W.cond (decide ((s : Int) < (l.length : Int))) rfl (fun ac => ?_) (fun ac => ?_)
 ·replace hM := M.e_t hM ac
  simp only [qy1, qy2, qy3, qy4, qy5, qy6, ne_eq, qy7] at ac
  refine W.skip ?_
  refine W.seq ?_
  refine W.block ?_
  refine W.seq ?_
  refine W.region rfl ?_
  obtain ⟨ax, hM⟩ := M.e_grd hM
  simp only [Bool.and_eq_true, decide_eq_true_eq] at ax
  refine s_val (x_ix (a := ab) (b := I (s : Int)) (v := vat ab 1 (Int.toNat (s : Int))) rfl rfl (Sl.ix (α := Int) T22.und T22.size ae (by omega) (by omega))) ?_
  refine s_val (x_ld (p := vat ab 1 (Int.toNat (s : Int))) (v := I (l.getD s 0)) rfl (ld_sc Sc3 (At.mono (Int_at ae (i := (s : Int)) (by omega) (by omega)) (aq.at H)))) ?_
  refine zA (I (l.getD s 0)) rfl ?_
  refine s_nil ?_
  refine W.seq ?_
  refine W.seq ?_
  refine W.region rfl ?_
  refine zM (I (l.getD s 0)) rfl ?_
  refine zM (I last) rfl ?_
  obtain ⟨ay, hM⟩ := M.e_grd hM
  simp only [Bool.and_eq_true, decide_eq_true_eq] at ay
  refine zR last 1 (last + 1) rfl rfl rfl (by omega) ?_
  refine zM (I aa) rfl ?_
  obtain ⟨az, hM⟩ := M.e_grd hM
  simp only [Bool.and_eq_true, decide_eq_true_eq] at az
  refine zR aa 1 (aa - 1) rfl rfl rfl (by omega) ?_
  obtain ⟨aJ, aA, hM⟩ := M.e_bind hM
  refine s_call cf47 [I (l.getD s 0), I (last + 1), I (aa - 1)] rfl (zaj (l.getD s 0) (last + 1) (aa - 1) aA _ (H.gt 0)) ?_
  rintro vq aK ⟨r2, aB, hvq, ap⟩
  subst aB
  subst vq
  try dsimp only at hM
  replace H := H.bk ap
  clear ap
  refine s_val (x_not (b := r2) rfl) ?_
  refine s_nil ?_
  refine W.cond (!r2) rfl (fun ai => ?_) (fun ai => ?_)
  ·replace hM := M.e_t hM ai
   refine W.seq ?_
   refine W.region rfl ?_
   refine zA (B false) rfl ?_
   refine s_nil ?_
   refine W.ret ?_
   have aC := M.e_inr hM ah
   subst aC
   replace hM := am
   try dsimp only at hM
   have aj := M.e_pure hM
   exact ⟨_, resE_tmp rfl, ⟨false, aj, rfl, H⟩⟩
  replace hM := M.e_f hM ai
  refine W.skip ?_
  refine W.region rfl ?_
  refine zM (I (l.getD s 0)) rfl ?_
  refine zA (I (l.getD s 0)) rfl ?_
  refine s_nil ?_
  refine W.region rfl ?_
  refine zR (s : Int) 1 ((s : Int) + 1) rfl rfl rfl (by omega) ?_
  refine zM (I ((s : Int) + 1)) rfl ?_
  refine s_nil ?_
  exact ⟨av, aw, l.getD s 0, s + 1, _, upds_of _ _ ⟨rfl, rfl, rfl, rfl, rfl, trivial⟩, M.e_inl hM ah, H⟩
 replace hM := M.e_f hM ac
 simp only [qy1, qy2, qy3, qy4, qy5, qy6, ne_eq, qy7] at ac
 refine W.exit ?_
 have aD := M.e_inr hM ah
 subst aD
 replace hM := am
 try dsimp only at hM
 refine W.seq ?_
 refine W.region rfl ?_
 refine zA (B true) rfl ?_
 refine s_nil ?_
 refine W.ret ?_
 have aj := M.e_pure hM
 exact ⟨_, resE_tmp rfl, ⟨true, aj, rfl, H⟩⟩

def zat (s : List Town) (f : Town -> M Bool) : Nat -> M (Nat ⊕ (Int ⊕ Unit)) := fun s2 =>
  bif decide ((s2 : Int) < (s.length : Int)) then (
  M.grd (decide ((s2 : Int) < (s.length : Int))) <|
  M.bind (f (s.getD s2 default)) fun r2 =>
  bif r2 then (
  M.pure (.inr (.inl (s2 : Int))))
  else (
  M.pure (.inl (s2 + 1))))
  else (
  M.pure (.inr (.inr ())))
def zbM (s : List Town) (f : Town -> M Bool) : M Int :=
  M.bind (M.iter (zat s f) 0) fun x_ => match x_ with
  | (.inl s3) => (
  M.pure s3)
  | (.inr (_ : Unit)) => (
  M.pure (-1))
theorem zdn {R : List Chunk} {ak : Cells} {aa : Value} {ac : Value} (s : List Town) (f : Town -> M Bool) (ap : Reads R ak) (ae : Sl ak aa s) (aq : FnM Tryz.prog R ac f) {r : Int} (hM : (zbM s f).Ends r) (w : World) (H : St w w [] R) : Ret Tryz.prog 108 #[aa, ac] w fun v w' => ∃ (y0 : Int), y0 = r /\ v = I y0 /\ St w w' [] R := by
 refine ret_of_W Tryz.func108 rfl rfl rfl ?_
 refine W.seq ?_
 refine W.region rfl ?_
 refine zA (I 0) rfl ?_
 refine s_nil ?_
 refine W.seq ?_
 refine W.seq ?_
 refine W.region rfl ?_
 refine zM aa rfl ?_
 have aB := (ae).len_le
 refine s_val (x_lenS T24.und rfl ae) ?_
 refine zM (I 0) rfl ?_
 refine s_nil ?_
 refine W.block ?_
 obtain ⟨au, ag, am⟩ := M.e_bind hM
 obtain ⟨aC, ag⟩ := M.e_iter ag
 refine W.loop (fun m σ W => ∃ (s2 : Nat) (ρ : Env), σ = upds ρ [(0, aa), (1, ac), (7, I (s.length : Int)), (8, I (s2 : Int))] /\ M.iterN (zat s f) m s2 = some au /\ St w W [] R) ?_ ?_
 ·exact ⟨_, 0, _, upds_of _ _ ⟨rfl, rfl, rfl, rfl, trivial⟩, ag, H⟩
 rintro aD σ aE ⟨s2, ρ, rfl, ao, H⟩
 obtain ⟨av, aw, aF, hM, ah⟩ := M.e_iterN ao
 simp only [zat] at hM
 clear ao
 refine W.seq ?_
 refine W.region rfl ?_
 refine zC (s2 : Int) (s.length : Int) (decide ((s2 : Int) < (s.length : Int))) rfl rfl rfl ?_
 refine s_nil ?_
 refine W.seq ?_
 refine W.cond (decide ((s2 : Int) < (s.length : Int))) rfl (fun ab => ?_) (fun ab => ?_)
 ·replace hM := M.e_t hM ab
  simp only [qy1, qy2, qy3, qy4, qy5, qy6, ne_eq, qy7] at ab
  refine W.skip ?_
  refine W.seq ?_
  refine W.block ?_
  refine W.seq ?_
  refine W.region rfl ?_
  refine zM (I (s2 : Int)) rfl ?_
  refine zA (I (s2 : Int)) rfl ?_
  refine s_nil ?_
  refine W.seq ?_
  refine W.region rfl ?_
  refine zM ac rfl ?_
  refine zM aa rfl ?_
  refine zM (I (s2 : Int)) rfl ?_
  obtain ⟨ax, hM⟩ := M.e_grd hM
  simp only [Bool.and_eq_true, decide_eq_true_eq] at ax
  refine s_val (x_ix (a := aa) (b := I (s2 : Int)) (v := vat aa 3 (Int.toNat (s2 : Int))) rfl rfl (Sl.ix (α := Town) T24.und T24.size ae (by omega) (by omega))) ?_
  refine s_val (x_ld (p := vat aa 3 (Int.toNat (s2 : Int))) (v := .agg #[I ((s.getD s2 default).station), I ((s.getD s2 default).lead), I ((s.getD s2 default).alarm)]) rfl (ld_ag Ag91 Sz91 (At.mono (Town_atA ae (i := (s2 : Int)) (by omega) (by omega)) (ap.at H)))) ?_
  obtain ⟨r2, ay, hM⟩ := M.e_bind hM
  refine t_callM H aq rfl rfl (s.getD s2 default) Reads.none ⟨_, rfl, rfl⟩ ay ?_
  intro aG H
  refine s_nil ?_
  refine W.cond r2 rfl (fun ai => ?_) (fun ai => ?_)
  ·replace hM := M.e_t hM ai
   refine W.seq ?_
   refine W.region rfl ?_
   refine zM (I (s2 : Int)) rfl ?_
   refine zA (I (s2 : Int)) rfl ?_
   refine s_nil ?_
   refine W.ret ?_
   have az := M.e_inr hM ah
   subst az
   replace hM := am
   try dsimp only at hM
   have aj := M.e_pure hM
   exact ⟨_, resE_tmp rfl, ⟨(s2 : Int), aj, rfl, H⟩⟩
  replace hM := M.e_f hM ai
  refine W.skip ?_
  refine W.region rfl ?_
  refine zR (s2 : Int) 1 ((s2 : Int) + 1) rfl rfl rfl (by omega) ?_
  refine zM (I ((s2 : Int) + 1)) rfl ?_
  refine s_nil ?_
  exact ⟨av, aw, s2 + 1, _, upds_of _ _ ⟨rfl, rfl, rfl, rfl, trivial⟩, M.e_inl hM ah, H⟩
 replace hM := M.e_f hM ab
 simp only [qy1, qy2, qy3, qy4, qy5, qy6, ne_eq, qy7] at ab
 refine W.exit ?_
 have aA := M.e_inr hM ah
 subst aA
 replace hM := am
 try dsimp only at hM
 refine W.seq ?_
 refine W.region rfl ?_
 refine zA (I (-1)) rfl ?_
 refine s_nil ?_
 refine W.ret ?_
 have aj := M.e_pure hM
 exact ⟨_, resE_tmp rfl, ⟨(-1), aj, rfl, H⟩⟩

def zar (s : List Town) (f : Town -> M Bool) : M Bool :=
  M.bind (zbM s f) fun r2 =>
  M.pure (decide (0 <= r2))
theorem zcn {R : List Chunk} {ac : Cells} {aa : Value} {ab : Value} (s : List Town) (f : Town -> M Bool) (ag : Reads R ac) (ah : Sl ac aa s) (ai : FnM Tryz.prog R ab f) {r : Bool} (hM : (zar s f).Ends r) (w : World) (H : St w w [] R) : Ret Tryz.prog 92 #[aa, ab] w fun v w' => ∃ (y0 : Bool), y0 = r /\ v = B y0 /\ St w w' [] R := by
 refine ret_of_W Tryz.func92 rfl rfl rfl ?_
 refine W.seq ?_
 refine W.region rfl ?_
 refine zA (B false) rfl ?_
 refine s_nil ?_
 refine W.seq ?_
 refine W.region rfl ?_
 refine zM aa rfl ?_
 refine zM ab rfl ?_
 obtain ⟨ao, aj, hM⟩ := M.e_bind hM
 refine s_call cf108 [aa, ab] rfl (zdn s f (ag.app _) ah (ai.app _) aj _ (H.gt 0)) ?_
 rintro vq ap ⟨r2, ak, hvq, ae⟩
 subst ak
 subst vq
 try dsimp only at hM
 replace H := H.bk ae
 clear ae
 refine zC r2 0 (decide (0 <= r2)) rfl rfl rfl ?_
 refine zA (B (decide (0 <= r2))) rfl ?_
 refine s_nil ?_
 refine W.ret ?_
 have am := M.e_pure hM
 exact ⟨_, resE_tmp rfl, ⟨(decide (0 <= r2)), am, rfl, H⟩⟩

def zbK (x : Town) (aa : Town -> M Bool) : M Bool :=
  M.bind (aa x) fun r2 =>
  M.pure (!r2)
theorem zdR {R : List Chunk} {aa : Nat} {ab : Value} (x : Town) (ac : Town -> M Bool) (ae : FnM Tryz.prog R ab ac) (ag : Has R (cBlk aa [ab] 120)) {r : Bool} (hM : (zbK x ac).Ends r) (w : World) (H : St w w [] R) : Ret Tryz.prog 95 #[.agg #[I x.station, I x.lead, I x.alarm], Pq aa] w fun v w' => ∃ (y0 : Bool), y0 = r /\ v = B y0 /\ St w w' [] R := by
 refine ret_of_W Tryz.func95 rfl rfl rfl ?_
 refine W.seq ?_
 refine W.region rfl ?_
 refine t_box (v := .agg #[I x.station, I x.lead, I x.alarm]) (cs := [I x.station, I x.lead, I x.alarm]) H rfl rfl ?_
 intro ah ak H
 refine zA (B false) rfl ?_
 refine s_nil ?_
 refine W.seq ?_
 refine W.region rfl ?_
 refine s_val (x_ld (p := Pq aa) (v := ab) rfl (ldb_sc Sc120 (ag.blk H) rfl)) ?_
 refine s_val (x_ld (p := Pq ah) (v := .agg #[I x.station, I x.lead, I x.alarm]) rfl (ldb_ag (ds := [I x.station, I x.lead, I x.alarm]) Ag91 Sz91 (H.bl 0) rfl rfl)) ?_
 obtain ⟨r2, ai, hM⟩ := M.e_bind hM
 refine t_callM H ae rfl rfl x Reads.none ⟨_, rfl, rfl⟩ ai ?_
 intro am H
 refine s_val (x_not (b := r2) rfl) ?_
 refine zA (B (!r2)) rfl ?_
 refine s_nil ?_
 refine W.ret ?_
 have aj := M.e_pure hM
 exact ⟨_, resE_tmp rfl, ⟨(!r2), aj, rfl, (H.pk [])⟩⟩

def zaN (l : List Town) (so : Town -> M Bool) : M Bool :=
  M.bind (zar l (fun aa => zbK aa so)) fun r2 =>
  M.pure (!r2)
theorem zc6 {R : List Chunk} {ag : Cells} {aa : Value} {ab : Value} (l : List Town) (so : Town -> M Bool) (ak : Reads R ag) (am : Sl ag aa l) (ah : FnM Tryz.prog R ab so) {r : Bool} (hM : (zaN l so).Ends r) (w : World) (H : St w w [] R) : Ret Tryz.prog 63 #[aa, ab] w fun v w' => ∃ (y0 : Bool), y0 = r /\ v = B y0 /\ St w w' [] R := by
 refine ret_of_W Tryz.func63 rfl rfl rfl ?_
 refine W.seq ?_
 refine W.region rfl ?_
 refine t_box (v := ab) (cs := [ab]) H rfl (FnM.cells ah) ?_
 intro ac aB H
 refine zA (B false) rfl ?_
 refine s_nil ?_
 refine W.seq ?_
 refine W.region rfl ?_
 refine zM aa rfl ?_
 refine s_val (x_mf (fs := []) (cs := [Pq ac]) rfl rfl) ?_
 obtain ⟨aC, ao, hM⟩ := M.e_bind hM
 refine s_call cf92 [aa, .func (.func 95) #[] #[Pq ac]] rfl (zcn l (fun ae => zbK ae so) (ak.app _) am ⟨95, [Pq ac], rfl, cf95, fun ai aD aE ap ae aF aq aG au av => by obtain rfl := Town_arg au; exact (zdR ae so (FnM.app (ah.app _) _) (Has.app (Has.here (k := 0) rfl) _) av ai (St.refl aq)).mono fun ap ai ⟨aH, aw, ax, ay⟩ => by subst aw; exact ⟨ax, ay⟩⟩ ao _ (H.gt 1)) ?_
 rintro vq aI ⟨r2, az, hvq, aj⟩
 subst az
 subst vq
 try dsimp only at hM
 replace H := H.bk aj
 clear aj
 refine s_val (x_not (b := r2) rfl) ?_
 refine zA (B (!r2)) rfl ?_
 refine s_nil ?_
 refine W.ret ?_
 have aA := M.e_pure hM
 exact ⟨_, resE_tmp rfl, ⟨(!r2), aA, rfl, (H.pk [])⟩⟩

def zaz (n : Int) : M Bool :=
  M.bind (zad n 0 2000) fun r2 =>
  M.pure r2
theorem zcP {R : List Chunk}  (n : Int)  {r : Bool} (hM : (zaz n).Ends r) (w : World) (H : St w w [] R) : Ret Tryz.prog 68 #[I n] w fun v w' => ∃ (y0 : Bool), y0 = r /\ v = B y0 /\ St w w' [] R := by
 refine ret_of_W Tryz.func68 rfl rfl rfl ?_
 refine W.seq ?_
 refine W.region rfl ?_
 refine zA (B false) rfl ?_
 refine s_nil ?_
 refine W.seq ?_
 refine W.region rfl ?_
 refine zM (I n) rfl ?_
 obtain ⟨ag, ab, hM⟩ := M.e_bind hM
 refine s_call cf47 [I n, I 0, I 2000] rfl (zaj n 0 2000 ab _ (H.gt 0)) ?_
 rintro vq ah ⟨r2, ac, hvq, aa⟩
 subst ac
 subst vq
 try dsimp only at hM
 replace H := H.bk aa
 clear aa
 refine zA (B r2) rfl ?_
 refine s_nil ?_
 refine W.ret ?_
 have ae := M.e_pure hM
 exact ⟨_, resE_tmp rfl, ⟨r2, ae, rfl, H⟩⟩

def zaJ (t : Town) : M Bool :=
  M.bind (zad t.lead 0 1000) fun r2 =>
  M.bind (M.opt r2 (zaz t.alarm) false) fun r3 =>
  M.pure (r2 && r3)
theorem zdO {R : List Chunk}  (t : Town)  {r : Bool} (hM : (zaJ t).Ends r) (w : World) (H : St w w [] R) : Ret Tryz.prog 64 #[.agg #[I t.station, I t.lead, I t.alarm]] w fun v w' => ∃ (y0 : Bool), y0 = r /\ v = B y0 /\ St w w' [] R := by
 refine ret_of_W Tryz.func64 rfl rfl rfl ?_
 refine W.seq ?_
 refine W.region rfl ?_
 refine t_box (v := .agg #[I t.station, I t.lead, I t.alarm]) (cs := [I t.station, I t.lead, I t.alarm]) H rfl rfl ?_
 intro aa aj H
 refine zA (B false) rfl ?_
 refine s_nil ?_
 refine W.seq ?_
 refine W.region rfl ?_
 refine s_val (x_fa (a := Pq aa) (v := Oq aa 1) rfl (fa_blk (o := 0) Fd91_1 Sz3)) ?_
 refine s_val (x_ld (p := Oq aa 1) (v := I t.lead) rfl (ldb_sc Sc3 (H.bl 0) rfl)) ?_
 obtain ⟨ak, ae, hM⟩ := M.e_bind hM
 refine s_call cf47 [I t.lead, I 0, I 1000] rfl (zaj t.lead 0 1000 ae _ (H.gt 1)) ?_
 rintro vq am ⟨r2, ag, hvq, ac⟩
 subst ag
 subst vq
 try dsimp only at hM
 replace H := H.bk ac
 clear ac
 refine zM (B r2) rfl ?_
 refine g_val r2 (gy_t rfl) (fun hg => x_fa (a := Pq aa) (v := Oq aa 2) rfl (fa_blk (o := 0) Fd91_2 Sz3)) ?_
 refine g_val r2 (gy_t rfl) (fun hg => x_ld (p := Oq aa 2) (v := I t.alarm) (gd_of (c := r2) hg (Oq aa 2)) (ldb_sc Sc3 (H.bl 0) rfl)) ?_
 obtain ⟨r3, ah, hM⟩ := M.e_bind hM
 refine t_gcall r2 (gy_t rfl) cf68 (B r3) (fun _ => [I t.alarm]) (fun hg => lst1 (gd_of (c := r2) hg (I t.alarm))) H (fun hg => (zcP t.alarm (M.e_opt ah hg) _ (H.give (A := []) rfl)).mono fun v_ w_ ⟨y_, ab, ai, H_⟩ => by subst ab; exact ⟨ai, H.via H_⟩) ?_
 intro ao H
 refine s_val (x_pand (b := r2) (r := r3) rfl (fun hb => gd_of (c := r2) (by first | exact hb | (rw [hb]; rfl) | simp_all) (B r3)) rfl) ?_
 refine zA (B (r2 && r3)) rfl ?_
 refine s_nil ?_
 refine W.ret ?_
 have ab := M.e_pure hM
 exact ⟨_, resE_tmp rfl, ⟨(r2 && r3), ab, rfl, (H.pk [])⟩⟩

def zaI (t : Town) (aa : Int) : M Bool :=
  M.grd (decide ((-9223372036854775808 : Int) <= (aa - 1)) && decide ((aa - 1) <= (9223372036854775807 : Int))) <|
  M.bind (zad t.station 0 (aa - 1)) fun r2 =>
  M.pure r2
theorem zdM {R : List Chunk} {ab : Nat} (t : Town) (aa : Int) (ag : Has R (cBlk ab [I aa] 3)) {r : Bool} (hM : (zaI t aa).Ends r) (w : World) (H : St w w [] R) : Ret Tryz.prog 65 #[.agg #[I t.station, I t.lead, I t.alarm], Pq ab] w fun v w' => ∃ (y0 : Bool), y0 = r /\ v = B y0 /\ St w w' [] R := by
 refine ret_of_W Tryz.func65 rfl rfl rfl ?_
 refine W.seq ?_
 refine W.region rfl ?_
 refine t_box (v := .agg #[I t.station, I t.lead, I t.alarm]) (cs := [I t.station, I t.lead, I t.alarm]) H rfl rfl ?_
 intro ac am H
 refine zA (B false) rfl ?_
 refine s_nil ?_
 refine W.seq ?_
 refine W.region rfl ?_
 refine s_val (x_fa (a := Pq ac) (v := Pq ac) rfl (fa_blk (o := 0) Fd91_0 Sz3)) ?_
 refine s_val (x_ld (p := Pq ac) (v := I t.station) rfl (ldb_sc Sc3 (H.bl 0) rfl)) ?_
 refine s_val (x_ld (p := Pq ab) (v := I aa) rfl (ldb_sc Sc3 (ag.blk H) rfl)) ?_
 obtain ⟨ah, hM⟩ := M.e_grd hM
 simp only [Bool.and_eq_true, decide_eq_true_eq] at ah
 refine zR aa 1 (aa - 1) rfl rfl rfl (by omega) ?_
 obtain ⟨ao, ai, hM⟩ := M.e_bind hM
 refine s_call cf47 [I t.station, I 0, I (aa - 1)] rfl (zaj t.station 0 (aa - 1) ai _ (H.gt 1)) ?_
 rintro vq ap ⟨r2, aj, hvq, ae⟩
 subst aj
 subst vq
 try dsimp only at hM
 replace H := H.bk ae
 clear ae
 refine zA (B r2) rfl ?_
 refine s_nil ?_
 refine W.ret ?_
 have ak := M.e_pure hM
 exact ⟨_, resE_tmp rfl, ⟨r2, ak, rfl, (H.pk [])⟩⟩

def zao (s : List Int) (v : Int) : Nat -> M (Nat ⊕ (Int ⊕ Unit)) := fun s2 =>
  bif decide ((s2 : Int) < (s.length : Int)) then (
  M.grd (decide ((s2 : Int) < (s.length : Int))) <|
  bif v == (s.getD s2 0) then (
  M.pure (.inr (.inl (s2 : Int))))
  else (
  M.pure (.inl (s2 + 1))))
  else (
  M.pure (.inr (.inr ())))
def zaB (s : List Int) (v : Int) : M Int :=
  M.bind (M.iter (zao s v) 0) fun x_ => match x_ with
  | (.inl s3) => (
  M.pure s3)
  | (.inr (_ : Unit)) => (
  M.pure (-1))
theorem zcN {R : List Chunk} {aj : Cells} {aa : Value} (s : List Int) (v : Int) (ao : Reads R aj) (ae : Sl aj aa s) {r : Int} (hM : (zaB s v).Ends r) (w : World) (H : St w w [] R) : Ret Tryz.prog 56 #[aa, I v] w fun v w' => ∃ (y0 : Int), y0 = r /\ v = I y0 /\ St w w' [] R := by
 refine ret_of_W Tryz.func56 rfl rfl rfl ?_
 refine W.seq ?_
 refine W.region rfl ?_
 refine zA (I 0) rfl ?_
 refine s_nil ?_
 refine W.seq ?_
 refine W.seq ?_
 refine W.region rfl ?_
 refine zM aa rfl ?_
 have ay := (ae).len_le
 refine s_val (x_lenS T22.und rfl ae) ?_
 refine zM (I 0) rfl ?_
 refine s_nil ?_
 refine W.block ?_
 obtain ⟨ap, ag, ak⟩ := M.e_bind hM
 obtain ⟨az, ag⟩ := M.e_iter ag
 refine W.loop (fun m σ W => ∃ (s2 : Nat) (ρ : Env), σ = upds ρ [(0, aa), (1, I v), (7, I (s.length : Int)), (8, I (s2 : Int))] /\ M.iterN (zao s v) m s2 = some ap /\ St w W [] R) ?_ ?_
 ·exact ⟨_, 0, _, upds_of _ _ ⟨rfl, rfl, rfl, rfl, trivial⟩, ag, H⟩
 rintro aA σ aB ⟨s2, ρ, rfl, am, H⟩
 obtain ⟨aq, au, aC, hM, ah⟩ := M.e_iterN am
 simp only [zao] at hM
 clear am
 refine W.seq ?_
 refine W.region rfl ?_
 refine zC (s2 : Int) (s.length : Int) (decide ((s2 : Int) < (s.length : Int))) rfl rfl rfl ?_
 refine s_nil ?_
 refine W.seq ?_
 refine W.cond (decide ((s2 : Int) < (s.length : Int))) rfl (fun ab => ?_) (fun ab => ?_)
 ·replace hM := M.e_t hM ab
  simp only [qy1, qy2, qy3, qy4, qy5, qy6, ne_eq, qy7] at ab
  refine W.skip ?_
  refine W.seq ?_
  refine W.block ?_
  refine W.seq ?_
  refine W.region rfl ?_
  refine zM (I (s2 : Int)) rfl ?_
  refine zA (I (s2 : Int)) rfl ?_
  refine s_nil ?_
  refine W.seq ?_
  refine W.region rfl ?_
  refine zM (I v) rfl ?_
  refine zM aa rfl ?_
  refine zM (I (s2 : Int)) rfl ?_
  obtain ⟨av, hM⟩ := M.e_grd hM
  simp only [Bool.and_eq_true, decide_eq_true_eq] at av
  refine s_val (x_ix (a := aa) (b := I (s2 : Int)) (v := vat aa 1 (Int.toNat (s2 : Int))) rfl rfl (Sl.ix (α := Int) T22.und T22.size ae (by omega) (by omega))) ?_
  refine s_val (x_ld (p := vat aa 1 (Int.toNat (s2 : Int))) (v := I (s.getD s2 0)) rfl (ld_sc Sc3 (At.mono (Int_at ae (i := (s2 : Int)) (by omega) (by omega)) (ao.at H)))) ?_
  refine zC v (s.getD s2 0) (v == (s.getD s2 0)) rfl rfl rfl ?_
  refine s_nil ?_
  refine W.cond (v == (s.getD s2 0)) rfl (fun ac => ?_) (fun ac => ?_)
  ·replace hM := M.e_t hM ac
   simp only [qy1, qy2, qy3, qy4, qy5, qy6, ne_eq, qy7] at ac
   refine W.seq ?_
   refine W.region rfl ?_
   refine zM (I (s2 : Int)) rfl ?_
   refine zA (I (s2 : Int)) rfl ?_
   refine s_nil ?_
   refine W.ret ?_
   have aw := M.e_inr hM ah
   subst aw
   replace hM := ak
   try dsimp only at hM
   have ai := M.e_pure hM
   exact ⟨_, resE_tmp rfl, ⟨(s2 : Int), ai, rfl, H⟩⟩
  replace hM := M.e_f hM ac
  simp only [qy1, qy2, qy3, qy4, qy5, qy6, ne_eq, qy7] at ac
  refine W.skip ?_
  refine W.region rfl ?_
  refine zR (s2 : Int) 1 ((s2 : Int) + 1) rfl rfl rfl (by omega) ?_
  refine zM (I ((s2 : Int) + 1)) rfl ?_
  refine s_nil ?_
  exact ⟨aq, au, s2 + 1, _, upds_of _ _ ⟨rfl, rfl, rfl, rfl, trivial⟩, M.e_inl hM ah, H⟩
 replace hM := M.e_f hM ab
 simp only [qy1, qy2, qy3, qy4, qy5, qy6, ne_eq, qy7] at ab
 refine W.exit ?_
 have ax := M.e_inr hM ah
 subst ax
 replace hM := ak
 try dsimp only at hM
 refine W.seq ?_
 refine W.region rfl ?_
 refine zA (I (-1)) rfl ?_
 refine s_nil ?_
 refine W.ret ?_
 have ai := M.e_pure hM
 exact ⟨_, resE_tmp rfl, ⟨(-1), ai, rfl, H⟩⟩

def zaX (s : List Int) (v : Int) : M Bool :=
  M.bind (zaB s v) fun r2 =>
  M.pure (decide (0 <= r2))
theorem zdP {R : List Chunk} {ab : Cells} {aa : Value} (s : List Int) (v : Int) (ae : Reads R ab) (ag : Sl ab aa s) {r : Bool} (hM : (zaX s v).Ends r) (w : World) (H : St w w [] R) : Ret Tryz.prog 67 #[aa, I v] w fun v w' => ∃ (y0 : Bool), y0 = r /\ v = B y0 /\ St w w' [] R := by
 refine ret_of_W Tryz.func67 rfl rfl rfl ?_
 refine W.seq ?_
 refine W.region rfl ?_
 refine zA (B false) rfl ?_
 refine s_nil ?_
 refine W.seq ?_
 refine W.region rfl ?_
 refine zM aa rfl ?_
 refine zM (I v) rfl ?_
 obtain ⟨ak, ah, hM⟩ := M.e_bind hM
 refine s_call cf56 [aa, I v] rfl (zcN s v (ae.app _) ag ah _ (H.gt 0)) ?_
 rintro vq am ⟨r2, ai, hvq, ac⟩
 subst ai
 subst vq
 try dsimp only at hM
 replace H := H.bk ac
 clear ac
 refine zC r2 0 (decide (0 <= r2)) rfl rfl rfl ?_
 refine zA (B (decide (0 <= r2))) rfl ?_
 refine s_nil ?_
 refine W.ret ?_
 have aj := M.e_pure hM
 exact ⟨_, resE_tmp rfl, ⟨(decide (0 <= r2)), aj, rfl, H⟩⟩

def zaR (s : List Int) (f : Int -> M Bool) : Nat -> M (Nat ⊕ (Int ⊕ Unit)) := fun s2 =>
  bif decide ((s2 : Int) < (s.length : Int)) then (
  M.grd (decide ((s2 : Int) < (s.length : Int))) <|
  M.bind (f (s.getD s2 0)) fun r2 =>
  bif r2 then (
  M.pure (.inr (.inl (s2 : Int))))
  else (
  M.pure (.inl (s2 + 1))))
  else (
  M.pure (.inr (.inr ())))
def zbR (s : List Int) (f : Int -> M Bool) : M Int :=
  M.bind (M.iter (zaR s f) 0) fun x_ => match x_ with
  | (.inl s3) => (
  M.pure s3)
  | (.inr (_ : Unit)) => (
  M.pure (-1))
theorem zdo {R : List Chunk} {ak : Cells} {aa : Value} {ac : Value} (s : List Int) (f : Int -> M Bool) (ap : Reads R ak) (ae : Sl ak aa s) (aq : FnM Tryz.prog R ac f) {r : Int} (hM : (zbR s f).Ends r) (w : World) (H : St w w [] R) : Ret Tryz.prog 100 #[aa, ac] w fun v w' => ∃ (y0 : Int), y0 = r /\ v = I y0 /\ St w w' [] R := by
 refine ret_of_W Tryz.func100 rfl rfl rfl ?_
 refine W.seq ?_
 refine W.region rfl ?_
 refine zA (I 0) rfl ?_
 refine s_nil ?_
 refine W.seq ?_
 refine W.seq ?_
 refine W.region rfl ?_
 refine zM aa rfl ?_
 have aB := (ae).len_le
 refine s_val (x_lenS T22.und rfl ae) ?_
 refine zM (I 0) rfl ?_
 refine s_nil ?_
 refine W.block ?_
 obtain ⟨au, ag, am⟩ := M.e_bind hM
 obtain ⟨aC, ag⟩ := M.e_iter ag
 refine W.loop (fun m σ W => ∃ (s2 : Nat) (ρ : Env), σ = upds ρ [(0, aa), (1, ac), (7, I (s.length : Int)), (8, I (s2 : Int))] /\ M.iterN (zaR s f) m s2 = some au /\ St w W [] R) ?_ ?_
 ·exact ⟨_, 0, _, upds_of _ _ ⟨rfl, rfl, rfl, rfl, trivial⟩, ag, H⟩
 rintro aD σ aE ⟨s2, ρ, rfl, ao, H⟩
 obtain ⟨av, aw, aF, hM, ah⟩ := M.e_iterN ao
 simp only [zaR] at hM
 clear ao
 refine W.seq ?_
 refine W.region rfl ?_
 refine zC (s2 : Int) (s.length : Int) (decide ((s2 : Int) < (s.length : Int))) rfl rfl rfl ?_
 refine s_nil ?_
 refine W.seq ?_
 refine W.cond (decide ((s2 : Int) < (s.length : Int))) rfl (fun ab => ?_) (fun ab => ?_)
 ·replace hM := M.e_t hM ab
  simp only [qy1, qy2, qy3, qy4, qy5, qy6, ne_eq, qy7] at ab
  refine W.skip ?_
  refine W.seq ?_
  refine W.block ?_
  refine W.seq ?_
  refine W.region rfl ?_
  refine zM (I (s2 : Int)) rfl ?_
  refine zA (I (s2 : Int)) rfl ?_
  refine s_nil ?_
  refine W.seq ?_
  refine W.region rfl ?_
  refine zM ac rfl ?_
  refine zM aa rfl ?_
  refine zM (I (s2 : Int)) rfl ?_
  obtain ⟨ax, hM⟩ := M.e_grd hM
  simp only [Bool.and_eq_true, decide_eq_true_eq] at ax
  refine s_val (x_ix (a := aa) (b := I (s2 : Int)) (v := vat aa 1 (Int.toNat (s2 : Int))) rfl rfl (Sl.ix (α := Int) T22.und T22.size ae (by omega) (by omega))) ?_
  refine s_val (x_ld (p := vat aa 1 (Int.toNat (s2 : Int))) (v := I (s.getD s2 0)) rfl (ld_sc Sc3 (At.mono (Int_at ae (i := (s2 : Int)) (by omega) (by omega)) (ap.at H)))) ?_
  obtain ⟨r2, ay, hM⟩ := M.e_bind hM
  refine t_callM H aq rfl rfl (s.getD s2 0) Reads.none (Arg.mkI (fun _ => none) _) ay ?_
  intro aG H
  refine s_nil ?_
  refine W.cond r2 rfl (fun ai => ?_) (fun ai => ?_)
  ·replace hM := M.e_t hM ai
   refine W.seq ?_
   refine W.region rfl ?_
   refine zM (I (s2 : Int)) rfl ?_
   refine zA (I (s2 : Int)) rfl ?_
   refine s_nil ?_
   refine W.ret ?_
   have az := M.e_inr hM ah
   subst az
   replace hM := am
   try dsimp only at hM
   have aj := M.e_pure hM
   exact ⟨_, resE_tmp rfl, ⟨(s2 : Int), aj, rfl, H⟩⟩
  replace hM := M.e_f hM ai
  refine W.skip ?_
  refine W.region rfl ?_
  refine zR (s2 : Int) 1 ((s2 : Int) + 1) rfl rfl rfl (by omega) ?_
  refine zM (I ((s2 : Int) + 1)) rfl ?_
  refine s_nil ?_
  exact ⟨av, aw, s2 + 1, _, upds_of _ _ ⟨rfl, rfl, rfl, rfl, trivial⟩, M.e_inl hM ah, H⟩
 replace hM := M.e_f hM ab
 simp only [qy1, qy2, qy3, qy4, qy5, qy6, ne_eq, qy7] at ab
 refine W.exit ?_
 have aA := M.e_inr hM ah
 subst aA
 replace hM := am
 try dsimp only at hM
 refine W.seq ?_
 refine W.region rfl ?_
 refine zA (I (-1)) rfl ?_
 refine s_nil ?_
 refine W.ret ?_
 have aj := M.e_pure hM
 exact ⟨_, resE_tmp rfl, ⟨(-1), aj, rfl, H⟩⟩

def zbY (s : List Int) (f : Int -> M Bool) : M Bool :=
  M.bind (zbR s f) fun r2 =>
  M.pure (decide (0 <= r2))
theorem zdC {R : List Chunk} {ac : Cells} {aa : Value} {ab : Value} (s : List Int) (f : Int -> M Bool) (ag : Reads R ac) (ah : Sl ac aa s) (ai : FnM Tryz.prog R ab f) {r : Bool} (hM : (zbY s f).Ends r) (w : World) (H : St w w [] R) : Ret Tryz.prog 86 #[aa, ab] w fun v w' => ∃ (y0 : Bool), y0 = r /\ v = B y0 /\ St w w' [] R := by
 refine ret_of_W Tryz.func86 rfl rfl rfl ?_
 refine W.seq ?_
 refine W.region rfl ?_
 refine zA (B false) rfl ?_
 refine s_nil ?_
 refine W.seq ?_
 refine W.region rfl ?_
 refine zM aa rfl ?_
 refine zM ab rfl ?_
 obtain ⟨ao, aj, hM⟩ := M.e_bind hM
 refine s_call cf100 [aa, ab] rfl (zdo s f (ag.app _) ah (ai.app _) aj _ (H.gt 0)) ?_
 rintro vq ap ⟨r2, ak, hvq, ae⟩
 subst ak
 subst vq
 try dsimp only at hM
 replace H := H.bk ae
 clear ae
 refine zC r2 0 (decide (0 <= r2)) rfl rfl rfl ?_
 refine zA (B (decide (0 <= r2))) rfl ?_
 refine s_nil ?_
 refine W.ret ?_
 have am := M.e_pure hM
 exact ⟨_, resE_tmp rfl, ⟨(decide (0 <= r2)), am, rfl, H⟩⟩

def zbJ (x : Int) (aa : Int -> M Bool) : M Bool :=
  M.bind (aa x) fun r2 =>
  M.pure (!r2)
theorem zdB {R : List Chunk} {aa : Nat} {ab : Value} (x : Int) (ac : Int -> M Bool) (ae : FnM Tryz.prog R ab ac) (ag : Has R (cBlk aa [ab] 113)) {r : Bool} (hM : (zbJ x ac).Ends r) (w : World) (H : St w w [] R) : Ret Tryz.prog 94 #[I x, Pq aa] w fun v w' => ∃ (y0 : Bool), y0 = r /\ v = B y0 /\ St w w' [] R := by
 refine ret_of_W Tryz.func94 rfl rfl rfl ?_
 refine W.seq ?_
 refine W.region rfl ?_
 refine zA (B false) rfl ?_
 refine s_nil ?_
 refine W.seq ?_
 refine W.region rfl ?_
 refine s_val (x_ld (p := Pq aa) (v := ab) rfl (ldb_sc Sc113 (ag.blk H) rfl)) ?_
 refine zM (I x) rfl ?_
 obtain ⟨r2, ah, hM⟩ := M.e_bind hM
 refine t_callM H ae rfl rfl x Reads.none (Arg.mkI (fun _ => none) _) ah ?_
 intro aj H
 refine s_val (x_not (b := r2) rfl) ?_
 refine zA (B (!r2)) rfl ?_
 refine s_nil ?_
 refine W.ret ?_
 have ai := M.e_pure hM
 exact ⟨_, resE_tmp rfl, ⟨(!r2), ai, rfl, H⟩⟩

def zaM (l : List Int) (so : Int -> M Bool) : M Bool :=
  M.bind (zbY l (fun aa => zbJ aa so)) fun r2 =>
  M.pure (!r2)
theorem zc0 {R : List Chunk} {ag : Cells} {aa : Value} {ab : Value} (l : List Int) (so : Int -> M Bool) (ak : Reads R ag) (am : Sl ag aa l) (ah : FnM Tryz.prog R ab so) {r : Bool} (hM : (zaM l so).Ends r) (w : World) (H : St w w [] R) : Ret Tryz.prog 53 #[aa, ab] w fun v w' => ∃ (y0 : Bool), y0 = r /\ v = B y0 /\ St w w' [] R := by
 refine ret_of_W Tryz.func53 rfl rfl rfl ?_
 refine W.seq ?_
 refine W.region rfl ?_
 refine t_box (v := ab) (cs := [ab]) H rfl (FnM.cells ah) ?_
 intro ac aB H
 refine zA (B false) rfl ?_
 refine s_nil ?_
 refine W.seq ?_
 refine W.region rfl ?_
 refine zM aa rfl ?_
 refine s_val (x_mf (fs := []) (cs := [Pq ac]) rfl rfl) ?_
 obtain ⟨aC, ao, hM⟩ := M.e_bind hM
 refine s_call cf86 [aa, .func (.func 94) #[] #[Pq ac]] rfl (zdC l (fun ae => zbJ ae so) (ak.app _) am ⟨94, [Pq ac], rfl, cf94, fun ai aD aE ap ae aF aq aG au av => by obtain rfl := Arg.int au; exact (zdB ae so (FnM.app (ah.app _) _) (Has.app (Has.here (k := 0) rfl) _) av ai (St.refl aq)).mono fun ap ai ⟨aH, aw, ax, ay⟩ => by subst aw; exact ⟨ax, ay⟩⟩ ao _ (H.gt 1)) ?_
 rintro vq aI ⟨r2, az, hvq, aj⟩
 subst az
 subst vq
 try dsimp only at hM
 replace H := H.bk aj
 clear aj
 refine s_val (x_not (b := r2) rfl) ?_
 refine zA (B (!r2)) rfl ?_
 refine s_nil ?_
 refine W.ret ?_
 have aA := M.e_pure hM
 exact ⟨_, resE_tmp rfl, ⟨(!r2), aA, rfl, (H.pk [])⟩⟩

end Go.Proofs.YtbaehghammbjdaaGreat
end
section
set_option maxRecDepth 100000
set_option maxHeartbeats 16000000
namespace Go.Proofs.YtbaehghammbjdaaGreat
open Go Go.Nm
def zax (aa : List Int) (ab : List Span) : Nat -> M (Nat ⊕ (Int ⊕ Unit)) := fun s =>
  bif decide ((s : Int) < (aa.length : Int)) then (
  M.grd (decide ((s : Int) < (aa.length : Int))) <|
  M.bind (M.opt ((aa.getD s 0) != (-1)) (zad (aa.getD s 0) ((s : Int) + 1) ((aa.length : Int) - 1)) false) fun r4 =>
  bif (((aa.getD s 0) != (-1)) && (!r4)) then (
  M.pure (.inr (.inl 2)))
  else (
  M.grd (decide ((s : Int) < (ab.length : Int))) <|
  M.bind (zaH (ab.getD s default)) fun r5 =>
  bif !r5 then (
  M.pure (.inr (.inl 130)))
  else (
  M.pure (.inl (s + 1)))))
  else (
  M.pure (.inr (.inr ())))
def zas : Int -> (Int × Int) -> M (Int ⊕ Unit) := fun s3 (x, x2) =>
  M.grd (decide ((-9223372036854775808 : Int) <= (s3 + 1)) && decide ((s3 + 1) <= (9223372036854775807 : Int))) <|
  M.pure (.inl (s3 + 1))
def zaD (ac : List Int) (ae : List Span) (ab : List Int) (ag : List Town) (ah : Int) (ai : Int) (aa : List Flood) : Nat -> M (Nat ⊕ (Int ⊕ Unit)) := fun s4 =>
  bif decide ((s4 : Int) < (aa.length : Int)) then (
  M.grd (decide ((s4 : Int) < (aa.length : Int))) <|
  M.bind (zap ac ae ab ag ah ai aa (max 0 ((aa.getD s4 default).spring))) fun (aj, ak, am) =>
  M.bind (zan (M.yl zas) (.inl 0) aj ac ae ab ag ak am aa) fun x_ => match x_ with
  | (.inl s3, q0) => (
  M.bind (zaX ab ((aa.getD s4 default).spring)) fun ao =>
  bif ((!ao) || ((((aa.getD s4 default).stages).length : Int) != s3)) then (
  M.pure (.inr (.inl 2)))
  else (
  M.bind (zaM ((aa.getD s4 default).stages) (fun ap => zaz ap)) fun aq =>
  bif !aq then (
  M.pure (.inr (.inl 130)))
  else (
  M.pure (.inl (s4 + 1)))))
  | (.inr _, _) => M.fail)
  else (
  M.pure (.inr (.inr ())))
def zaE (aa : List Int) (ab : List Span) (ae : List Int) (ac : List Town) (ah : Int) (ai : Int) (aj : List Flood) : M Int :=
  M.bind (zad (aa.length : Int) 1 12) fun r2 =>
  M.bind (M.opt (!((!r2) || ((ab.length : Int) != (aa.length : Int)))) (zad (ae.length : Int) 1 8) false) fun r3 =>
  bif (((((!r2) || ((ab.length : Int) != (aa.length : Int))) || (!r3)) || (decide (8 < (ac.length : Int)))) || (decide (20 < (aj.length : Int)))) then (
  M.pure 3)
  else (
  M.bind (M.iter (zax aa ab) 0) fun x_ => match x_ with
  | (.inl s2) => (
  M.pure s2)
  | (.inr (_ : Unit)) => (
  M.bind (zay ae (aa.length : Int)) fun r6 =>
  bif !r6 then (
  M.pure 9)
  else (
  M.bind (zaN ac (fun ag => zaJ ag)) fun r7 =>
  M.bind (M.opt (!(!r7)) (zaN ac (fun ag => zaI ag (aa.length : Int))) false) fun r8 =>
  M.bind (M.opt (!((!r7) || (!r8))) (zaH (⟨(ah : Int), (ai : Int)⟩ : Span)) false) fun r9 =>
  bif (((!r7) || (!r8)) || (!r9)) then (
  M.pure 130)
  else (
  M.bind (M.iter (zaD aa ab ae ac ah ai aj) 0) fun x_ => match x_ with
  | (.inl s5) => (
  M.pure s5)
  | (.inr (_ : Unit)) => (
  M.pure 0)))))
theorem zdv {R : List Chunk} {bD : Cells} {ai : Value} {bE : Cells} {aj : Value} {bF : Cells} {ak : Value} {bG : Cells} {ag : Value} {bH : Cells} {ah : Value} (aa : List Int) (ac : List Span) (aA : List Int) (am : List Town) (aq : Int) (au : Int) (ae : List Flood) (aQ : Reads R bD) (aB : Sl bD ai aa) (aR : Reads R bE) (aF : Sl bE aj ac) (aK : Reads R bF) (aG : Sl bF ak aA) (aL : Reads R bG) (aH : Sl bG ag am) (aM : Reads R bH) (aC : Sl bH ah ae) {r : Int} (hM : (zaE aa ac aA am aq au ae).Ends r) (w : World) (H : St w w [] R) : Ret Tryz.prog 19 #[.agg #[ai, aj, ak, ag, I aq, I au, ah]] w fun v w' => ∃ (y0 : Int), y0 = r /\ v = I y0 /\ St w w' [] R := by
 refine ret_of_WD Tryz.func19 rfl rfl rfl ?_
 replace H : St w w [cMk ([])] R := H.mk0
 have cF := aB.len_le
 have cG := aF.len_le
 have cH := aG.len_le
 have cI := aH.len_le
 have cJ := aC.len_le
 unfold zaE at hM
 refine WD.seq ?_
 refine WD.of ?_
 refine W.region rfl ?_
 refine t_box (v := .agg #[ai, aj, ak, ag, I aq, I au, ah]) (cs := [ai, aj, ak, ag, I aq, I au, ah]) H rfl rfl ?_
 intro ab cK H
 refine zA (I 0) rfl ?_
 refine s_nil ?_
 refine WD.seq ?_
 refine WD.of ?_
 refine W.region rfl ?_
 refine s_val (x_fa (a := Pq ab) (v := Pq ab) rfl (fa_blk (o := 0) Fd29_0 Sz22)) ?_
 refine s_val (x_ld (p := Pq ab) (v := ai) rfl (ldb_sc Sc22 (H.bl 0) rfl)) ?_
 have cL := (aB).len_le
 refine s_val (x_lenS T22.und rfl aB) ?_
 refine t_alloc (cs := [I 0]) H Al3 rfl ?_
 intro aw cM H
 refine t_sw 0 0 [I (aa.length : Int)] (I (aa.length : Int)) H rfl rfl Sz3 rfl rfl rfl rfl ?_
 intro cN H
 refine s_nil ?_
 refine WD.seq ?_
 refine WD.seq ?_
 refine WD.of ?_
 refine W.region rfl ?_
 refine s_val (x_ld (p := Pq aw) (v := I (aa.length : Int)) rfl (ldb_sc Sc3 (H.bl 0) rfl)) ?_
 obtain ⟨cO, bR, hM⟩ := M.e_bind hM
 refine s_call cf47 [I (aa.length : Int), I 1, I 12] rfl (zaj (aa.length : Int) 1 12 bR _ (H.gt 3)) ?_
 rintro vq cP ⟨r2, bS, hvq, ao⟩
 subst bS
 subst vq
 try dsimp only at hM
 replace H := H.bk ao
 clear ao
 refine s_val (x_not (b := r2) rfl) ?_
 refine zM (B (!r2)) rfl ?_
 refine g_val (!(!r2)) (gy_f rfl) (fun hg => x_fa (a := Pq ab) (v := Oq ab 1) rfl (fa_blk (o := 0) Fd29_1 Sz23)) ?_
 refine g_val (!(!r2)) (gy_f rfl) (fun hg => x_ld (p := Oq ab 1) (v := aj) (gd_of (c := !(!r2)) hg (Oq ab 1)) (ldb_sc Sc23 (H.bl 1) rfl)) ?_
 have cQ := (aF).len_le
 refine g_val (!(!r2)) (gy_f rfl) (fun hg => x_lenS T23.und (gd_of (c := !(!r2)) hg (aj)) aF) ?_
 refine g_val (!(!r2)) (gy_f rfl) (fun hg => x_ld (p := Pq aw) (v := I (aa.length : Int)) rfl (ldb_sc Sc3 (H.bl 0) rfl)) ?_
 refine g_val (!(!r2)) (gy_f rfl) (fun hg => x_cmp (kd := .i64) (a := (ac.length : Int)) (b := (aa.length : Int)) (r := (ac.length : Int) != (aa.length : Int)) (gd_of (c := !(!r2)) hg (I (ac.length : Int))) (gd_of (c := !(!r2)) hg (I (aa.length : Int))) rfl) ?_
 refine s_val (x_por (b := !r2) (r := (ac.length : Int) != (aa.length : Int)) rfl rfl (fun hb => gd_of (c := !(!r2)) (by first | exact hb | (rw [hb]; rfl) | simp_all) (B ((ac.length : Int) != (aa.length : Int))))) ?_
 refine zM (B ((!r2) || ((ac.length : Int) != (aa.length : Int)))) rfl ?_
 refine g_val (!((!r2) || ((ac.length : Int) != (aa.length : Int)))) (gy_f rfl) (fun hg => x_fa (a := Pq ab) (v := Oq ab 2) rfl (fa_blk (o := 0) Fd29_2 Sz22)) ?_
 refine g_val (!((!r2) || ((ac.length : Int) != (aa.length : Int)))) (gy_f rfl) (fun hg => x_ld (p := Oq ab 2) (v := ak) (gd_of (c := !((!r2) || ((ac.length : Int) != (aa.length : Int)))) hg (Oq ab 2)) (ldb_sc Sc22 (H.bl 1) rfl)) ?_
 have cR := (aG).len_le
 refine g_val (!((!r2) || ((ac.length : Int) != (aa.length : Int)))) (gy_f rfl) (fun hg => x_lenS T22.und (gd_of (c := !((!r2) || ((ac.length : Int) != (aa.length : Int)))) hg (ak)) aG) ?_
 obtain ⟨r3, bT, hM⟩ := M.e_bind hM
 refine t_gcall (!((!r2) || ((ac.length : Int) != (aa.length : Int)))) (gy_f rfl) cf47 (B r3) (fun _ => [I (aA.length : Int), I 1, I 8]) (fun hg => lst3 (gd_of (c := !((!r2) || ((ac.length : Int) != (aa.length : Int)))) hg (I (aA.length : Int))) rfl rfl) H (fun hg => (zaj (aA.length : Int) 1 8 (M.e_opt bT hg) _ (H.give (A := []) rfl)).mono fun v_ w_ ⟨y_, ap, aI, H_⟩ => by subst ap; exact ⟨aI, H.via H_⟩) ?_
 intro cS H
 refine g_val (!((!r2) || ((ac.length : Int) != (aa.length : Int)))) (gy_f rfl) (fun hg => x_not (b := r3) (gd_of (c := !((!r2) || ((ac.length : Int) != (aa.length : Int)))) hg (B r3))) ?_
 refine s_val (x_por (b := ((!r2) || ((ac.length : Int) != (aa.length : Int)))) (r := !r3) rfl rfl (fun hb => gd_of (c := !((!r2) || ((ac.length : Int) != (aa.length : Int)))) (by first | exact hb | (rw [hb]; rfl) | simp_all) (B (!r3)))) ?_
 refine zM (B (((!r2) || ((ac.length : Int) != (aa.length : Int))) || (!r3))) rfl ?_
 refine g_val (!(((!r2) || ((ac.length : Int) != (aa.length : Int))) || (!r3))) (gy_f rfl) (fun hg => x_fa (a := Pq ab) (v := Oq ab 3) rfl (fa_blk (o := 0) Fd29_3 Sz24)) ?_
 refine g_val (!(((!r2) || ((ac.length : Int) != (aa.length : Int))) || (!r3))) (gy_f rfl) (fun hg => x_ld (p := Oq ab 3) (v := ag) (gd_of (c := !(((!r2) || ((ac.length : Int) != (aa.length : Int))) || (!r3))) hg (Oq ab 3)) (ldb_sc Sc24 (H.bl 1) rfl)) ?_
 have cT := (aH).len_le
 refine g_val (!(((!r2) || ((ac.length : Int) != (aa.length : Int))) || (!r3))) (gy_f rfl) (fun hg => x_lenS T24.und (gd_of (c := !(((!r2) || ((ac.length : Int) != (aa.length : Int))) || (!r3))) hg (ag)) aH) ?_
 refine g_val (!(((!r2) || ((ac.length : Int) != (aa.length : Int))) || (!r3))) (gy_f rfl) (fun hg => x_cmp (kd := .i64) (a := (am.length : Int)) (b := 8) (r := decide (8 < (am.length : Int))) (gd_of (c := !(((!r2) || ((ac.length : Int) != (aa.length : Int))) || (!r3))) hg (I (am.length : Int))) rfl rfl) ?_
 refine s_val (x_por (b := (((!r2) || ((ac.length : Int) != (aa.length : Int))) || (!r3))) (r := decide (8 < (am.length : Int))) rfl rfl (fun hb => gd_of (c := !(((!r2) || ((ac.length : Int) != (aa.length : Int))) || (!r3))) (by first | exact hb | (rw [hb]; rfl) | simp_all) (B (decide (8 < (am.length : Int)))))) ?_
 refine zM (B ((((!r2) || ((ac.length : Int) != (aa.length : Int))) || (!r3)) || (decide (8 < (am.length : Int))))) rfl ?_
 refine g_val (!((((!r2) || ((ac.length : Int) != (aa.length : Int))) || (!r3)) || (decide (8 < (am.length : Int))))) (gy_f rfl) (fun hg => x_fa (a := Pq ab) (v := Oq ab 6) rfl (fa_blk (o := 0) Fd29_5 Sz27)) ?_
 refine g_val (!((((!r2) || ((ac.length : Int) != (aa.length : Int))) || (!r3)) || (decide (8 < (am.length : Int))))) (gy_f rfl) (fun hg => x_ld (p := Oq ab 6) (v := ah) (gd_of (c := !((((!r2) || ((ac.length : Int) != (aa.length : Int))) || (!r3)) || (decide (8 < (am.length : Int))))) hg (Oq ab 6)) (ldb_sc Sc27 (H.bl 1) rfl)) ?_
 have cU := (aC).len_le
 refine g_val (!((((!r2) || ((ac.length : Int) != (aa.length : Int))) || (!r3)) || (decide (8 < (am.length : Int))))) (gy_f rfl) (fun hg => x_lenS T27.und (gd_of (c := !((((!r2) || ((ac.length : Int) != (aa.length : Int))) || (!r3)) || (decide (8 < (am.length : Int))))) hg (ah)) aC) ?_
 refine g_val (!((((!r2) || ((ac.length : Int) != (aa.length : Int))) || (!r3)) || (decide (8 < (am.length : Int))))) (gy_f rfl) (fun hg => x_cmp (kd := .i64) (a := (ae.length : Int)) (b := 20) (r := decide (20 < (ae.length : Int))) (gd_of (c := !((((!r2) || ((ac.length : Int) != (aa.length : Int))) || (!r3)) || (decide (8 < (am.length : Int))))) hg (I (ae.length : Int))) rfl rfl) ?_
 refine s_val (x_por (b := ((((!r2) || ((ac.length : Int) != (aa.length : Int))) || (!r3)) || (decide (8 < (am.length : Int))))) (r := decide (20 < (ae.length : Int))) rfl rfl (fun hb => gd_of (c := !((((!r2) || ((ac.length : Int) != (aa.length : Int))) || (!r3)) || (decide (8 < (am.length : Int))))) (by first | exact hb | (rw [hb]; rfl) | simp_all) (B (decide (20 < (ae.length : Int)))))) ?_
 refine s_nil ?_
 refine WD.cond (((((!r2) || ((ac.length : Int) != (aa.length : Int))) || (!r3)) || (decide (8 < (am.length : Int)))) || (decide (20 < (ae.length : Int)))) rfl (fun bj => ?_) (fun bj => ?_)
 ·replace hM := M.e_t hM bj
  refine WD.seq ?_
  refine WD.of ?_
  refine W.region rfl ?_
  refine zA (I 3) rfl ?_
  refine s_nil ?_
  replace H := H.pk [2]
  refine WD.of ?_
  refine W.ret ?_
  refine bodyD_r (H.pk [0]) ?_
  intro cV H
  replace H := H.nf
  have ap := M.e_pure hM
  exact ⟨_, resE_tmp rfl, ⟨3, ap, rfl, H⟩⟩
 replace hM := M.e_f hM bj
 refine WD.of ?_
 refine W.skip ?_
 refine WD.seq ?_
 refine WD.seq ?_
 refine WD.of ?_
 refine W.region rfl ?_
 refine s_val (x_fa (a := Pq ab) (v := Pq ab) rfl (fa_blk (o := 0) Fd29_0 Sz22)) ?_
 refine s_val (x_ld (p := Pq ab) (v := ai) rfl (ldb_sc Sc22 (H.bl 1) rfl)) ?_
 have cW := (aB).len_le
 refine s_val (x_lenS T22.und rfl aB) ?_
 refine zM (I 0) rfl ?_
 refine s_nil ?_
 refine WD.block ?_
 obtain ⟨bU, bm, bn⟩ := M.e_bind hM
 obtain ⟨bV, bm⟩ := M.e_iter bm
 refine WD.loop (fun m bI σ W => ∃ (s : Nat) (ρ : Env), σ = upds ρ [(1, Pq ab), (3, Pq aw), (42, ai), (43, I (aa.length : Int)), (44, I (s : Int))] /\ M.iterN (zax aa ac) m s = some bU /\ St w W [cBlk aw [I (aa.length : Int)] 3, cBlk ab [ai, aj, ak, ag, I aq, I au, ah] 29, cMk bI] R) ?_ ?_
 ·exact ⟨_, 0, _, upds_of _ _ ⟨rfl, rfl, rfl, rfl, rfl, trivial⟩, bm, H⟩
 rintro cX bI σ cY ⟨s, ρ, rfl, bJ, H⟩
 obtain ⟨bW, bX, cZ, hM, bc⟩ := M.e_iterN bJ
 simp only [zax] at hM
 clear bJ
 refine WD.seq ?_
 refine WD.of ?_
 refine W.region rfl ?_
 refine zC (s : Int) (aa.length : Int) (decide ((s : Int) < (aa.length : Int))) rfl rfl rfl ?_
 refine s_nil ?_
 refine WD.seq ?_
 refine WD.cond (decide ((s : Int) < (aa.length : Int))) rfl (fun aS => ?_) (fun aS => ?_)
 ·replace hM := M.e_t hM aS
  simp only [qy1, qy2, qy3, qy4, qy5, qy6, ne_eq, qy7] at aS
  refine WD.of ?_
  refine W.skip ?_
  refine WD.seq ?_
  refine WD.block ?_
  refine WD.seq ?_
  refine WD.of ?_
  refine W.region rfl ?_
  refine zM (I (s : Int)) rfl ?_
  obtain ⟨bY, hM⟩ := M.e_grd hM
  simp only [Bool.and_eq_true, decide_eq_true_eq] at bY
  refine s_val (x_ix (a := ai) (b := I (s : Int)) (v := vat ai 1 (Int.toNat (s : Int))) rfl rfl (Sl.ix (α := Int) T22.und T22.size aB (by omega) (by omega))) ?_
  refine s_val (x_ld (p := vat ai 1 (Int.toNat (s : Int))) (v := I (aa.getD s 0)) rfl (ld_sc Sc3 (At.mono (Int_at aB (i := (s : Int)) (by omega) (by omega)) (aQ.at H)))) ?_
  refine zA (I (s : Int)) rfl ?_
  refine zA (I (aa.getD s 0)) rfl ?_
  refine s_nil ?_
  refine WD.block ?_
  refine WD.seq ?_
  refine WD.of ?_
  refine W.region rfl ?_
  refine zM (I (aa.getD s 0)) rfl ?_
  refine zC (aa.getD s 0) (-1) ((aa.getD s 0) != (-1)) rfl rfl rfl ?_
  refine zM (B ((aa.getD s 0) != (-1))) rfl ?_
  refine g_val ((aa.getD s 0) != (-1)) (gy_t rfl) (fun hg => x_mv (v := I (aa.getD s 0)) rfl) ?_
  refine g_val ((aa.getD s 0) != (-1)) (gy_t rfl) (fun hg => x_mv (v := I (s : Int)) rfl) ?_
  refine g_val ((aa.getD s 0) != (-1)) (gy_t rfl) (fun hg => x_ari (a := (s : Int)) (b := 1) (r := (s : Int) + 1) (gd_of (c := (aa.getD s 0) != (-1)) hg (I (s : Int))) rfl rfl (by first | omega | (have bo := hg; simp at bo; omega))) ?_
  refine g_val ((aa.getD s 0) != (-1)) (gy_t rfl) (fun hg => x_ld (p := Pq aw) (v := I (aa.length : Int)) rfl (ldb_sc Sc3 (H.bl 0) rfl)) ?_
  refine g_val ((aa.getD s 0) != (-1)) (gy_t rfl) (fun hg => x_ari (a := (aa.length : Int)) (b := 1) (r := (aa.length : Int) - 1) (gd_of (c := (aa.getD s 0) != (-1)) hg (I (aa.length : Int))) rfl rfl (by first | omega | (have bo := hg; simp at bo; omega))) ?_
  obtain ⟨r4, bZ, hM⟩ := M.e_bind hM
  refine t_gcall ((aa.getD s 0) != (-1)) (gy_t rfl) cf47 (B r4) (fun _ => [I (aa.getD s 0), I ((s : Int) + 1), I ((aa.length : Int) - 1)]) (fun hg => lst3 (gd_of (c := (aa.getD s 0) != (-1)) hg (I (aa.getD s 0))) (gd_of (c := (aa.getD s 0) != (-1)) hg (I ((s : Int) + 1))) (gd_of (c := (aa.getD s 0) != (-1)) hg (I ((aa.length : Int) - 1)))) H (fun hg => (zaj (aa.getD s 0) ((s : Int) + 1) ((aa.length : Int) - 1) (M.e_opt bZ hg) _ (H.give (A := []) rfl)).mono fun v_ w_ ⟨y_, ap, aI, H_⟩ => by subst ap; exact ⟨aI, H.via H_⟩) ?_
  intro c6 H
  refine g_val ((aa.getD s 0) != (-1)) (gy_t rfl) (fun hg => x_not (b := r4) (gd_of (c := (aa.getD s 0) != (-1)) hg (B r4))) ?_
  refine s_val (x_pand (b := (aa.getD s 0) != (-1)) (r := !r4) rfl (fun hb => gd_of (c := (aa.getD s 0) != (-1)) (by first | exact hb | (rw [hb]; rfl) | simp_all) (B (!r4))) rfl) ?_
  refine zA (B (((aa.getD s 0) != (-1)) && (!r4))) rfl ?_
  refine s_nil ?_
  refine WD.cond (((aa.getD s 0) != (-1)) && (!r4)) rfl (fun bp => ?_) (fun bp => ?_)
  ·replace hM := M.e_t hM bp
   refine WD.seq ?_
   refine WD.of ?_
   refine W.region rfl ?_
   refine zA (I 2) rfl ?_
   refine s_nil ?_
   refine WD.of ?_
   refine W.ret ?_
   have b3 := M.e_inr hM bc
   subst b3
   replace hM := bn
   try dsimp only at hM
   refine bodyD_r (H.pk [2, 0, 1]) ?_
   intro c7 H
   replace H := H.nf
   have ap := M.e_pure hM
   exact ⟨_, resE_tmp rfl, ⟨2, ap, rfl, (H.pk [])⟩⟩
  replace hM := M.e_f hM bp
  refine WD.seq ?_
  refine WD.of ?_
  refine W.region rfl ?_
  refine s_val (x_fa (a := Pq ab) (v := Oq ab 1) rfl (fa_blk (o := 0) Fd29_1 Sz23)) ?_
  refine s_val (x_ld (p := Oq ab 1) (v := aj) rfl (ldb_sc Sc23 (H.bl 1) rfl)) ?_
  refine zM (I (s : Int)) rfl ?_
  obtain ⟨b4, hM⟩ := M.e_grd hM
  simp only [Bool.and_eq_true, decide_eq_true_eq] at b4
  refine s_val (x_ix (a := aj) (b := I (s : Int)) (v := vat aj 2 (Int.toNat (s : Int))) rfl rfl (Sl.ix (α := Span) T23.und T23.size aF (by omega) (by omega))) ?_
  refine s_val (x_ld (p := vat aj 2 (Int.toNat (s : Int))) (v := .agg #[I ((ac.getD s default).lo), I ((ac.getD s default).hi)]) rfl (ld_ag Ag26 Sz26 (At.mono (Span_atA aF (i := (s : Int)) (by omega) (by omega)) (aR.at H)))) ?_
  obtain ⟨c8, b5, hM⟩ := M.e_bind hM
  refine s_call cf61 [.agg #[I ((ac.getD s default).lo), I ((ac.getD s default).hi)]] rfl (zcS (ac.getD s default) b5 _ (H.gt 3)) ?_
  rintro vq c9 ⟨r5, b6, hvq, ao⟩
  subst b6
  subst vq
  try dsimp only at hM
  replace H := H.bk ao
  clear ao
  refine s_val (x_not (b := r5) rfl) ?_
  refine zA (B (!r5)) rfl ?_
  refine s_nil ?_
  refine WD.cond (!r5) rfl (fun bq => ?_) (fun bq => ?_)
  ·replace hM := M.e_t hM bq
   refine WD.seq ?_
   refine WD.of ?_
   refine W.region rfl ?_
   refine zA (I 130) rfl ?_
   refine s_nil ?_
   refine WD.of ?_
   refine W.ret ?_
   have b7 := M.e_inr hM bc
   subst b7
   replace hM := bn
   try dsimp only at hM
   refine bodyD_r (H.pk [2, 0, 1]) ?_
   intro da H
   replace H := H.nf
   have ap := M.e_pure hM
   exact ⟨_, resE_tmp rfl, ⟨130, ap, rfl, (H.pk [])⟩⟩
  replace hM := M.e_f hM bq
  refine WD.of ?_
  refine W.skip ?_
  refine WD.of ?_
  refine W.region rfl ?_
  refine zR (s : Int) 1 ((s : Int) + 1) rfl rfl rfl (by omega) ?_
  refine zM (I ((s : Int) + 1)) rfl ?_
  refine s_nil ?_
  exact ⟨bW, bX, s + 1, _, upds_of _ _ ⟨rfl, rfl, rfl, rfl, rfl, trivial⟩, M.e_inl hM bc, H⟩
 replace hM := M.e_f hM aS
 simp only [qy1, qy2, qy3, qy4, qy5, qy6, ne_eq, qy7] at aS
 refine WD.of ?_
 refine W.exit ?_
 have b8 := M.e_inr hM bc
 subst b8
 replace hM := bn
 try dsimp only at hM
 refine WD.seq ?_
 refine WD.block ?_
 refine WD.seq ?_
 refine WD.of ?_
 refine W.region rfl ?_
 refine s_val (x_fa (a := Pq ab) (v := Oq ab 2) rfl (fa_blk (o := 0) Fd29_2 Sz22)) ?_
 refine s_val (x_ld (p := Oq ab 2) (v := ak) rfl (ldb_sc Sc22 (H.bl 1) rfl)) ?_
 refine s_val (x_ld (p := Pq aw) (v := I (aa.length : Int)) rfl (ldb_sc Sc3 (H.bl 0) rfl)) ?_
 obtain ⟨db, b9, hM⟩ := M.e_bind hM
 refine s_call cf62 [ak, I (aa.length : Int)] rfl (zcv aA (aa.length : Int) (aK.app _) aG b9 _ (H.gt 3)) ?_
 rintro vq dc ⟨r6, ca, hvq, ao⟩
 subst ca
 subst vq
 try dsimp only at hM
 replace H := H.bk ao
 clear ao
 refine s_val (x_not (b := r6) rfl) ?_
 refine zA (B (!r6)) rfl ?_
 refine s_nil ?_
 refine WD.cond (!r6) rfl (fun br => ?_) (fun br => ?_)
 ·replace hM := M.e_t hM br
  refine WD.seq ?_
  refine WD.of ?_
  refine W.region rfl ?_
  refine zA (I 9) rfl ?_
  refine s_nil ?_
  replace H := H.pk [2]
  refine WD.of ?_
  refine W.ret ?_
  refine bodyD_r (H.pk [0]) ?_
  intro dd H
  replace H := H.nf
  have ap := M.e_pure hM
  exact ⟨_, resE_tmp rfl, ⟨9, ap, rfl, H⟩⟩
 replace hM := M.e_f hM br
 refine WD.seq ?_
 refine WD.of ?_
 refine W.region rfl ?_
 refine s_val (x_fa (a := Pq ab) (v := Oq ab 3) rfl (fa_blk (o := 0) Fd29_3 Sz24)) ?_
 refine s_val (x_ld (p := Oq ab 3) (v := ag) rfl (ldb_sc Sc24 (H.bl 1) rfl)) ?_
 obtain ⟨de, cb, hM⟩ := M.e_bind hM
 refine s_call cf63 [ag, .func (.func 64) #[] #[]] rfl (zc6 am (fun az => zaJ az) (aL.app _) aH ⟨64, [], rfl, cf64, fun aE bK bL aT az bM aU bN aV aW => by obtain rfl := Town_arg aV; exact (zdO az aW aE (St.refl aU)).mono fun aT aE ⟨bO, aX, aY, aZ⟩ => by subst aX; exact ⟨aY, aZ⟩⟩ cb _ (H.gt 3)) ?_
 rintro vq dg ⟨r7, cc, hvq, ao⟩
 subst cc
 subst vq
 try dsimp only at hM
 replace H := H.bk ao
 clear ao
 refine s_val (x_not (b := r7) rfl) ?_
 refine zM (B (!r7)) rfl ?_
 refine g_val (!(!r7)) (gy_f rfl) (fun hg => x_fa (a := Pq ab) (v := Oq ab 3) rfl (fa_blk (o := 0) Fd29_3 Sz24)) ?_
 refine g_val (!(!r7)) (gy_f rfl) (fun hg => x_ld (p := Oq ab 3) (v := ag) (gd_of (c := !(!r7)) hg (Oq ab 3)) (ldb_sc Sc24 (H.bl 1) rfl)) ?_
 refine g_val (!(!r7)) (gy_f rfl) (fun hg => x_mf (fs := []) (cs := [Pq aw]) rfl rfl) ?_
 obtain ⟨r8, ce, hM⟩ := M.e_bind hM
 refine t_gcall (!(!r7)) (gy_f rfl) cf63 (B r8) (fun _ => [ag, .func (.func 65) #[] #[Pq aw]]) (fun hg => lst2 (gd_of (c := !(!r7)) hg (ag)) (gd_of (c := !(!r7)) hg (.func (.func 65) #[] #[Pq aw]))) H (fun hg => (zc6 am (fun az => zaI az (aa.length : Int)) (aL.app _) aH ⟨65, [Pq aw], rfl, cf65, fun aE bK bL aT az bM aU bN aV aW => by obtain rfl := Town_arg aV; exact (zdM az (aa.length : Int) (Has.app (Has.here (k := 0) rfl) _) aW aE (St.refl aU)).mono fun aT aE ⟨bO, aX, aY, aZ⟩ => by subst aX; exact ⟨aY, aZ⟩⟩ (M.e_opt ce hg) _ (H.give (A := []) rfl)).mono fun v_ w_ ⟨y_, ap, aI, H_⟩ => by subst ap; exact ⟨aI, H.via H_⟩) ?_
 intro di H
 refine g_val (!(!r7)) (gy_f rfl) (fun hg => x_not (b := r8) (gd_of (c := !(!r7)) hg (B r8))) ?_
 refine s_val (x_por (b := !r7) (r := !r8) rfl rfl (fun hb => gd_of (c := !(!r7)) (by first | exact hb | (rw [hb]; rfl) | simp_all) (B (!r8)))) ?_
 refine zM (B ((!r7) || (!r8))) rfl ?_
 refine g_val (!((!r7) || (!r8))) (gy_f rfl) (fun hg => x_fa (a := Pq ab) (v := Oq ab 4) rfl (fa_blk (o := 0) Fd29_4 Sz26)) ?_
 refine g_val (!((!r7) || (!r8))) (gy_f rfl) (fun hg => x_ld (p := Oq ab 4) (v := .agg #[I aq, I au]) (gd_of (c := !((!r7) || (!r8))) hg (Oq ab 4)) (ldb_ag (ds := [I aq, I au]) Ag26 Sz26 (H.bl 1) rfl rfl)) ?_
 obtain ⟨r9, cf, hM⟩ := M.e_bind hM
 refine t_gcall (!((!r7) || (!r8))) (gy_f rfl) cf61 (B r9) (fun _ => [.agg #[I aq, I au]]) (fun hg => lst1 (gd_of (c := !((!r7) || (!r8))) hg (.agg #[I aq, I au]))) H (fun hg => (zcS (⟨(aq : Int), (au : Int)⟩ : Span) (M.e_opt cf hg) _ (H.give (A := []) rfl)).mono fun v_ w_ ⟨y_, ap, aI, H_⟩ => by subst ap; exact ⟨aI, H.via H_⟩) ?_
 intro dj H
 refine g_val (!((!r7) || (!r8))) (gy_f rfl) (fun hg => x_not (b := r9) (gd_of (c := !((!r7) || (!r8))) hg (B r9))) ?_
 refine s_val (x_por (b := ((!r7) || (!r8))) (r := !r9) rfl rfl (fun hb => gd_of (c := !((!r7) || (!r8))) (by first | exact hb | (rw [hb]; rfl) | simp_all) (B (!r9)))) ?_
 refine zA (B (((!r7) || (!r8)) || (!r9))) rfl ?_
 refine s_nil ?_
 refine WD.cond (((!r7) || (!r8)) || (!r9)) rfl (fun bt => ?_) (fun bt => ?_)
 ·replace hM := M.e_t hM bt
  refine WD.seq ?_
  refine WD.of ?_
  refine W.region rfl ?_
  refine zA (I 130) rfl ?_
  refine s_nil ?_
  replace H := H.pk [2]
  refine WD.of ?_
  refine W.ret ?_
  refine bodyD_r (H.pk [0]) ?_
  intro dk H
  replace H := H.nf
  have ap := M.e_pure hM
  exact ⟨_, resE_tmp rfl, ⟨130, ap, rfl, H⟩⟩
 replace hM := M.e_f hM bt
 refine WD.of ?_
 refine W.skip ?_
 refine WD.seq ?_
 refine WD.seq ?_
 refine WD.of ?_
 refine W.region rfl ?_
 refine s_val (x_fa (a := Pq ab) (v := Oq ab 6) rfl (fa_blk (o := 0) Fd29_5 Sz27)) ?_
 refine s_val (x_ld (p := Oq ab 6) (v := ah) rfl (ldb_sc Sc27 (H.bl 1) rfl)) ?_
 have dm := (aC).len_le
 refine s_val (x_lenS T27.und rfl aC) ?_
 refine zM (I 0) rfl ?_
 refine s_nil ?_
 refine WD.block ?_
 obtain ⟨cg, bu, bv⟩ := M.e_bind hM
 obtain ⟨bV, bu⟩ := M.e_iter bu
 refine WD.loop (fun m a6 σ W => ∃ (s4 : Nat) (ρ : Env), σ = upds ρ [(1, Pq ab), (95, ah), (96, I (ae.length : Int)), (97, I (s4 : Int))] /\ M.iterN (zaD aa ac aA am aq au ae) m s4 = some cg /\ St w W [cBlk aw [I (aa.length : Int)] 3, cBlk ab [ai, aj, ak, ag, I aq, I au, ah] 29, cMk a6] R) ?_ ?_
 ·exact ⟨_, 0, _, upds_of _ _ ⟨rfl, rfl, rfl, rfl, trivial⟩, bu, H⟩
 rintro dp a6 σ dq ⟨s4, ρ, rfl, bP, H⟩
 obtain ⟨ci, cj, dr, hM, bf⟩ := M.e_iterN bP
 simp only [zaD] at hM
 clear bP
 refine WD.seq ?_
 refine WD.of ?_
 refine W.region rfl ?_
 refine zC (s4 : Int) (ae.length : Int) (decide ((s4 : Int) < (ae.length : Int))) rfl rfl rfl ?_
 refine s_nil ?_
 refine WD.seq ?_
 refine WD.cond (decide ((s4 : Int) < (ae.length : Int))) rfl (fun a7 => ?_) (fun a7 => ?_)
 ·replace hM := M.e_t hM a7
  simp only [qy1, qy2, qy3, qy4, qy5, qy6, ne_eq, qy7] at a7
  refine WD.of ?_
  refine W.skip ?_
  refine WD.seq ?_
  refine WD.block ?_
  refine WD.seq ?_
  refine WD.of ?_
  refine W.region rfl ?_
  obtain ⟨ck, hM⟩ := M.e_grd hM
  simp only [Bool.and_eq_true, decide_eq_true_eq] at ck
  refine s_val (x_ix (a := ah) (b := I (s4 : Int)) (v := vat ah 2 (Int.toNat (s4 : Int))) rfl rfl (Sl.ix (α := Flood) T27.und T27.size aC (by omega) (by omega))) ?_
  obtain ⟨ay, cl, aJ⟩ := Flood_atA aC (i := (s4 : Int)) (by omega) (by omega)
  replace aJ : Sl _ ay (ae.getD s4 default).stages := aJ
  have dt := aJ.len_le
  refine s_val (x_ld (p := vat ah 2 (Int.toNat (s4 : Int))) (v := .agg #[I ((ae.getD s4 default).spring), ay]) rfl (ld_ag Ag85 Sz85 (At.mono cl (aM.at H)))) ?_
  refine t_alloc (cs := [I 0, .slice none 0 0]) H Al85 rfl ?_
  intro av du H
  refine t_sw 0 0 [I ((ae.getD s4 default).spring), ay] (.agg #[I ((ae.getD s4 default).spring), ay]) H rfl rfl Sz85 rfl rfl rfl (by simp only [List.all_cons, List.all_nil, Bool.true_and, Bool.and_true, Sl.oc aJ]; try rfl) ?_
  intro dv H
  refine s_nil ?_
  refine WD.seq ?_
  refine WD.of ?_
  refine W.region rfl ?_
  refine t_alloc (cs := [I 0]) H Al3 rfl ?_
  intro aD dw H
  refine t_sw 0 0 [I 0] (I 0) H rfl rfl Sz3 rfl rfl rfl rfl ?_
  intro dx H
  refine s_nil ?_
  refine WD.seq ?_
  refine WD.seq ?_
  refine WD.of ?_
  refine W.region rfl ?_
  refine s_val (x_ld (p := Pq ab) (v := .agg #[ai, aj, ak, ag, I aq, I au, ah]) rfl (ldb_ag (ds := [ai, aj, ak, ag, I aq, I au, ah]) Ag29 Sz29 (H.bl 3) rfl rfl)) ?_
  refine s_val (x_fa (a := Pq av) (v := Pq av) rfl (fa_blk (o := 0) Fd85_0 Sz3)) ?_
  refine s_val (x_ld (p := Pq av) (v := I ((ae.getD s4 default).spring)) rfl (ldb_sc Sc3 (H.bl 1) rfl)) ?_
  refine s_val (x_max (kd := .i64) (a := 0) (b := (ae.getD s4 default).spring) rfl rfl) ?_
  obtain ⟨dy, cm, hM⟩ := M.e_bind hM
  refine s_call cf66 [.agg #[ai, aj, ak, ag, I aq, I au, ah], I (max 0 ((ae.getD s4 default).spring))] rfl (zbG aa ac aA am aq au ae (max 0 ((ae.getD s4 default).spring)) (aQ.app _) aB (aR.app _) aF (aK.app _) aG (aL.app _) aH (aM.app _) aC cm _ (H.gt 5)) ?_
  rintro vq dz ⟨bg, aN, aO, a8, aP, cn, hvq, ao⟩
  subst cn
  subst vq
  try dsimp only at hM
  replace H := H.bk ao
  clear ao
  refine s_nil ?_
  refine WD.block ?_
  obtain ⟨dA, co, hM⟩ := M.e_bind hM
  refine WD.range (L := [cBlk aD [I 0] 3, cBlk aP [ai, aj, ak, ag, I aN, I aO, ah] 29, cBlk av [I ((ae.getD s4 default).spring), ay] 85, cBlk aw [I (aa.length : Int)] 3, cBlk ab [ai, aj, ak, ag, I aq, I au, ah] 29, cBlk a8 [I bg] 3]) [Pq a8, Pq aP] (H.pk [6, 2, 1, 3, 4, 5, 0]) rfl cf96 ?_
  intro bh bw bx cp bz H
  have hYC : YieldC Tryz.prog ([cMk (bw :: a6), cBlk aP [ai, aj, ak, ag, I aN, I aO, ah] 29, cBlk av [I ((ae.getD s4 default).spring), ay] 85, cBlk aw [I (aa.length : Int)] 3, cBlk ab [ai, aj, ak, ag, I aq, I au, ah] 29] ++ R) arII (yJ bh bx (fun s3 bi => bi = [cBlk aD [I s3] 3]) (fun (_ : Unit) _ => False) (fun _ => .ret)) (.func (.yield bh) #[] #[]) (M.yl zas) := by
   refine YieldC.mk bz (fun s3 bi => bi = [cBlk aD [I s3] 3]) (fun (_ : Unit) _ => False) (fun _ => .ret) zas (by rintro s3 _ h_; obtain ⟨rfl⟩ := h_; rfl) (fun _ _ h_ => h_.elim) rfl (arII_len rfl) ?_
   intro C_ dB x_ W_ cq
   obtain ⟨x, x2⟩ := x_
   obtain rfl := cq
   refine W.skip ?_
   refine ⟨rfl, rfl, ?_⟩
   intro w R ba bi s_ r cr hM H
   skip
   obtain ⟨s3, cu⟩ : ∃ y_, y_ = s_ := ⟨_, rfl⟩
   subst cu
   obtain ⟨rfl⟩ := cr
   replace aQ := aQ.sub ba
   replace aR := aR.sub ba
   replace aK := aK.sub ba
   replace aL := aL.sub ba
   replace aM := aM.sub ba
   replace hM : (zas s3 (x, x2)).Ends r := hM
   simp only [zas] at hM
   replace H := H.pk [0, 2, 3, 4, 5, 1]
   refine W.block ?_
   refine W.region rfl ?_
   refine s_val (x_ld (p := Pq aD) (v := I s3) rfl (ldb_sc Sc3 (H.bl 0) rfl)) ?_
   obtain ⟨cv, hM⟩ := M.e_grd hM
   simp only [Bool.and_eq_true, decide_eq_true_eq] at cv
   refine zR s3 1 (s3 + 1) rfl rfl rfl (by omega) ?_
   refine t_sw 0 0 [I (s3 + 1)] (I (s3 + 1)) H rfl rfl Sz3 rfl rfl rfl rfl ?_
   intro dC H
   refine s_nil ?_
   exact ⟨s3 + 1, [cBlk aD [I (s3 + 1)] 3], (M.e_pure hM).symm, rfl, H.pick [0, 5, 1, 2, 3, 4] (by decide) rfl⟩
  replace H : St w cp (cAll (cObj bh (.loop bx) :: [cBlk aD [I 0] 3]) :: [cBlk a8 [I bg] 3, cMk (bw :: a6), cBlk aP [ai, aj, ak, ag, I aN, I aO, ah] 29, cBlk av [I ((ae.getD s4 default).spring), ay] 85, cBlk aw [I (aa.length : Int)] 3, cBlk ab [ai, aj, ak, ag, I aq, I au, ah] 29]) R := St.bundleB (A := cObj bh (.loop bx) :: [cBlk aD [I 0] 3]) (T := [cBlk a8 [I bg] 3, cMk (bw :: a6), cBlk aP [ai, aj, ak, ag, I aN, I aO, ah] 29, cBlk av [I ((ae.getD s4 default).spring), ay] 85, cBlk aw [I (aa.length : Int)] 3, cBlk ab [ai, aj, ak, ag, I aq, I au, ah] 29]) rfl (H.pk [0, 2, 7, 1, 3, 4, 5, 6])
  refine (zbL (M.yl zas) (.inl 0) bg aa ac aA am aN aO ae hYC ⟨_, rfl, rfl⟩ (aQ.app _) aB (aR.app _) aF (aK.app _) aG (aL.app _) aH (aM.app _) aC (Has.here (k := 1) rfl) co _ (H.gt 5)).mono ?_
  rintro vq dD ⟨cw, q0, dE, cx, hvq, ao, bQ⟩
  subst cx
  replace H := H.back ao rfl
  clear ao hYC
  rcases cw with s3 | _
  ·try dsimp only at hM
   obtain ⟨_, rfl, rfl⟩ := bQ
   refine ⟨_, [cBlk aD [I s3] 3, cBlk aP [ai, aj, ak, ag, I aN, I aO, ah] 29, cBlk av [I ((ae.getD s4 default).spring), ay] 85, cBlk aw [I (aa.length : Int)] 3, cBlk ab [ai, aj, ak, ag, I aq, I au, ah] 29, cBlk a8 [I q0] 3], H.unbundle.pick [0, 3, 1, 4, 5, 6, 7, 2] (by decide) rfl, bz.nb, ?_⟩
   intro dF H
   rw [bz.pd]
   replace H := H.nf
   try simp only []
   replace H := H.pk [0, 1, 3, 4, 5]
   refine WD.block ?_
   refine WD.seq ?_
   refine WD.of ?_
   refine W.region rfl ?_
   refine s_val (x_fa (a := Pq ab) (v := Oq ab 2) rfl (fa_blk (o := 0) Fd29_2 Sz22)) ?_
   refine s_val (x_ld (p := Oq ab 2) (v := ak) rfl (ldb_sc Sc22 (H.bl 4) rfl)) ?_
   refine s_val (x_fa (a := Pq av) (v := Pq av) rfl (fa_blk (o := 0) Fd85_0 Sz3)) ?_
   refine s_val (x_ld (p := Pq av) (v := I ((ae.getD s4 default).spring)) rfl (ldb_sc Sc3 (H.bl 2) rfl)) ?_
   obtain ⟨dG, cy, hM⟩ := M.e_bind hM
   refine s_call cf67 [ak, I ((ae.getD s4 default).spring)] rfl (zdP aA ((ae.getD s4 default).spring) (aK.app _) aG cy _ (H.gt 5)) ?_
   rintro vq dH ⟨ax, cz, hvq, ao⟩
   subst cz
   subst vq
   try dsimp only at hM
   replace H := H.bk ao
   clear ao
   refine s_val (x_not (b := ax) rfl) ?_
   refine zM (B (!ax)) rfl ?_
   refine g_val (!(!ax)) (gy_f rfl) (fun hg => x_fa (a := Pq av) (v := Oq av 1) rfl (fa_blk (o := 0) Fd85_1 Sz22)) ?_
   refine g_val (!(!ax)) (gy_f rfl) (fun hg => x_ld (p := Oq av 1) (v := ay) (gd_of (c := !(!ax)) hg (Oq av 1)) (ldb_sc Sc22 (H.bl 2) rfl)) ?_
   have dI := (aJ).len_le
   refine g_val (!(!ax)) (gy_f rfl) (fun hg => x_lenS T22.und (gd_of (c := !(!ax)) hg (ay)) aJ) ?_
   refine g_val (!(!ax)) (gy_f rfl) (fun hg => x_ld (p := Pq aD) (v := I s3) rfl (ldb_sc Sc3 (H.bl 1) rfl)) ?_
   refine g_val (!(!ax)) (gy_f rfl) (fun hg => x_cmp (kd := .i64) (a := (((ae.getD s4 default).stages).length : Int)) (b := s3) (r := (((ae.getD s4 default).stages).length : Int) != s3) (gd_of (c := !(!ax)) hg (I (((ae.getD s4 default).stages).length : Int))) (gd_of (c := !(!ax)) hg (I s3)) rfl) ?_
   refine s_val (x_por (b := !ax) (r := (((ae.getD s4 default).stages).length : Int) != s3) rfl rfl (fun hb => gd_of (c := !(!ax)) (by first | exact hb | (rw [hb]; rfl) | simp_all) (B ((((ae.getD s4 default).stages).length : Int) != s3)))) ?_
   refine zA (B ((!ax) || ((((ae.getD s4 default).stages).length : Int) != s3))) rfl ?_
   refine s_nil ?_
   refine WD.cond ((!ax) || ((((ae.getD s4 default).stages).length : Int) != s3)) rfl (fun bA => ?_) (fun bA => ?_)
   ·replace hM := M.e_t hM bA
    refine WD.seq ?_
    refine WD.of ?_
    refine W.region rfl ?_
    refine zA (I 2) rfl ?_
    refine s_nil ?_
    replace H := H.pk [0, 3, 4]
    refine WD.of ?_
    refine W.ret ?_
    have cA := M.e_inr hM bf
    subst cA
    replace hM := bv
    try dsimp only at hM
    refine bodyD_r (H.pk [0, 1, 2]) ?_
    intro dJ H
    replace H := H.nf
    have ap := M.e_pure hM
    exact ⟨_, resE_tmp rfl, ⟨2, ap, rfl, (H.pk [])⟩⟩
   replace hM := M.e_f hM bA
   refine WD.seq ?_
   refine WD.of ?_
   refine W.region rfl ?_
   refine s_val (x_fa (a := Pq av) (v := Oq av 1) rfl (fa_blk (o := 0) Fd85_1 Sz22)) ?_
   refine s_val (x_ld (p := Oq av 1) (v := ay) rfl (ldb_sc Sc22 (H.bl 2) rfl)) ?_
   obtain ⟨dK, cB, hM⟩ := M.e_bind hM
   refine s_call cf53 [ay, .func (.func 68) #[] #[]] rfl (zc0 ((ae.getD s4 default).stages) (fun az => zaz az) (aM.app _) aJ ⟨68, [], rfl, cf68, fun aE bK bL aT az bM aU bN aV aW => by obtain rfl := Arg.int aV; exact (zcP az aW aE (St.refl aU)).mono fun aT aE ⟨bO, aX, aY, aZ⟩ => by subst aX; exact ⟨aY, aZ⟩⟩ cB _ (H.gt 5)) ?_
   rintro vq dL ⟨bB, cC, hvq, ao⟩
   subst cC
   subst vq
   try dsimp only at hM
   replace H := H.bk ao
   clear ao
   refine s_val (x_not (b := bB) rfl) ?_
   refine zA (B (!bB)) rfl ?_
   refine s_nil ?_
   refine WD.cond (!bB) rfl (fun bC => ?_) (fun bC => ?_)
   ·replace hM := M.e_t hM bC
    refine WD.seq ?_
    refine WD.of ?_
    refine W.region rfl ?_
    refine zA (I 130) rfl ?_
    refine s_nil ?_
    replace H := H.pk [0, 3, 4]
    refine WD.of ?_
    refine W.ret ?_
    have cD := M.e_inr hM bf
    subst cD
    replace hM := bv
    try dsimp only at hM
    refine bodyD_r (H.pk [0, 1, 2]) ?_
    intro dM H
    replace H := H.nf
    have ap := M.e_pure hM
    exact ⟨_, resE_tmp rfl, ⟨130, ap, rfl, (H.pk [])⟩⟩
   replace hM := M.e_f hM bC
   refine WD.of ?_
   refine W.skip ?_
   refine WD.of ?_
   refine W.region rfl ?_
   refine zR (s4 : Int) 1 ((s4 : Int) + 1) rfl rfl rfl (by omega) ?_
   refine zM (I ((s4 : Int) + 1)) rfl ?_
   refine s_nil ?_
   exact ⟨ci, cj, s4 + 1, _, upds_of _ _ ⟨rfl, rfl, rfl, rfl, trivial⟩, M.e_inl hM bf, (H.pk [3, 4, 0])⟩
  obtain ⟨_, _, h_⟩ := bQ; exact h_.elim
 replace hM := M.e_f hM a7
 simp only [qy1, qy2, qy3, qy4, qy5, qy6, ne_eq, qy7] at a7
 refine WD.of ?_
 refine W.exit ?_
 have cE := M.e_inr hM bf
 subst cE
 replace hM := bv
 try dsimp only at hM
 replace H := H.pk [2]
 refine WD.seq ?_
 refine WD.of ?_
 refine W.region rfl ?_
 refine zA (I 0) rfl ?_
 refine s_nil ?_
 refine WD.of ?_
 refine W.ret ?_
 refine bodyD_r (H.pk [0]) ?_
 intro dN H
 replace H := H.nf
 have ap := M.e_pure hM
 exact ⟨_, resE_tmp rfl, ⟨0, ap, rfl, H⟩⟩

def zau (ac : List Int) (ae : List Span) (ag : List Int) (ah : List Town) (aa : Int) (ab : Int) (ai : List Flood) : M (Int ⊕ (Int × Int × Int)) :=
  M.bind (zaE ac ae ag ah aa ab ai) fun r2 =>
  bif r2 != 0 then (
  M.pure (.inl r2))
  else (
  M.pure (.inr (aa, ab, 0)))
theorem zbQ {R : List Chunk} {aw : Cells} {ac : Value} {ax : Cells} {ae : Value} {ay : Cells} {ag : Value} {az : Cells} {ah : Value} {aA : Cells} {ai : Value} (ak : List Int) (am : List Span) (ao : List Int) (ap : List Town) (aa : Int) (ab : Int) (aq : List Flood) (aG : Reads R aw) (aH : Sl aw ac ak) (aI : Reads R ax) (aJ : Sl ax ae am) (aK : Reads R ay) (aL : Sl ay ag ao) (aM : Reads R az) (aN : Sl az ah ap) (aO : Reads R aA) (aP : Sl aA ai aq) {r : (Int ⊕ (Int × Int × Int))} (hM : (zau ak am ao ap aa ab aq).Ends r) (w : World) (H : St w w [] R) : Ret Tryz.prog 72 #[.agg #[ac, ae, ag, ah, I aa, I ab, ai]] w fun v w' => (∃ (y0 : Int), (.inl y0) = r /\ v = .tuple #[.pointer none, I y0] /\ St w w' [] R) ∨ (∃ (y0 : Int) (y1 : Int) (y2 : Int) (aB : Nat) (aC : Nat) (aQ : Base), (.inr (y0, y1, y2)) = r /\ v = .tuple #[Pq aB, I y2] /\ St w w' [cBlk aB [ac, ae, ag, ah, I y0, I y1, ai, .map (some aC)] 111, cMem encDm aC aQ (zaa ak am ao ap y0 y1 aq)] R) := by
 refine ret_of_W Tryz.func72 rfl rfl rfl ?_
 refine W.seq ?_
 refine W.region rfl ?_
 refine t_box (v := .agg #[ac, ae, ag, ah, I aa, I ab, ai]) (cs := [ac, ae, ag, ah, I aa, I ab, ai]) H rfl rfl ?_
 intro aD aU H
 refine zA (.pointer none) rfl ?_
 refine zA (I 0) rfl ?_
 refine s_nil ?_
 refine W.seq ?_
 refine W.seq ?_
 refine W.region rfl ?_
 refine s_val (x_ld (p := Pq aD) (v := .agg #[ac, ae, ag, ah, I aa, I ab, ai]) rfl (ldb_ag (ds := [ac, ae, ag, ah, I aa, I ab, ai]) Ag29 Sz29 (H.bl 0) rfl rfl)) ?_
 obtain ⟨aV, aR, hM⟩ := M.e_bind hM
 refine s_call cf19 [.agg #[ac, ae, ag, ah, I aa, I ab, ai]] rfl (zdv ak am ao ap aa ab aq (aG.app _) aH (aI.app _) aJ (aK.app _) aL (aM.app _) aN (aO.app _) aP aR _ (H.gt 1)) ?_
 rintro vq aW ⟨r2, aS, hvq, aE⟩
 subst aS
 subst vq
 try dsimp only at hM
 replace H := H.bk aE
 clear aE
 refine zA (I r2) rfl ?_
 refine s_nil ?_
 refine W.seq ?_
 refine W.region rfl ?_
 refine zM (I r2) rfl ?_
 refine zC r2 0 (r2 != 0) rfl rfl rfl ?_
 refine s_nil ?_
 refine W.cond (r2 != 0) rfl (fun au => ?_) (fun au => ?_)
 ·replace hM := M.e_t hM au
  simp only [qy1, qy2, qy3, qy4, qy5, qy6, ne_eq, qy7] at au
  refine W.seq ?_
  refine W.region rfl ?_
  refine zM (I r2) rfl ?_
  refine zA (.pointer none) rfl ?_
  refine zA (I r2) rfl ?_
  refine s_nil ?_
  refine W.ret ?_
  have av := M.e_pure hM
  exact ⟨_, resE_tmp2 rfl, .inl (⟨r2, av, rfl, (H.pk [])⟩)⟩
 replace hM := M.e_f hM au
 simp only [qy1, qy2, qy3, qy4, qy5, qy6, ne_eq, qy7] at au
 refine W.skip ?_
 refine W.seq ?_
 refine W.region rfl ?_
 refine s_val (x_ld (p := Pq aD) (v := .agg #[ac, ae, ag, ah, I aa, I ab, ai]) rfl (ldb_ag (ds := [ac, ae, ag, ah, I aa, I ab, ai]) Ag29 Sz29 (H.bl 0) rfl rfl)) ?_
 refine t_mkmem encDm (zaa ak am ao ap aa ab aq) H ?_
 intro aj aT aX H
 refine s_val (x_bld (ps := [(0, .agg #[ac, ae, ag, ah, I aa, I ab, ai]), (1, .map (some aj))]) (zs := [.slice none 0 0, .slice none 0 0, .slice none 0 0, .slice none 0 0, I 0, I 0, .slice none 0 0, .map none]) (L' := [ac, ae, ag, ah, I aa, I ab, ai, .map (some aj)]) rfl Tryz.underlying111 Al111 rfl (Bd111 Tryz.underlying111) (.cons (cs := [ac, ae, ag, ah, I aa, I ab, ai]) rfl rfl rfl rfl rfl <| .cons (cs := [.map (some aj)]) rfl rfl rfl rfl rfl <| .nil)) ?_
 refine t_box (v := .agg #[ac, ae, ag, ah, I aa, I ab, ai, .map (some aj)]) (cs := [ac, ae, ag, ah, I aa, I ab, ai, .map (some aj)]) H rfl rfl ?_
 intro aF aY H
 refine zA (Pq aF) rfl ?_
 refine zA (I 0) rfl ?_
 refine s_nil ?_
 refine W.ret ?_
 have av := M.e_pure hM
 exact ⟨_, resE_tmp2 rfl, .inr (⟨aa, ab, 0, aF, aj, aT, av, rfl, (H.pk [0, 1])⟩)⟩

def zci (ac : List Int) (ae : List Span) (aa : List Int) (ab : List Town) (ag : Int) (ah : Int) (ai : List Flood) (s2 : Nat) : (Nat × (List Dem)) -> M ((Nat × (List Dem)) ⊕ ((List Dem) × (List Dem))) := fun (s, l4) =>
  bif decide ((s : Int) < (ab.length : Int)) then (
  M.grd (decide ((s : Int) < (ab.length : Int))) <|
  M.bind (zbj ac ae aa ab ag ah ai (aa.getD s2 0) ((ab.getD s default).station)) fun (aj, ak, r1) =>
  bif r1 then (
  M.grd (decide ((l4.length + ([(⟨(aa.getD s2 0 : Int), (s : Int)⟩ : Dem)]).length) * 16 <= 140737488355328)) <|
  M.pure (.inl (s + 1, l4 ++ ([(⟨(aa.getD s2 0 : Int), (s : Int)⟩ : Dem)]))))
  else (
  M.pure (.inl (s + 1, l4))))
  else (
  M.pure (.inr (l4, l4)))
def zcx (ab : List Int) (ac : List Span) (aa : List Int) (ae : List Town) (ag : Int) (ah : Int) (ai : List Flood) : (Nat × (List Dem)) -> M ((Nat × (List Dem)) ⊕ ((List Dem) × (List Dem))) := fun (s2, l6) =>
  bif decide ((s2 : Int) < (aa.length : Int)) then (
  M.grd (decide ((s2 : Int) < (aa.length : Int))) <|
  M.bind (M.iter (zci ab ac aa ae ag ah ai s2) (0, l6)) fun (l2, l5) =>
  M.pure (.inl (s2 + 1, l5)))
  else (
  M.pure (.inr (l6, l6)))
def zcC (aa : List Int) (ab : List Span) (ac : List Int) (ae : List Town) (ag : Int) (ah : Int) (ai : List Flood) : M (List Dem) :=
  M.bind (M.iter (zcx aa ab ac ae ag ah ai) (0, [])) fun (l7, l8) =>
  M.pure l8
theorem zcJ {R : List Chunk} {ac : Nat} {aF : Cells} {aG : Value} {aH : Cells} {aI : Value} {aJ : Cells} {ae : Value} {aK : Cells} {ag : Value} {aL : Cells} {aM : Value} {aW : Nat} (am : List Int) (ao : List Span) (aa : List Int) (ab : List Town) (ap : Int) (aq : Int) (au : List Flood) (aX : Reads R aF) (aY : Sl aF aG am) (aZ : Reads R aH) (a6 : Sl aH aI ao) (aN : Reads R aJ) (av : Sl aJ ae aa) (aO : Reads R aK) (aw : Sl aK ag ab) (a7 : Reads R aL) (a8 : Sl aL aM au) (az : Has R (cBlk ac [aG, aI, ae, ag, I ap, I aq, aM, .map (some aW)] 111)) {r : (List Dem)} (hM : (zcC am ao aa ab ap aq au).Ends r) (w : World) (H : St w w [] R) : Ret Tryz.prog 77 #[Pq ac] w fun v w' => ∃ (y0 : List Dem) (u0 : Value), y0 = r /\ v = u0 /\ St w w' [cOwn (α := Dem) 61 u0 y0] R := by
 refine ret_of_W Tryz.func77 rfl rfl rfl ?_
 refine W.seq ?_
 refine W.region rfl ?_
 refine zA (.slice none 0 0) rfl ?_
 refine s_nil ?_
 refine W.seq ?_
 refine W.region rfl ?_
 refine zA (.slice none 0 0) rfl ?_
 refine s_nil ?_
 refine W.seq ?_
 refine W.seq ?_
 refine W.region rfl ?_
 refine zM (Pq ac) rfl ?_
 refine s_val (x_nc (a := ⟨ac, 0, none⟩) rfl) ?_
 refine s_val (x_fa (a := Pq ac) (v := Pq ac) rfl (fa_blk (o := 0) Fd111_0 Sz29)) ?_
 refine s_val (x_fa (a := Pq ac) (v := Oq ac 2) rfl (fa_blk (o := 0) Fd29_2 Sz22)) ?_
 refine s_val (x_ld (p := Oq ac 2) (v := ae) rfl (ldb_sc Sc22 (az.blk H) rfl)) ?_
 have bw := (av).len_le
 refine s_val (x_lenS T22.und rfl av) ?_
 refine zM (I 0) rfl ?_
 refine s_nil ?_
 refine W.block ?_
 replace H := H.nilOwn (α := Dem) 61
 obtain ⟨ba, aA, bc⟩ := M.e_bind hM
 obtain ⟨bf, aA⟩ := M.e_iter aA
 refine W.loop (fun m σ W => ∃ (s2 : Nat) (l6 : List Dem) (ah : Value) (ρ : Env), σ = upds ρ [(0, Pq ac), (3, ah), (14, ae), (15, I (aa.length : Int)), (16, I (s2 : Int))] /\ M.iterN (zcx am ao aa ab ap aq au) m (s2, l6) = some ba /\ St w W [cOwn (α := Dem) 61 ah l6] R) ?_ ?_
 ·exact ⟨_, 0, [], (.slice none 0 0), _, upds_of _ _ ⟨rfl, rfl, rfl, rfl, rfl, trivial⟩, aA, H⟩
 rintro bx σ bz ⟨s2, l6, ah, ρ, rfl, aP, H⟩
 obtain ⟨bg, bh, bA, hM, aQ⟩ := M.e_iterN aP
 simp only [zcx] at hM
 clear aP
 refine W.seq ?_
 refine W.region rfl ?_
 refine zC (s2 : Int) (aa.length : Int) (decide ((s2 : Int) < (aa.length : Int))) rfl rfl rfl ?_
 refine s_nil ?_
 refine W.seq ?_
 refine W.cond (decide ((s2 : Int) < (aa.length : Int))) rfl (fun ax => ?_) (fun ax => ?_)
 ·replace hM := M.e_t hM ax
  simp only [qy1, qy2, qy3, qy4, qy5, qy6, ne_eq, qy7] at ax
  refine W.skip ?_
  refine W.seq ?_
  refine W.block ?_
  refine W.seq ?_
  refine W.region rfl ?_
  obtain ⟨bi, hM⟩ := M.e_grd hM
  simp only [Bool.and_eq_true, decide_eq_true_eq] at bi
  refine s_val (x_ix (a := ae) (b := I (s2 : Int)) (v := vat ae 1 (Int.toNat (s2 : Int))) rfl rfl (Sl.ix (α := Int) T22.und T22.size av (by omega) (by omega))) ?_
  refine s_val (x_ld (p := vat ae 1 (Int.toNat (s2 : Int))) (v := I (aa.getD s2 0)) rfl (ld_sc Sc3 (At.mono (Int_at av (i := (s2 : Int)) (by omega) (by omega)) (aN.at H)))) ?_
  refine zA (I (aa.getD s2 0)) rfl ?_
  refine s_nil ?_
  refine W.seq ?_
  refine W.region rfl ?_
  refine zM (Pq ac) rfl ?_
  refine s_val (x_nc (a := ⟨ac, 0, none⟩) rfl) ?_
  refine s_val (x_fa (a := Pq ac) (v := Pq ac) rfl (fa_blk (o := 0) Fd111_0 Sz29)) ?_
  refine s_val (x_fa (a := Pq ac) (v := Oq ac 3) rfl (fa_blk (o := 0) Fd29_3 Sz24)) ?_
  refine s_val (x_ld (p := Oq ac 3) (v := ag) rfl (ldb_sc Sc24 (az.blk H) rfl)) ?_
  have bB := (aw).len_le
  refine s_val (x_lenS T24.und rfl aw) ?_
  refine zM (I 0) rfl ?_
  refine s_nil ?_
  refine W.block ?_
  obtain ⟨bj, aB, bm⟩ := M.e_bind hM
  obtain ⟨bf, aB⟩ := M.e_iter aB
  refine W.loop (fun m σ W => ∃ (s : Nat) (l4 : List Dem) (ai : Value) (ρ : Env), σ = upds ρ [(0, Pq ac), (3, ai), (5, I (aa.getD s2 0)), (14, ae), (15, I (aa.length : Int)), (16, I (s2 : Int)), (24, ag), (25, I (ab.length : Int)), (26, I (s : Int))] /\ M.iterN (zci am ao aa ab ap aq au s2) m (s, l4) = some bj /\ St w W [cOwn (α := Dem) 61 ai l4] R) ?_ ?_
  ·exact ⟨_, 0, l6, ah, _, upds_of _ _ ⟨rfl, rfl, rfl, rfl, rfl, rfl, rfl, rfl, rfl, trivial⟩, aB, H⟩
  rintro bC σ bD ⟨s, l4, ai, ρ, rfl, aR, H⟩
  obtain ⟨aS, aT, bE, hM, aC⟩ := M.e_iterN aR
  simp only [zci] at hM
  clear aR
  refine W.seq ?_
  refine W.region rfl ?_
  refine zC (s : Int) (ab.length : Int) (decide ((s : Int) < (ab.length : Int))) rfl rfl rfl ?_
  refine s_nil ?_
  refine W.seq ?_
  refine W.cond (decide ((s : Int) < (ab.length : Int))) rfl (fun ay => ?_) (fun ay => ?_)
  ·replace hM := M.e_t hM ay
   simp only [qy1, qy2, qy3, qy4, qy5, qy6, ne_eq, qy7] at ay
   refine W.skip ?_
   refine W.seq ?_
   refine W.block ?_
   refine W.seq ?_
   refine W.region rfl ?_
   refine zM (I (s : Int)) rfl ?_
   obtain ⟨bn, hM⟩ := M.e_grd hM
   simp only [Bool.and_eq_true, decide_eq_true_eq] at bn
   refine s_val (x_ix (a := ag) (b := I (s : Int)) (v := vat ag 3 (Int.toNat (s : Int))) rfl rfl (Sl.ix (α := Town) T24.und T24.size aw (by omega) (by omega))) ?_
   refine s_val (x_ld (p := vat ag 3 (Int.toNat (s : Int))) (v := .agg #[I ((ab.getD s default).station), I ((ab.getD s default).lead), I ((ab.getD s default).alarm)]) rfl (ld_ag Ag91 Sz91 (At.mono (Town_atA aw (i := (s : Int)) (by omega) (by omega)) (aO.at H)))) ?_
   refine t_alloc (cs := [I 0, I 0, I 0]) H Al91 rfl ?_
   intro aD bF H
   refine zA (I (s : Int)) rfl ?_
   refine t_sw 0 0 [I ((ab.getD s default).station), I ((ab.getD s default).lead), I ((ab.getD s default).alarm)] (.agg #[I ((ab.getD s default).station), I ((ab.getD s default).lead), I ((ab.getD s default).alarm)]) H rfl rfl Sz91 rfl rfl rfl rfl ?_
   intro bG H
   refine s_nil ?_
   refine W.seq ?_
   refine W.region rfl ?_
   refine zM (Pq ac) rfl ?_
   refine zM (I (aa.getD s2 0)) rfl ?_
   refine s_val (x_fa (a := Pq aD) (v := Pq aD) rfl (fa_blk (o := 0) Fd91_0 Sz3)) ?_
   refine s_val (x_ld (p := Pq aD) (v := I ((ab.getD s default).station)) rfl (ldb_sc Sc3 (H.bl 0) rfl)) ?_
   obtain ⟨bH, bo, hM⟩ := M.e_bind hM
   refine s_call cf74 [Pq ac, I (aa.getD s2 0), I ((ab.getD s default).station)] rfl (zcy am ao aa ab ap aq au (aa.getD s2 0) ((ab.getD s default).station) (aX.app _) aY (aZ.app _) a6 (aN.app _) av (aO.app _) aw (a7.app _) a8 (az.app _) bo _ (H.gt 2)) ?_
   rintro vq bI ⟨aj, ak, r1, bp, hvq, aU⟩
   subst bp
   subst vq
   try dsimp only at hM
   replace H := H.bk aU
   clear aU
   refine zM (.tuple #[.agg #[I aj, I ak], B r1]) rfl ?_
   refine zX [.agg #[I aj, I ak], B r1] (.agg #[I aj, I ak]) rfl rfl ?_
   refine zX [.agg #[I aj, I ak], B r1] (B r1) rfl rfl ?_
   refine t_alloc (cs := [I 0, I 0]) H Al26 rfl ?_
   intro bJ bK H
   refine t_sw 0 0 [I aj, I ak] (.agg #[I aj, I ak]) H rfl rfl Sz26 rfl rfl rfl rfl ?_
   intro bL H
   refine zA (B r1) rfl ?_
   refine s_nil ?_
   replace H := H.pk [2]
   refine W.seq ?_
   refine W.region rfl ?_
   refine zM (B r1) rfl ?_
   refine s_nil ?_
   refine W.cond r1 rfl (fun aE => ?_) (fun aE => ?_)
   ·replace hM := M.e_t hM aE
    refine W.region rfl ?_
    refine zM ai rfl ?_
    refine zM (I (aa.getD s2 0)) rfl ?_
    refine zM (I (s : Int)) rfl ?_
    refine s_val (x_bld (ps := [(0, I (aa.getD s2 0)), (1, I (s : Int))]) (zs := [I 0, I 0]) (L' := [I (aa.getD s2 0), I (s : Int)]) rfl Tryz.underlying61 Al61 rfl (Bd61 Tryz.underlying61) (.cons (cs := [I (aa.getD s2 0)]) rfl rfl rfl rfl rfl <| .cons (cs := [I (s : Int)]) rfl rfl rfl rfl rfl <| .nil)) ?_
    refine t_bs (α := Dem) T62 [.agg #[I (aa.getD s2 0), I (s : Int)]] [(⟨(aa.getD s2 0 : Int), (s : Int)⟩ : Dem)] H rfl (.cons rfl (Flat.rep_enc _ (⟨(aa.getD s2 0 : Int), (s : Int)⟩ : Dem)) <| .nil) rfl rfl rfl ?_
    intro bq bM H
    obtain ⟨br, hM⟩ := M.e_grd hM
    simp only [Bool.and_eq_true, decide_eq_true_eq] at br
    refine t_app (α := Dem) (k := 1) (l := l4) (l2 := [(⟨(aa.getD s2 0 : Int), (s : Int)⟩ : Dem)]) (l' := l4 ++ ([(⟨(aa.getD s2 0 : Int), (s : Int)⟩ : Dem)])) (vy := bq) T62 rfl H rfl rfl rfl (H.os 0) (H.ol 0) (rfl) (by first | omega | (simp only [List.length_nil] at *; omega)) ?_
    intro aV bN H
    replace H := H.nf
    refine zA aV rfl ?_
    refine s_nil ?_
    refine W.region rfl ?_
    refine zR (s : Int) 1 ((s : Int) + 1) rfl rfl rfl (by omega) ?_
    refine zM (I ((s : Int) + 1)) rfl ?_
    refine s_nil ?_
    exact ⟨aS, aT, s + 1, l4 ++ ([(⟨(aa.getD s2 0 : Int), (s : Int)⟩ : Dem)]), aV, _, upds_of _ _ ⟨rfl, rfl, rfl, rfl, rfl, rfl, rfl, rfl, rfl, trivial⟩, M.e_inl hM aC, (H.pk [1])⟩
   replace hM := M.e_f hM aE
   refine W.skip ?_
   refine W.region rfl ?_
   refine zR (s : Int) 1 ((s : Int) + 1) rfl rfl rfl (by omega) ?_
   refine zM (I ((s : Int) + 1)) rfl ?_
   refine s_nil ?_
   exact ⟨aS, aT, s + 1, l4, ai, _, upds_of _ _ ⟨rfl, rfl, rfl, rfl, rfl, rfl, rfl, rfl, rfl, trivial⟩, M.e_inl hM aC, H⟩
  replace hM := M.e_f hM ay
  simp only [qy1, qy2, qy3, qy4, qy5, qy6, ne_eq, qy7] at ay
  refine W.exit ?_
  have bt := M.e_inr hM aC
  subst bt
  replace hM := bm
  try dsimp only at hM
  refine W.region rfl ?_
  refine zR (s2 : Int) 1 ((s2 : Int) + 1) rfl rfl rfl (by omega) ?_
  refine zM (I ((s2 : Int) + 1)) rfl ?_
  refine s_nil ?_
  exact ⟨bg, bh, s2 + 1, l4, ai, _, upds_of _ _ ⟨rfl, rfl, rfl, rfl, rfl, trivial⟩, M.e_inl hM aQ, H⟩
 replace hM := M.e_f hM ax
 simp only [qy1, qy2, qy3, qy4, qy5, qy6, ne_eq, qy7] at ax
 refine W.exit ?_
 have bu := M.e_inr hM aQ
 subst bu
 replace hM := bc
 try dsimp only at hM
 refine W.seq ?_
 refine W.region rfl ?_
 refine zM ah rfl ?_
 refine zA ah rfl ?_
 refine s_nil ?_
 refine W.ret ?_
 have bv := M.e_pure hM
 exact ⟨_, resE_tmp rfl, ⟨l6, ah, bv, rfl, H⟩⟩

def zct (s : List Dem) (f : Dem -> M Bool) : Nat -> M (Nat ⊕ (Int ⊕ Unit)) := fun s2 =>
  bif decide ((s2 : Int) < (s.length : Int)) then (
  M.grd (decide ((s2 : Int) < (s.length : Int))) <|
  M.bind (f (s.getD s2 default)) fun r2 =>
  bif r2 then (
  M.pure (.inr (.inl (s2 : Int))))
  else (
  M.pure (.inl (s2 + 1))))
  else (
  M.pure (.inr (.inr ())))
def zdb (s : List Dem) (f : Dem -> M Bool) : M Int :=
  M.bind (M.iter (zct s f) 0) fun x_ => match x_ with
  | (.inl s3) => (
  M.pure s3)
  | (.inr (_ : Unit)) => (
  M.pure (-1))
theorem zde {R : List Chunk} {ak : Cells} {aa : Value} {ac : Value} (s : List Dem) (f : Dem -> M Bool) (ap : Reads R ak) (ae : Sl ak aa s) (aq : FnM Tryz.prog R ac f) {r : Int} (hM : (zdb s f).Ends r) (w : World) (H : St w w [] R) : Ret Tryz.prog 99 #[aa, ac] w fun v w' => ∃ (y0 : Int), y0 = r /\ v = I y0 /\ St w w' [] R := by
 refine ret_of_W Tryz.func99 rfl rfl rfl ?_
 refine W.seq ?_
 refine W.region rfl ?_
 refine zA (I 0) rfl ?_
 refine s_nil ?_
 refine W.seq ?_
 refine W.seq ?_
 refine W.region rfl ?_
 refine zM aa rfl ?_
 have aB := (ae).len_le
 refine s_val (x_lenS T62.und rfl ae) ?_
 refine zM (I 0) rfl ?_
 refine s_nil ?_
 refine W.block ?_
 obtain ⟨au, ag, am⟩ := M.e_bind hM
 obtain ⟨aC, ag⟩ := M.e_iter ag
 refine W.loop (fun m σ W => ∃ (s2 : Nat) (ρ : Env), σ = upds ρ [(0, aa), (1, ac), (7, I (s.length : Int)), (8, I (s2 : Int))] /\ M.iterN (zct s f) m s2 = some au /\ St w W [] R) ?_ ?_
 ·exact ⟨_, 0, _, upds_of _ _ ⟨rfl, rfl, rfl, rfl, trivial⟩, ag, H⟩
 rintro aD σ aE ⟨s2, ρ, rfl, ao, H⟩
 obtain ⟨av, aw, aF, hM, ah⟩ := M.e_iterN ao
 simp only [zct] at hM
 clear ao
 refine W.seq ?_
 refine W.region rfl ?_
 refine zC (s2 : Int) (s.length : Int) (decide ((s2 : Int) < (s.length : Int))) rfl rfl rfl ?_
 refine s_nil ?_
 refine W.seq ?_
 refine W.cond (decide ((s2 : Int) < (s.length : Int))) rfl (fun ab => ?_) (fun ab => ?_)
 ·replace hM := M.e_t hM ab
  simp only [qy1, qy2, qy3, qy4, qy5, qy6, ne_eq, qy7] at ab
  refine W.skip ?_
  refine W.seq ?_
  refine W.block ?_
  refine W.seq ?_
  refine W.region rfl ?_
  refine zM (I (s2 : Int)) rfl ?_
  refine zA (I (s2 : Int)) rfl ?_
  refine s_nil ?_
  refine W.seq ?_
  refine W.region rfl ?_
  refine zM ac rfl ?_
  refine zM aa rfl ?_
  refine zM (I (s2 : Int)) rfl ?_
  obtain ⟨ax, hM⟩ := M.e_grd hM
  simp only [Bool.and_eq_true, decide_eq_true_eq] at ax
  refine s_val (x_ix (a := aa) (b := I (s2 : Int)) (v := vat aa 2 (Int.toNat (s2 : Int))) rfl rfl (Sl.ix (α := Dem) T62.und T62.size ae (by omega) (by omega))) ?_
  refine s_val (x_ld (p := vat aa 2 (Int.toNat (s2 : Int))) (v := .agg #[I ((s.getD s2 default).spring), I ((s.getD s2 default).town)]) rfl (ld_ag Ag61 Sz61 (At.mono (Dem_atA ae (i := (s2 : Int)) (by omega) (by omega)) (ap.at H)))) ?_
  obtain ⟨r2, ay, hM⟩ := M.e_bind hM
  refine t_callM H aq rfl rfl (s.getD s2 default) Reads.none ⟨_, rfl, rfl⟩ ay ?_
  intro aG H
  refine s_nil ?_
  refine W.cond r2 rfl (fun ai => ?_) (fun ai => ?_)
  ·replace hM := M.e_t hM ai
   refine W.seq ?_
   refine W.region rfl ?_
   refine zM (I (s2 : Int)) rfl ?_
   refine zA (I (s2 : Int)) rfl ?_
   refine s_nil ?_
   refine W.ret ?_
   have az := M.e_inr hM ah
   subst az
   replace hM := am
   try dsimp only at hM
   have aj := M.e_pure hM
   exact ⟨_, resE_tmp rfl, ⟨(s2 : Int), aj, rfl, H⟩⟩
  replace hM := M.e_f hM ai
  refine W.skip ?_
  refine W.region rfl ?_
  refine zR (s2 : Int) 1 ((s2 : Int) + 1) rfl rfl rfl (by omega) ?_
  refine zM (I ((s2 : Int) + 1)) rfl ?_
  refine s_nil ?_
  exact ⟨av, aw, s2 + 1, _, upds_of _ _ ⟨rfl, rfl, rfl, rfl, trivial⟩, M.e_inl hM ah, H⟩
 replace hM := M.e_f hM ab
 simp only [qy1, qy2, qy3, qy4, qy5, qy6, ne_eq, qy7] at ab
 refine W.exit ?_
 have aA := M.e_inr hM ah
 subst aA
 replace hM := am
 try dsimp only at hM
 refine W.seq ?_
 refine W.region rfl ?_
 refine zA (I (-1)) rfl ?_
 refine s_nil ?_
 refine W.ret ?_
 have aj := M.e_pure hM
 exact ⟨_, resE_tmp rfl, ⟨(-1), aj, rfl, H⟩⟩

def zc1 (s : List Dem) (f : Dem -> M Bool) : M Bool :=
  M.bind (zdb s f) fun r2 =>
  M.pure (decide (0 <= r2))
theorem zds {R : List Chunk} {ac : Cells} {aa : Value} {ab : Value} (s : List Dem) (f : Dem -> M Bool) (ag : Reads R ac) (ah : Sl ac aa s) (ai : FnM Tryz.prog R ab f) {r : Bool} (hM : (zc1 s f).Ends r) (w : World) (H : St w w [] R) : Ret Tryz.prog 97 #[aa, ab] w fun v w' => ∃ (y0 : Bool), y0 = r /\ v = B y0 /\ St w w' [] R := by
 refine ret_of_W Tryz.func97 rfl rfl rfl ?_
 refine W.seq ?_
 refine W.region rfl ?_
 refine zA (B false) rfl ?_
 refine s_nil ?_
 refine W.seq ?_
 refine W.region rfl ?_
 refine zM aa rfl ?_
 refine zM ab rfl ?_
 obtain ⟨ao, aj, hM⟩ := M.e_bind hM
 refine s_call cf99 [aa, ab] rfl (zde s f (ag.app _) ah (ai.app _) aj _ (H.gt 0)) ?_
 rintro vq ap ⟨r2, ak, hvq, ae⟩
 subst ak
 subst vq
 try dsimp only at hM
 replace H := H.bk ae
 clear ae
 refine zC r2 0 (decide (0 <= r2)) rfl rfl rfl ?_
 refine zA (B (decide (0 <= r2))) rfl ?_
 refine s_nil ?_
 refine W.ret ?_
 have am := M.e_pure hM
 exact ⟨_, resE_tmp rfl, ⟨(decide (0 <= r2)), am, rfl, H⟩⟩

def zcd (x : Dem) (aa : Int) (ab : Int) : M Bool :=
  M.pure (decide (x = (⟨(aa : Int), (ab : Int)⟩ : Dem)))
theorem zdl {R : List Chunk} {ac : Nat} (x : Dem) (aa : Int) (ab : Int) (ae : Has R (cBlk ac [I aa, I ab] 61)) {r : Bool} (hM : (zcd x aa ab).Ends r) (w : World) (H : St w w [] R) : Ret Tryz.prog 98 #[.agg #[I x.spring, I x.town], Pq ac] w fun v w' => ∃ (y0 : Bool), y0 = r /\ v = B y0 /\ St w w' [] R := by
 refine ret_of_W Tryz.func98 rfl rfl rfl ?_
 refine W.seq ?_
 refine W.region rfl ?_
 refine t_box (v := .agg #[I x.spring, I x.town]) (cs := [I x.spring, I x.town]) H rfl rfl ?_
 intro ag ai H
 refine zA (B false) rfl ?_
 refine s_nil ?_
 refine W.seq ?_
 refine W.region rfl ?_
 refine s_val (x_ld (p := Pq ag) (v := .agg #[I x.spring, I x.town]) rfl (ldb_ag (ds := [I x.spring, I x.town]) Ag61 Sz61 (H.bl 0) rfl rfl)) ?_
 refine s_val (x_ld (p := Pq ac) (v := .agg #[I aa, I ab]) rfl (ldb_ag (ds := [I aa, I ab]) Ag61 Sz61 (ae.blk H) rfl rfl)) ?_
 refine s_val (x_eqS (eqT61 x (⟨(aa : Int), (ab : Int)⟩ : Dem) _) gdT61 rfl rfl) ?_
 refine zA (B (decide (x = (⟨(aa : Int), (ab : Int)⟩ : Dem)))) rfl ?_
 refine s_nil ?_
 refine W.ret ?_
 have ah := M.e_pure hM
 exact ⟨_, resE_tmp rfl, ⟨(decide (x = (⟨(aa : Int), (ab : Int)⟩ : Dem))), ah, rfl, (H.pk [])⟩⟩

def zcZ (aa : List Int) (ab : List Span) (ac : List Int) (ae : List Town) (ag : Int) (ah : Int) (ai : List Flood) (d : Dem) : M Bool :=
  M.bind (zcC aa ab ac ae ag ah ai) fun r2 =>
  M.bind (zc1 r2 (fun aj => zcd aj d.spring d.town)) fun r3 =>
  M.pure r3
theorem zdE {R : List Chunk} {ab : Nat} {ap : Cells} {aq : Value} {au : Cells} {av : Value} {aw : Cells} {ax : Value} {ay : Cells} {az : Value} {aA : Cells} {aB : Value} {aD : Nat} (ac : List Int) (ae : List Span) (ag : List Int) (ah : List Town) (ai : Int) (aj : Int) (ak : List Flood) (d : Dem) (aE : Reads R ap) (aF : Sl ap aq ac) (aG : Reads R au) (aH : Sl au av ae) (aI : Reads R aw) (aJ : Sl aw ax ag) (aK : Reads R ay) (aL : Sl ay az ah) (aM : Reads R aA) (aN : Sl aA aB ak) (aO : Has R (cBlk ab [aq, av, ax, az, I ai, I aj, aB, .map (some aD)] 111)) {r : Bool} (hM : (zcZ ac ae ag ah ai aj ak d).Ends r) (w : World) (H : St w w [] R) : Ret Tryz.prog 79 #[Pq ab, .agg #[I d.spring, I d.town]] w fun v w' => ∃ (y0 : Bool), y0 = r /\ v = B y0 /\ St w w' [] R := by
 refine ret_of_W Tryz.func79 rfl rfl rfl ?_
 refine W.seq ?_
 refine W.region rfl ?_
 refine t_box (v := .agg #[I d.spring, I d.town]) (cs := [I d.spring, I d.town]) H rfl rfl ?_
 intro am a8 H
 refine zA (B false) rfl ?_
 refine s_nil ?_
 refine W.seq ?_
 refine W.region rfl ?_
 refine zM (Pq ab) rfl ?_
 obtain ⟨ba, aP, hM⟩ := M.e_bind hM
 refine s_call cf77 [Pq ab] rfl (zcJ ac ae ag ah ai aj ak (aE.app _) aF (aG.app _) aH (aI.app _) aJ (aK.app _) aL (aM.app _) aN (aO.app _) aP _ (H.gt 1)) ?_
 rintro vq bc ⟨r2, aQ, aR, hvq, aa⟩
 subst aR
 subst vq
 try dsimp only at hM
 replace H := H.bk aa
 clear aa
 refine s_val (x_mf (fs := []) (cs := [Pq am]) rfl rfl) ?_
 obtain ⟨bf, aS, hM⟩ := M.e_bind hM
 refine s_call cf97 [aQ, .func (.func 98) #[] #[Pq am]] rfl (zds r2 (fun ao => zcd ao d.spring d.town) (rdo 0) (H.os 0) ⟨98, [Pq am], rfl, cf98, fun aC bg bh aT ao bi aU bj aV aW => by obtain rfl := Dem_arg aV; exact (zdl ao d.spring d.town (Has.app (Has.here (k := 1) rfl) _) aW aC (St.refl aU)).mono fun aT aC ⟨bm, aX, aY, aZ⟩ => by subst aX; exact ⟨aY, aZ⟩⟩ aS _ (H.gt 2)) ?_
 rintro vq bn ⟨r3, a6, hvq, aa⟩
 subst a6
 subst vq
 try dsimp only at hM
 replace H := H.bk aa
 clear aa
 refine zA (B r3) rfl ?_
 refine s_nil ?_
 replace H := H.pk []
 refine W.ret ?_
 have a7 := M.e_pure hM
 exact ⟨_, resE_tmp rfl, ⟨r3, a7, rfl, H⟩⟩

def zcE (aa : List Int) (ab : List Span) (ac : List Int) (ae : List Town) (aj : Int) (ak : Int) (ag : List Flood) (d : Dem) : M ((List Int) × Int) :=
  M.bind (zau aa ab ac ae aj ak ag) fun x_ => match x_ with
  | (.inl r1) => (
  bif r1 != 0 then (
  M.pure (([]), r1))
  else (
  M.fail))
  | (.inr (ah, ai, am)) => (
  bif am != 0 then (
  M.fail)
  else (
  M.bind (zcZ aa ab ac ae ah ai ag d) fun r2 =>
  bif !r2 then (
  M.pure (([]), 2))
  else (
  M.bind (zaa aa ab ac ae ah ai ag d) fun r3 =>
  M.grd (decide (r3.length * 8 <= 140737488355328)) <|
  M.pure (r3, 0))))
theorem zcK {R : List Chunk} {aK : Cells} {ah : Value} {aL : Cells} {ai : Value} {aM : Cells} {aj : Value} {aN : Cells} {ak : Value} {aO : Cells} {am : Value} (ao : List Int) (ap : List Span) (aq : List Int) (au : List Town) (ae : Int) (ag : Int) (av : List Flood) (d : Dem) (az : Reads R aK) (aA : Sl aK ah ao) (aB : Reads R aL) (aC : Sl aL ai ap) (aD : Reads R aM) (aE : Sl aM aj aq) (aF : Reads R aN) (aG : Sl aN ak au) (aH : Reads R aO) (aI : Sl aO am av) {r : ((List Int) × Int)} (hM : (zcE ao ap aq au ae ag av d).Ends r) (w : World) (H : St w w [] R) : Ret Tryz.prog 32 #[.agg #[ah, ai, aj, ak, I ae, I ag, am], .agg #[I d.spring, I d.town]] w fun v w' => ∃ (y0 : List Int) (y1 : Int) (u0 : Value), (y0, y1) = r /\ v = .tuple #[u0, I y1] /\ St w w' [cOwn (α := Int) 3 u0 y0] R := by
 refine ret_of_W Tryz.func32 rfl rfl rfl ?_
 refine W.seq ?_
 refine W.region rfl ?_
 refine t_box (v := .agg #[ah, ai, aj, ak, I ae, I ag, am]) (cs := [ah, ai, aj, ak, I ae, I ag, am]) H rfl rfl ?_
 intro aT bc H
 refine t_box (v := .agg #[I d.spring, I d.town]) (cs := [I d.spring, I d.town]) H rfl rfl ?_
 intro aP bf H
 refine zA (.slice none 0 0) rfl ?_
 refine zA (I 0) rfl ?_
 refine s_nil ?_
 refine W.seq ?_
 refine W.region rfl ?_
 refine s_val (x_ld (p := Pq aT) (v := .agg #[ah, ai, aj, ak, I ae, I ag, am]) rfl (ldb_ag (ds := [ah, ai, aj, ak, I ae, I ag, am]) Ag29 Sz29 (H.bl 1) rfl rfl)) ?_
 obtain ⟨bg, aU, hM⟩ := M.e_bind hM
 refine s_call cf72 [.agg #[ah, ai, aj, ak, I ae, I ag, am]] rfl (zbQ ao ap aq au ae ag av (az.app _) aA (aB.app _) aC (aD.app _) aE (aF.app _) aG (aH.app _) aI aU _ (H.gt 2)) ?_
 rintro vq bh (⟨r1, aV, hvq, aa⟩ | ⟨aQ, aR, ab, ac, bi, bj, aW, hvq, aa⟩)
 ·subst aV
  subst vq
  try dsimp only at hM
  replace H := H.bk aa
  clear aa
  refine zM (.tuple #[.pointer none, I r1]) rfl ?_
  refine zX [.pointer none, I r1] (.pointer none) rfl rfl ?_
  refine zX [.pointer none, I r1] (I r1) rfl rfl ?_
  refine zA (.pointer none) rfl ?_
  refine zA (I r1) rfl ?_
  refine s_nil ?_
  refine W.seq ?_
  refine W.block ?_
  refine W.seq ?_
  refine W.region rfl ?_
  refine zM (I r1) rfl ?_
  refine zC r1 0 (r1 != 0) rfl rfl rfl ?_
  refine zA (B (r1 != 0)) rfl ?_
  refine s_nil ?_
  refine W.cond (r1 != 0) rfl (fun ax => ?_) (fun ax => ?_)
  ·replace hM := M.e_t hM ax
   simp only [qy1, qy2, qy3, qy4, qy5, qy6, ne_eq, qy7] at ax
   refine W.seq ?_
   refine W.region rfl ?_
   refine zM (I r1) rfl ?_
   refine zA (.slice none 0 0) rfl ?_
   refine zA (I r1) rfl ?_
   refine s_nil ?_
   replace H := H.pk []
   refine W.ret ?_
   have aw := M.e_pure hM
   replace H := H.nilOwn (α := Int) 3
   exact ⟨_, resE_tmp2 rfl, ⟨([]), r1, (.slice none 0 0), aw, rfl, H⟩⟩
  replace hM := M.e_f hM ax
  exact (M.e_fail hM).elim
 subst aW
 subst vq
 try dsimp only at hM
 replace H := H.bk aa
 clear aa
 refine zM (.tuple #[Pq ac, I ab]) rfl ?_
 refine zX [Pq ac, I ab] (Pq ac) rfl rfl ?_
 refine zX [Pq ac, I ab] (I ab) rfl rfl ?_
 refine zA (Pq ac) rfl ?_
 refine zA (I ab) rfl ?_
 refine s_nil ?_
 refine W.seq ?_
 refine W.block ?_
 refine W.seq ?_
 refine W.region rfl ?_
 refine zM (I ab) rfl ?_
 refine zC ab 0 (ab != 0) rfl rfl rfl ?_
 refine zA (B (ab != 0)) rfl ?_
 refine s_nil ?_
 refine W.cond (ab != 0) rfl (fun ay => ?_) (fun ay => ?_)
 ·replace hM := M.e_t hM ay
  exact (M.e_fail hM).elim
 replace hM := M.e_f hM ay
 simp only [qy1, qy2, qy3, qy4, qy5, qy6, ne_eq, qy7] at ay
 refine W.seq ?_
 refine W.region rfl ?_
 refine zM (Pq ac) rfl ?_
 refine s_val (x_ld (p := Pq aP) (v := .agg #[I d.spring, I d.town]) rfl (ldb_ag (ds := [I d.spring, I d.town]) Ag61 Sz61 (H.bl 2) rfl rfl)) ?_
 obtain ⟨bm, aX, hM⟩ := M.e_bind hM
 refine s_call cf79 [Pq ac, .agg #[I d.spring, I d.town]] rfl (zdE ao ap aq au aQ aR av d (az.app _) aA (aB.app _) aC (aD.app _) aE (aF.app _) aG (aH.app _) aI (Has.here (k := 0) rfl) aX _ (H.gt 4)) ?_
 rintro vq bn ⟨r2, aY, hvq, aa⟩
 subst aY
 subst vq
 try dsimp only at hM
 replace H := H.bk aa
 clear aa
 refine s_val (x_not (b := r2) rfl) ?_
 refine zA (B (!r2)) rfl ?_
 refine s_nil ?_
 refine W.cond (!r2) rfl (fun aJ => ?_) (fun aJ => ?_)
 ·replace hM := M.e_t hM aJ
  refine W.seq ?_
  refine W.region rfl ?_
  refine zA (.slice none 0 0) rfl ?_
  refine zA (I 2) rfl ?_
  refine s_nil ?_
  replace H := H.pk []
  refine W.ret ?_
  have aw := M.e_pure hM
  replace H := H.nilOwn (α := Int) 3
  exact ⟨_, resE_tmp2 rfl, ⟨([]), 2, (.slice none 0 0), aw, rfl, H⟩⟩
 replace hM := M.e_f hM aJ
 refine W.skip ?_
 refine W.seq ?_
 refine W.region rfl ?_
 refine zM (Pq ac) rfl ?_
 refine s_val (x_ld (p := Pq aP) (v := .agg #[I d.spring, I d.town]) rfl (ldb_ag (ds := [I d.spring, I d.town]) Ag61 Sz61 (H.bl 2) rfl rfl)) ?_
 obtain ⟨bo, aZ, hM⟩ := M.e_bind hM
 refine s_call cf81 [Pq ac, .agg #[I d.spring, I d.town]] rfl (zbS ao ap aq au aQ aR av d (az.app _) aA (aB.app _) aC (aD.app _) aE (aF.app _) aG (aH.app _) aI (Has.here (k := 0) rfl) aZ _ ((H.pk [1, 0, 2, 3]).gt 3)) ?_
 rintro vq bp ⟨r3, a6, bq, a7, hvq, aa, a8⟩
 subst a7
 subst vq
 try dsimp only at hM
 replace H := H.pk [1, 0, 2, 3] |>.bk aa
 clear aa
 obtain ⟨ba, hM⟩ := M.e_grd hM
 simp only [Bool.and_eq_true, decide_eq_true_eq] at ba
 refine s_call cf80 [a6] rfl (clone_any r3 (Reads.of (k := 0) rfl memLe) a8 (by omega) _ H.sep) ?_
 rintro aS br aa
 replace H := H.bk aa
 clear aa
 refine zA aS rfl ?_
 refine zA (I 0) rfl ?_
 refine s_nil ?_
 replace H := H.pk [0]
 refine W.ret ?_
 have aw := M.e_pure hM
 exact ⟨_, resE_tmp2 rfl, ⟨r3, 0, aS, aw, rfl, H⟩⟩

def zcI (d : Dem) (aa : List Int) (ab : List Span) (ac : List Int) (ae : List Town) (ag : Int) (ah : Int) (ai : List Flood) : M Bool :=
  M.bind (zaa aa ab ac ae ag ah ai d) fun r2 =>
  M.pure (decide (0 < (r2.length : Int)))
theorem zdw {R : List Chunk} {ak : Nat} {aj : Nat} {ao : Cells} {ap : Value} {aq : Cells} {au : Value} {av : Cells} {aw : Value} {ax : Cells} {ay : Value} {az : Cells} {aA : Value} {am : Nat} {B_b_k0207 : Base} (d : Dem) (aa : List Int) (ab : List Span) (ac : List Int) (ae : List Town) (ag : Int) (ah : Int) (ai : List Flood) (aD : Reads R ao) (aE : Sl ao ap aa) (aF : Reads R aq) (aG : Sl aq au ab) (aH : Reads R av) (aI : Sl av aw ac) (aJ : Reads R ax) (aK : Sl ax ay ae) (aL : Reads R az) (aM : Sl az aA ai) (aN : Has R (cBlk aj [ap, au, aw, ay, I ag, I ah, aA, .map (some am)] 111)) (aO : Has R (cBlk ak [.func (.func 81) #[Pq aj] #[]] 134)) {r : Bool} (hM : (zcI d aa ab ac ae ag ah ai).Ends r) (w : World) (H : St w w [cMem encDm am B_b_k0207 (zaa aa ab ac ae ag ah ai)] R) : Ret Tryz.prog 101 #[.agg #[I d.spring, I d.town], Pq ak] w fun v w' => ∃ (y0 : Bool) (aP : Base), y0 = r /\ v = B y0 /\ St w w' [cMem encDm am aP (zaa aa ab ac ae ag ah ai)] R := by
 refine ret_of_W Tryz.func101 rfl rfl rfl ?_
 refine W.seq ?_
 refine W.region rfl ?_
 refine t_box (v := .agg #[I d.spring, I d.town]) (cs := [I d.spring, I d.town]) H rfl rfl ?_
 intro aQ aV H
 refine zA (B false) rfl ?_
 refine s_nil ?_
 refine W.seq ?_
 refine W.region rfl ?_
 refine s_val (x_ld (p := Pq ak) (v := .func (.func 81) #[Pq aj] #[]) rfl (ldb_sc Sc134 (aO.blk H) rfl)) ?_
 refine s_val (x_ld (p := Pq aQ) (v := .agg #[I d.spring, I d.town]) rfl (ldb_ag (ds := [I d.spring, I d.town]) Ag61 Sz61 (H.bl 0) rfl rfl)) ?_
 obtain ⟨aW, aR, hM⟩ := M.e_bind hM
 refine s_callm (f := 81) (fs := [Pq aj]) rfl cf81 [.agg #[I d.spring, I d.town]] rfl (zbS aa ab ac ae ag ah ai d (aD.app _) aE (aF.app _) aG (aH.app _) aI (aJ.app _) aK (aL.app _) aM (aN.app _) aR _ ((H.pk [1, 0]).gt 1)) ?_
 rintro vq aX ⟨r2, aY, aS, aT, hvq, aB, aC⟩
 subst aT
 subst vq
 try dsimp only at hM
 replace H := H.pk [1, 0] |>.bk aB
 clear aB
 have aZ := (aC).len_le
 refine s_val (x_lenS T22.und rfl aC) ?_
 refine zC (r2.length : Int) 0 (decide (0 < (r2.length : Int))) rfl rfl rfl ?_
 refine zA (B (decide (0 < (r2.length : Int)))) rfl ?_
 refine s_nil ?_
 refine W.ret ?_
 have aU := M.e_pure hM
 exact ⟨_, resE_tmp rfl, ⟨(decide (0 < (r2.length : Int))), aS, aU, rfl, (H.pk [0])⟩⟩

def zcV (x : Dem) (aa : List Int) (ab : List Span) (ac : List Int) (ae : List Town) (ag : Int) (ah : Int) (ai : List Flood) : M Bool :=
  M.bind (zcI x aa ab ac ae ag ah ai) fun r2 =>
  M.pure (!r2)
theorem zdS {R : List Chunk} {aj : Nat} {ak : Nat} {ao : Nat} {ap : Cells} {aq : Value} {au : Cells} {av : Value} {aw : Cells} {ax : Value} {ay : Cells} {az : Value} {aA : Cells} {aB : Value} {am : Nat} {B_b_k020207 : Base} (x : Dem) (aa : List Int) (ab : List Span) (ac : List Int) (ae : List Town) (ag : Int) (ah : Int) (ai : List Flood) (aD : Reads R ap) (aE : Sl ap aq aa) (aF : Reads R au) (aG : Sl au av ab) (aH : Reads R aw) (aI : Sl aw ax ac) (aJ : Reads R ay) (aK : Sl ay az ae) (aL : Reads R aA) (aM : Sl aA aB ai) (aN : Has R (cBlk ao [aq, av, ax, az, I ag, I ah, aB, .map (some am)] 111)) (aO : Has R (cBlk ak [.func (.func 81) #[Pq ao] #[]] 134)) (aP : Has R (cBlk aj [.func (.func 101) #[] #[Pq ak]] 133)) {r : Bool} (hM : (zcV x aa ab ac ae ag ah ai).Ends r) (w : World) (H : St w w [cMem encDm am B_b_k020207 (zaa aa ab ac ae ag ah ai)] R) : Ret Tryz.prog 107 #[.agg #[I x.spring, I x.town], Pq aj] w fun v w' => ∃ (y0 : Bool) (aQ : Base), y0 = r /\ v = B y0 /\ St w w' [cMem encDm am aQ (zaa aa ab ac ae ag ah ai)] R := by
 refine ret_of_W Tryz.func107 rfl rfl rfl ?_
 refine W.seq ?_
 refine W.region rfl ?_
 refine t_box (v := .agg #[I x.spring, I x.town]) (cs := [I x.spring, I x.town]) H rfl rfl ?_
 intro aR aW H
 refine zA (B false) rfl ?_
 refine s_nil ?_
 refine W.seq ?_
 refine W.region rfl ?_
 refine s_val (x_ld (p := Pq aj) (v := .func (.func 101) #[] #[Pq ak]) rfl (ldb_sc Sc133 (aP.blk H) rfl)) ?_
 refine s_val (x_ld (p := Pq aR) (v := .agg #[I x.spring, I x.town]) rfl (ldb_ag (ds := [I x.spring, I x.town]) Ag61 Sz61 (H.bl 0) rfl rfl)) ?_
 obtain ⟨aX, aS, hM⟩ := M.e_bind hM
 refine s_callv (f := 101) rfl cf101 [.agg #[I x.spring, I x.town]] rfl (zdw x aa ab ac ae ag ah ai (aD.app _) aE (aF.app _) aG (aH.app _) aI (aJ.app _) aK (aL.app _) aM (aN.app _) (aO.app _) aS _ ((H.pk [1, 0]).gt 1)) ?_
 rintro vq aY ⟨r2, aT, aU, hvq, aC⟩
 subst aU
 subst vq
 try dsimp only at hM
 replace H := H.pk [1, 0] |>.bk aC
 clear aC
 refine s_val (x_not (b := r2) rfl) ?_
 refine zA (B (!r2)) rfl ?_
 refine s_nil ?_
 refine W.ret ?_
 have aV := M.e_pure hM
 exact ⟨_, resE_tmp rfl, ⟨(!r2), aT, aV, rfl, (H.pk [0])⟩⟩

def zch (s : List Dem) (aa : List Int) (ab : List Span) (ac : List Int) (ae : List Town) (ag : Int) (ah : Int) (ai : List Flood) : Nat -> M (Nat ⊕ (Int ⊕ Unit)) := fun s2 =>
  bif decide ((s2 : Int) < (s.length : Int)) then (
  M.grd (decide ((s2 : Int) < (s.length : Int))) <|
  M.bind (zcV (s.getD s2 default) aa ab ac ae ag ah ai) fun r2 =>
  bif r2 then (
  M.pure (.inr (.inl (s2 : Int))))
  else (
  M.pure (.inl (s2 + 1))))
  else (
  M.pure (.inr (.inr ())))
def zc5 (s : List Dem) (aa : List Int) (ab : List Span) (ac : List Int) (ae : List Town) (ag : Int) (ah : Int) (ai : List Flood) : M Int :=
  M.bind (M.iter (zch s aa ab ac ae ag ah ai) 0) fun x_ => match x_ with
  | (.inl s3) => (
  M.pure s3)
  | (.inr (_ : Unit)) => (
  M.pure (-1))
theorem zdc {R : List Chunk} {ax : Cells} {aa : Value} {am : Nat} {ay : Nat} {az : Nat} {aA : Cells} {aB : Value} {aC : Cells} {aD : Value} {aE : Cells} {aF : Value} {aG : Cells} {aH : Value} {aI : Cells} {aJ : Value} {ao : Nat} {B_b_f2020207 : Base} (s : List Dem) (ab : List Int) (ac : List Span) (ae : List Int) (ag : List Town) (ah : Int) (ai : Int) (aj : List Flood) (aO : Reads R ax) (ap : Sl ax aa s) (aP : Reads R aA) (aQ : Sl aA aB ab) (aR : Reads R aC) (aS : Sl aC aD ac) (aT : Reads R aE) (aU : Sl aE aF ae) (aV : Reads R aG) (aW : Sl aG aH ag) (aX : Reads R aI) (aY : Sl aI aJ aj) (aZ : Has R (cBlk az [aB, aD, aF, aH, I ah, I ai, aJ, .map (some ao)] 111)) (a6 : Has R (cBlk ay [.func (.func 81) #[Pq az] #[]] 134)) (a7 : Has R (cBlk am [.func (.func 101) #[] #[Pq ay]] 133)) {r : Int} (hM : (zc5 s ab ac ae ag ah ai aj).Ends r) (w : World) (H : St w w [cMem encDm ao B_b_f2020207 (zaa ab ac ae ag ah ai aj)] R) : Ret Tryz.prog 99 #[aa, .func (.func 107) #[] #[Pq am]] w fun v w' => ∃ (y0 : Int) (a8 : Base), y0 = r /\ v = I y0 /\ St w w' [cMem encDm ao a8 (zaa ab ac ae ag ah ai aj)] R := by
 refine ret_of_W Tryz.func99 rfl rfl rfl ?_
 refine W.seq ?_
 refine W.region rfl ?_
 refine zA (I 0) rfl ?_
 refine s_nil ?_
 refine W.seq ?_
 refine W.seq ?_
 refine W.region rfl ?_
 refine zM aa rfl ?_
 have bn := (ap).len_le
 refine s_val (x_lenS T62.und rfl ap) ?_
 refine zM (I 0) rfl ?_
 refine s_nil ?_
 refine W.block ?_
 obtain ⟨ba, aq, aK⟩ := M.e_bind hM
 obtain ⟨bo, aq⟩ := M.e_iter aq
 refine W.loop (fun m σ W => ∃ (s2 : Nat) (B_mem : Base) (ρ : Env), σ = upds ρ [(0, aa), (1, .func (.func 107) #[] #[Pq am]), (7, I (s.length : Int)), (8, I (s2 : Int))] /\ M.iterN (zch s ab ac ae ag ah ai aj) m s2 = some ba /\ St w W [cMem encDm ao B_mem (zaa ab ac ae ag ah ai aj)] R) ?_ ?_
 ·exact ⟨_, 0, B_b_f2020207, _, upds_of _ _ ⟨rfl, rfl, rfl, rfl, trivial⟩, aq, H⟩
 rintro bp σ bq ⟨s2, B_mem, ρ, rfl, aL, H⟩
 obtain ⟨bc, bf, br, hM, au⟩ := M.e_iterN aL
 simp only [zch] at hM
 clear aL
 refine W.seq ?_
 refine W.region rfl ?_
 refine zC (s2 : Int) (s.length : Int) (decide ((s2 : Int) < (s.length : Int))) rfl rfl rfl ?_
 refine s_nil ?_
 refine W.seq ?_
 refine W.cond (decide ((s2 : Int) < (s.length : Int))) rfl (fun ak => ?_) (fun ak => ?_)
 ·replace hM := M.e_t hM ak
  simp only [qy1, qy2, qy3, qy4, qy5, qy6, ne_eq, qy7] at ak
  refine W.skip ?_
  refine W.seq ?_
  refine W.block ?_
  refine W.seq ?_
  refine W.region rfl ?_
  refine zM (I (s2 : Int)) rfl ?_
  refine zA (I (s2 : Int)) rfl ?_
  refine s_nil ?_
  refine W.seq ?_
  refine W.region rfl ?_
  refine zM (.func (.func 107) #[] #[Pq am]) rfl ?_
  refine zM aa rfl ?_
  refine zM (I (s2 : Int)) rfl ?_
  obtain ⟨bg, hM⟩ := M.e_grd hM
  simp only [Bool.and_eq_true, decide_eq_true_eq] at bg
  refine s_val (x_ix (a := aa) (b := I (s2 : Int)) (v := vat aa 2 (Int.toNat (s2 : Int))) rfl rfl (Sl.ix (α := Dem) T62.und T62.size ap (by omega) (by omega))) ?_
  refine s_val (x_ld (p := vat aa 2 (Int.toNat (s2 : Int))) (v := .agg #[I ((s.getD s2 default).spring), I ((s.getD s2 default).town)]) rfl (ld_ag Ag61 Sz61 (At.mono (Dem_atA ap (i := (s2 : Int)) (by omega) (by omega)) (aO.at H)))) ?_
  obtain ⟨bt, bh, hM⟩ := M.e_bind hM
  refine s_callv (f := 107) rfl cf107 [.agg #[I ((s.getD s2 default).spring), I ((s.getD s2 default).town)]] rfl (zdS (s.getD s2 default) ab ac ae ag ah ai aj (aP.app _) aQ (aR.app _) aS (aT.app _) aU (aV.app _) aW (aX.app _) aY (aZ.app _) (a6.app _) (a7.app _) bh _ (H.gt 0)) ?_
  rintro vq bu ⟨r2, aM, bi, hvq, aN⟩
  subst bi
  subst vq
  try dsimp only at hM
  replace H := H.bk aN
  clear aN
  refine s_nil ?_
  refine W.cond r2 rfl (fun av => ?_) (fun av => ?_)
  ·replace hM := M.e_t hM av
   refine W.seq ?_
   refine W.region rfl ?_
   refine zM (I (s2 : Int)) rfl ?_
   refine zA (I (s2 : Int)) rfl ?_
   refine s_nil ?_
   refine W.ret ?_
   have bj := M.e_inr hM au
   subst bj
   replace hM := aK
   try dsimp only at hM
   have aw := M.e_pure hM
   exact ⟨_, resE_tmp rfl, ⟨(s2 : Int), aM, aw, rfl, H⟩⟩
  replace hM := M.e_f hM av
  refine W.skip ?_
  refine W.region rfl ?_
  refine zR (s2 : Int) 1 ((s2 : Int) + 1) rfl rfl rfl (by omega) ?_
  refine zM (I ((s2 : Int) + 1)) rfl ?_
  refine s_nil ?_
  exact ⟨bc, bf, s2 + 1, aM, _, upds_of _ _ ⟨rfl, rfl, rfl, rfl, trivial⟩, M.e_inl hM au, H⟩
 replace hM := M.e_f hM ak
 simp only [qy1, qy2, qy3, qy4, qy5, qy6, ne_eq, qy7] at ak
 refine W.exit ?_
 have bm := M.e_inr hM au
 subst bm
 replace hM := aK
 try dsimp only at hM
 refine W.seq ?_
 refine W.region rfl ?_
 refine zA (I (-1)) rfl ?_
 refine s_nil ?_
 refine W.ret ?_
 have aw := M.e_pure hM
 exact ⟨_, resE_tmp rfl, ⟨(-1), B_mem, aw, rfl, H⟩⟩

def zcL (s : List Dem) (aa : List Int) (ab : List Span) (ac : List Int) (ae : List Town) (ag : Int) (ah : Int) (ai : List Flood) : M Bool :=
  M.bind (zc5 s aa ab ac ae ag ah ai) fun r2 =>
  M.pure (decide (0 <= r2))
theorem zdj {R : List Chunk} {ao : Cells} {aj : Value} {ak : Nat} {ap : Nat} {aq : Nat} {au : Cells} {av : Value} {aw : Cells} {ax : Value} {ay : Cells} {az : Value} {aA : Cells} {aB : Value} {aC : Cells} {aD : Value} {am : Nat} {B_b_f2020207 : Base} (s : List Dem) (aa : List Int) (ab : List Span) (ac : List Int) (ae : List Town) (ag : Int) (ah : Int) (ai : List Flood) (aF : Reads R ao) (aG : Sl ao aj s) (aH : Reads R au) (aI : Sl au av aa) (aJ : Reads R aw) (aK : Sl aw ax ab) (aL : Reads R ay) (aM : Sl ay az ac) (aN : Reads R aA) (aO : Sl aA aB ae) (aP : Reads R aC) (aQ : Sl aC aD ai) (aR : Has R (cBlk aq [av, ax, az, aB, I ag, I ah, aD, .map (some am)] 111)) (aS : Has R (cBlk ap [.func (.func 81) #[Pq aq] #[]] 134)) (aT : Has R (cBlk ak [.func (.func 101) #[] #[Pq ap]] 133)) {r : Bool} (hM : (zcL s aa ab ac ae ag ah ai).Ends r) (w : World) (H : St w w [cMem encDm am B_b_f2020207 (zaa aa ab ac ae ag ah ai)] R) : Ret Tryz.prog 97 #[aj, .func (.func 107) #[] #[Pq ak]] w fun v w' => ∃ (y0 : Bool) (aU : Base), y0 = r /\ v = B y0 /\ St w w' [cMem encDm am aU (zaa aa ab ac ae ag ah ai)] R := by
 refine ret_of_W Tryz.func97 rfl rfl rfl ?_
 refine W.seq ?_
 refine W.region rfl ?_
 refine zA (B false) rfl ?_
 refine s_nil ?_
 refine W.seq ?_
 refine W.region rfl ?_
 refine zM aj rfl ?_
 refine zM (.func (.func 107) #[] #[Pq ak]) rfl ?_
 obtain ⟨aZ, aV, hM⟩ := M.e_bind hM
 refine s_call cf99 [aj, .func (.func 107) #[] #[Pq ak]] rfl (zdc s aa ab ac ae ag ah ai (aF.app _) aG (aH.app _) aI (aJ.app _) aK (aL.app _) aM (aN.app _) aO (aP.app _) aQ (aR.app _) (aS.app _) (aT.app _) aV _ (H.gt 0)) ?_
 rintro vq a6 ⟨r2, aW, aX, hvq, aE⟩
 subst aX
 subst vq
 try dsimp only at hM
 replace H := H.bk aE
 clear aE
 refine zC r2 0 (decide (0 <= r2)) rfl rfl rfl ?_
 refine zA (B (decide (0 <= r2))) rfl ?_
 refine s_nil ?_
 refine W.ret ?_
 have aY := M.e_pure hM
 exact ⟨_, resE_tmp rfl, ⟨(decide (0 <= r2)), aW, aY, rfl, H⟩⟩

def zcW (l : List Dem) (aa : List Int) (ab : List Span) (ac : List Int) (ae : List Town) (ag : Int) (ah : Int) (ai : List Flood) : M Bool :=
  M.bind (zcL l aa ab ac ae ag ah ai) fun r2 =>
  M.pure (!r2)
theorem zdd {R : List Chunk} {ao : Cells} {aj : Value} {ak : Nat} {ap : Nat} {aq : Cells} {au : Value} {av : Cells} {aw : Value} {ax : Cells} {ay : Value} {az : Cells} {aA : Value} {aB : Cells} {aC : Value} {am : Nat} {B_b_so20207 : Base} (l : List Dem) (aa : List Int) (ab : List Span) (ac : List Int) (ae : List Town) (ag : Int) (ah : Int) (ai : List Flood) (aF : Reads R ao) (aG : Sl ao aj l) (aH : Reads R aq) (aI : Sl aq au aa) (aJ : Reads R av) (aK : Sl av aw ab) (aL : Reads R ax) (aM : Sl ax ay ac) (aN : Reads R az) (aO : Sl az aA ae) (aP : Reads R aB) (aQ : Sl aB aC ai) (aR : Has R (cBlk ap [au, aw, ay, aA, I ag, I ah, aC, .map (some am)] 111)) (aS : Has R (cBlk ak [.func (.func 81) #[Pq ap] #[]] 134)) {r : Bool} (hM : (zcW l aa ab ac ae ag ah ai).Ends r) (w : World) (H : St w w [cMem encDm am B_b_so20207 (zaa aa ab ac ae ag ah ai)] R) : Ret Tryz.prog 90 #[aj, .func (.func 101) #[] #[Pq ak]] w fun v w' => ∃ (y0 : Bool) (aT : Base), y0 = r /\ v = B y0 /\ St w w' [cMem encDm am aT (zaa aa ab ac ae ag ah ai)] R := by
 refine ret_of_W Tryz.func90 rfl rfl rfl ?_
 refine W.seq ?_
 refine W.region rfl ?_
 refine t_box (v := .func (.func 101) #[] #[Pq ak]) (cs := [.func (.func 101) #[] #[Pq ak]]) H rfl rfl ?_
 intro aD aY H
 refine zA (B false) rfl ?_
 refine s_nil ?_
 refine W.seq ?_
 refine W.region rfl ?_
 refine zM aj rfl ?_
 refine s_val (x_mf (fs := []) (cs := [Pq aD]) rfl rfl) ?_
 obtain ⟨aZ, aU, hM⟩ := M.e_bind hM
 refine s_call cf97 [aj, .func (.func 107) #[] #[Pq aD]] rfl (zdj l aa ab ac ae ag ah ai (aF.app _) aG (aH.app _) aI (aJ.app _) aK (aL.app _) aM (aN.app _) aO (aP.app _) aQ (aR.app _) (aS.app _) (Has.here (k := 0) rfl) aU _ ((H.pk [1, 0]).gt 1)) ?_
 rintro vq a6 ⟨r2, aV, aW, hvq, aE⟩
 subst aW
 subst vq
 try dsimp only at hM
 replace H := H.pk [1, 0] |>.bk aE
 clear aE
 refine s_val (x_not (b := r2) rfl) ?_
 refine zA (B (!r2)) rfl ?_
 refine s_nil ?_
 refine W.ret ?_
 have aX := M.e_pure hM
 exact ⟨_, resE_tmp rfl, ⟨(!r2), aV, aX, rfl, (H.pk [0])⟩⟩

def za8 : Int -> (Int × Int) -> M (Int ⊕ Unit) := fun s (x, x2) =>
  M.grd (decide ((-9223372036854775808 : Int) <= (s + 1)) && decide ((s + 1) <= (9223372036854775807 : Int))) <|
  M.pure (.inl (s + 1))
def zb1 (d : Dem) (ah : List Int) (ai : List Span) (aj : List Int) (ak : List Town) (am : Int) (ao : Int) (ap : List Flood) (aa : List Int) (ab : List Span) (ac : List Int) (ae : List Town) (aq : Int) (au : Int) (ag : List Flood) : M Int :=
  M.bind (zaa ah ai aj ak am ao ap d) fun r2 =>
  M.grd (decide ((0 : Int) <= ((r2.length : Int) - 1)) && decide (((r2.length : Int) - 1) < (r2.length : Int))) <|
  M.bind (zap aa ab ac ae aq au ag (r2.getD (Int.toNat ((r2.length : Int) - 1)) 0)) fun (av, aw, ax) =>
  M.bind (zan (M.yl za8) (.inl 0) av aa ab ac ae aw ax ag) fun x_ => match x_ with
  | (.inl s, q0) => (
  M.pure s)
  | (.inr _, _) => M.fail
theorem zcR {R : List Chunk} {aW : Nat} {aH : Nat} {br : Cells} {bt : Value} {bu : Cells} {bv : Value} {bw : Cells} {bx : Value} {bz : Cells} {bA : Value} {bB : Cells} {bC : Value} {ak : Nat} {B_b_k0207 : Base} {aX : Nat} {ax : Nat} {bD : Cells} {am : Value} {bE : Cells} {ao : Value} {bF : Cells} {ap : Value} {bG : Cells} {aq : Value} {bH : Cells} {au : Value} {bP : Nat} (d : Dem) (ab : List Int) (ac : List Span) (ae : List Int) (ag : List Town) (ah : Int) (ai : Int) (aj : List Flood) (aI : List Int) (aJ : List Span) (aK : List Int) (aL : List Town) (aA : Int) (aB : Int) (aM : List Flood) (aY : Reads R br) (bI : Sl br bt ab) (aZ : Reads R bu) (bJ : Sl bu bv ac) (a6 : Reads R bw) (bK : Sl bw bx ae) (a7 : Reads R bz) (bL : Sl bz bA ag) (a8 : Reads R bB) (bM : Sl bB bC aj) (ba : Has R (cBlk aH [bt, bv, bx, bA, I ah, I ai, bC, .map (some ak)] 111)) (bc : Has R (cBlk aW [.func (.func 81) #[Pq aH] #[]] 134)) (aN : Reads R bD) (bf : Sl bD am aI) (aO : Reads R bE) (bg : Sl bE ao aJ) (aP : Reads R bF) (bh : Sl bF ap aK) (aQ : Reads R bG) (bi : Sl bG aq aL) (aR : Reads R bH) (bj : Sl bH au aM) (bm : Has R (cBlk ax [am, ao, ap, aq, I aA, I aB, au, .map (some bP)] 111)) (bn : Has R (cBlk aX [Pq ax] 94)) {r : Int} (hM : (zb1 d ab ac ae ag ah ai aj aI aJ aK aL aA aB aM).Ends r) (w : World) (H : St w w [cMem encDm ak B_b_k0207 (zaa ab ac ae ag ah ai aj)] R) : Ret Tryz.prog 102 #[.agg #[I d.spring, I d.town], Pq aW, Pq aX] w fun v w' => ∃ (y0 : Int) (bQ : Base), y0 = r /\ v = I y0 /\ St w w' [cMem encDm ak bQ (zaa ab ac ae ag ah ai aj)] R := by
 refine ret_of_WD Tryz.func102 rfl rfl rfl ?_
 replace H : St w w [cMk ([]), cMem encDm ak B_b_k0207 (zaa ab ac ae ag ah ai aj)] R := H.mk0
 have b8 := bI.len_le
 have b9 := bJ.len_le
 have ca := bK.len_le
 have cb := bL.len_le
 have cc := bM.len_le
 have ce := bf.len_le
 have cf := bg.len_le
 have cg := bh.len_le
 have ci := bi.len_le
 have cj := bj.len_le
 unfold zb1 at hM
 refine WD.seq ?_
 refine WD.of ?_
 refine W.region rfl ?_
 refine t_box (v := .agg #[I d.spring, I d.town]) (cs := [I d.spring, I d.town]) H rfl rfl ?_
 intro ay ck H
 refine zA (I 0) rfl ?_
 refine s_nil ?_
 refine WD.seq ?_
 refine WD.of ?_
 refine W.region rfl ?_
 refine s_val (x_ld (p := Pq aW) (v := .func (.func 81) #[Pq aH] #[]) rfl (ldb_sc Sc134 (bc.blk H) rfl)) ?_
 refine s_val (x_ld (p := Pq ay) (v := .agg #[I d.spring, I d.town]) rfl (ldb_ag (ds := [I d.spring, I d.town]) Ag61 Sz61 (H.bl 0) rfl rfl)) ?_
 obtain ⟨cl, bR, hM⟩ := M.e_bind hM
 refine s_callm (f := 81) (fs := [Pq aH]) rfl cf81 [.agg #[I d.spring, I d.town]] rfl (zbS ab ac ae ag ah ai aj d (aY.app _) bI (aZ.app _) bJ (a6.app _) bK (a7.app _) bL (a8.app _) bM (ba.app _) bR _ ((H.pk [2, 0, 1]).gt 2)) ?_
 rintro vq cm ⟨r2, aC, az, bS, hvq, aw, aS⟩
 subst bS
 subst vq
 try dsimp only at hM
 replace H := H.pk [2, 0, 1] |>.bk aw
 clear aw
 refine zA aC rfl ?_
 refine s_nil ?_
 refine WD.seq ?_
 refine WD.of ?_
 refine W.region rfl ?_
 refine t_alloc (cs := [I 0]) H Al3 rfl ?_
 intro av cn H
 refine t_sw 0 0 [I 0] (I 0) H rfl rfl Sz3 rfl rfl rfl rfl ?_
 intro co H
 refine s_nil ?_
 refine WD.seq ?_
 refine WD.seq ?_
 refine WD.of ?_
 refine W.draw (fun W => St w W [cBlk av [I 0] 3, cMem encDm ak az (zaa ab ac ae ag ah ai aj), cBlk ay [I d.spring, I d.town] 61, cMk ([])] R) [(0, true), (1, true), (2, true), (3, true), (4, true), (5, true), (6, true), (7, true), (8, true), (9, true), (10, false)] mixed (by decide +kernel) rfl ?_
 intro cp bN
 replace H := H.ext bN
 clear bN
 refine ⟨(H.pk [0, 1, 2, 3]), ?_⟩
 refine d_q rfl (fun w' H => x_ld (p := Pq aX) (v := Pq ax) rfl (ldb_sc Sc94 (bn.blk H) rfl)) ?_
 refine d_q rfl (fun w' H => x_nc (a := ⟨ax, 0, none⟩) rfl) ?_
 refine d_q rfl (fun w' H => x_fa (a := Pq ax) (v := Pq ax) rfl (fa_blk (o := 0) Fd111_0 Sz29)) ?_
 refine d_q rfl (fun w' H => x_ld (p := Pq ax) (v := .agg #[am, ao, ap, aq, I aA, I aB, au]) rfl (ldb_ag (ds := [am, ao, ap, aq, I aA, I aB, au]) Ag29 Sz29 (bm.blk H) rfl rfl)) ?_
 refine d_q rfl (fun w' H => x_mv (v := aC) rfl) ?_
 refine d_q rfl (fun w' H => x_mv (v := aC) rfl) ?_
 have cq := (aS).len_le
 refine d_q rfl (fun w' H => x_lenS T22.und rfl aS) ?_
 refine d_q rfl (fun w' H => x_ari (a := (r2.length : Int)) (b := 1) (r := (r2.length : Int) - 1) rfl rfl rfl (by omega)) ?_
 obtain ⟨bT, hM⟩ := M.e_grd hM
 simp only [Bool.and_eq_true, decide_eq_true_eq] at bT
 refine d_q rfl (fun w' H => x_ix (a := aC) (b := I ((r2.length : Int) - 1)) (v := vat aC 1 (Int.toNat ((r2.length : Int) - 1))) rfl rfl (Sl.ix (α := Int) T22.und T22.size aS (by omega) (by omega))) ?_
 refine d_q rfl (fun w' H => x_ld (p := vat aC 1 (Int.toNat ((r2.length : Int) - 1))) (v := I (r2.getD (Int.toNat ((r2.length : Int) - 1)) 0)) rfl (ld_sc Sc3 (At.mono (Int_at aS (i := (r2.length : Int) - 1) (by omega) (by omega)) (memLe _ (H.get (k := 1) rfl))))) ?_
 refine d_l rfl ?_
 obtain ⟨cr, bU, hM⟩ := M.e_bind hM
 refine s_call cf66 [.agg #[am, ao, ap, aq, I aA, I aB, au], I (r2.getD (Int.toNat ((r2.length : Int) - 1)) 0)] rfl (zbG aI aJ aK aL aA aB aM (r2.getD (Int.toNat ((r2.length : Int) - 1)) 0) (aN.app _) bf (aO.app _) bg (aP.app _) bh (aQ.app _) bi (aR.app _) bj bU _ (H.gt 4)) ?_
 rintro vq cu ⟨aT, aD, aE, aG, aF, bV, hvq, aw⟩
 subst bV
 subst vq
 try dsimp only at hM
 replace H := H.bk aw
 clear aw
 refine s_nil ⟨(H.pk [2, 3, 4, 5]), ?_⟩
 refine d_nil ?_
 refine WD.block ?_
 obtain ⟨cv, bW, hM⟩ := M.e_bind hM
 refine WD.range (L := [cBlk av [I 0] 3, cBlk aF [am, ao, ap, aq, I aD, I aE, au] 29, cMem encDm ak az (zaa ab ac ae ag ah ai aj), cBlk ay [I d.spring, I d.town] 61, cBlk aG [I aT] 3]) [Pq aG, Pq aF] (H.pk [5, 2, 1, 3, 4, 0]) rfl cf96 ?_
 intro aU bo bp bX bq H
 have hYC : YieldC Tryz.prog ([cMk (bo :: ([])), cBlk aF [am, ao, ap, aq, I aD, I aE, au] 29, cMem encDm ak az (zaa ab ac ae ag ah ai aj), cBlk ay [I d.spring, I d.town] 61] ++ R) arII (yJ aU bp (fun s aV => aV = [cBlk av [I s] 3]) (fun (_ : Unit) _ => False) (fun _ => .ret)) (.func (.yield aU) #[] #[]) (M.yl za8) := by
  refine YieldC.mk bq (fun s aV => aV = [cBlk av [I s] 3]) (fun (_ : Unit) _ => False) (fun _ => .ret) za8 (by rintro s _ h_; obtain ⟨rfl⟩ := h_; rfl) (fun _ _ h_ => h_.elim) rfl (arII_len rfl) ?_
  intro C_ cw x_ W_ bY
  obtain ⟨x, x2⟩ := x_
  obtain rfl := bY
  refine W.skip ?_
  refine ⟨rfl, rfl, ?_⟩
  intro w R aa aV s_ r bZ hM H
  skip
  obtain ⟨s, b3⟩ : ∃ y_, y_ = s_ := ⟨_, rfl⟩
  subst b3
  obtain ⟨rfl⟩ := bZ
  replace aY := aY.sub aa
  replace aZ := aZ.sub aa
  replace a6 := a6.sub aa
  replace a7 := a7.sub aa
  replace a8 := a8.sub aa
  replace ba := ba.sub aa
  replace bc := bc.sub aa
  replace aN := aN.sub aa
  replace aO := aO.sub aa
  replace aP := aP.sub aa
  replace aQ := aQ.sub aa
  replace aR := aR.sub aa
  replace bm := bm.sub aa
  replace bn := bn.sub aa
  replace hM : (za8 s (x, x2)).Ends r := hM
  simp only [za8] at hM
  replace H := H.pk [0, 2, 3, 4, 1]
  refine W.block ?_
  refine W.region rfl ?_
  refine s_val (x_ld (p := Pq av) (v := I s) rfl (ldb_sc Sc3 (H.bl 0) rfl)) ?_
  obtain ⟨b4, hM⟩ := M.e_grd hM
  simp only [Bool.and_eq_true, decide_eq_true_eq] at b4
  refine zR s 1 (s + 1) rfl rfl rfl (by omega) ?_
  refine t_sw 0 0 [I (s + 1)] (I (s + 1)) H rfl rfl Sz3 rfl rfl rfl rfl ?_
  intro cx H
  refine s_nil ?_
  exact ⟨s + 1, [cBlk av [I (s + 1)] 3], (M.e_pure hM).symm, rfl, H.pick [0, 4, 1, 2, 3] (by decide) rfl⟩
 replace H : St w bX (cAll (cObj aU (.loop bp) :: [cBlk av [I 0] 3]) :: [cBlk aG [I aT] 3, cMk (bo :: ([])), cBlk aF [am, ao, ap, aq, I aD, I aE, au] 29, cMem encDm ak az (zaa ab ac ae ag ah ai aj), cBlk ay [I d.spring, I d.town] 61]) R := St.bundleB (A := cObj aU (.loop bp) :: [cBlk av [I 0] 3]) (T := [cBlk aG [I aT] 3, cMk (bo :: ([])), cBlk aF [am, ao, ap, aq, I aD, I aE, au] 29, cMem encDm ak az (zaa ab ac ae ag ah ai aj), cBlk ay [I d.spring, I d.town] 61]) rfl (H.pk [0, 2, 6, 1, 3, 4, 5])
 refine (zbL (M.yl za8) (.inl 0) aT aI aJ aK aL aD aE aM hYC ⟨_, rfl, rfl⟩ (aN.app _) bf (aO.app _) bg (aP.app _) bh (aQ.app _) bi (aR.app _) bj (Has.here (k := 1) rfl) bW _ (H.gt 4)).mono ?_
 rintro vq cy ⟨b5, q0, cz, b6, hvq, aw, bO⟩
 subst b6
 replace H := H.back aw rfl
 clear aw hYC
 rcases b5 with s | _
 ·try dsimp only at hM
  obtain ⟨_, rfl, rfl⟩ := bO
  refine ⟨_, [cBlk av [I s] 3, cBlk aF [am, ao, ap, aq, I aD, I aE, au] 29, cMem encDm ak az (zaa ab ac ae ag ah ai aj), cBlk ay [I d.spring, I d.town] 61, cBlk aG [I q0] 3], H.unbundle.pick [0, 3, 1, 4, 5, 6, 2] (by decide) rfl, bq.nb, ?_⟩
  intro cA H
  rw [bq.pd]
  replace H := H.nf
  try simp only []
  replace H := H.pk [0, 1, 3]
  refine WD.seq ?_
  refine WD.of ?_
  refine W.region rfl ?_
  refine s_val (x_ld (p := Pq av) (v := I s) rfl (ldb_sc Sc3 (H.bl 1) rfl)) ?_
  refine zA (I s) rfl ?_
  refine s_nil ?_
  refine WD.of ?_
  refine W.ret ?_
  refine bodyD_r (H.pk [0, 1, 2]) ?_
  intro cB H
  replace H := H.nf
  have b7 := M.e_pure hM
  exact ⟨_, resE_tmp rfl, ⟨s, az, b7, rfl, (H.pk [1])⟩⟩
 obtain ⟨_, _, h_⟩ := bO; exact h_.elim

def m_cmp_isNaN_int (x : Int) : M Bool :=
  M.pure (x != x)
theorem cmp_isNaN_int_ok {R : List Chunk}  (x : Int)  {r : Bool} (hM : (m_cmp_isNaN_int x).Ends r) (w : World) (H : St w w [] R) : Ret Tryz.prog 110 #[I x] w fun v w' => ∃ (y0 : Bool), y0 = r /\ v = B y0 /\ St w w' [] R := by
 refine ret_of_W Tryz.func110 rfl rfl rfl ?_
 refine W.seq ?_
 refine W.region rfl ?_
 refine zA (B false) rfl ?_
 refine s_nil ?_
 refine W.seq ?_
 refine W.region rfl ?_
 refine zM (I x) rfl ?_
 refine zM (I x) rfl ?_
 refine zC x x (x != x) rfl rfl rfl ?_
 refine zA (B (x != x)) rfl ?_
 refine s_nil ?_
 refine W.ret ?_
 have aa := M.e_pure hM
 exact ⟨_, resE_tmp rfl, ⟨(x != x), aa, rfl, H⟩⟩

def m_cmp_Compare_int (x : Int) (y : Int) : M Int :=
  M.bind (m_cmp_isNaN_int x) fun r2 =>
  M.bind (m_cmp_isNaN_int y) fun r3 =>
  bif r2 then (
  bif r3 then (
  M.pure 0)
  else (
  M.pure (-1)))
  else (
  bif r3 then (
  M.pure 1)
  else (
  bif decide (x < y) then (
  M.pure (-1))
  else (
  bif decide (y < x) then (
  M.pure 1)
  else (
  M.pure 0))))
theorem cmp_Compare_int_ok {R : List Chunk}  (x : Int) (y : Int)  {r : Int} (hM : (m_cmp_Compare_int x y).Ends r) (w : World) (H : St w w [] R) : Ret Tryz.prog 105 #[I x, I y] w fun v w' => ∃ (y0 : Int), y0 = r /\ v = I y0 /\ St w w' [] R := by
 refine ret_of_W Tryz.func105 rfl rfl rfl ?_
 refine W.seq ?_
 refine W.region rfl ?_
 refine zA (I 0) rfl ?_
 refine s_nil ?_
 refine W.seq ?_
 refine W.region rfl ?_
 refine zM (I x) rfl ?_
 obtain ⟨ap, aj, hM⟩ := M.e_bind hM
 refine s_call cf110 [I x] rfl (cmp_isNaN_int_ok x aj _ (H.gt 0)) ?_
 rintro vq aq ⟨r2, ak, hvq, ab⟩
 subst ak
 subst vq
 try dsimp only at hM
 replace H := H.bk ab
 clear ab
 refine zA (B r2) rfl ?_
 refine s_nil ?_
 refine W.seq ?_
 refine W.region rfl ?_
 refine zM (I y) rfl ?_
 obtain ⟨au, am, hM⟩ := M.e_bind hM
 refine s_call cf110 [I y] rfl (cmp_isNaN_int_ok y am _ (H.gt 0)) ?_
 rintro vq av ⟨r3, ao, hvq, ab⟩
 subst ao
 subst vq
 try dsimp only at hM
 replace H := H.bk ab
 clear ab
 refine zA (B r3) rfl ?_
 refine s_nil ?_
 refine W.seq ?_
 refine W.seq ?_
 refine W.region rfl ?_
 refine zM (B r2) rfl ?_
 refine s_nil ?_
 refine W.cond r2 rfl (fun ag => ?_) (fun ag => ?_)
 ·replace hM := M.e_t hM ag
  refine W.seq ?_
  refine W.seq ?_
  refine W.region rfl ?_
  refine zM (B r3) rfl ?_
  refine s_nil ?_
  refine W.cond r3 rfl (fun ah => ?_) (fun ah => ?_)
  ·replace hM := M.e_t hM ah
   refine W.seq ?_
   refine W.region rfl ?_
   refine zA (I 0) rfl ?_
   refine s_nil ?_
   refine W.ret ?_
   have aa := M.e_pure hM
   exact ⟨_, resE_tmp rfl, ⟨0, aa, rfl, H⟩⟩
  replace hM := M.e_f hM ah
  refine W.skip ?_
  refine W.seq ?_
  refine W.region rfl ?_
  refine zA (I (-1)) rfl ?_
  refine s_nil ?_
  refine W.ret ?_
  have aa := M.e_pure hM
  exact ⟨_, resE_tmp rfl, ⟨(-1), aa, rfl, H⟩⟩
 replace hM := M.e_f hM ag
 refine W.skip ?_
 refine W.seq ?_
 refine W.seq ?_
 refine W.region rfl ?_
 refine zM (B r3) rfl ?_
 refine s_nil ?_
 refine W.cond r3 rfl (fun ai => ?_) (fun ai => ?_)
 ·replace hM := M.e_t hM ai
  refine W.seq ?_
  refine W.region rfl ?_
  refine zA (I 1) rfl ?_
  refine s_nil ?_
  refine W.ret ?_
  have aa := M.e_pure hM
  exact ⟨_, resE_tmp rfl, ⟨1, aa, rfl, H⟩⟩
 replace hM := M.e_f hM ai
 refine W.skip ?_
 refine W.seq ?_
 refine W.seq ?_
 refine W.region rfl ?_
 refine zM (I x) rfl ?_
 refine zM (I y) rfl ?_
 refine zC x y (decide (x < y)) rfl rfl rfl ?_
 refine s_nil ?_
 refine W.cond (decide (x < y)) rfl (fun ac => ?_) (fun ac => ?_)
 ·replace hM := M.e_t hM ac
  simp only [qy1, qy2, qy3, qy4, qy5, qy6, ne_eq, qy7] at ac
  refine W.seq ?_
  refine W.region rfl ?_
  refine zA (I (-1)) rfl ?_
  refine s_nil ?_
  refine W.ret ?_
  have aa := M.e_pure hM
  exact ⟨_, resE_tmp rfl, ⟨(-1), aa, rfl, H⟩⟩
 replace hM := M.e_f hM ac
 simp only [qy1, qy2, qy3, qy4, qy5, qy6, ne_eq, qy7] at ac
 refine W.skip ?_
 refine W.seq ?_
 refine W.seq ?_
 refine W.region rfl ?_
 refine zM (I x) rfl ?_
 refine zM (I y) rfl ?_
 refine zC x y (decide (y < x)) rfl rfl rfl ?_
 refine s_nil ?_
 refine W.cond (decide (y < x)) rfl (fun ae => ?_) (fun ae => ?_)
 ·replace hM := M.e_t hM ae
  simp only [qy1, qy2, qy3, qy4, qy5, qy6, ne_eq, qy7] at ae
  refine W.seq ?_
  refine W.region rfl ?_
  refine zA (I 1) rfl ?_
  refine s_nil ?_
  refine W.ret ?_
  have aa := M.e_pure hM
  exact ⟨_, resE_tmp rfl, ⟨1, aa, rfl, H⟩⟩
 replace hM := M.e_f hM ae
 simp only [qy1, qy2, qy3, qy4, qy5, qy6, ne_eq, qy7] at ae
 refine W.skip ?_
 refine W.seq ?_
 refine W.region rfl ?_
 refine zA (I 0) rfl ?_
 refine s_nil ?_
 refine W.ret ?_
 have aa := M.e_pure hM
 exact ⟨_, resE_tmp rfl, ⟨0, aa, rfl, H⟩⟩

def zcO (a : Dem) (b : Dem) (aa : List Int) (ab : List Span) (ac : List Int) (ae : List Town) (ag : Int) (ah : Int) (ai : List Flood) (aj : List Int) (ak : List Span) (am : List Int) (ao : List Town) (ap : Int) (aq : Int) (au : List Flood) : M Int :=
  M.bind (zb1 b aa ab ac ae ag ah ai aj ak am ao ap aq au) fun r2 =>
  M.bind (zb1 a aa ab ac ae ag ah ai aj ak am ao ap aq au) fun r3 =>
  M.bind (m_cmp_Compare_int r2 r3) fun r4 =>
  M.pure r4
theorem zdx {R : List Chunk} {ak : Nat} {am : Nat} {aA : Nat} {aB : Cells} {aC : Value} {aD : Cells} {aE : Value} {aF : Cells} {aG : Value} {aH : Cells} {aI : Value} {aJ : Cells} {aK : Value} {az : Nat} {B_b_k020207 : Base} {ao : Nat} {aL : Nat} {aM : Cells} {aN : Value} {aO : Cells} {aP : Value} {aQ : Cells} {aR : Value} {aS : Cells} {aT : Value} {aU : Cells} {aV : Value} {bC : Nat} (a : Dem) (b : Dem) (ab : List Int) (ac : List Span) (ae : List Int) (ag : List Town) (ah : Int) (ai : Int) (aj : List Flood) (ap : List Int) (aq : List Span) (au : List Int) (av : List Town) (aw : Int) (ax : Int) (ay : List Flood) (aW : Reads R aB) (aX : Sl aB aC ab) (aY : Reads R aD) (aZ : Sl aD aE ac) (a6 : Reads R aF) (a7 : Sl aF aG ae) (a8 : Reads R aH) (ba : Sl aH aI ag) (bc : Reads R aJ) (bf : Sl aJ aK aj) (bg : Has R (cBlk aA [aC, aE, aG, aI, I ah, I ai, aK, .map (some az)] 111)) (bh : Has R (cBlk am [.func (.func 81) #[Pq aA] #[]] 134)) (bi : Reads R aM) (bj : Sl aM aN ap) (bm : Reads R aO) (bn : Sl aO aP aq) (bo : Reads R aQ) (bp : Sl aQ aR au) (bq : Reads R aS) (br : Sl aS aT av) (bt : Reads R aU) (bu : Sl aU aV ay) (bv : Has R (cBlk aL [aN, aP, aR, aT, I aw, I ax, aV, .map (some bC)] 111)) (bw : Has R (cBlk ao [Pq aL] 94)) (bx : Has R (cBlk ak [.func (.func 102) #[] #[Pq am, Pq ao]] 146)) {r : Int} (hM : (zcO a b ab ac ae ag ah ai aj ap aq au av aw ax ay).Ends r) (w : World) (H : St w w [cMem encDm az B_b_k020207 (zaa ab ac ae ag ah ai aj)] R) : Ret Tryz.prog 104 #[.agg #[I a.spring, I a.town], .agg #[I b.spring, I b.town], Pq ak] w fun v w' => ∃ (y0 : Int) (bD : Base), y0 = r /\ v = I y0 /\ St w w' [cMem encDm az bD (zaa ab ac ae ag ah ai aj)] R := by
 refine ret_of_W Tryz.func104 rfl rfl rfl ?_
 refine W.seq ?_
 refine W.region rfl ?_
 refine t_box (v := .agg #[I a.spring, I a.town]) (cs := [I a.spring, I a.town]) H rfl rfl ?_
 intro bz bM H
 refine t_box (v := .agg #[I b.spring, I b.town]) (cs := [I b.spring, I b.town]) H rfl rfl ?_
 intro bA bN H
 refine zA (I 0) rfl ?_
 refine s_nil ?_
 refine W.seq ?_
 refine W.draw (fun W => St w W [cBlk bA [I b.spring, I b.town] 61, cBlk bz [I a.spring, I a.town] 61] R) [(0, true), (1, true), (3, true), (4, true), (2, false), (5, false), (6, false), (7, true)] mixed (by decide +kernel) rfl ?_
 intro bO bB
 replace H := H.ext bB
 clear bB
 refine ⟨(H.pk [0, 1]), ?_⟩
 refine d_q rfl (fun w' H => x_ld (p := Pq ak) (v := .func (.func 102) #[] #[Pq am, Pq ao]) rfl (ldb_sc Sc146 (bx.blk H) rfl)) ?_
 refine d_q rfl (fun w' H => x_ld (p := Pq bA) (v := .agg #[I b.spring, I b.town]) rfl (ldb_ag (ds := [I b.spring, I b.town]) Ag61 Sz61 (H.bl 0) rfl rfl)) ?_
 refine d_q rfl (fun w' H => x_ld (p := Pq ak) (v := .func (.func 102) #[] #[Pq am, Pq ao]) rfl (ldb_sc Sc146 (bx.blk H) rfl)) ?_
 refine d_q rfl (fun w' H => x_ld (p := Pq bz) (v := .agg #[I a.spring, I a.town]) rfl (ldb_ag (ds := [I a.spring, I a.town]) Ag61 Sz61 (H.bl 1) rfl rfl)) ?_
 refine d_l rfl ?_
 obtain ⟨bP, bE, hM⟩ := M.e_bind hM
 refine s_callv (f := 102) rfl cf102 [.agg #[I b.spring, I b.town]] rfl (zcR b ab ac ae ag ah ai aj ap aq au av aw ax ay (aW.app _) aX (aY.app _) aZ (a6.app _) a7 (a8.app _) ba (bc.app _) bf (bg.app _) (bh.app _) (bi.app _) bj (bm.app _) bn (bo.app _) bp (bq.app _) br (bt.app _) bu (bv.app _) (bw.app _) bE _ ((H.pk [2, 0, 1]).gt 2)) ?_
 rintro vq bQ ⟨r2, bR, bF, hvq, aa⟩
 subst bF
 subst vq
 try dsimp only at hM
 replace H := H.pk [2, 0, 1] |>.bk aa
 clear aa
 refine s_nil ⟨(H.pk [1, 2]), ?_⟩
 refine d_l rfl ?_
 obtain ⟨bS, bG, hM⟩ := M.e_bind hM
 refine s_callv (f := 102) rfl cf102 [.agg #[I a.spring, I a.town]] rfl (zcR a ab ac ae ag ah ai aj ap aq au av aw ax ay (aW.app _) aX (aY.app _) aZ (a6.app _) a7 (a8.app _) ba (bc.app _) bf (bg.app _) (bh.app _) (bi.app _) bj (bm.app _) bn (bo.app _) bp (bq.app _) br (bt.app _) bu (bv.app _) (bw.app _) bG _ (H.gt 2)) ?_
 rintro vq bT ⟨r3, bH, bI, hvq, aa⟩
 subst bI
 subst vq
 try dsimp only at hM
 replace H := H.bk aa
 clear aa
 refine s_nil ⟨(H.pk [1, 2]), ?_⟩
 refine d_l rfl ?_
 obtain ⟨bU, bJ, hM⟩ := M.e_bind hM
 refine s_call cf105 [I r2, I r3] rfl (cmp_Compare_int_ok r2 r3 bJ _ (H.gt 3)) ?_
 rintro vq bV ⟨r4, bK, hvq, aa⟩
 subst bK
 subst vq
 try dsimp only at hM
 replace H := H.bk aa
 clear aa
 refine s_nil ⟨(H.pk [1, 2]), ?_⟩
 refine d_q rfl (fun w' H => x_as (v := I r4) rfl) ?_
 refine d_nil ?_
 replace H := H.pk [0]
 refine W.ret ?_
 have bL := M.e_pure hM
 exact ⟨_, resE_tmp rfl, ⟨r4, bH, bL, rfl, H⟩⟩

end Go.Proofs.YtbaehghammbjdaaGreat
end
