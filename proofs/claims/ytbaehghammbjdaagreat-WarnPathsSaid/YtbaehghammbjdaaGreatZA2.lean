/- Part 2 of the texts on which the proof rests. Conditions: none. -/
import Derived.Test.YtbaehghammbjdaaGreatProg
import Derived.Shelf.SlIterI.Nil
import Derived.Shelf.SortM.Plain
import Derived.Shelf.SortM.SortNone
import Derived.WideKeyRuns
import Derived.Test.YtbaehghammbjdaaGreatZA1
set_option linter.unusedVariables false
set_option linter.unusedSimpArgs false
set_option linter.unusedSectionVars false
namespace Go.Proofs
open Go.RowKit Go.Maps Go.Sort Go.Shelf
def Tryz.sortA_ren : Go.Shelf.Ren := ⟨fun | 5 => 106 | 7 => 111 | 8 => 112 | 10 => 115 | 11 => 116 | 12 => 117 | 13 => 118 | 14 => 119 | 15 => 120 | 16 => 121 | 17 => 122 | 18 => 123 | 19 => 124 | 20 => 125 | 30 => 127 | 31 => 128 | 32 => 129 | 33 => 130 | 34 => 131 | 35 => 110 | 40 => 133 | n => n, fun | 0 => 0 | 3 => 3 | 4 => 4 | 5 => 5 | 9 => 9 | 22 => 22 | 23 => 22 | 25 => 3 | 32 => 155 | 35 => 159 | 36 => 160 | 41 => 164 | 44 => 167 | 46 => 169 | 53 => 170 | 57 => 174 | 63 => 176 | 64 => 177 | n => n, fun | n => n⟩
theorem Tryz.sortA : Go.Proofs.SlLaysM.n5 Tryz.prog Tryz.sortA_ren := {
  mixed := by kernel_rfl
  f5 := ⟨"slices.Sort[[]int,int]", by kernel_rfl, Tryz.func106.trans (congrArg some (by kernel_rfl))⟩
  f7 := ⟨"slices.pdqsortOrdered[int]", by kernel_rfl, Tryz.func111.trans (congrArg some (by kernel_rfl))⟩
  f8 := Tryz.func112.trans (congrArg some (by kernel_rfl))
  f10 := ⟨"slices.insertionSortOrdered[int]", by kernel_rfl, Tryz.func115.trans (congrArg some (by kernel_rfl))⟩
  f11 := ⟨"slices.heapSortOrdered[int]", by kernel_rfl, Tryz.func116.trans (congrArg some (by kernel_rfl))⟩
  f12 := ⟨"slices.breakPatternsOrdered[int]", by kernel_rfl, Tryz.func117.trans (congrArg some (by kernel_rfl))⟩
  f13 := ⟨"slices.choosePivotOrdered[int]", by kernel_rfl, Tryz.func118.trans (congrArg some (by kernel_rfl))⟩
  f14 := ⟨"slices.reverseRangeOrdered[int]", by kernel_rfl, Tryz.func119.trans (congrArg some (by kernel_rfl))⟩
  f15 := ⟨"slices.partialInsertionSortOrdered[int]", by kernel_rfl, Tryz.func120.trans (congrArg some (by kernel_rfl))⟩
  f16 := ⟨"cmp.Less[int]", by kernel_rfl, Tryz.func121.trans (congrArg some (by kernel_rfl))⟩
  f17 := ⟨"slices.partitionEqualOrdered[int]", by kernel_rfl, Tryz.func122.trans (congrArg some (by kernel_rfl))⟩
  f18 := ⟨"slices.partitionOrdered[int]", by kernel_rfl, Tryz.func123.trans (congrArg some (by kernel_rfl))⟩
  f19 := Tryz.func124.trans (congrArg some (by kernel_rfl))
  f20 := Tryz.func125.trans (congrArg some (by kernel_rfl))
  f30 := ⟨"slices.siftDownOrdered[int]", by kernel_rfl, Tryz.func127.trans (congrArg some (by kernel_rfl))⟩
  f31 := Tryz.func128.trans (congrArg some (by kernel_rfl))
  f32 := Tryz.func129.trans (congrArg some (by kernel_rfl))
  f33 := ⟨"slices.medianAdjacentOrdered[int]", by kernel_rfl, Tryz.func130.trans (congrArg some (by kernel_rfl))⟩
  f34 := ⟨"slices.medianOrdered[int]", by kernel_rfl, Tryz.func131.trans (congrArg some (by kernel_rfl))⟩
  f35 := ⟨"cmp.isNaN[int]", by kernel_rfl, Tryz.func110.trans (congrArg some (by kernel_rfl))⟩
  f40 := ⟨"slices.order2Ordered[int]", by kernel_rfl, Tryz.func133.trans (congrArg some (by kernel_rfl))⟩
  t0 := Tryz.underlying0
  a0 := Tryz.isAgg0
  z0 := Tryz.sizeOf0
  v0 := Tryz.zeroValue0
  t3 := Tryz.underlying3
  a3 := Tryz.isAgg3
  z3 := Tryz.sizeOf3
  v3 := Tryz.zeroValue3
  t4 := Tryz.underlying4
  a4 := Tryz.isAgg4
  z4 := Tryz.sizeOf4
  v4 := Tryz.zeroValue4
  t5 := Tryz.underlying5
  a5 := Tryz.isAgg5
  z5 := Tryz.sizeOf5
  v5 := Tryz.zeroValue5
  t9 := Tryz.underlying9
  a9 := Tryz.isAgg9
  z9 := Tryz.sizeOf9
  v9 := Tryz.zeroValue9
  t22 := Tryz.underlying22
  a22 := Tryz.isAgg22
  z22 := Tryz.sizeOf22
  v22 := Tryz.zeroValue22
  t23 := Tryz.underlying22
  a23 := Tryz.isAgg22
  z23 := Tryz.sizeOf22
  v23 := Tryz.zeroValue22
  t25 := Tryz.underlying3
  a25 := Tryz.isAgg3
  z25 := Tryz.sizeOf3
  v25 := Tryz.zeroValue3
  t32 := Tryz.underlying155
  a32 := Tryz.isAgg155
  z32 := Tryz.sizeOf155
  v32 := Tryz.zeroValue155
  t35 := Tryz.underlying159
  a35 := Tryz.isAgg159
  z35 := Tryz.sizeOf159
  v35 := Tryz.zeroValue159
  t36 := Tryz.underlying160
  a36 := Tryz.isAgg160
  z36 := Tryz.sizeOf160
  v36 := Tryz.zeroValue160
  t41 := Tryz.underlying164
  a41 := Tryz.isAgg164
  z41 := Tryz.sizeOf164
  v41 := Tryz.zeroValue164
  t44 := Tryz.underlying167
  a44 := Tryz.isAgg167
  z44 := Tryz.sizeOf167
  v44 := Tryz.zeroValue167
  t46 := Tryz.underlying169
  a46 := Tryz.isAgg169
  z46 := Tryz.sizeOf169
  v46 := Tryz.zeroValue169
  t53 := Tryz.underlying170
  a53 := Tryz.isAgg170
  z53 := Tryz.sizeOf170
  v53 := Tryz.zeroValue170
  t57 := Tryz.underlying174
  a57 := Tryz.isAgg174
  z57 := Tryz.sizeOf174
  v57 := Tryz.zeroValue174
  t63 := Tryz.underlying176
  a63 := Tryz.isAgg176
  z63 := Tryz.sizeOf176
  v63 := Tryz.zeroValue176
  t64 := Tryz.underlying177
  a64 := Tryz.isAgg177
  z64 := Tryz.sizeOf177
  v64 := Tryz.zeroValue177 }

end Go.Proofs
namespace Go.Nm
open Go
theorem OwnF.row {B : Nat} {e : TypeId} {w : World} {l : List Int} {g cap : Nat} {cur : Array Value} (ho : OwnF B e w (.slice (some ⟨g, 0, none⟩) l.length cap) l) (hg : w.heap[g]? = some (.cells cur e (0, 0)))
    (hcs : l.length <= cap) (hsz : cur.size = cap) (hb : B <= g) (hm : cap <= maxLen) (d : Array Int) (hl : d.size = l.length) (q : Nat) :
    OwnF B e (Sort.putRow (Value.int .i64) (Sort.ahead w q) g 0 d) (.slice (some ⟨g, 0, none⟩) l.length cap) d.toList /\ Grow B (.slice (some ⟨g, 0, none⟩) l.length cap) w (Sort.putRow (Value.int .i64) (Sort.ahead w q) g 0 d) := by
  have hs1 : Elt.sz Int = 1 := rfl
  have h1 : (Sort.putRow (Value.int .i64) (Sort.ahead w q) g 0 d).heap[g]? = some (.cells (Sort.putCells (Value.int .i64) 0 d cur) e (0, 0)) := by
    show (w.heap.modify g _)[g]? = _
    rw [Array.getElem?_modify, if_pos rfl, hg]
    rfl
  have h2 : ∀ k, k ≠ g -> (Sort.putRow (Value.int .i64) (Sort.ahead w q) g 0 d).heap[k]? = w.heap[k]? := by
    intro k hk
    show (w.heap.modify g _)[k]? = _
    rw [Array.getElem?_modify, if_neg (fun h => hk h.symm)]
  refine ⟨⟨by rw [enc_ints]; simp [hs1], .inr ⟨g, cap, _, by simp [hl], hb, h1, by simp [hl]; omega, hm, by simp [hs1, Sort.putCells]; omega, ?_⟩⟩, ⟨rfl, rfl, by simp [Sort.putRow, Sort.mapBlock, Sort.ahead], fun k _ hk => ?_, fun g' hg' => (ho.lt g' hg').1, fun a => by simp⟩⟩
  · rw [enc_ints, hs1]
    apply List.ext_getElem?
    intro i
    rw [List.getElem?_take, List.getElem?_map]
    by_cases hi : i < d.toList.length * 1
    · rw [if_pos hi]
      have hi' : i < d.size := by simpa using hi
      have hc : i < cur.size := by omega
      simp [Sort.putCells, hi', hc]
    · rw [if_neg hi, List.getElem?_eq_none (by simpa using hi)]
      rfl
  · refine h2 k (fun e' => hk ?_)
    rw [e']
    rfl
end Go.Nm
namespace Go.Proofs.YtbaehghammbjdaaGreat
open Go Go.Nm Go.Proofs
theorem sort_any {w : World} {v : Value} {l : List Int} (ho : OwnF 0 3 w v l) (hl : l.length <= 1000000) : Ret Tryz.prog 106 #[v] w fun u w' => u = .tuple #[] /\ OwnF 0 3 w' v (isort l) /\ Keep w w' /\ ∀ b, b < w.heap.size -> v.ownBlock ≠ some b -> w'.heap[b]? = w.heap[b]? := by
  have ho' := ho
  rcases ho.2 with ⟨rfl, hn⟩ | ⟨g, cap, cur, rfl, hb, hg, hc, hm, hcs, htake⟩
  · obtain rfl := List.length_eq_zero_iff.1 hn
    have h := AnyM.slices_Sort_int_none Tryz.sortA none 0 w
    refine Calls.mono h ?_
    rintro _ w' ⟨rfl, rfl⟩
    exact ⟨_, rfl, rfl, ho, Keep.refl _, fun _ _ _ => rfl⟩
  · have hs1 : Elt.sz Int = 1 := rfl
    rw [hs1] at hcs htake
    rw [enc_ints] at htake
    have hcell : ∀ j, j < l.length -> w.cell? ⟨g, 0 + j, none⟩ = some (.int .i64 (l.getD j 0)) := by
      intro j hj
      rw [Nat.zero_add, cell_of_row w g j cur 3 (0, 0) hg]
      have h1 : (cur.toList.take (l.length * 1))[j]? = (l.map I)[j]? := by rw [htake]
      rw [List.getElem?_take, if_pos (by omega), List.getElem?_map, getD_some l hj 0] at h1
      simpa using h1
    have hH : Sort.Holds (Value.int .i64) w g 0 l.toArray := by
      intro j hj
      have hj : j < l.length := by simpa using hj
      refine ⟨?_, by simp [World.frozen?, hg]⟩
      rw [hcell j hj]
      have : l.getD j 0 = l.toArray[j]! := by
        rw [List.getD_eq_getElem?_getD, List.getElem?_eq_getElem hj]
        simp [getElem!_pos, hj]
      rw [this]
    have h := AnyM.slices_Sort_int Tryz.sortA g 0 cap l w hH (heap_lt hg) (by omega)
    refine Calls.mono h ?_
    rintro _ w' ⟨rfl, q, os, rfl⟩
    rw [merge_isort (List.Perm.refl l)]
    have hlen : (isort l).length = l.length := (isort_perm l).length_eq
    obtain ⟨h1, h2⟩ := OwnF.row ho hg hc (by omega) hb hm (isort l).toArray (by simp [hlen]) q
    have hlt : g < (Sort.putRow (Value.int .i64) (Sort.ahead w q) g 0 (isort l).toArray).heap.size := Nat.lt_of_lt_of_le (heap_lt hg) h2.size
    refine ⟨_, rfl, rfl, ?_, ⟨h2.os, h2.out, by rw [Sort.size_grow]; exact Nat.le_trans h2.size (Nat.le_add_right _ _)⟩, fun b hb' hne => ?_⟩
    · rcases h1 with ⟨h3, h4 | ⟨g', cap', cur', h5, h6, h7, h8⟩⟩
      · exact absurd h4.1 (by simp)
      · simp only [Value.slice.injEq, Option.some.injEq, Addr.mk.injEq, and_true] at h5
        obtain ⟨rfl, _, rfl⟩ := h5
        refine ⟨h3, .inr ⟨g, cap, cur', by simp [hlen], h6, by rw [Sort.heap_grow_old _ _ hlt]; exact h7, h8⟩⟩
    · rw [Sort.heap_grow_old _ _ (Nat.lt_of_lt_of_le hb' h2.size)]
      exact h2.blk b hb' hne
end Go.Proofs.YtbaehghammbjdaaGreat
namespace Go.Nm
open Go
theorem St.sorted {w0 w w' : World} {L L' R : List Chunk} {k : Nat} {v : Value} {l l' : List Int} {e : TypeId} (H : St w0 w L R) (hk : L[k]? = some (cOwn (α := Int) e v l)) (ho : OwnF 0 e w' v l') (kp : Keep w w') (hs : ∀ b, b < w.heap.size -> v.ownBlock ≠ some b -> w'.heap[b]? = w.heap[b]?)
    (hl : L.set k (cOwn (α := Int) e v l') = L') : St w0 w' L' R :=
  H.set (c' := cOwn (α := Int) e v l') hk rfl kp hs (fun b hb => .inl hb) ho hl
end Go.Nm
namespace Go.Nm
open Go
end Go.Nm
namespace Go.Nm
open Go
section
variable {P : Program} {w : World} {σ : Env} {d : Nat} {ty : TypeId} {pos : String} {af : Array Edge} {g : Option (Nat × Bool)}
end
end Go.Nm
namespace Go.Nm
open Go
section
variable {P : Program} {ops : Array Oper} {md : Region.Mode} {C : World -> Prop} {z : Nat}
end
section
variable {P : Program} {all : List Oper} {C : World -> Prop} {z : Nat} {Q : Post} {r : List Nat} {σ : Env} {w : World}
end
end Go.Nm
namespace Go.Nm
open Go
section
variable {P : Program} {ops : Array Oper} {md : Region.Mode} {C : World -> Prop} {z : Nat}
end
section
variable {P : Program} {all : List Oper} {C : World -> Prop} {z : Nat} {Q : Post} {r r2 : Ord} {σ : Env} {w : World}
end
end Go.Nm
namespace Go.Nm
open Go
section
set_option linter.unusedSectionVars false
variable {α β : Type} [Flat α] [Flat β] [Inhabited β] {iv : β -> Value} {e1 e2 : TypeId} {v : Value} {us : List β} {T : List (List α)} {w0 w : World} {L L' R : List Chunk}
variable {P : Program} {all rest : List Oper} {Q : Post} {σ : Env} {d : Nat} {ty : TypeId} {pos : String} {af : Array Edge}
end
end Go.Nm
namespace Go.Nm
open Go
/-- A map of slices, with the rows to which they lead (they are read on only). -/
def cMem {κ : Type} [DecidableEq κ] (kenc : κ -> Value) (b : Nat) (B : Base) (F : κ -> M (List Int)) : Chunk where
  D k := k = b ∨ (B.D k /\ k < B.w.heap.size)
  ex := true
  ok w := (∃ f : κ -> Option Value, (cMap kenc id b f).ok w /\ ∀ k v, f k = some v -> ∃ l, (F k).Ends l /\ Sl B.cells v l) /\ (cRo B).ok w /\ ¬ (B.D b /\ b < B.w.heap.size)
  st w w' h hs k := by
    obtain ⟨⟨f, h1, h2⟩, h3, h4⟩ := h
    exact ⟨⟨f, (cMap kenc id b f).st w w' h1 hs fun j hj => k j (.inl hj), h2⟩, (cRo B).st w w' h3 hs fun j hj => k j (.inr hj), h4⟩
  bd w k h e := by
    obtain ⟨⟨f, h1, h2⟩, h3, h4⟩ := h
    rcases e with e | e
    · exact (cMap kenc id b f).bd w k h1 e
    · exact (cRo B).bd w k h3 e
/-- A base that nothing else knows. -/
def cRx (B : Base) : Chunk where
  D b := B.D b /\ b < B.w.heap.size
  ex := true
  ok w := (cRo B).ok w
  st w w' h hs k := (cRo B).st w w' h hs k
  bd w b h hb := (cRo B).bd w b h hb
section
variable {κ : Type} [DecidableEq κ] {kenc : κ -> Value} {b : Nat} {B : Base} {F : κ -> M (List Int)} {P : Program} {w w0 : World} {L L' R : List Chunk} {kt et t : TypeId}
variable {all rest : List Oper} {Q : Post} {σ : Env} {d : Nat} {ty : TypeId} {pos : String} {af : Array Edge}
theorem memLe : ∀ w, (cMem kenc b B F).ok w -> B.cells.Le w.cell? := fun w h => roLe w h.2.1
/-- A new one. -/
theorem t_mkmem {t' : TypeId} (kenc : κ -> Value) (F : κ -> M (List Int)) (H : St w0 w L R) (k : ∀ b B w', St w0 w' (cMem kenc b B F :: L) R -> SL P all Q rest (upd σ d (.map (some b))) w') : SL P all Q (⟨some d, .makeMap t' none, ty, pos, af, none⟩ :: rest) σ w :=
  s_mkmap fun b w' hn => k b ⟨w', fun _ => False⟩ w' (H.push (c := cMem kenc b ⟨w', fun _ => False⟩ F) hn.ext
    ⟨⟨fun _ => none, ⟨_, _, hn.same, MapR.nil kenc id 0⟩, fun k v h => by cases h⟩, ⟨Nat.le_refl _, fun _ h => h.elim⟩, fun h => h.1.elim⟩ (fun j hj => by
      rcases hj with hj | hj
      · rw [hj]; exact hn.ge
      · exact hj.1.elim))
/-- The map by itself, the rows beside it. -/
theorem St.memOpen {i : Nat} (H : St w0 w L R) (hk : L[i]? = some (cMem kenc b B F)) : ∃ f : κ -> Option Value, St w0 w (cMap kenc id b f :: cRx B :: L.eraseIdx i) R /\ ∀ k v, f k = some v -> ∃ l, (F k).Ends l /\ Sl B.cells v l := by
  have hlt := (List.getElem?_eq_some_iff.1 hk).1
  have hp : (cMem kenc b B F :: L.eraseIdx i).Perm L := by
    have e : L.take i ++ cMem kenc b B F :: L.drop (i + 1) = L := by
      rw [← (List.getElem?_eq_some_iff.1 hk).2, ← List.drop_eq_getElem_cons hlt, List.take_append_drop]
    rw [List.eraseIdx_eq_take_drop_succ]
    exact List.Perm.trans List.perm_middle.symm (by rw [e])
  have hS : Sep w (cMem kenc b B F :: (L.eraseIdx i ++ R)) := H.sep.perm (by rw [← List.cons_append]; exact hp.append_right R)
  obtain ⟨⟨⟨f, h1, h2⟩, h3, h4⟩, ha, hr⟩ := hS
  refine ⟨f, ⟨H.kp, h1, ?_, h3, ?_, hr⟩, h2⟩
  · intro c hc _ j hj hj'
    rcases List.mem_cons.1 hc with rfl | hc
    · rw [show j = b from hj] at hj'
      exact h4 hj'
    · exact ha c hc (by simp [cMem]) j (.inl hj) hj'
  · intro c hc _ j hj hj'
    exact ha c hc (by simp [cMem]) j (.inr hj) hj'
theorem St.memShut {f : κ -> Option Value} (H : St w0 w (cMap kenc id b f :: cRx B :: L) R) (hF : ∀ k v, f k = some v -> ∃ l, (F k).Ends l /\ Sl B.cells v l) : St w0 w (cMem kenc b B F :: L) R := by
  obtain ⟨h1, ha, h3, hb, hr⟩ := H.sep
  refine ⟨H.kp, ⟨⟨f, h1, hF⟩, h3, fun h => ha (cRx B) (by simp) (by simp [cMap]) b rfl h⟩, fun c hc _ j hj hj' => ?_, hr⟩
  rcases hj with hj | hj
  · exact ha c (List.mem_cons_of_mem _ hc) (by simp [cMap]) j hj hj'
  · exact hb c hc (by simp [cRx]) j hj hj'
theorem St.memShut1 {f : κ -> Option Value} {k : κ} {e : TypeId} {v : Value} {l : List Int} (H : St w0 w (cMap kenc id b (updF f k v) :: cRx B :: cOwn (α := Int) e v l :: L) R) (hF : ∀ k v, f k = some v -> ∃ l, (F k).Ends l /\ Sl B.cells v l) (hE : (F k).Ends l) :
    ∃ B', B.cells.Le B'.cells /\ Sl B'.cells v l /\ St w0 w (cMem kenc b B' F :: L) R := by
  have hS := H.sep
  obtain ⟨h1, ha, h3, hb, hown, hc, hr⟩ := hS
  have hlt : ∀ j, B.D j /\ j < B.w.heap.size -> (cRo B).D j := fun j hj => hj
  have hBB : B.cells.Le (Base.cells ⟨w, fun j => (B.D j /\ j < B.w.heap.size) ∨ v.ownBlock = some j⟩) := fun a c hc => by
    have hd : B.D a.block := by
      unfold Base.cells at hc
      split at hc
      · assumption
      · cases hc
    have hlt : a.block < B.w.heap.size := by
      unfold Base.cells at hc
      rw [if_pos hd] at hc
      exact World.block_lt_of_cell? B.w a hc
    unfold Base.cells
    rw [if_pos (show (B.D a.block /\ a.block < B.w.heap.size) ∨ v.ownBlock = some a.block from .inl ⟨hd, hlt⟩)]
    exact roLe w h3 a c hc
  have hvl : Sl (Base.cells ⟨w, fun j => (B.D j /\ j < B.w.heap.size) ∨ v.ownBlock = some j⟩) v l := (ownSl hown).mono fun a c hc => by
    have h1 := ownLe w hown a c hc
    unfold Base.cells
    rw [if_pos (Or.inr ?_)]
    · exact h1
    · unfold rowC at hc
      split at hc
      · rename_i p _ _
        split at hc
        · rename_i ha
          rw [ha]; rfl
        · cases hc
      · cases hc
  refine ⟨⟨w, fun j => (B.D j /\ j < B.w.heap.size) ∨ v.ownBlock = some j⟩, hBB, hvl, H.kp, ⟨⟨updF f k v, h1, fun k' v' hk' => ?_⟩, ⟨Nat.le_refl _, fun _ _ _ => rfl⟩, fun h => ?_⟩, fun c hc' _ j hj hj' => ?_, hr⟩
  · unfold updF at hk'
    split at hk'
    · rename_i ek
      subst ek
      obtain rfl := Option.some.inj hk'
      exact ⟨l, hE, hvl⟩
    · obtain ⟨l', e1, e2⟩ := hF k' v' hk'
      exact ⟨l', e1, e2.mono hBB⟩
  · rcases h.1 with h | h
    · exact ha (cRx B) (by simp) (by simp [cMap]) b rfl h
    · exact ha (cOwn (α := Int) e v l) (by simp) (by simp [cMap]) b rfl h
  · rcases hj with hj | ⟨hj | hj, _⟩
    · exact ha c (List.mem_cons_of_mem _ (List.mem_cons_of_mem _ hc')) (by simp [cMap]) j hj hj'
    · exact hb c (List.mem_cons_of_mem _ hc') (by simp [cRx]) j hj hj'
    · exact hc c hc' (by simp [cOwn]) j hj hj'
end
end Go.Nm
namespace Go.Nm
open Go
section
variable {P : Program} {w : World}
variable {all rest : List Oper} {Q : Post} {σ : Env} {w0 : World} {L R : List Chunk} {ty : TypeId} {pos : String} {af : Array Edge}
end
end Go.Nm
namespace Go.Nm
open Go
universe u
class NthR {α : Type u} (l : List α) (i : Nat) (x : outParam α) : Prop where
  is : l[i]? = some x
instance {α : Type u} {l : List α} {x : α} : NthR (x :: l) 0 x := ⟨rfl⟩
instance {α : Type u} {l : List α} {x y : α} {i : Nat} [h : NthR l i x] : NthR (y :: l) (i + 1) x := ⟨h.is⟩
instance (priority := high) {α : Type u} {l : List α} {x a b c d : α} {i : Nat} [h : NthR l i x] : NthR (a :: b :: c :: d :: l) (i + 4) x := ⟨h.is⟩
class PickR {α : Type u} (l : List α) (i : List Nat) (o : outParam (List α)) : Prop where
  is : i.mapM (fun j => l[j]?) = some o
instance {α : Type u} {l : List α} : PickR l [] [] := ⟨rfl⟩
instance {α : Type u} {l o : List α} {i : Nat} {is : List Nat} {x : α} [h : NthR l i x] [k : PickR l is o] : PickR l (i :: is) (x :: o) := ⟨by rw [List.mapM_cons, h.is, k.is]; rfl⟩
class AppR {α : Type u} (a b : List α) (o : outParam (List α)) : Prop where
  is : a ++ b = o
instance {α : Type u} {b : List α} : AppR [] b b := ⟨rfl⟩
instance {α : Type u} {x : α} {a b o : List α} [h : AppR a b o] : AppR (x :: a) b (x :: o) := ⟨by rw [List.cons_append, h.is]⟩
class LenR {α : Type u} (l : List α) (n : Nat) : Prop where
  is : l.length = n
instance {α : Type u} : LenR ([] : List α) 0 := ⟨rfl⟩
instance {α : Type u} {l : List α} {x : α} {n : Nat} [h : LenR l n] : LenR (x :: l) (n + 1) := ⟨by rw [List.length_cons, h.is]⟩
class EndR {α : Type u} (n : Nat) (l : List α) (a b : outParam (List α)) : Prop where
  is : a ++ b = l
instance (priority := low) {α : Type u} {x : α} {n : Nat} {l a b : List α} [h : EndR n l a b] : EndR n (x :: l) (x :: a) b := ⟨by rw [List.cons_append, h.is]⟩
instance {α : Type u} {n : Nat} {l : List α} [LenR l n] : EndR n l [] l := ⟨rfl⟩
class SetR {α : Type u} (l : List α) (k : Nat) (x : α) (o : outParam (List α)) : Prop where
  is : l.set k x = o
instance {α : Type u} {l : List α} {x y : α} : SetR (y :: l) 0 x (x :: l) := ⟨rfl⟩
instance {α : Type u} {l o : List α} {x y : α} {k : Nat} [h : SetR l k x o] : SetR (y :: l) (k + 1) x (y :: o) := ⟨by rw [List.set_cons_succ, h.is]⟩
class NfR {α : Type u} (l : List α) (o : outParam (List α)) : Prop where
  is : l = o
instance {α : Type u} : NfR ([] : List α) [] := ⟨rfl⟩
instance {α : Type u} {x : α} {l o : List α} [h : NfR l o] : NfR (x :: l) (x :: o) := ⟨by rw [← h.is]⟩
instance {α : Type u} {l o p : List α} {k : Nat} {x : α} [h : NfR l o] [s : SetR o k x p] : NfR (l.set k x) p := ⟨by rw [h.is, s.is]⟩
instance {α : Type u} {a b a' b' o : List α} [h : NfR a a'] [h' : NfR b b'] [s : AppR a' b' o] : NfR (a ++ b) o := ⟨by rw [h.is, h'.is, s.is]⟩
instance {α : Type u} {x : α} {l o : List α} [h : NfR l o] : NfR ((x :: l).eraseIdx 0) o := ⟨by rw [← h.is]; rfl⟩
instance {α : Type u} {x : α} {l o : List α} {k : Nat} [h : NfR (l.eraseIdx k) o] : NfR ((x :: l).eraseIdx (k + 1)) (x :: o) := ⟨by rw [List.eraseIdx_cons_succ, h.is]⟩
class OverR {α : Type u} (cs : List α) (off : Nat) (vs : List α) (o : outParam (List α)) : Prop where
  is : cs.take off ++ vs ++ cs.drop (off + vs.length) = o
instance {α : Type u} {cs : List α} : OverR cs 0 [] cs := ⟨by simp⟩
instance {α : Type u} {c v : α} {cs vs o : List α} [h : OverR cs 0 vs o] : OverR (c :: cs) 0 (v :: vs) (v :: o) := ⟨by
  have := h.is
  simp only [List.take_zero, List.nil_append, Nat.zero_add] at this ⊢
  simp [this]⟩
instance {α : Type u} {c : α} {cs vs o : List α} {n : Nat} [h : OverR cs n vs o] : OverR (c :: cs) (n + 1) vs (c :: o) := ⟨by
  have := h.is
  rw [List.take_succ_cons, show n + 1 + vs.length = n + vs.length + 1 by omega, List.drop_succ_cons, List.cons_append, List.cons_append, this]⟩
section
variable {w0 w w' : World} {L L' L1 R A T : List Chunk}
theorem St.nf (h : St w0 w L R) [n : NfR L L'] : St w0 w L' R := by
  have := n.is
  subst this
  exact h
theorem St.pk (h : St w0 w L R) (i : List Nat) [n : NfR L L1] [p : PickR L1 i L'] (hn : i.Nodup := by decide) : St w0 w L' R := h.nf.pick i hn p.is
theorem St.bk (h : St w0 w L R) (h' : St w w' A (T ++ R)) [a : NfR (A ++ T) L'] : St w0 w' L' R := h.back h' a.is
theorem St.gt (h : St w0 w L R) (k : Nat) [n : NfR L L1] [s : EndR k L1 A T] : St w w A (T ++ R) := h.nf.give s.is
end
section
variable {P : Program} {all rest : List Oper} {Q : Post} {σ : Env} {w0 w : World} {L L' R : List Chunk} {ty : TypeId} {pos : String} {af : Array Edge}
theorem t_sw {dst : Option Nat} {t : TypeId} {x y : Operand} {b n : Nat} {cs cs' : List Value} {et : TypeId} (k off : Nat) (vs : List Value) (v : Value) (H : St w0 w L R) [hk : NthR L k (cBlk b cs et)] [hc : OverR cs off vs cs'] [hL : SetR L k (cBlk b cs' et) L'] (hx : ev σ x = .pointer (some ⟨b, off, none⟩)) (hy : ev σ y = v)
    (hs : (P.info? t).map (·.size) = some n) (hv : v.cells = vs.toArray) (hn : vs.length = n) (hl : Nat.ble (off + n) cs.length = true) (h1 : vs.all (·.oneCell') = true)
    (kk : ∀ w', St w0 w' L' R -> SL P all Q rest (updo σ dst undef) w') : SL P all Q (⟨dst, .store t x y, ty, pos, af, none⟩ :: rest) σ w :=
  t_st H hk.is hx hy hs hv hn hl h1 (by rw [← hn]; exact hc.is) hL.is kk
end
end Go.Nm
namespace Go.Nm
open Go
section
variable {P : Program} {w : World} {σ : Env} {d : Nat} {ty : TypeId} {pos : String} {af : Array Edge} {g : Option (Nat × Bool)}
end
end Go.Nm
namespace Go.Proofs.YtbaehghammbjdaaGreat
open Go Go.Nm
theorem cf6 : CF Tryz.prog 6 := ⟨_, Tryz.func6, rfl, by decide +kernel⟩
theorem cf7 : CF Tryz.prog 7 := ⟨_, Tryz.func7, rfl, by decide +kernel⟩
theorem cf8 : CF Tryz.prog 8 := ⟨_, Tryz.func8, rfl, by decide +kernel⟩
theorem cf9 : CF Tryz.prog 9 := ⟨_, Tryz.func9, rfl, by decide +kernel⟩
theorem cf10 : CF Tryz.prog 10 := ⟨_, Tryz.func10, rfl, by decide +kernel⟩
theorem cf13 : CF Tryz.prog 13 := ⟨_, Tryz.func13, rfl, by decide +kernel⟩
theorem cf15 : CF Tryz.prog 15 := ⟨_, Tryz.func15, rfl, by decide +kernel⟩
theorem cf16 : CF Tryz.prog 16 := ⟨_, Tryz.func16, rfl, by decide +kernel⟩
theorem cf18 : CF Tryz.prog 18 := ⟨_, Tryz.func18, rfl, by decide +kernel⟩
theorem cf19 : CF Tryz.prog 19 := ⟨_, Tryz.func19, rfl, by decide +kernel⟩
theorem cf20 : CF Tryz.prog 20 := ⟨_, Tryz.func20, rfl, by decide +kernel⟩
theorem cf21 : CF Tryz.prog 21 := ⟨_, Tryz.func21, rfl, by decide +kernel⟩
theorem cf22 : CF Tryz.prog 22 := ⟨_, Tryz.func22, rfl, by decide +kernel⟩
theorem cf23 : CF Tryz.prog 23 := ⟨_, Tryz.func23, rfl, by decide +kernel⟩
theorem cf24 : CF Tryz.prog 24 := ⟨_, Tryz.func24, rfl, by decide +kernel⟩
theorem cf25 : CF Tryz.prog 25 := ⟨_, Tryz.func25, rfl, by decide +kernel⟩
theorem cf26 : CF Tryz.prog 26 := ⟨_, Tryz.func26, rfl, by decide +kernel⟩
theorem cf32 : CF Tryz.prog 32 := ⟨_, Tryz.func32, rfl, by decide +kernel⟩
theorem cf36 : CF Tryz.prog 36 := ⟨_, Tryz.func36, rfl, by decide +kernel⟩
theorem cf42 : CF Tryz.prog 42 := ⟨_, Tryz.func42, rfl, by decide +kernel⟩
theorem cf43 : CF Tryz.prog 43 := ⟨_, Tryz.func43, rfl, by decide +kernel⟩
theorem cf44 : CF Tryz.prog 44 := ⟨_, Tryz.func44, rfl, by decide +kernel⟩
theorem cf45 : CF Tryz.prog 45 := ⟨_, Tryz.func45, rfl, by decide +kernel⟩
theorem cf46 : CF Tryz.prog 46 := ⟨_, Tryz.func46, rfl, by decide +kernel⟩
theorem cf47 : CF Tryz.prog 47 := ⟨_, Tryz.func47, rfl, by decide +kernel⟩
theorem cf48 : CF Tryz.prog 48 := ⟨_, Tryz.func48, rfl, by decide +kernel⟩
theorem cf49 : CF Tryz.prog 49 := ⟨_, Tryz.func49, rfl, by decide +kernel⟩
theorem cf51 : CF Tryz.prog 51 := ⟨_, Tryz.func51, rfl, by decide +kernel⟩
theorem cf52 : CF Tryz.prog 52 := ⟨_, Tryz.func52, rfl, by decide +kernel⟩
theorem cf53 : CF Tryz.prog 53 := ⟨_, Tryz.func53, rfl, by decide +kernel⟩
theorem cf54 : CF Tryz.prog 54 := ⟨_, Tryz.func54, rfl, by decide +kernel⟩
theorem cf55 : CF Tryz.prog 55 := ⟨_, Tryz.func55, rfl, by decide +kernel⟩
theorem cf56 : CF Tryz.prog 56 := ⟨_, Tryz.func56, rfl, by decide +kernel⟩
theorem cf57 : CF Tryz.prog 57 := ⟨_, Tryz.func57, rfl, by decide +kernel⟩
theorem cf58 : CF Tryz.prog 58 := ⟨_, Tryz.func58, rfl, by decide +kernel⟩
theorem cf59 : CF Tryz.prog 59 := ⟨_, Tryz.func59, rfl, by decide +kernel⟩
theorem cf60 : CF Tryz.prog 60 := ⟨_, Tryz.func60, rfl, by decide +kernel⟩
theorem cf61 : CF Tryz.prog 61 := ⟨_, Tryz.func61, rfl, by decide +kernel⟩
theorem cf62 : CF Tryz.prog 62 := ⟨_, Tryz.func62, rfl, by decide +kernel⟩
theorem cf63 : CF Tryz.prog 63 := ⟨_, Tryz.func63, rfl, by decide +kernel⟩
theorem cf64 : CF Tryz.prog 64 := ⟨_, Tryz.func64, rfl, by decide +kernel⟩
theorem cf65 : CF Tryz.prog 65 := ⟨_, Tryz.func65, rfl, by decide +kernel⟩
theorem cf66 : CF Tryz.prog 66 := ⟨_, Tryz.func66, rfl, by decide +kernel⟩
theorem cf67 : CF Tryz.prog 67 := ⟨_, Tryz.func67, rfl, by decide +kernel⟩
theorem cf68 : CF Tryz.prog 68 := ⟨_, Tryz.func68, rfl, by decide +kernel⟩
theorem cf69 : CF Tryz.prog 69 := ⟨_, Tryz.func69, rfl, by decide +kernel⟩
theorem cf70 : CF Tryz.prog 70 := ⟨_, Tryz.func70, rfl, by decide +kernel⟩
theorem cf71 : CF Tryz.prog 71 := ⟨_, Tryz.func71, rfl, by decide +kernel⟩
theorem cf72 : CF Tryz.prog 72 := ⟨_, Tryz.func72, rfl, by decide +kernel⟩
theorem cf73 : CF Tryz.prog 73 := ⟨_, Tryz.func73, rfl, by decide +kernel⟩
theorem cf74 : CF Tryz.prog 74 := ⟨_, Tryz.func74, rfl, by decide +kernel⟩
theorem cf75 : CF Tryz.prog 75 := ⟨_, Tryz.func75, rfl, by decide +kernel⟩
theorem cf76 : CF Tryz.prog 76 := ⟨_, Tryz.func76, rfl, by decide +kernel⟩
theorem cf77 : CF Tryz.prog 77 := ⟨_, Tryz.func77, rfl, by decide +kernel⟩
theorem cf79 : CF Tryz.prog 79 := ⟨_, Tryz.func79, rfl, by decide +kernel⟩
theorem cf80 : CF Tryz.prog 80 := ⟨_, Tryz.func80, rfl, by decide +kernel⟩
theorem cf81 : CF Tryz.prog 81 := ⟨_, Tryz.func81, rfl, by decide +kernel⟩
theorem cf86 : CF Tryz.prog 86 := ⟨_, Tryz.func86, rfl, by decide +kernel⟩
theorem cf89 : CF Tryz.prog 89 := ⟨_, Tryz.func89, rfl, by decide +kernel⟩
theorem cf90 : CF Tryz.prog 90 := ⟨_, Tryz.func90, rfl, by decide +kernel⟩
theorem cf92 : CF Tryz.prog 92 := ⟨_, Tryz.func92, rfl, by decide +kernel⟩
theorem cf93 : CF Tryz.prog 93 := ⟨_, Tryz.func93, rfl, by decide +kernel⟩
theorem cf94 : CF Tryz.prog 94 := ⟨_, Tryz.func94, rfl, by decide +kernel⟩
theorem cf95 : CF Tryz.prog 95 := ⟨_, Tryz.func95, rfl, by decide +kernel⟩
theorem cf96 : CF Tryz.prog 96 := ⟨_, Tryz.func96, rfl, by decide +kernel⟩
theorem cf97 : CF Tryz.prog 97 := ⟨_, Tryz.func97, rfl, by decide +kernel⟩
theorem cf98 : CF Tryz.prog 98 := ⟨_, Tryz.func98, rfl, by decide +kernel⟩
theorem cf99 : CF Tryz.prog 99 := ⟨_, Tryz.func99, rfl, by decide +kernel⟩
theorem cf100 : CF Tryz.prog 100 := ⟨_, Tryz.func100, rfl, by decide +kernel⟩
theorem cf101 : CF Tryz.prog 101 := ⟨_, Tryz.func101, rfl, by decide +kernel⟩
theorem cf102 : CF Tryz.prog 102 := ⟨_, Tryz.func102, rfl, by decide +kernel⟩
theorem cf103 : CF Tryz.prog 103 := ⟨_, Tryz.func103, rfl, by decide +kernel⟩
theorem cf104 : CF Tryz.prog 104 := ⟨_, Tryz.func104, rfl, by decide +kernel⟩
theorem cf105 : CF Tryz.prog 105 := ⟨_, Tryz.func105, rfl, by decide +kernel⟩
theorem cf106 : CF Tryz.prog 106 := ⟨_, Tryz.func106, rfl, by decide +kernel⟩
theorem cf107 : CF Tryz.prog 107 := ⟨_, Tryz.func107, rfl, by decide +kernel⟩
theorem cf108 : CF Tryz.prog 108 := ⟨_, Tryz.func108, rfl, by decide +kernel⟩
theorem cf109 : CF Tryz.prog 109 := ⟨_, Tryz.func109, rfl, by decide +kernel⟩
theorem cf110 : CF Tryz.prog 110 := ⟨_, Tryz.func110, rfl, by decide +kernel⟩
theorem cf113 : CF Tryz.prog 113 := ⟨_, Tryz.func113, rfl, by decide +kernel⟩
theorem T22 : SlT Tryz.prog 22 3 1 8 (I 0) := ⟨Tryz.underlying22, by kernel_rfl, rfl, by decide⟩
theorem T23 : SlT Tryz.prog 23 26 2 16 (.agg #[I 0, I 0]) := ⟨Tryz.underlying23, by kernel_rfl, rfl, by decide⟩
theorem T24 : SlT Tryz.prog 24 91 3 24 (.agg #[I 0, I 0, I 0]) := ⟨Tryz.underlying24, by kernel_rfl, rfl, by decide⟩
theorem T27 : SlT Tryz.prog 27 85 2 32 (.agg #[I 0, .slice none 0 0]) := ⟨Tryz.underlying27, by kernel_rfl, rfl, by decide⟩
theorem T34 : SlT Tryz.prog 34 92 3 24 (.agg #[I 0, I 0, I 0]) := ⟨Tryz.underlying34, by kernel_rfl, rfl, by decide⟩
theorem T35 : SlT Tryz.prog 35 93 2 32 (.agg #[I 0, .slice none 0 0]) := ⟨Tryz.underlying35, by kernel_rfl, rfl, by decide⟩
theorem T62 : SlT Tryz.prog 62 61 2 16 (.agg #[I 0, I 0]) := ⟨Tryz.underlying62, by kernel_rfl, rfl, by decide⟩
theorem Sc3 : isSc (Tryz.prog.underlying 3) = true := by rw [Tryz.underlying3]; rfl
theorem Sc4 : isSc (Tryz.prog.underlying 4) = true := by rw [Tryz.underlying4]; rfl
theorem Sc22 : isSc (Tryz.prog.underlying 22) = true := by rw [Tryz.underlying22]; rfl
theorem Sc23 : isSc (Tryz.prog.underlying 23) = true := by rw [Tryz.underlying23]; rfl
theorem Sc24 : isSc (Tryz.prog.underlying 24) = true := by rw [Tryz.underlying24]; rfl
theorem Sc27 : isSc (Tryz.prog.underlying 27) = true := by rw [Tryz.underlying27]; rfl
theorem Sc34 : isSc (Tryz.prog.underlying 34) = true := by rw [Tryz.underlying34]; rfl
theorem Sc35 : isSc (Tryz.prog.underlying 35) = true := by rw [Tryz.underlying35]; rfl
theorem Sc94 : isSc (Tryz.prog.underlying 94) = true := by rw [Tryz.underlying94]; rfl
theorem Sc106 : isSc (Tryz.prog.underlying 106) = true := by rw [Tryz.underlying106]; rfl
theorem Sc109 : isSc (Tryz.prog.underlying 109) = true := by rw [Tryz.underlying109]; rfl
theorem Sc113 : isSc (Tryz.prog.underlying 113) = true := by rw [Tryz.underlying113]; rfl
theorem Sc120 : isSc (Tryz.prog.underlying 120) = true := by rw [Tryz.underlying120]; rfl
theorem Sc133 : isSc (Tryz.prog.underlying 133) = true := by rw [Tryz.underlying133]; rfl
theorem Sc134 : isSc (Tryz.prog.underlying 134) = true := by rw [Tryz.underlying134]; rfl
theorem Sc146 : isSc (Tryz.prog.underlying 146) = true := by rw [Tryz.underlying146]; rfl
theorem Sz3 : (Tryz.prog.info? 3).map (·.size) = some 1 := by kernel_rfl
theorem Sz4 : (Tryz.prog.info? 4).map (·.size) = some 1 := by kernel_rfl
theorem Sz22 : (Tryz.prog.info? 22).map (·.size) = some 1 := by kernel_rfl
theorem Sz23 : (Tryz.prog.info? 23).map (·.size) = some 1 := by kernel_rfl
theorem Sz24 : (Tryz.prog.info? 24).map (·.size) = some 1 := by kernel_rfl
theorem Ag26 : isAg (Tryz.prog.underlying 26) = true := by rw [Tryz.underlying26]; rfl
theorem Sz26 : (Tryz.prog.info? 26).map (·.size) = some 2 := by kernel_rfl
theorem Sz27 : (Tryz.prog.info? 27).map (·.size) = some 1 := by kernel_rfl
theorem Ag29 : isAg (Tryz.prog.underlying 29) = true := by rw [Tryz.underlying29]; rfl
theorem Sz29 : (Tryz.prog.info? 29).map (·.size) = some 7 := by kernel_rfl
theorem Sz34 : (Tryz.prog.info? 34).map (·.size) = some 1 := by kernel_rfl
theorem Sz35 : (Tryz.prog.info? 35).map (·.size) = some 1 := by kernel_rfl
theorem Ag37 : isAg (Tryz.prog.underlying 37) = true := by rw [Tryz.underlying37]; rfl
theorem Sz37 : (Tryz.prog.info? 37).map (·.size) = some 7 := by kernel_rfl
theorem Ag61 : isAg (Tryz.prog.underlying 61) = true := by rw [Tryz.underlying61]; rfl
theorem Sz61 : (Tryz.prog.info? 61).map (·.size) = some 2 := by kernel_rfl
theorem Ag85 : isAg (Tryz.prog.underlying 85) = true := by rw [Tryz.underlying85]; rfl
theorem Sz85 : (Tryz.prog.info? 85).map (·.size) = some 2 := by kernel_rfl
theorem Ag91 : isAg (Tryz.prog.underlying 91) = true := by rw [Tryz.underlying91]; rfl
theorem Sz91 : (Tryz.prog.info? 91).map (·.size) = some 3 := by kernel_rfl
theorem Ag92 : isAg (Tryz.prog.underlying 92) = true := by rw [Tryz.underlying92]; rfl
theorem Sz92 : (Tryz.prog.info? 92).map (·.size) = some 3 := by kernel_rfl
theorem Ag93 : isAg (Tryz.prog.underlying 93) = true := by rw [Tryz.underlying93]; rfl
theorem Sz93 : (Tryz.prog.info? 93).map (·.size) = some 2 := by kernel_rfl
theorem Ag96 : isAg (Tryz.prog.underlying 96) = true := by rw [Tryz.underlying96]; rfl
theorem Sz96 : (Tryz.prog.info? 96).map (·.size) = some 12 := by kernel_rfl
theorem Ag101 : isAg (Tryz.prog.underlying 101) = true := by rw [Tryz.underlying101]; rfl
theorem Sz101 : (Tryz.prog.info? 101).map (·.size) = some 3 := by kernel_rfl
theorem Sz106 : (Tryz.prog.info? 106).map (·.size) = some 1 := by kernel_rfl
theorem Sz109 : (Tryz.prog.info? 109).map (·.size) = some 1 := by kernel_rfl
theorem Sz134 : (Tryz.prog.info? 134).map (·.size) = some 1 := by kernel_rfl
theorem Sz146 : (Tryz.prog.info? 146).map (·.size) = some 1 := by kernel_rfl
theorem Fd26_0 : (Tryz.prog.underlying 26).bind (fun d => match d with | .struct fs => (fs[0]?).map (fun f => (f.offset, f.type)) | _ => none) = some (0, 3) := by rw [Tryz.underlying26]; rfl
theorem Fd26_1 : (Tryz.prog.underlying 26).bind (fun d => match d with | .struct fs => (fs[1]?).map (fun f => (f.offset, f.type)) | _ => none) = some (1, 3) := by rw [Tryz.underlying26]; rfl
theorem Fd29_0 : (Tryz.prog.underlying 29).bind (fun d => match d with | .struct fs => (fs[0]?).map (fun f => (f.offset, f.type)) | _ => none) = some (0, 22) := by rw [Tryz.underlying29]; rfl
theorem Fd29_1 : (Tryz.prog.underlying 29).bind (fun d => match d with | .struct fs => (fs[1]?).map (fun f => (f.offset, f.type)) | _ => none) = some (1, 23) := by rw [Tryz.underlying29]; rfl
theorem Fd29_2 : (Tryz.prog.underlying 29).bind (fun d => match d with | .struct fs => (fs[2]?).map (fun f => (f.offset, f.type)) | _ => none) = some (2, 22) := by rw [Tryz.underlying29]; rfl
theorem Fd29_3 : (Tryz.prog.underlying 29).bind (fun d => match d with | .struct fs => (fs[3]?).map (fun f => (f.offset, f.type)) | _ => none) = some (3, 24) := by rw [Tryz.underlying29]; rfl
theorem Fd29_4 : (Tryz.prog.underlying 29).bind (fun d => match d with | .struct fs => (fs[4]?).map (fun f => (f.offset, f.type)) | _ => none) = some (4, 26) := by rw [Tryz.underlying29]; rfl
theorem Fd29_5 : (Tryz.prog.underlying 29).bind (fun d => match d with | .struct fs => (fs[5]?).map (fun f => (f.offset, f.type)) | _ => none) = some (6, 27) := by rw [Tryz.underlying29]; rfl
theorem Fd37_0 : (Tryz.prog.underlying 37).bind (fun d => match d with | .struct fs => (fs[0]?).map (fun f => (f.offset, f.type)) | _ => none) = some (0, 22) := by rw [Tryz.underlying37]; rfl
theorem Fd37_1 : (Tryz.prog.underlying 37).bind (fun d => match d with | .struct fs => (fs[1]?).map (fun f => (f.offset, f.type)) | _ => none) = some (1, 23) := by rw [Tryz.underlying37]; rfl
theorem Fd37_2 : (Tryz.prog.underlying 37).bind (fun d => match d with | .struct fs => (fs[2]?).map (fun f => (f.offset, f.type)) | _ => none) = some (2, 22) := by rw [Tryz.underlying37]; rfl
theorem Fd37_3 : (Tryz.prog.underlying 37).bind (fun d => match d with | .struct fs => (fs[3]?).map (fun f => (f.offset, f.type)) | _ => none) = some (3, 34) := by rw [Tryz.underlying37]; rfl
theorem Fd37_4 : (Tryz.prog.underlying 37).bind (fun d => match d with | .struct fs => (fs[4]?).map (fun f => (f.offset, f.type)) | _ => none) = some (4, 26) := by rw [Tryz.underlying37]; rfl
theorem Fd37_5 : (Tryz.prog.underlying 37).bind (fun d => match d with | .struct fs => (fs[5]?).map (fun f => (f.offset, f.type)) | _ => none) = some (6, 35) := by rw [Tryz.underlying37]; rfl
theorem Fd61_0 : (Tryz.prog.underlying 61).bind (fun d => match d with | .struct fs => (fs[0]?).map (fun f => (f.offset, f.type)) | _ => none) = some (0, 3) := by rw [Tryz.underlying61]; rfl
theorem Fd61_1 : (Tryz.prog.underlying 61).bind (fun d => match d with | .struct fs => (fs[1]?).map (fun f => (f.offset, f.type)) | _ => none) = some (1, 3) := by rw [Tryz.underlying61]; rfl
theorem Fd85_0 : (Tryz.prog.underlying 85).bind (fun d => match d with | .struct fs => (fs[0]?).map (fun f => (f.offset, f.type)) | _ => none) = some (0, 3) := by rw [Tryz.underlying85]; rfl
theorem Fd85_1 : (Tryz.prog.underlying 85).bind (fun d => match d with | .struct fs => (fs[1]?).map (fun f => (f.offset, f.type)) | _ => none) = some (1, 22) := by rw [Tryz.underlying85]; rfl
theorem Fd91_0 : (Tryz.prog.underlying 91).bind (fun d => match d with | .struct fs => (fs[0]?).map (fun f => (f.offset, f.type)) | _ => none) = some (0, 3) := by rw [Tryz.underlying91]; rfl
theorem Fd91_1 : (Tryz.prog.underlying 91).bind (fun d => match d with | .struct fs => (fs[1]?).map (fun f => (f.offset, f.type)) | _ => none) = some (1, 3) := by rw [Tryz.underlying91]; rfl
theorem Fd91_2 : (Tryz.prog.underlying 91).bind (fun d => match d with | .struct fs => (fs[2]?).map (fun f => (f.offset, f.type)) | _ => none) = some (2, 3) := by rw [Tryz.underlying91]; rfl
theorem Fd92_0 : (Tryz.prog.underlying 92).bind (fun d => match d with | .struct fs => (fs[0]?).map (fun f => (f.offset, f.type)) | _ => none) = some (0, 3) := by rw [Tryz.underlying92]; rfl
theorem Fd92_1 : (Tryz.prog.underlying 92).bind (fun d => match d with | .struct fs => (fs[1]?).map (fun f => (f.offset, f.type)) | _ => none) = some (1, 3) := by rw [Tryz.underlying92]; rfl
theorem Fd92_2 : (Tryz.prog.underlying 92).bind (fun d => match d with | .struct fs => (fs[2]?).map (fun f => (f.offset, f.type)) | _ => none) = some (2, 3) := by rw [Tryz.underlying92]; rfl
theorem Fd93_0 : (Tryz.prog.underlying 93).bind (fun d => match d with | .struct fs => (fs[0]?).map (fun f => (f.offset, f.type)) | _ => none) = some (0, 3) := by rw [Tryz.underlying93]; rfl
theorem Fd93_1 : (Tryz.prog.underlying 93).bind (fun d => match d with | .struct fs => (fs[1]?).map (fun f => (f.offset, f.type)) | _ => none) = some (1, 22) := by rw [Tryz.underlying93]; rfl
theorem Fd101_0 : (Tryz.prog.underlying 101).bind (fun d => match d with | .struct fs => (fs[0]?).map (fun f => (f.offset, f.type)) | _ => none) = some (0, 3) := by rw [Tryz.underlying101]; rfl
theorem Fd101_1 : (Tryz.prog.underlying 101).bind (fun d => match d with | .struct fs => (fs[1]?).map (fun f => (f.offset, f.type)) | _ => none) = some (1, 3) := by rw [Tryz.underlying101]; rfl
theorem Fd101_2 : (Tryz.prog.underlying 101).bind (fun d => match d with | .struct fs => (fs[2]?).map (fun f => (f.offset, f.type)) | _ => none) = some (2, 4) := by rw [Tryz.underlying101]; rfl
theorem Fd108_0 : (Tryz.prog.underlying 108).bind (fun d => match d with | .struct fs => (fs[0]?).map (fun f => (f.offset, f.type)) | _ => none) = some (0, 106) := by rw [Tryz.underlying108]; rfl
theorem Fd111_0 : (Tryz.prog.underlying 111).bind (fun d => match d with | .struct fs => (fs[0]?).map (fun f => (f.offset, f.type)) | _ => none) = some (0, 29) := by rw [Tryz.underlying111]; rfl
theorem Fd111_1 : (Tryz.prog.underlying 111).bind (fun d => match d with | .struct fs => (fs[1]?).map (fun f => (f.offset, f.type)) | _ => none) = some (7, 109) := by rw [Tryz.underlying111]; rfl
theorem Al3 : (Tryz.prog.info? 3).map (·.zero) = some (some (I 0)) := by kernel_rfl
theorem Al4 : (Tryz.prog.info? 4).map (·.zero) = some (some (B false)) := by kernel_rfl
theorem Al22 : (Tryz.prog.info? 22).map (·.zero) = some (some (.slice none 0 0)) := by kernel_rfl
theorem Al23 : (Tryz.prog.info? 23).map (·.zero) = some (some (.slice none 0 0)) := by kernel_rfl
theorem Al26 : (Tryz.prog.info? 26).map (·.zero) = some (some (.agg #[I 0, I 0])) := by kernel_rfl
theorem Al29 : (Tryz.prog.info? 29).map (·.zero) = some (some (.agg #[.slice none 0 0, .slice none 0 0, .slice none 0 0, .slice none 0 0, I 0, I 0, .slice none 0 0])) := by kernel_rfl
theorem Al37 : (Tryz.prog.info? 37).map (·.zero) = some (some (.agg #[.slice none 0 0, .slice none 0 0, .slice none 0 0, .slice none 0 0, I 0, I 0, .slice none 0 0])) := by kernel_rfl
theorem Al61 : (Tryz.prog.info? 61).map (·.zero) = some (some (.agg #[I 0, I 0])) := by kernel_rfl
theorem Al85 : (Tryz.prog.info? 85).map (·.zero) = some (some (.agg #[I 0, .slice none 0 0])) := by kernel_rfl
theorem Al91 : (Tryz.prog.info? 91).map (·.zero) = some (some (.agg #[I 0, I 0, I 0])) := by kernel_rfl
theorem Al92 : (Tryz.prog.info? 92).map (·.zero) = some (some (.agg #[I 0, I 0, I 0])) := by kernel_rfl
theorem Al93 : (Tryz.prog.info? 93).map (·.zero) = some (some (.agg #[I 0, .slice none 0 0])) := by kernel_rfl
theorem Al96 : (Tryz.prog.info? 96).map (·.zero) = some (some (.agg #[B false, B false, B false, B false, B false, B false, B false, B false, B false, B false, B false, B false])) := by kernel_rfl
theorem Al101 : (Tryz.prog.info? 101).map (·.zero) = some (some (.agg #[I 0, I 0, B false])) := by kernel_rfl
theorem Al106 : (Tryz.prog.info? 106).map (·.zero) = some (some (.nilFunc)) := by kernel_rfl
theorem Al108 : (Tryz.prog.info? 108).map (·.zero) = some (some (.agg #[.nilFunc])) := by kernel_rfl
theorem Al111 : (Tryz.prog.info? 111).map (·.zero) = some (some (.agg #[.slice none 0 0, .slice none 0 0, .slice none 0 0, .slice none 0 0, I 0, I 0, .slice none 0 0, .map none])) := by kernel_rfl
theorem Al134 : (Tryz.prog.info? 134).map (·.zero) = some (some (.nilFunc)) := by kernel_rfl
theorem Al146 : (Tryz.prog.info? 146).map (·.zero) = some (some (.nilFunc)) := by kernel_rfl
theorem Bd26 {fs : Array Field} (h : Tryz.prog.underlying 26 = some (.struct fs)) : fs.toList.mapM (fun f => (Tryz.prog.info? f.type).map fun i => (f.offset, i.size)) = some [(0, 1), (1, 1)] := by rw [Tryz.underlying26] at h; simp only [Option.some.injEq, TypeDesc.struct.injEq] at h; subst h; kernel_rfl
theorem Bd29 {fs : Array Field} (h : Tryz.prog.underlying 29 = some (.struct fs)) : fs.toList.mapM (fun f => (Tryz.prog.info? f.type).map fun i => (f.offset, i.size)) = some [(0, 1), (1, 1), (2, 1), (3, 1), (4, 2), (6, 1)] := by rw [Tryz.underlying29] at h; simp only [Option.some.injEq, TypeDesc.struct.injEq] at h; subst h; kernel_rfl
theorem Bd37 {fs : Array Field} (h : Tryz.prog.underlying 37 = some (.struct fs)) : fs.toList.mapM (fun f => (Tryz.prog.info? f.type).map fun i => (f.offset, i.size)) = some [(0, 1), (1, 1), (2, 1), (3, 1), (4, 2), (6, 1)] := by rw [Tryz.underlying37] at h; simp only [Option.some.injEq, TypeDesc.struct.injEq] at h; subst h; kernel_rfl
theorem Bd61 {fs : Array Field} (h : Tryz.prog.underlying 61 = some (.struct fs)) : fs.toList.mapM (fun f => (Tryz.prog.info? f.type).map fun i => (f.offset, i.size)) = some [(0, 1), (1, 1)] := by rw [Tryz.underlying61] at h; simp only [Option.some.injEq, TypeDesc.struct.injEq] at h; subst h; kernel_rfl
theorem Bd85 {fs : Array Field} (h : Tryz.prog.underlying 85 = some (.struct fs)) : fs.toList.mapM (fun f => (Tryz.prog.info? f.type).map fun i => (f.offset, i.size)) = some [(0, 1), (1, 1)] := by rw [Tryz.underlying85] at h; simp only [Option.some.injEq, TypeDesc.struct.injEq] at h; subst h; kernel_rfl
theorem Bd91 {fs : Array Field} (h : Tryz.prog.underlying 91 = some (.struct fs)) : fs.toList.mapM (fun f => (Tryz.prog.info? f.type).map fun i => (f.offset, i.size)) = some [(0, 1), (1, 1), (2, 1)] := by rw [Tryz.underlying91] at h; simp only [Option.some.injEq, TypeDesc.struct.injEq] at h; subst h; kernel_rfl
theorem Bd101 {fs : Array Field} (h : Tryz.prog.underlying 101 = some (.struct fs)) : fs.toList.mapM (fun f => (Tryz.prog.info? f.type).map fun i => (f.offset, i.size)) = some [(0, 1), (1, 1), (2, 1)] := by rw [Tryz.underlying101] at h; simp only [Option.some.injEq, TypeDesc.struct.injEq] at h; subst h; kernel_rfl
theorem Bd108 {fs : Array Field} (h : Tryz.prog.underlying 108 = some (.struct fs)) : fs.toList.mapM (fun f => (Tryz.prog.info? f.type).map fun i => (f.offset, i.size)) = some [(0, 1)] := by rw [Tryz.underlying108] at h; simp only [Option.some.injEq, TypeDesc.struct.injEq] at h; subst h; kernel_rfl
theorem Bd111 {fs : Array Field} (h : Tryz.prog.underlying 111 = some (.struct fs)) : fs.toList.mapM (fun f => (Tryz.prog.info? f.type).map fun i => (f.offset, i.size)) = some [(0, 7), (7, 1)] := by rw [Tryz.underlying111] at h; simp only [Option.some.injEq, TypeDesc.struct.injEq] at h; subst h; kernel_rfl
theorem mixed : Tryz.prog.follows .mixedOrders = true := by kernel_rfl

end Go.Proofs.YtbaehghammbjdaaGreat
namespace Go.Nm
open Go
abbrev encDm (d : Dem) : Value := .agg #[I d.spring, I d.town]
end Go.Nm
namespace Go.Proofs.YtbaehghammbjdaaGreat
open Go Go.Nm Go.Proofs
theorem findAskDm {ν : Type} (k : Dem) (w : World) : ∀ (es : List MapEntry) (m : List (Dem × ν)) (venc : ν -> Value) (j : Nat), es.map (fun e => (e.key, e.val)) = m.map (fun p => (encDm p.1, venc p.2)) →
    (Instr.findAsking 61 (encDm k) es j).run Tryz.prog w = .ok ((idxM m k).bind fun i => (es[i]?).map fun e => (i + j, e.val)) w
  | [], [], _, _, _ => rfl
  | [], _ :: _, _, _, h => by simp at h
  | _ :: _, [], _, _, h => by simp at h
  | e :: es, p :: m, venc, j, h => by
    simp only [List.map_cons, List.cons.injEq, Prod.mk.injEq] at h
    have ih := findAskDm k w es m venc (j + 1) h.2
    unfold Instr.findAsking
    rw [h.1.1]
    have he := eqT61 k p.1 w
    unfold idxM
    by_cases hp : p.1 = k
    · rw [if_pos hp]
      have : decide (k = p.1) = true := by simp [hp]
      rw [this] at he
      simp [Op.equal, Op.maxDepth, he]
    · rw [if_neg hp]
      have : decide (k = p.1) = false := by simp; exact fun e => hp e.symm
      rw [this] at he
      simp only [Op.equal, Op.maxDepth, Sem.run_bind, he, Result.andThen_ok, Bool.false_eq_true, if_false, ih]
      cases hi : idxM m k with
      | none => rfl
      | some i =>
        simp only [Option.map_some, Option.bind_some, List.getElem?_cons_succ]
        cases es[i]? with
        | none => rfl
        | some e' => simp; omega
theorem keyDem {ν : Type} : KeyL (ν := ν) Tryz.prog 61 encDm := by
  refine ⟨fun e w k => ?_, fun w es m venc k h => ?_, fun k => ?_⟩
  · have u3 := Tryz.underlying3
    have a3 := Tryz.isAgg3
    have z3 := Tryz.sizeOf3
    have h1 : ∀ (n : Nat) (x : Int), (Instr.checkKey e (n + 1) 3 (I x)).run Tryz.prog w = .ok () w := fun n x => MapKept.run_checkKey u3 (show MapKept.IsKey (.int .i64) (I x) from rfl) e n
    have key : ∀ n : Nat, (Instr.checkKey e (n + 1 + 1) 61 (encDm k)).run Tryz.prog w = .ok () w := by
      intro n
      rw [Instr.checkKey]
      simp only [Sem.run_bind, run_underlying Tryz.underlying61, Result.andThen_ok]
      rw [← Array.forIn_toList]
      simp only [List.forIn_cons, List.forIn_nil]
      go_simp
    exact key 9998
  · rw [run_findKey_eq w (by rw [Tryz.underlying61]), findAskDm k w es m venc 0 h]
    rfl
  · simp [Instr.sameBits]
end Go.Proofs.YtbaehghammbjdaaGreat
namespace Go.Nm
open Go
theorem x_eqnilA {P : Program} {w : World} {σ : Env} {d : Nat} {ty : TypeId} {pos : String} {af : Array Edge} {g : Option (Nat × Bool)} {t e yt : TypeId} {x y : Operand} {a : Option Addr} {n c : Nat} (ht : P.underlying t = some (.slice e)) (hx : ev σ x = .slice a n c) (hy : ev σ y = .slice none 0 0) :
    (execOp (ev σ) ⟨some d, .binOp .eql t x y yt, ty, pos, af, g⟩).run P w = .ok (.value (.bool a.isNone)) w := by
  simp [execOp, hx, hy, eqGuard, binOp, run_equal_slice_nil w t e a n c ht]
end Go.Nm
namespace Go.Proofs.YtbaehghammbjdaaGreat
open Go Go.Nm
set_option maxRecDepth 100000 in
theorem clone_any {R : List Chunk} {C_s : Cells} {v_s : Value} (s : List Int) (hC_s : Reads R C_s) (hs_s : Sl C_s v_s s) (hlen : s.length * 8 <= 140737488355328) (w : World) (hsep : Sep w R) :
    Ret Tryz.prog 80 #[v_s] w fun v w' => St w w' [cOwn (α := Int) 3 v s] R := by
 have H : St w w [] R := St.refl hsep
 obtain ⟨a, c, hv, hc, hm, hk⟩ := hs_s.ex
 refine ret_of_W Tryz.func80 rfl rfl rfl ?_
 refine W.seq ?_
 refine W.region rfl ?_
 refine s_val (x_as (v := .slice none 0 0) rfl) ?_
 refine s_nil ?_
 refine W.seq ?_
 refine W.seq ?_
 refine W.region rfl ?_
 refine s_val (x_mv (v := v_s) rfl) ?_
 refine s_val (v := B a.isNone) (x_eqnilA (a := a) (n := s.length) (c := c) Tryz.underlying22 hv rfl) ?_
 refine s_nil ?_
 refine W.cond a.isNone rfl (fun h => ?_) (fun h => ?_)
 ·have e : s = [] := by
   cases s with
   | nil => rfl
   | cons x s =>
    obtain ⟨b, o, cs, ha, _⟩ := hk 0 x rfl
    subst ha
    cases h
  subst e
  refine W.seq ?_
  refine W.region rfl ?_
  refine s_val (x_as (v := .slice none 0 0) rfl) ?_
  refine s_nil ?_
  refine W.ret ?_
  exact ⟨_, resE_tmp rfl, H.nilOwn (α := Int) 3⟩
 ·refine W.skip ?_
  refine W.seq ?_
  refine W.region rfl ?_
  refine t_bs0 (α := Int) T22 H ?_
  intro v3z w4z H
  refine s_val (x_mv (v := v_s) rfl) ?_
  refine t_app (α := Int) (k := 0) (l := []) (l2 := s) (l' := s) (vy := v_s) T22 rfl H rfl rfl rfl hs_s (hC_s.at H) (List.nil_append _) (by simp only [List.length_nil]; omega) ?_
  intro v6z w7z H
  refine s_val (x_as (v := v6z) rfl) ?_
  refine s_nil ?_
  refine W.ret ?_
  exact ⟨_, resE_tmp rfl, H⟩
end Go.Proofs.YtbaehghammbjdaaGreat
section
set_option maxRecDepth 100000
set_option maxHeartbeats 16000000
namespace Go.Proofs.YtbaehghammbjdaaGreat
open Go Go.Nm
def zak (r__Down : List Int) (r__Travel : List Span) (r__Springs : List Int) (r__Towns : List Town) (r__Delay_Lo : Int) (r__Delay_Hi : Int) (r__Floods : List Flood) (station : Int) : M (Int × Int × Int) :=
  M.pure (station, r__Delay_Lo, r__Delay_Hi)
theorem za2 {R : List Chunk} {C_r__Down : Cells} {v_r__Down : Value} {C_r__Travel : Cells} {v_r__Travel : Value} {C_r__Springs : Cells} {v_r__Springs : Value} {C_r__Towns : Cells} {v_r__Towns : Value} {C_r__Floods : Cells} {v_r__Floods : Value} (r__Down : List Int) (r__Travel : List Span) (r__Springs : List Int) (r__Towns : List Town) (r__Delay_Lo : Int) (r__Delay_Hi : Int) (r__Floods : List Flood) (station : Int) (hC_r__Down : Reads R C_r__Down) (hs_r__Down : Sl C_r__Down v_r__Down r__Down) (hC_r__Travel : Reads R C_r__Travel) (hs_r__Travel : Sl C_r__Travel v_r__Travel r__Travel) (hC_r__Springs : Reads R C_r__Springs) (hs_r__Springs : Sl C_r__Springs v_r__Springs r__Springs) (hC_r__Towns : Reads R C_r__Towns) (hs_r__Towns : Sl C_r__Towns v_r__Towns r__Towns) (hC_r__Floods : Reads R C_r__Floods) (hs_r__Floods : Sl C_r__Floods v_r__Floods r__Floods) {r : (Int × Int × Int)} (hM : (zak r__Down r__Travel r__Springs r__Towns r__Delay_Lo r__Delay_Hi r__Floods station).Ends r) (w : World) (H : St w w [] R) : Ret Tryz.prog 66 #[.agg #[v_r__Down, v_r__Travel, v_r__Springs, v_r__Towns, I r__Delay_Lo, I r__Delay_Hi, v_r__Floods], I station] w fun v w' => ∃ (y0 : Int) (y1 : Int) (y2 : Int) (nb0 : Nat) (nb1 : Nat), (y0, y1, y2) = r /\ v = .func (.func 96) #[] #[.pointer (some ⟨nb0, 0, none⟩), .pointer (some ⟨nb1, 0, none⟩)] /\ St w w' [cBlk nb0 [I y0] 3, cBlk nb1 [v_r__Down, v_r__Travel, v_r__Springs, v_r__Towns, I y1, I y2, v_r__Floods] 29] R := by
 refine ret_of_W Tryz.func66 rfl rfl rfl ?_
 refine W.seq ?_
 refine W.region rfl ?_
 refine t_box (v := .agg #[v_r__Down, v_r__Travel, v_r__Springs, v_r__Towns, I r__Delay_Lo, I r__Delay_Hi, v_r__Floods]) (cs := [v_r__Down, v_r__Travel, v_r__Springs, v_r__Towns, I r__Delay_Lo, I r__Delay_Hi, v_r__Floods]) H rfl rfl ?_
 intro b_1 w1z H
 refine t_box (v := I station) (cs := [I station]) H rfl rfl ?_
 intro b_2 w2z H
 refine s_val (x_as (v := .nilFunc) rfl) ?_
 refine s_nil ?_
 refine W.seq ?_
 refine W.region rfl ?_
 refine s_val (x_mf (fs := []) (cs := [.pointer (some ⟨b_2, 0, none⟩), .pointer (some ⟨b_1, 0, none⟩)]) rfl rfl) ?_
 refine s_val (x_as (v := .func (.func 96) #[] #[.pointer (some ⟨b_2, 0, none⟩), .pointer (some ⟨b_1, 0, none⟩)]) rfl) ?_
 refine s_nil ?_
 refine W.ret ?_
 have hr_ := M.e_pure hM
 exact ⟨_, resE_tmp rfl, ⟨station, r__Delay_Lo, r__Delay_Hi, b_2, b_1, hr_, rfl, H⟩⟩

def zaY {T_ : Type} (yield_ : T_ -> (Int × Int) -> M (Bool × T_)) (k10 : List Int) : (Int × Nat × T_) -> M ((Int × Nat × T_) ⊕ ((T_ × Int) ⊕ (T_ × Int))) := fun (s, s2, t2) =>
  bif ((s != (-1)) && (decide (s < (k10.length : Int)))) then (
  M.bind (yield_ t2 ((s2 : Int), s)) fun (go, t) =>
  bif !go then (
  M.pure (.inr (.inl (t, s))))
  else (
  M.grd (decide ((0 : Int) <= s) && decide (s < (k10.length : Int))) <|
  M.grd (decide ((-9223372036854775808 : Int) <= ((s2 : Int) + 1)) && decide (((s2 : Int) + 1) <= (9223372036854775807 : Int))) <|
  M.pure (.inl (k10.getD (Int.toNat s) 0, s2 + 1, t))))
  else (
  M.pure (.inr (.inr (t2, s))))
def zan {T_ : Type} (yield_ : T_ -> (Int × Int) -> M (Bool × T_)) (t_ : T_) (k02 : Int) (k10 : List Int) (k11 : List Span) (k12 : List Int) (k13 : List Town) (k14 : Int) (k15 : Int) (k16 : List Flood) : M (T_ × Int) :=
  M.bind (M.iter (zaY yield_ k10) (k02, 0, t_)) fun x_ => match x_ with
  | (.inl (t3, s3)) => (
  M.pure (t3, s3))
  | (.inr (t4, s4)) => (
  M.pure (t4, s4))
theorem za3 {R : List Chunk} {T_ : Type} {Y_ : T_ -> List Chunk -> Prop} {v_yield_ : Value} {Ls_ : List Chunk} {b_k0 : Nat} {b_k1 : Nat} {C_k10 : Cells} {v_k10 : Value} {C_k11 : Cells} {v_k11 : Value} {C_k12 : Cells} {v_k12 : Value} {C_k13 : Cells} {v_k13 : Value} {C_k16 : Cells} {v_k16 : Value} (yield_ : T_ -> (Int × Int) -> M (Bool × T_)) (t_ : T_) (k02 : Int) (k10 : List Int) (k11 : List Span) (k12 : List Int) (k13 : List Town) (k14 : Int) (k15 : Int) (k16 : List Flood) (hf_yield_ : YieldC Tryz.prog R arII Y_ v_yield_ yield_) (hY_ : Y_ t_ Ls_) (hC_k10 : Reads R C_k10) (hs_k10 : Sl C_k10 v_k10 k10) (hC_k11 : Reads R C_k11) (hs_k11 : Sl C_k11 v_k11 k11) (hC_k12 : Reads R C_k12) (hs_k12 : Sl C_k12 v_k12 k12) (hC_k13 : Reads R C_k13) (hs_k13 : Sl C_k13 v_k13 k13) (hC_k16 : Reads R C_k16) (hs_k16 : Sl C_k16 v_k16 k16) (h_b_k1 : Has R (cBlk b_k1 [v_k10, v_k11, v_k12, v_k13, I k14, I k15, v_k16] 29)) {r : (T_ × Int)} (hM : (zan yield_ t_ k02 k10 k11 k12 k13 k14 k15 k16).Ends r) (w : World) (H : St w w [cAll Ls_, cBlk b_k0 [I k02] 3] R) : Ret Tryz.prog 96 #[v_yield_, .pointer (some ⟨b_k0, 0, none⟩), .pointer (some ⟨b_k1, 0, none⟩)] w fun v w' => ∃ (y0 : T_) (y1 : Int) (Ls0 : List Chunk), (y0, y1) = r /\ v = .tuple #[] /\ St w w' [cAll Ls0, cBlk b_k0 [I y1] 3] R /\ Y_ y0 Ls0 := by
 refine ret_of_W Tryz.func96 rfl rfl rfl ?_
 refine W.seq ?_
 refine W.region rfl ?_
 refine s_val (x_as (v := I 0) rfl) ?_
 refine s_nil ?_
 refine W.block ?_
 obtain ⟨ex1z, hi2z, hk3z⟩ := M.e_bind hM
 obtain ⟨m0_, hi2z⟩ := M.e_iter hi2z
 refine W.loop (fun m σ W => ∃ (s : Int) (s2 : Nat) (t2 : T_) (Ls_t2 : List Chunk) (ρ : Env), σ = upds ρ [(0, v_yield_), (1, .pointer (some ⟨b_k0, 0, none⟩)), (2, .pointer (some ⟨b_k1, 0, none⟩)), (4, I (s2 : Int))] /\ M.iterN (zaY yield_ k10) m (s, s2, t2) = some ex1z /\ St w W [cAll Ls_t2, cBlk b_k0 [I s] 3] R /\ Y_ t2 Ls_t2) ?_ ?_
 ·exact ⟨_, k02, 0, t_, Ls_, _, upds_of _ _ ⟨rfl, rfl, rfl, rfl, trivial⟩, hi2z, H, hY_⟩
 rintro m6z σ w4z ⟨s, s2, t2, Ls_t2, ρ, rfl, hI5z, H, hY_t2⟩
 obtain ⟨m7z, lt8z, x9z, hM, hN10z⟩ := M.e_iterN hI5z
 simp only [zaY] at hM
 clear hI5z
 refine W.seq ?_
 refine W.seq ?_
 refine W.region rfl ?_
 refine s_val (x_ld (p := .pointer (some ⟨b_k0, 0, none⟩)) (v := I s) rfl (ldb_sc Sc3 (H.blk (k := 1) rfl) rfl)) ?_
 refine s_val (x_cmp (kd := .i64) (a := s) (b := -1) (r := s != (-1)) rfl rfl rfl) ?_
 refine s_val (x_mv (v := B (s != (-1))) rfl) ?_
 refine g_val (s != (-1)) (gy_t rfl) (fun hg => x_ld (p := .pointer (some ⟨b_k0, 0, none⟩)) (v := I s) rfl (ldb_sc Sc3 (H.blk (k := 1) rfl) rfl)) ?_
 refine g_val (s != (-1)) (gy_t rfl) (fun hg => x_fa (a := .pointer (some ⟨b_k1, 0, none⟩)) (v := .pointer (some ⟨b_k1, 0, none⟩)) rfl (fa_blk (o := 0) Fd29_0 Sz22)) ?_
 refine g_val (s != (-1)) (gy_t rfl) (fun hg => x_ld (p := .pointer (some ⟨b_k1, 0, none⟩)) (v := v_k10) (gd_of (c := s != (-1)) hg (.pointer (some ⟨b_k1, 0, none⟩))) (ldb_sc Sc22 (h_b_k1.blk H) rfl)) ?_
 have hl11z := (hs_k10).len_le
 refine g_val (s != (-1)) (gy_t rfl) (fun hg => x_lenS T22.und (gd_of (c := s != (-1)) hg (v_k10)) hs_k10) ?_
 refine g_val (s != (-1)) (gy_t rfl) (fun hg => x_cmp (kd := .i64) (a := s) (b := (k10.length : Int)) (r := decide (s < (k10.length : Int))) (gd_of (c := s != (-1)) hg (I s)) (gd_of (c := s != (-1)) hg (I (k10.length : Int))) rfl) ?_
 refine s_val (x_pand (b := s != (-1)) (r := decide (s < (k10.length : Int))) rfl (fun hb => gd_of (c := s != (-1)) (by first | exact hb | (rw [hb]; rfl) | simp_all) (B (decide (s < (k10.length : Int))))) rfl) ?_
 refine s_nil ?_
 refine W.cond ((s != (-1)) && (decide (s < (k10.length : Int)))) rfl (fun c12z => ?_) (fun c12z => ?_)
 ·replace hM := M.e_t hM c12z
  refine W.skip ?_
  refine W.seq ?_
  refine W.block ?_
  refine W.seq ?_
  refine W.seq ?_
  refine W.region rfl ?_
  refine s_val (x_mv (v := v_yield_) rfl) ?_
  refine s_val (x_mv (v := I (s2 : Int)) rfl) ?_
  refine s_val (x_ld (p := .pointer (some ⟨b_k0, 0, none⟩)) (v := I s) rfl (ldb_sc Sc3 (H.blk (k := 1) rfl) rfl)) ?_
  obtain ⟨⟨go, t⟩, hx13z, hM⟩ := M.e_bind hM
  try dsimp only at hM
  refine t_yield (L := [cBlk b_k0 [I s] 3]) H hf_yield_ hY_t2 rfl [I (s2 : Int), I s] rfl ((s2 : Int), s) Reads.none rfl hx13z ?_
  intro Ls14z w16z hY15z H
  replace H := H.nf
  refine s_val (x_not (b := go) rfl) ?_
  refine s_nil ?_
  refine W.cond (!go) rfl (fun c17z => ?_) (fun c17z => ?_)
  ·replace hM := M.e_t hM c17z
   refine W.ret ?_
   have hX18z := M.e_inr hM hN10z
   subst hX18z
   replace hM := hk3z
   try dsimp only at hM
   have hr_ := M.e_pure hM
   exact ⟨_, resE_tmp0 rfl, ⟨t, s, Ls14z, hr_, rfl, H, hY15z⟩⟩
  replace hM := M.e_f hM c17z
  refine W.skip ?_
  refine W.region rfl ?_
  refine s_val (x_fa (a := .pointer (some ⟨b_k1, 0, none⟩)) (v := .pointer (some ⟨b_k1, 0, none⟩)) rfl (fa_blk (o := 0) Fd29_0 Sz22)) ?_
  refine s_val (x_ld (p := .pointer (some ⟨b_k1, 0, none⟩)) (v := v_k10) rfl (ldb_sc Sc22 (h_b_k1.blk H) rfl)) ?_
  refine s_val (x_ld (p := .pointer (some ⟨b_k0, 0, none⟩)) (v := I s) rfl (ldb_sc Sc3 (H.blk (k := 1) rfl) rfl)) ?_
  obtain ⟨sd19z, hM⟩ := M.e_grd hM
  simp only [Bool.and_eq_true, decide_eq_true_eq] at sd19z
  refine s_val (x_ix (a := v_k10) (b := I s) (v := vat v_k10 1 (Int.toNat s)) rfl rfl (Sl.ix (α := Int) T22.und T22.size hs_k10 (by omega) (by omega))) ?_
  refine s_val (x_ld (p := vat v_k10 1 (Int.toNat s)) (v := I (k10.getD (Int.toNat s) 0)) rfl (ld_sc Sc3 (At.mono (Int_at hs_k10 (i := s) (by omega) (by omega)) (hC_k10.at H)))) ?_
  refine t_sw 1 0 [I (k10.getD (Int.toNat s) 0)] (I (k10.getD (Int.toNat s) 0)) H rfl rfl Sz3 rfl rfl rfl rfl ?_
  intro w20z H
  refine s_nil ?_
  refine W.region rfl ?_
  refine s_val (x_mv (v := I (s2 : Int)) rfl) ?_
  obtain ⟨sd21z, hM⟩ := M.e_grd hM
  simp only [Bool.and_eq_true, decide_eq_true_eq] at sd21z
  refine s_val (x_ari (a := (s2 : Int)) (b := 1) (r := (s2 : Int) + 1) rfl rfl rfl (by omega)) ?_
  refine s_val (x_as (v := I ((s2 : Int) + 1)) rfl) ?_
  refine s_nil ?_
  exact ⟨m7z, lt8z, k10.getD (Int.toNat s) 0, s2 + 1, t, Ls14z, _, upds_of _ _ ⟨rfl, rfl, rfl, rfl, trivial⟩, M.e_inl hM hN10z, H, hY15z⟩
 replace hM := M.e_f hM c12z
 refine W.exit ?_
 have hX22z := M.e_inr hM hN10z
 subst hX22z
 replace hM := hk3z
 try dsimp only at hM
 have hr_ := M.e_pure hM
 exact ⟨_, resE_tmp0 rfl, ⟨t2, s, Ls_t2, hr_, rfl, H, hY_t2⟩⟩
def za9 (l : List Span) : (Int × Int × Nat) -> M ((Int × Int × Nat) ⊕ (Int × Int)) := fun (s, s2, s3) =>
  bif decide ((s3 : Int) < (l.length : Int)) then (
  M.grd (decide ((s3 : Int) < (l.length : Int))) <|
  M.grd (decide ((-9223372036854775808 : Int) <= (s + ((l.getD s3 default).lo))) && decide ((s + ((l.getD s3 default).lo)) <= (9223372036854775807 : Int))) <|
  M.grd (decide ((-9223372036854775808 : Int) <= (s2 + ((l.getD s3 default).hi))) && decide ((s2 + ((l.getD s3 default).hi)) <= (9223372036854775807 : Int))) <|
  M.pure (.inl (s + ((l.getD s3 default).lo), s2 + ((l.getD s3 default).hi), s3 + 1)))
  else (
  M.pure (.inr (s, s2)))
def zbu (l : List Span) : M (Int × Int) :=
  M.bind (M.iter (za9 l) (0, 0, 0)) fun (s4, s5) =>
  M.pure (s4, s5)
theorem zcM {R : List Chunk} {C_l : Cells} {v_l : Value} (l : List Span) (hC_l : Reads R C_l) (hs_l : Sl C_l v_l l) {r : (Int × Int)} (hM : (zbu l).Ends r) (w : World) (H : St w w [] R) : Ret Tryz.prog 76 #[v_l] w fun v w' => ∃ (y0 : Int) (y1 : Int), (y0, y1) = r /\ v = .agg #[I y0, I y1] /\ St w w' [] R := by
 refine ret_of_W Tryz.func76 rfl rfl rfl ?_
 refine W.seq ?_
 refine W.region rfl ?_
 refine t_alloc (cs := [I 0, I 0]) H Al26 rfl ?_
 intro b_1 w1z H
 refine s_nil ?_
 refine W.seq ?_
 refine W.region rfl ?_
 refine t_alloc (cs := [I 0, I 0]) H Al26 rfl ?_
 intro b_2 w2z H
 refine s_nil ?_
 refine W.seq ?_
 refine W.seq ?_
 refine W.region rfl ?_
 refine s_val (x_mv (v := v_l) rfl) ?_
 have hl3z := (hs_l).len_le
 refine s_val (x_lenS T23.und rfl hs_l) ?_
 refine s_val (x_mv (v := I 0) rfl) ?_
 refine s_nil ?_
 refine W.block ?_
 obtain ⟨ex4z, hi5z, hk6z⟩ := M.e_bind hM
 obtain ⟨m0_, hi5z⟩ := M.e_iter hi5z
 refine W.loop (fun m σ W => ∃ (s : Int) (s2 : Int) (s3 : Nat) (ρ : Env), σ = upds ρ [(2, .pointer (some ⟨b_1, 0, none⟩)), (3, .pointer (some ⟨b_2, 0, none⟩)), (6, v_l), (7, I (l.length : Int)), (8, I (s3 : Int))] /\ M.iterN (za9 l) m (s, s2, s3) = some ex4z /\ St w W [cBlk b_2 [I s, I s2] 26, cBlk b_1 [I 0, I 0] 26] R) ?_ ?_
 ·exact ⟨_, 0, 0, 0, _, upds_of _ _ ⟨rfl, rfl, rfl, rfl, rfl, trivial⟩, hi5z, H⟩
 rintro m9z σ w7z ⟨s, s2, s3, ρ, rfl, hI8z, H⟩
 obtain ⟨m10z, lt11z, x12z, hM, hN13z⟩ := M.e_iterN hI8z
 simp only [za9] at hM
 clear hI8z
 refine W.seq ?_
 refine W.region rfl ?_
 refine s_val (x_cmp (kd := .i64) (a := (s3 : Int)) (b := (l.length : Int)) (r := decide ((s3 : Int) < (l.length : Int))) rfl rfl rfl) ?_
 refine s_nil ?_
 refine W.seq ?_
 refine W.cond (decide ((s3 : Int) < (l.length : Int))) rfl (fun c14z => ?_) (fun c14z => ?_)
 ·replace hM := M.e_t hM c14z
  simp only [decide_eq_true_eq, decide_eq_false_iff_not, beq_iff_eq, bne_iff_ne, beq_eq_false_iff_ne, bne_eq_false_iff_eq, ne_eq, Decidable.not_not] at c14z
  refine W.skip ?_
  refine W.seq ?_
  refine W.block ?_
  refine W.seq ?_
  refine W.region rfl ?_
  obtain ⟨sd15z, hM⟩ := M.e_grd hM
  simp only [Bool.and_eq_true, decide_eq_true_eq] at sd15z
  refine s_val (x_ix (a := v_l) (b := I (s3 : Int)) (v := vat v_l 2 (Int.toNat (s3 : Int))) rfl rfl (Sl.ix (α := Span) T23.und T23.size hs_l (by omega) (by omega))) ?_
  refine s_val (x_ld (p := vat v_l 2 (Int.toNat (s3 : Int))) (v := .agg #[I ((l.getD s3 default).lo), I ((l.getD s3 default).hi)]) rfl (ld_ag Ag26 Sz26 (At.mono (Span_atA hs_l (i := (s3 : Int)) (by omega) (by omega)) (hC_l.at H)))) ?_
  refine t_alloc (cs := [I 0, I 0]) H Al26 rfl ?_
  intro b_3 w16z H
  refine t_sw 0 0 [I ((l.getD s3 default).lo), I ((l.getD s3 default).hi)] (.agg #[I ((l.getD s3 default).lo), I ((l.getD s3 default).hi)]) H rfl rfl Sz26 rfl rfl rfl rfl ?_
  intro w17z H
  refine s_nil ?_
  refine W.region rfl ?_
  refine s_val (x_fa (a := .pointer (some ⟨b_2, 0, none⟩)) (v := .pointer (some ⟨b_2, 0, none⟩)) rfl (fa_blk (o := 0) Fd26_0 Sz3)) ?_
  refine s_val (x_ld (p := .pointer (some ⟨b_2, 0, none⟩)) (v := I s) rfl (ldb_sc Sc3 (H.blk (k := 1) rfl) rfl)) ?_
  refine s_val (x_fa (a := .pointer (some ⟨b_3, 0, none⟩)) (v := .pointer (some ⟨b_3, 0, none⟩)) rfl (fa_blk (o := 0) Fd26_0 Sz3)) ?_
  refine s_val (x_ld (p := .pointer (some ⟨b_3, 0, none⟩)) (v := I ((l.getD s3 default).lo)) rfl (ldb_sc Sc3 (H.blk (k := 0) rfl) rfl)) ?_
  obtain ⟨sd18z, hM⟩ := M.e_grd hM
  simp only [Bool.and_eq_true, decide_eq_true_eq] at sd18z
  refine s_val (x_ari (a := s) (b := (l.getD s3 default).lo) (r := s + ((l.getD s3 default).lo)) rfl rfl rfl (by omega)) ?_
  refine s_val (x_fa (a := .pointer (some ⟨b_2, 0, none⟩)) (v := .pointer (some ⟨b_2, 1, none⟩)) rfl (fa_blk (o := 0) Fd26_1 Sz3)) ?_
  refine s_val (x_ld (p := .pointer (some ⟨b_2, 1, none⟩)) (v := I s2) rfl (ldb_sc Sc3 (H.blk (k := 1) rfl) rfl)) ?_
  refine s_val (x_fa (a := .pointer (some ⟨b_3, 0, none⟩)) (v := .pointer (some ⟨b_3, 1, none⟩)) rfl (fa_blk (o := 0) Fd26_1 Sz3)) ?_
  refine s_val (x_ld (p := .pointer (some ⟨b_3, 1, none⟩)) (v := I ((l.getD s3 default).hi)) rfl (ldb_sc Sc3 (H.blk (k := 0) rfl) rfl)) ?_
  obtain ⟨sd19z, hM⟩ := M.e_grd hM
  simp only [Bool.and_eq_true, decide_eq_true_eq] at sd19z
  refine s_val (x_ari (a := s2) (b := (l.getD s3 default).hi) (r := s2 + ((l.getD s3 default).hi)) rfl rfl rfl (by omega)) ?_
  refine s_val (x_bld (ps := [(0, I (s + ((l.getD s3 default).lo))), (1, I (s2 + ((l.getD s3 default).hi)))]) (zs := [I 0, I 0]) (L' := [I (s + ((l.getD s3 default).lo)), I (s2 + ((l.getD s3 default).hi))]) rfl Tryz.underlying26 Al26 rfl (Bd26 Tryz.underlying26) (.cons (cs := [I (s + ((l.getD s3 default).lo))]) rfl rfl rfl rfl rfl <| .cons (cs := [I (s2 + ((l.getD s3 default).hi))]) rfl rfl rfl rfl rfl <| .nil)) ?_
  refine t_sw 1 0 [I (s + ((l.getD s3 default).lo)), I (s2 + ((l.getD s3 default).hi))] (.agg #[I (s + ((l.getD s3 default).lo)), I (s2 + ((l.getD s3 default).hi))]) H rfl rfl Sz26 rfl rfl rfl rfl ?_
  intro w20z H
  refine s_nil ?_
  refine W.region rfl ?_
  refine s_val (x_ari (a := (s3 : Int)) (b := 1) (r := (s3 : Int) + 1) rfl rfl rfl (by omega)) ?_
  refine s_val (x_mv (v := I ((s3 : Int) + 1)) rfl) ?_
  refine s_nil ?_
  exact ⟨m10z, lt11z, s + ((l.getD s3 default).lo), s2 + ((l.getD s3 default).hi), s3 + 1, _, upds_of _ _ ⟨rfl, rfl, rfl, rfl, rfl, trivial⟩, M.e_inl hM hN13z, (H.pk [1, 2])⟩
 replace hM := M.e_f hM c14z
 simp only [decide_eq_true_eq, decide_eq_false_iff_not, beq_iff_eq, bne_iff_ne, beq_eq_false_iff_ne, bne_eq_false_iff_eq, ne_eq, Decidable.not_not] at c14z
 refine W.exit ?_
 have hX21z := M.e_inr hM hN13z
 subst hX21z
 replace hM := hk6z
 try dsimp only at hM
 refine W.seq ?_
 refine W.region rfl ?_
 refine s_val (x_ld (p := .pointer (some ⟨b_2, 0, none⟩)) (v := .agg #[I s, I s2]) rfl (ldb_ag (ds := [I s, I s2]) Ag26 Sz26 (H.blk (k := 0) rfl) rfl rfl)) ?_
 refine t_sw 1 0 [I s, I s2] (.agg #[I s, I s2]) H rfl rfl Sz26 rfl rfl rfl rfl ?_
 intro w22z H
 refine s_nil ?_
 refine W.ret ?_
 have hb23z := (H.blk (k := 1) rfl)
 have hr_ := M.e_pure hM
 exact ⟨_, (resE_of1 (v := .agg #[I s, I s2]) rfl (.cell (v := .agg #[I s, I s2]) rfl (run_loadVar_ag (ds := [I s, I s2]) Ag26 Sz26 hb23z rfl rfl) <| .nil)), ⟨s, s2, hr_, rfl, (H.pk [])⟩⟩

def zaI (w__River_Travel : List Span) (to_ : Int) : (List Span) -> (Int × Int) -> M ((List Span) ⊕ ((List Span) × (List Span) × Int × Int)) := fun l (x, x2) =>
  bif x2 == to_ then (
  M.bind (zbu l) fun (r0, r1) =>
  M.pure (.inr (l, l, r0, r1)))
  else (
  M.grd (decide ((0 : Int) <= x2) && decide (x2 < (w__River_Travel.length : Int))) <|
  M.grd (decide ((l.length + ([(w__River_Travel.getD (Int.toNat x2) default)]).length) * 16 <= 140737488355328)) <|
  M.pure (.inl (l ++ ([(w__River_Travel.getD (Int.toNat x2) default)]))))
def zat (w__River_Down : List Int) (w__River_Travel : List Span) (w__River_Springs : List Int) (w__River_Towns : List Town) (w__River_Delay_Lo : Int) (w__River_Delay_Hi : Int) (w__River_Floods : List Flood) (from_ : Int) (to_ : Int) : M (Int × Int × Bool) :=
  M.bind (zak w__River_Down w__River_Travel w__River_Springs w__River_Towns w__River_Delay_Lo w__River_Delay_Hi w__River_Floods from_) fun (r00, r14, r15) =>
  M.bind (zan (M.yl (zaI w__River_Travel to_)) (.inl ([])) r00 w__River_Down w__River_Travel w__River_Springs w__River_Towns r14 r15 w__River_Floods) fun x_ => match x_ with
  | (.inl l, q0) => (
  M.pure (0, 0, false))
  | (.inr (l2, l3, s, s2), q0) => (
  M.pure (s, s2, true))
theorem zbB {R : List Chunk} {b_w_ : Nat} {C_w__River_Down : Cells} {v_w__River_Down : Value} {C_w__River_Travel : Cells} {v_w__River_Travel : Value} {C_w__River_Springs : Cells} {v_w__River_Springs : Value} {C_w__River_Towns : Cells} {v_w__River_Towns : Value} {C_w__River_Floods : Cells} {v_w__River_Floods : Value} {b_w__found : Nat} (w__River_Down : List Int) (w__River_Travel : List Span) (w__River_Springs : List Int) (w__River_Towns : List Town) (w__River_Delay_Lo : Int) (w__River_Delay_Hi : Int) (w__River_Floods : List Flood) (from_ : Int) (to_ : Int) (hC_w__River_Down : Reads R C_w__River_Down) (hs_w__River_Down : Sl C_w__River_Down v_w__River_Down w__River_Down) (hC_w__River_Travel : Reads R C_w__River_Travel) (hs_w__River_Travel : Sl C_w__River_Travel v_w__River_Travel w__River_Travel) (hC_w__River_Springs : Reads R C_w__River_Springs) (hs_w__River_Springs : Sl C_w__River_Springs v_w__River_Springs w__River_Springs) (hC_w__River_Towns : Reads R C_w__River_Towns) (hs_w__River_Towns : Sl C_w__River_Towns v_w__River_Towns w__River_Towns) (hC_w__River_Floods : Reads R C_w__River_Floods) (hs_w__River_Floods : Sl C_w__River_Floods v_w__River_Floods w__River_Floods) (h_b_w_ : Has R (cBlk b_w_ [v_w__River_Down, v_w__River_Travel, v_w__River_Springs, v_w__River_Towns, I w__River_Delay_Lo, I w__River_Delay_Hi, v_w__River_Floods, .map (some b_w__found)] 111)) {r : (Int × Int × Bool)} (hM : (zat w__River_Down w__River_Travel w__River_Springs w__River_Towns w__River_Delay_Lo w__River_Delay_Hi w__River_Floods from_ to_).Ends r) (w : World) (H : St w w [] R) : Ret Tryz.prog 74 #[.pointer (some ⟨b_w_, 0, none⟩), I from_, I to_] w fun v w' => ∃ (y0 : Int) (y1 : Int) (y2 : Bool), (y0, y1, y2) = r /\ v = .tuple #[.agg #[I y0, I y1], B y2] /\ St w w' [] R := by
 refine ret_of_WD Tryz.func74 rfl rfl rfl ?_
 replace H : St w w [cMk ([])] R := H.mk0
 have hl_w__River_Down := hs_w__River_Down.len_le
 have hl_w__River_Travel := hs_w__River_Travel.len_le
 have hl_w__River_Springs := hs_w__River_Springs.len_le
 have hl_w__River_Towns := hs_w__River_Towns.len_le
 have hl_w__River_Floods := hs_w__River_Floods.len_le
 unfold zat at hM
 refine WD.seq ?_
 refine WD.of ?_
 refine W.region rfl ?_
 refine t_box (v := .pointer (some ⟨b_w_, 0, none⟩)) (cs := [.pointer (some ⟨b_w_, 0, none⟩)]) H rfl rfl ?_
 intro b_1 w1z H
 refine t_box (v := I to_) (cs := [I to_]) H rfl rfl ?_
 intro b_2 w2z H
 refine t_alloc (cs := [I 0, I 0]) H Al26 rfl ?_
 intro b_3 w3z H
 refine t_alloc (cs := [B false]) H Al4 rfl ?_
 intro b_4 w4z H
 refine s_nil ?_
 refine WD.seq ?_
 refine WD.of ?_
 refine W.region rfl ?_
 refine t_alloc (cs := [.slice none 0 0]) H Al23 rfl ?_
 intro b_5 w5z H
 refine s_nil ?_
 refine WD.seq ?_
 refine WD.seq ?_
 refine WD.of ?_
 refine W.region rfl ?_
 refine s_val (x_ld (p := .pointer (some ⟨b_1, 0, none⟩)) (v := .pointer (some ⟨b_w_, 0, none⟩)) rfl (ldb_sc Sc94 (H.blk (k := 4) rfl) rfl)) ?_
 refine s_val (x_nc (a := ⟨b_w_, 0, none⟩) rfl) ?_
 refine s_val (x_fa (a := .pointer (some ⟨b_w_, 0, none⟩)) (v := .pointer (some ⟨b_w_, 0, none⟩)) rfl (fa_blk (o := 0) Fd111_0 Sz29)) ?_
 refine s_val (x_ld (p := .pointer (some ⟨b_w_, 0, none⟩)) (v := .agg #[v_w__River_Down, v_w__River_Travel, v_w__River_Springs, v_w__River_Towns, I w__River_Delay_Lo, I w__River_Delay_Hi, v_w__River_Floods]) rfl (ldb_ag (ds := [v_w__River_Down, v_w__River_Travel, v_w__River_Springs, v_w__River_Towns, I w__River_Delay_Lo, I w__River_Delay_Hi, v_w__River_Floods]) Ag29 Sz29 (h_b_w_.blk H) rfl rfl)) ?_
 refine s_val (x_mv (v := I from_) rfl) ?_
 obtain ⟨r7z, hx6z, hM⟩ := M.e_bind hM
 refine s_call cf66 [.agg #[v_w__River_Down, v_w__River_Travel, v_w__River_Springs, v_w__River_Towns, I w__River_Delay_Lo, I w__River_Delay_Hi, v_w__River_Floods], I from_] rfl (za2 w__River_Down w__River_Travel w__River_Springs w__River_Towns w__River_Delay_Lo w__River_Delay_Hi w__River_Floods from_ (hC_w__River_Down.app _) hs_w__River_Down (hC_w__River_Travel.app _) hs_w__River_Travel (hC_w__River_Springs.app _) hs_w__River_Springs (hC_w__River_Towns.app _) hs_w__River_Towns (hC_w__River_Floods.app _) hs_w__River_Floods hx6z _ (H.gt 6)) ?_
 rintro vq w8z ⟨r00, r14, r15, nb0_6, nb1_7, hr9z, hvq, H2_⟩
 subst hr9z
 subst vq
 try dsimp only at hM
 replace H := H.bk H2_
 clear H2_
 refine s_nil ?_
 refine WD.block ?_
 replace H := H.nilOwn (α := Span) 26
 obtain ⟨t10z, hx11z, hM⟩ := M.e_bind hM
 refine WD.range (L := [cOwn (α := Span) 26 (.slice none 0 0) ([]), cBlk b_5 [(.slice none 0 0)] 23, cBlk b_4 [B false] 4, cBlk b_3 [I 0, I 0] 26, cBlk nb1_7 [v_w__River_Down, v_w__River_Travel, v_w__River_Springs, v_w__River_Towns, I r14, I r15, v_w__River_Floods] 29, cBlk b_2 [I to_] 3, cBlk b_1 [.pointer (some ⟨b_w_, 0, none⟩)] 94, cBlk nb0_6 [I r00] 3]) [.pointer (some ⟨nb0_6, 0, none⟩), .pointer (some ⟨nb1_7, 0, none⟩)] (H.pk [8, 0, 3, 4, 5, 2, 6, 7, 1]) rfl cf96 ?_
 intro l12z D13z r14z w15z hr16z H
 have hYC : YieldC Tryz.prog ([cMk (D13z :: ([])), cBlk nb1_7 [v_w__River_Down, v_w__River_Travel, v_w__River_Springs, v_w__River_Towns, I r14, I r15, v_w__River_Floods] 29, cBlk b_2 [I to_] 3, cBlk b_1 [.pointer (some ⟨b_w_, 0, none⟩)] 94] ++ R) arII (yJ l12z r14z (fun l Ls_ => ∃ (v_l : Value), Ls_ = [cOwn (α := Span) 26 v_l l, cBlk b_5 [v_l] 23, cBlk b_4 [B false] 4, cBlk b_3 [I 0, I 0] 26]) (fun (l2, l3, s, s2) Ls_ => ∃ (v_o_10 : Value), Ls_ = [cOwn (α := Span) 26 v_o_10 l3, cBlk b_5 [v_o_10] 23, cBlk b_4 [B true] 4, cBlk b_3 [I s, I s2] 26]) (fun _ => .ret)) (.func (.yield l12z) #[] #[]) (M.yl (zaI w__River_Travel to_)) := by
  refine YieldC.mk hr16z (fun l Ls_ => ∃ (v_l : Value), Ls_ = [cOwn (α := Span) 26 v_l l, cBlk b_5 [v_l] 23, cBlk b_4 [B false] 4, cBlk b_3 [I 0, I 0] 26]) (fun (l2, l3, s, s2) Ls_ => ∃ (v_o_10 : Value), Ls_ = [cOwn (α := Span) 26 v_o_10 l3, cBlk b_5 [v_o_10] 23, cBlk b_4 [B true] 4, cBlk b_3 [I s, I s2] 26]) (fun _ => .ret) (zaI w__River_Travel to_) (by rintro l _ h_; obtain ⟨_, rfl⟩ := h_; rfl) (by rintro ⟨l2, l3, s, s2⟩ _ h_; (obtain ⟨_, rfl⟩ := h_; rfl)) rfl (arII_len rfl) ?_
  intro C_ vs_ x_ W_ hA_
  obtain ⟨x, x2⟩ := x_
  obtain rfl := hA_
  refine W.region rfl ?_
  refine s_val (x_as (v := I x2) rfl) ?_
  refine s_nil ?_
  refine ⟨rfl, rfl, ?_⟩
  intro w R hR_ Ls_ s_ r hY_ hM H
  skip
  obtain ⟨l, hs_eq_⟩ : ∃ y_, y_ = s_ := ⟨_, rfl⟩
  subst hs_eq_
  obtain ⟨v_l, rfl⟩ := hY_
  replace hC_w__River_Down := hC_w__River_Down.sub hR_
  replace hC_w__River_Travel := hC_w__River_Travel.sub hR_
  replace hC_w__River_Springs := hC_w__River_Springs.sub hR_
  replace hC_w__River_Towns := hC_w__River_Towns.sub hR_
  replace hC_w__River_Floods := hC_w__River_Floods.sub hR_
  replace h_b_w_ := h_b_w_.sub hR_
  replace hM : (zaI w__River_Travel to_ l (x, x2)).Ends r := hM
  simp only [zaI] at hM
  replace H := H.pk [0, 1, 2, 3, 5, 6, 7, 4]
  refine W.block ?_
  refine W.seq ?_
  refine W.seq ?_
  refine W.region rfl ?_
  refine s_val (x_mv (v := I x2) rfl) ?_
  refine s_val (x_ld (p := .pointer (some ⟨b_2, 0, none⟩)) (v := I to_) rfl (ldb_sc Sc3 (H.blk (k := 5) rfl) rfl)) ?_
  refine s_val (x_cmp (kd := .i64) (a := x2) (b := to_) (r := x2 == to_) rfl rfl rfl) ?_
  refine s_nil ?_
  refine W.cond (x2 == to_) rfl (fun c17z => ?_) (fun c17z => ?_)
  ·replace hM := M.e_t hM c17z
   simp only [decide_eq_true_eq, decide_eq_false_iff_not, beq_iff_eq, bne_iff_ne, beq_eq_false_iff_ne, bne_eq_false_iff_eq, ne_eq, Decidable.not_not] at c17z
   refine W.seq ?_
   refine W.region rfl ?_
   refine s_val (x_ld (p := .pointer (some ⟨b_5, 0, none⟩)) (v := v_l) rfl (ldb_sc Sc23 (H.blk (k := 1) rfl) rfl)) ?_
   obtain ⟨r19z, hx18z, hM⟩ := M.e_bind hM
   refine s_call cf76 [v_l] rfl (zcM l (Reads.of (k := 0) rfl ownLe) (ownSl (H.get (k := 0) rfl)) hx18z _ (H.gt 8)) ?_
   rintro vq w20z ⟨r0, r1, hr21z, hvq, H2_⟩
   subst hr21z
   subst vq
   try dsimp only at hM
   replace H := H.bk H2_
   clear H2_
   refine t_sw 3 0 [I r0, I r1] (.agg #[I r0, I r1]) H rfl rfl Sz26 rfl rfl rfl rfl ?_
   intro w22z H
   refine t_sw 2 0 [B true] (B true) H rfl rfl Sz4 rfl rfl rfl rfl ?_
   intro w23z H
   refine s_nil ?_
   refine W.ret ?_
   exact ⟨(l, l, r0, r1), [cOwn (α := Span) 26 v_l l, cBlk b_5 [v_l] 23, cBlk b_4 [B true] 4, cBlk b_3 [I r0, I r1] 26], (M.e_pure hM).symm, ⟨v_l, rfl⟩, H.pick [0, 1, 2, 3, 7, 4, 5, 6] (by decide) rfl, rfl⟩
  replace hM := M.e_f hM c17z
  simp only [decide_eq_true_eq, decide_eq_false_iff_not, beq_iff_eq, bne_iff_ne, beq_eq_false_iff_ne, bne_eq_false_iff_eq, ne_eq, Decidable.not_not] at c17z
  refine W.skip ?_
  refine W.drawT (fun W => St w W [cBlk b_4 [B false] 4, cBlk b_3 [I 0, I 0] 26, cBlk nb1_7 [v_w__River_Down, v_w__River_Travel, v_w__River_Springs, v_w__River_Towns, I r14, I r15, v_w__River_Floods] 29, cBlk b_2 [I to_] 3, cBlk b_1 [.pointer (some ⟨b_w_, 0, none⟩)] 94, cMk (D13z :: ([]))] R) (.q 1 (.q 2 (.q 3 (.q 4 (.q 5 (.q 6 (.q 7 (.q 8 (.l2 0 (.l 9 (.l 10 (.l 11 .nil))) 9 (.l 0 (.l 10 (.l 11 .nil)))))))))))) mixed (by decide +kernel) rfl ?_
  intro w24z hx_
  replace H := H.ext hx_
  clear hx_
  refine ⟨(H.pk [2, 3, 4, 5, 6, 7]), ?_⟩
  refine t_q rfl (fun w' H => x_ld (p := .pointer (some ⟨b_1, 0, none⟩)) (v := .pointer (some ⟨b_w_, 0, none⟩)) rfl (ldb_sc Sc94 (H.blk (k := 4) rfl) rfl)) ?_
  refine t_q rfl (fun w' H => x_nc (a := ⟨b_w_, 0, none⟩) rfl) ?_
  refine t_q rfl (fun w' H => x_fa (a := .pointer (some ⟨b_w_, 0, none⟩)) (v := .pointer (some ⟨b_w_, 0, none⟩)) rfl (fa_blk (o := 0) Fd111_0 Sz29)) ?_
  refine t_q rfl (fun w' H => x_fa (a := .pointer (some ⟨b_w_, 0, none⟩)) (v := .pointer (some ⟨b_w_, 1, none⟩)) rfl (fa_blk (o := 0) Fd29_1 Sz23)) ?_
  refine t_q rfl (fun w' H => x_ld (p := .pointer (some ⟨b_w_, 1, none⟩)) (v := v_w__River_Travel) rfl (ldb_sc Sc23 (h_b_w_.blk H) rfl)) ?_
  refine t_q rfl (fun w' H => x_mv (v := I x2) rfl) ?_
  obtain ⟨sd25z, hM⟩ := M.e_grd hM
  simp only [Bool.and_eq_true, decide_eq_true_eq] at sd25z
  refine t_q rfl (fun w' H => x_ix (a := v_w__River_Travel) (b := I x2) (v := vat v_w__River_Travel 2 (Int.toNat x2)) rfl rfl (Sl.ix (α := Span) T23.und T23.size hs_w__River_Travel (by omega) (by omega))) ?_
  refine t_q rfl (fun w' H => x_ld (p := vat v_w__River_Travel 2 (Int.toNat x2)) (v := .agg #[I ((w__River_Travel.getD (Int.toNat x2) default).lo), I ((w__River_Travel.getD (Int.toNat x2) default).hi)]) rfl (ld_ag Ag26 Sz26 (At.mono (Span_atA hs_w__River_Travel (i := x2) (by omega) (by omega)) (hC_w__River_Travel.at H)))) ?_
  obtain ⟨sd28z, hM⟩ := M.e_grd hM
  simp only [Bool.and_eq_true, decide_eq_true_eq] at sd28z
  refine t_l2 rfl rfl ?_ ?_
  ·skip
   refine s_val (x_ld (p := .pointer (some ⟨b_5, 0, none⟩)) (v := v_l) rfl (ldb_sc Sc23 (H.blk (k := 1) rfl) rfl)) ?_
   have hvc_q32z := Sl.cells (ownSl (H.get (k := 0) rfl))
   have hvo_q32z := Sl.oc (ownSl (H.get (k := 0) rfl))
   refine s_nil ⟨(H.pk [2, 3, 4, 5, 6, 7]), ?_⟩
   refine t_l rfl ?_
   refine t_bs (α := Span) T23 [.agg #[I ((w__River_Travel.getD (Int.toNat x2) default).lo), I ((w__River_Travel.getD (Int.toNat x2) default).hi)]] [(w__River_Travel.getD (Int.toNat x2) default)] H rfl (.cons rfl (Flat.rep_enc _ (w__River_Travel.getD (Int.toNat x2) default)) <| .nil) rfl rfl rfl ?_
   intro v33z w34z H
   have hvc_q35z := Sl.cells (ownSl (H.get (k := 0) rfl))
   have hvo_q35z := Sl.oc (ownSl (H.get (k := 0) rfl))
   refine s_nil ⟨(H.pk [3, 4, 5, 6, 7, 8]), ?_⟩
   refine t_l rfl ?_
   refine t_app (α := Span) (k := 1) (l := l) (l2 := [(w__River_Travel.getD (Int.toNat x2) default)]) (l' := l ++ ([(w__River_Travel.getD (Int.toNat x2) default)])) (vy := v33z) T23 rfl H rfl rfl rfl (ownSl (H.get (k := 0) rfl)) (ownLe _ (H.get (k := 0) rfl)) (rfl) (by first | omega | (simp only [List.length_nil] at *; omega)) ?_
   intro v36z w37z H
   replace H := H.nf
   have hvc_q38z := Sl.cells (ownSl (H.get (k := 1) rfl))
   have hvo_q38z := Sl.oc (ownSl (H.get (k := 1) rfl))
   refine s_nil ⟨(H.pk [3, 4, 5, 6, 7, 8]), ?_⟩
   refine t_l rfl ?_
   refine t_sw 2 0 [v36z] v36z H rfl rfl Sz23 (Sl.cells (ownSl (H.get (k := 1) rfl))) rfl rfl (by simp only [List.all_cons, List.all_nil, Bool.true_and, Bool.and_true, Sl.oc (ownSl (H.get (k := 1) rfl))]; try rfl) ?_
   intro w39z H
   refine s_nil ⟨(H.pk [3, 4, 5, 6, 7, 8]), ?_⟩
   refine t_nil ?_
   exact ⟨l ++ ([(w__River_Travel.getD (Int.toNat x2) default)]), [cOwn (α := Span) 26 v36z (l ++ ([(w__River_Travel.getD (Int.toNat x2) default)])), cBlk b_5 [v36z] 23, cBlk b_4 [B false] 4, cBlk b_3 [I 0, I 0] 26], (M.e_pure hM).symm, ⟨v36z, rfl⟩, H.pick [1, 2, 3, 4, 8, 5, 6, 7] (by decide) rfl⟩
  skip
  refine t_bs (α := Span) T23 [.agg #[I ((w__River_Travel.getD (Int.toNat x2) default).lo), I ((w__River_Travel.getD (Int.toNat x2) default).hi)]] [(w__River_Travel.getD (Int.toNat x2) default)] H rfl (.cons rfl (Flat.rep_enc _ (w__River_Travel.getD (Int.toNat x2) default)) <| .nil) rfl rfl rfl ?_
  intro v40z w41z H
  have hvc_q42z := Sl.cells (ownSl (H.get (k := 0) rfl))
  have hvo_q42z := Sl.oc (ownSl (H.get (k := 0) rfl))
  have hvc_q43z := Sl.cells (ownSl (H.get (k := 1) rfl))
  have hvo_q43z := Sl.oc (ownSl (H.get (k := 1) rfl))
  refine s_nil ⟨(H.pk [3, 4, 5, 6, 7, 8]), ?_⟩
  refine t_l rfl ?_
  refine s_val (x_ld (p := .pointer (some ⟨b_5, 0, none⟩)) (v := v_l) rfl (ldb_sc Sc23 (H.blk (k := 2) rfl) rfl)) ?_
  refine s_nil ⟨(H.pk [3, 4, 5, 6, 7, 8]), ?_⟩
  refine t_l rfl ?_
  refine t_app (α := Span) (k := 1) (l := l) (l2 := [(w__River_Travel.getD (Int.toNat x2) default)]) (l' := l ++ ([(w__River_Travel.getD (Int.toNat x2) default)])) (vy := v40z) T23 rfl H rfl rfl rfl (ownSl (H.get (k := 0) rfl)) (ownLe _ (H.get (k := 0) rfl)) (rfl) (by first | omega | (simp only [List.length_nil] at *; omega)) ?_
  intro v44z w45z H
  replace H := H.nf
  have hvc_q46z := Sl.cells (ownSl (H.get (k := 1) rfl))
  have hvo_q46z := Sl.oc (ownSl (H.get (k := 1) rfl))
  refine s_nil ⟨(H.pk [3, 4, 5, 6, 7, 8]), ?_⟩
  refine t_l rfl ?_
  refine t_sw 2 0 [v44z] v44z H rfl rfl Sz23 (Sl.cells (ownSl (H.get (k := 1) rfl))) rfl rfl (by simp only [List.all_cons, List.all_nil, Bool.true_and, Bool.and_true, Sl.oc (ownSl (H.get (k := 1) rfl))]; try rfl) ?_
  intro w47z H
  refine s_nil ⟨(H.pk [3, 4, 5, 6, 7, 8]), ?_⟩
  refine t_nil ?_
  exact ⟨l ++ ([(w__River_Travel.getD (Int.toNat x2) default)]), [cOwn (α := Span) 26 v44z (l ++ ([(w__River_Travel.getD (Int.toNat x2) default)])), cBlk b_5 [v44z] 23, cBlk b_4 [B false] 4, cBlk b_3 [I 0, I 0] 26], (M.e_pure hM).symm, ⟨v44z, rfl⟩, H.pick [1, 2, 3, 4, 8, 5, 6, 7] (by decide) rfl⟩
 replace H : St w w15z (cAll (cObj l12z (.loop r14z) :: [cOwn (α := Span) 26 (.slice none 0 0) ([]), cBlk b_5 [(.slice none 0 0)] 23, cBlk b_4 [B false] 4, cBlk b_3 [I 0, I 0] 26]) :: [cBlk nb0_6 [I r00] 3, cMk (D13z :: ([])), cBlk nb1_7 [v_w__River_Down, v_w__River_Travel, v_w__River_Springs, v_w__River_Towns, I r14, I r15, v_w__River_Floods] 29, cBlk b_2 [I to_] 3, cBlk b_1 [.pointer (some ⟨b_w_, 0, none⟩)] 94]) R := St.bundleB (A := cObj l12z (.loop r14z) :: [cOwn (α := Span) 26 (.slice none 0 0) ([]), cBlk b_5 [(.slice none 0 0)] 23, cBlk b_4 [B false] 4, cBlk b_3 [I 0, I 0] 26]) (T := [cBlk nb0_6 [I r00] 3, cMk (D13z :: ([])), cBlk nb1_7 [v_w__River_Down, v_w__River_Travel, v_w__River_Springs, v_w__River_Towns, I r14, I r15, v_w__River_Floods] 29, cBlk b_2 [I to_] 3, cBlk b_1 [.pointer (some ⟨b_w_, 0, none⟩)] 94]) rfl (H.pk [0, 2, 3, 4, 5, 9, 1, 6, 7, 8])
 refine (za3 (M.yl (zaI w__River_Travel to_)) (.inl ([])) r00 w__River_Down w__River_Travel w__River_Springs w__River_Towns r14 r15 w__River_Floods hYC ⟨_, rfl, ⟨(.slice none 0 0), rfl⟩⟩ (hC_w__River_Down.app _) hs_w__River_Down (hC_w__River_Travel.app _) hs_w__River_Travel (hC_w__River_Springs.app _) hs_w__River_Springs (hC_w__River_Towns.app _) hs_w__River_Towns (hC_w__River_Floods.app _) hs_w__River_Floods (Has.here (k := 1) rfl) hx11z _ (H.gt 4)).mono ?_
 rintro vq w48z ⟨t52z, q0, Ls50z, hq53z, hvq, H2_, hY51z⟩
 subst hq53z
 replace H := H.back H2_ rfl
 clear H2_ hYC
 rcases t52z with l | ⟨l2, l3, s, s2⟩
 ·try dsimp only at hM
  obtain ⟨_, rfl, v_l, rfl⟩ := hY51z
  refine ⟨_, [cOwn (α := Span) 26 v_l l, cBlk b_5 [v_l] 23, cBlk b_4 [B false] 4, cBlk b_3 [I 0, I 0] 26, cBlk nb1_7 [v_w__River_Down, v_w__River_Travel, v_w__River_Springs, v_w__River_Towns, I r14, I r15, v_w__River_Floods] 29, cBlk b_2 [I to_] 3, cBlk b_1 [.pointer (some ⟨b_w_, 0, none⟩)] 94, cBlk nb0_6 [I q0] 3], H.unbundle.pick [0, 6, 1, 2, 3, 4, 7, 8, 9, 5] (by decide) rfl, hr16z.nb, ?_⟩
  intro w49z H
  rw [hr16z.pd]
  replace H := H.nf
  try simp only []
  replace H := H.pk [0, 3, 4]
  refine WD.seq ?_
  refine WD.of ?_
  refine W.region rfl ?_
  refine s_val (x_bld (ps := []) (zs := [I 0, I 0]) (L' := [I 0, I 0]) rfl Tryz.underlying26 Al26 rfl (Bd26 Tryz.underlying26) (.nil)) ?_
  refine t_sw 2 0 [I 0, I 0] (.agg #[I 0, I 0]) H rfl rfl Sz26 rfl rfl rfl rfl ?_
  intro w54z H
  refine t_sw 1 0 [B false] (B false) H rfl rfl Sz4 rfl rfl rfl rfl ?_
  intro w55z H
  refine s_nil ?_
  refine WD.of ?_
  refine W.ret ?_
  refine bodyD_r (H.pk [0, 1, 2]) ?_
  intro w56z H
  replace H := H.nf
  have hb57z := (H.blk (k := 1) rfl)
  have hb58z := (H.blk (k := 0) rfl)
  have hr_ := M.e_pure hM
  exact ⟨_, (resE_ofn (vs := [.agg #[I 0, I 0], B false]) rfl rfl (.cell (v := .agg #[I 0, I 0]) rfl (run_loadVar_ag (ds := [I 0, I 0]) Ag26 Sz26 hb57z rfl rfl) <| .cell (v := B false) rfl (run_loadVar_sc Sc4 hb58z rfl) <| .nil)), ⟨0, 0, false, hr_, rfl, (H.pk [])⟩⟩
 try dsimp only at hM
 obtain ⟨_, rfl, v_o_10, rfl⟩ := hY51z
 refine ⟨_, [cOwn (α := Span) 26 v_o_10 l3, cBlk b_5 [v_o_10] 23, cBlk b_4 [B true] 4, cBlk b_3 [I s, I s2] 26, cBlk nb1_7 [v_w__River_Down, v_w__River_Travel, v_w__River_Springs, v_w__River_Towns, I r14, I r15, v_w__River_Floods] 29, cBlk b_2 [I to_] 3, cBlk b_1 [.pointer (some ⟨b_w_, 0, none⟩)] 94, cBlk nb0_6 [I q0] 3], H.unbundle.pick [0, 6, 1, 2, 3, 4, 7, 8, 9, 5] (by decide) rfl, nofun, ?_⟩
 intro w49z H
 show WD _ _ _ (.ret) _ _ _
 refine WD.of ?_
 refine W.ret ?_
 replace H := H.nf
 refine bodyD_r (H.pk [0, 1, 2, 3, 4, 5, 6, 7, 8]) ?_
 intro w59z H
 replace H := H.nf
 have hb60z := (H.blk (k := 3) rfl)
 have hb61z := (H.blk (k := 2) rfl)
 have hr_ := M.e_pure hM
 exact ⟨_, (resE_ofn (vs := [.agg #[I s, I s2], B true]) rfl rfl (.cell (v := .agg #[I s, I s2]) rfl (run_loadVar_ag (ds := [I s, I s2]) Ag26 Sz26 hb60z rfl rfl) <| .cell (v := B true) rfl (run_loadVar_sc Sc4 hb61z rfl) <| .nil)), ⟨s, s2, true, hr_, rfl, (H.pk [])⟩⟩

def za5 (w__River_Down : List Int) (w__River_Travel : List Span) (w__River_Springs : List Int) (w__River_Towns : List Town) (w__River_Delay_Lo : Int) (w__River_Delay_Hi : Int) (w__River_Floods : List Flood) (d : Dem) : (List Int) -> (Int × Int) -> M ((List Int) ⊕ Unit) := fun l (x, x2) =>
  M.bind (zat w__River_Down w__River_Travel w__River_Springs w__River_Towns w__River_Delay_Lo w__River_Delay_Hi w__River_Floods x2 ((w__River_Towns.getD (Int.toNat d.town) default).station)) fun (r002, r01, r1) =>
  M.grd ((!r1 || (decide ((-9223372036854775808 : Int) <= (((w__River_Towns.getD (Int.toNat d.town) default).lead) + w__River_Delay_Hi)) && decide ((((w__River_Towns.getD (Int.toNat d.town) default).lead) + w__River_Delay_Hi) <= (9223372036854775807 : Int))))) <|
  bif (r1 && (decide ((((w__River_Towns.getD (Int.toNat d.town) default).lead) + w__River_Delay_Hi) <= r002))) then (
  M.grd (decide ((l.length + ([(x2 : Int)]).length) * 8 <= 140737488355328)) <|
  M.pure (.inl (l ++ ([(x2 : Int)]))))
  else (
  M.pure (.inl l))
def zaa (w__River_Down : List Int) (w__River_Travel : List Span) (w__River_Springs : List Int) (w__River_Towns : List Town) (w__River_Delay_Lo : Int) (w__River_Delay_Hi : Int) (w__River_Floods : List Flood) (d : Dem) : M (List Int) :=
  M.grd (decide ((0 : Int) <= d.town) && decide (d.town < (w__River_Towns.length : Int))) <|
  M.bind (zak w__River_Down w__River_Travel w__River_Springs w__River_Towns w__River_Delay_Lo w__River_Delay_Hi w__River_Floods d.spring) fun (r00, r14, r15) =>
  M.bind (zan (M.yl (za5 w__River_Down w__River_Travel w__River_Springs w__River_Towns w__River_Delay_Lo w__River_Delay_Hi w__River_Floods d)) (.inl ([])) r00 w__River_Down w__River_Travel w__River_Springs w__River_Towns r14 r15 w__River_Floods) fun x_ => match x_ with
  | (.inl l, q0) => (
  M.pure l)
  | (.inr _, _) => M.fail
theorem zbC {R : List Chunk} {b_w_ : Nat} {C_w__River_Down : Cells} {v_w__River_Down : Value} {C_w__River_Travel : Cells} {v_w__River_Travel : Value} {C_w__River_Springs : Cells} {v_w__River_Springs : Value} {C_w__River_Towns : Cells} {v_w__River_Towns : Value} {C_w__River_Floods : Cells} {v_w__River_Floods : Value} {b_w__found : Nat} {B_b_w__found : Base} (w__River_Down : List Int) (w__River_Travel : List Span) (w__River_Springs : List Int) (w__River_Towns : List Town) (w__River_Delay_Lo : Int) (w__River_Delay_Hi : Int) (w__River_Floods : List Flood) (d : Dem) (hC_w__River_Down : Reads R C_w__River_Down) (hs_w__River_Down : Sl C_w__River_Down v_w__River_Down w__River_Down) (hC_w__River_Travel : Reads R C_w__River_Travel) (hs_w__River_Travel : Sl C_w__River_Travel v_w__River_Travel w__River_Travel) (hC_w__River_Springs : Reads R C_w__River_Springs) (hs_w__River_Springs : Sl C_w__River_Springs v_w__River_Springs w__River_Springs) (hC_w__River_Towns : Reads R C_w__River_Towns) (hs_w__River_Towns : Sl C_w__River_Towns v_w__River_Towns w__River_Towns) (hC_w__River_Floods : Reads R C_w__River_Floods) (hs_w__River_Floods : Sl C_w__River_Floods v_w__River_Floods w__River_Floods) (h_b_w_ : Has R (cBlk b_w_ [v_w__River_Down, v_w__River_Travel, v_w__River_Springs, v_w__River_Towns, I w__River_Delay_Lo, I w__River_Delay_Hi, v_w__River_Floods, .map (some b_w__found)] 111)) {r : (List Int)} (hM : (zaa w__River_Down w__River_Travel w__River_Springs w__River_Towns w__River_Delay_Lo w__River_Delay_Hi w__River_Floods d).Ends r) (w : World) (H : St w w [cMem encDm b_w__found B_b_w__found (zaa w__River_Down w__River_Travel w__River_Springs w__River_Towns w__River_Delay_Lo w__River_Delay_Hi w__River_Floods)] R) : Ret Tryz.prog 81 #[.pointer (some ⟨b_w_, 0, none⟩), .agg #[I d.spring, I d.town]] w fun v w' => ∃ (y0 : List Int) (u0 : Value) (Bs1 : Base), y0 = r /\ v = u0 /\ St w w' [cMem encDm b_w__found Bs1 (zaa w__River_Down w__River_Travel w__River_Springs w__River_Towns w__River_Delay_Lo w__River_Delay_Hi w__River_Floods)] R /\ Sl Bs1.cells u0 y0 := by
 refine ret_of_WD Tryz.func81 rfl rfl rfl ?_
 replace H : St w w [cMk ([]), cMem encDm b_w__found B_b_w__found (zaa w__River_Down w__River_Travel w__River_Springs w__River_Towns w__River_Delay_Lo w__River_Delay_Hi w__River_Floods)] R := H.mk0
 have hl_w__River_Down := hs_w__River_Down.len_le
 have hl_w__River_Travel := hs_w__River_Travel.len_le
 have hl_w__River_Springs := hs_w__River_Springs.len_le
 have hl_w__River_Towns := hs_w__River_Towns.len_le
 have hl_w__River_Floods := hs_w__River_Floods.len_le
 unfold zaa at hM
 have hM0 := hM
 obtain ⟨fm_, H, hF_⟩ := St.memOpen H (i := 1) rfl
 replace H := H.nf
 cases hf_ : fm_ d with
 | none =>
  refine WD.seq ?_
  refine WD.of ?_
  refine W.region rfl ?_
  refine t_box (v := .pointer (some ⟨b_w_, 0, none⟩)) (cs := [.pointer (some ⟨b_w_, 0, none⟩)]) H rfl rfl ?_
  intro b_1 w1z H
  refine t_box (v := .agg #[I d.spring, I d.town]) (cs := [I d.spring, I d.town]) H rfl rfl ?_
  intro b_2 w2z H
  refine s_val (x_as (v := .slice none 0 0) rfl) ?_
  refine s_nil ?_
  refine WD.seq ?_
  refine WD.seq ?_
  refine WD.of ?_
  refine W.draw (fun W => St w W [cBlk b_2 [I d.spring, I d.town] 61, cBlk b_1 [.pointer (some ⟨b_w_, 0, none⟩)] 94, cRx B_b_w__found, cMk ([])] R) [(0, true), (1, true), (2, true), (3, true), (4, true), (5, false), (6, true), (7, true), (8, true), (9, true), (10, true)] mixed (by decide +kernel) rfl ?_
  intro w3z hx_
  replace H := H.ext hx_
  clear hx_
  refine ⟨(H.pk [0, 1, 3, 4]), ?_⟩
  refine d_q rfl (fun w' H => x_ld (p := .pointer (some ⟨b_1, 0, none⟩)) (v := .pointer (some ⟨b_w_, 0, none⟩)) rfl (ldb_sc Sc94 (H.blk (k := 1) rfl) rfl)) ?_
  refine d_q rfl (fun w' H => x_nc (a := ⟨b_w_, 0, none⟩) rfl) ?_
  refine d_q rfl (fun w' H => x_fa (a := .pointer (some ⟨b_w_, 0, none⟩)) (v := .pointer (some ⟨b_w_, 7, none⟩)) rfl (fa_blk (o := 0) Fd111_1 Sz109)) ?_
  refine d_q rfl (fun w' H => x_ld (p := .pointer (some ⟨b_w_, 7, none⟩)) (v := .map (some b_w__found)) rfl (ldb_sc Sc109 (h_b_w_.blk H) rfl)) ?_
  refine d_q rfl (fun w' H => x_ld (p := .pointer (some ⟨b_2, 0, none⟩)) (v := .agg #[I d.spring, I d.town]) rfl (ldb_ag (ds := [I d.spring, I d.town]) Ag61 Sz61 (H.blk (k := 0) rfl) rfl rfl)) ?_
  refine d_l rfl ?_
  refine s_val (q_look (kenc := encDm) (venc := id) (f := fm_) (k := d) (z := .slice none 0 0) (v := .tuple #[.slice none 0 0, B false]) keyDem Tryz.underlying109 (by kernel_rfl) rfl rfl (H.get (k := 2) rfl) true (by simp [hf_])) ?_
  refine s_nil ⟨(H.pk [0, 1, 3, 4]), ?_⟩
  refine d_q rfl (fun w' H => x_mv (v := .tuple #[.slice none 0 0, B false]) rfl) ?_
  refine d_q rfl (fun w' H => x_ext (vs := [.slice none 0 0, B false]) (v := .slice none 0 0) rfl rfl) ?_
  refine d_q rfl (fun w' H => x_ext (vs := [.slice none 0 0, B false]) (v := B false) rfl rfl) ?_
  refine d_q rfl (fun w' H => x_as (v := .slice none 0 0) rfl) ?_
  refine d_q rfl (fun w' H => x_as (v := B false) rfl) ?_
  refine d_nil ?_
  refine WD.seq ?_
  refine WD.of ?_
  refine W.region rfl ?_
  refine s_val (x_mv (v := B false) rfl) ?_
  refine s_nil ?_
  refine WD.cond false rfl (fun c4z => ?_) (fun c4z => ?_)
  ·skip
   exact absurd c4z (by decide)
  skip
  refine WD.of ?_
  refine W.skip ?_
  refine WD.seq ?_
  refine WD.of ?_
  refine W.region rfl ?_
  refine t_alloc (cs := [.slice none 0 0]) H Al22 rfl ?_
  intro b_3 w5z H
  refine s_nil ?_
  refine WD.seq ?_
  refine WD.of ?_
  refine W.draw (fun W => St w W [cBlk b_3 [.slice none 0 0] 22, cBlk b_2 [I d.spring, I d.town] 61, cBlk b_1 [.pointer (some ⟨b_w_, 0, none⟩)] 94, cMap encDm id b_w__found fm_, cRx B_b_w__found, cMk ([])] R) [(0, true), (1, true), (2, true), (3, true), (4, true), (5, true), (6, true), (7, true), (8, true), (9, false), (10, false)] mixed (by decide +kernel) rfl ?_
  intro w6z hx_
  replace H := H.ext hx_
  clear hx_
  refine ⟨(H.pk [0, 1, 2, 3, 4, 5]), ?_⟩
  refine d_q rfl (fun w' H => x_ld (p := .pointer (some ⟨b_1, 0, none⟩)) (v := .pointer (some ⟨b_w_, 0, none⟩)) rfl (ldb_sc Sc94 (H.blk (k := 2) rfl) rfl)) ?_
  refine d_q rfl (fun w' H => x_nc (a := ⟨b_w_, 0, none⟩) rfl) ?_
  refine d_q rfl (fun w' H => x_fa (a := .pointer (some ⟨b_w_, 0, none⟩)) (v := .pointer (some ⟨b_w_, 0, none⟩)) rfl (fa_blk (o := 0) Fd111_0 Sz29)) ?_
  refine d_q rfl (fun w' H => x_fa (a := .pointer (some ⟨b_w_, 0, none⟩)) (v := .pointer (some ⟨b_w_, 3, none⟩)) rfl (fa_blk (o := 0) Fd29_3 Sz24)) ?_
  refine d_q rfl (fun w' H => x_ld (p := .pointer (some ⟨b_w_, 3, none⟩)) (v := v_w__River_Towns) rfl (ldb_sc Sc24 (h_b_w_.blk H) rfl)) ?_
  refine d_q rfl (fun w' H => x_fa (a := .pointer (some ⟨b_2, 0, none⟩)) (v := .pointer (some ⟨b_2, 1, none⟩)) rfl (fa_blk (o := 0) Fd61_1 Sz3)) ?_
  refine d_q rfl (fun w' H => x_ld (p := .pointer (some ⟨b_2, 1, none⟩)) (v := I d.town) rfl (ldb_sc Sc3 (H.blk (k := 1) rfl) rfl)) ?_
  obtain ⟨sd7z, hM⟩ := M.e_grd hM
  simp only [Bool.and_eq_true, decide_eq_true_eq] at sd7z
  refine d_q rfl (fun w' H => x_ix (a := v_w__River_Towns) (b := I d.town) (v := vat v_w__River_Towns 3 (Int.toNat d.town)) rfl rfl (Sl.ix (α := Town) T24.und T24.size hs_w__River_Towns (by omega) (by omega))) ?_
  refine d_q rfl (fun w' H => x_ld (p := vat v_w__River_Towns 3 (Int.toNat d.town)) (v := .agg #[I ((w__River_Towns.getD (Int.toNat d.town) default).station), I ((w__River_Towns.getD (Int.toNat d.town) default).lead), I ((w__River_Towns.getD (Int.toNat d.town) default).alarm)]) rfl (ld_ag Ag91 Sz91 (At.mono (Town_atA hs_w__River_Towns (i := d.town) (by omega) (by omega)) (hC_w__River_Towns.at H)))) ?_
  refine d_l rfl ?_
  refine t_alloc (cs := [I 0, I 0, I 0]) H Al91 rfl ?_
  intro b_4 w8z H
  refine s_nil ⟨(H.pk [1, 2, 3, 4, 5, 6]), ?_⟩
  refine d_l rfl ?_
  refine t_sw 0 0 [I ((w__River_Towns.getD (Int.toNat d.town) default).station), I ((w__River_Towns.getD (Int.toNat d.town) default).lead), I ((w__River_Towns.getD (Int.toNat d.town) default).alarm)] (.agg #[I ((w__River_Towns.getD (Int.toNat d.town) default).station), I ((w__River_Towns.getD (Int.toNat d.town) default).lead), I ((w__River_Towns.getD (Int.toNat d.town) default).alarm)]) H rfl rfl Sz91 rfl rfl rfl rfl ?_
  intro w9z H
  refine s_nil ⟨(H.pk [1, 2, 3, 4, 5, 6]), ?_⟩
  refine d_nil ?_
  refine WD.seq ?_
  refine WD.seq ?_
  refine WD.of ?_
  refine W.draw (fun W => St w W [cBlk b_4 [I ((w__River_Towns.getD (Int.toNat d.town) default).station), I ((w__River_Towns.getD (Int.toNat d.town) default).lead), I ((w__River_Towns.getD (Int.toNat d.town) default).alarm)] 91, cBlk b_3 [.slice none 0 0] 22, cBlk b_2 [I d.spring, I d.town] 61, cBlk b_1 [.pointer (some ⟨b_w_, 0, none⟩)] 94, cMap encDm id b_w__found fm_, cRx B_b_w__found, cMk ([])] R) [(0, true), (1, true), (2, true), (3, true), (4, true), (5, true), (6, false)] mixed (by decide +kernel) rfl ?_
  intro w10z hx_
  replace H := H.ext hx_
  clear hx_
  refine ⟨(H.pk [0, 1, 2, 3, 4, 5, 6]), ?_⟩
  refine d_q rfl (fun w' H => x_ld (p := .pointer (some ⟨b_1, 0, none⟩)) (v := .pointer (some ⟨b_w_, 0, none⟩)) rfl (ldb_sc Sc94 (H.blk (k := 3) rfl) rfl)) ?_
  refine d_q rfl (fun w' H => x_nc (a := ⟨b_w_, 0, none⟩) rfl) ?_
  refine d_q rfl (fun w' H => x_fa (a := .pointer (some ⟨b_w_, 0, none⟩)) (v := .pointer (some ⟨b_w_, 0, none⟩)) rfl (fa_blk (o := 0) Fd111_0 Sz29)) ?_
  refine d_q rfl (fun w' H => x_ld (p := .pointer (some ⟨b_w_, 0, none⟩)) (v := .agg #[v_w__River_Down, v_w__River_Travel, v_w__River_Springs, v_w__River_Towns, I w__River_Delay_Lo, I w__River_Delay_Hi, v_w__River_Floods]) rfl (ldb_ag (ds := [v_w__River_Down, v_w__River_Travel, v_w__River_Springs, v_w__River_Towns, I w__River_Delay_Lo, I w__River_Delay_Hi, v_w__River_Floods]) Ag29 Sz29 (h_b_w_.blk H) rfl rfl)) ?_
  refine d_q rfl (fun w' H => x_fa (a := .pointer (some ⟨b_2, 0, none⟩)) (v := .pointer (some ⟨b_2, 0, none⟩)) rfl (fa_blk (o := 0) Fd61_0 Sz3)) ?_
  refine d_q rfl (fun w' H => x_ld (p := .pointer (some ⟨b_2, 0, none⟩)) (v := I d.spring) rfl (ldb_sc Sc3 (H.blk (k := 2) rfl) rfl)) ?_
  refine d_l rfl ?_
  obtain ⟨r12z, hx11z, hM⟩ := M.e_bind hM
  refine s_call cf66 [.agg #[v_w__River_Down, v_w__River_Travel, v_w__River_Springs, v_w__River_Towns, I w__River_Delay_Lo, I w__River_Delay_Hi, v_w__River_Floods], I d.spring] rfl (za2 w__River_Down w__River_Travel w__River_Springs w__River_Towns w__River_Delay_Lo w__River_Delay_Hi w__River_Floods d.spring (hC_w__River_Down.app _) hs_w__River_Down (hC_w__River_Travel.app _) hs_w__River_Travel (hC_w__River_Springs.app _) hs_w__River_Springs (hC_w__River_Towns.app _) hs_w__River_Towns (hC_w__River_Floods.app _) hs_w__River_Floods hx11z _ (H.gt 7)) ?_
  rintro vq w13z ⟨r00, r14, r15, nb0_5, nb1_6, hr14z, hvq, H2_⟩
  subst hr14z
  subst vq
  try dsimp only at hM
  replace H := H.bk H2_
  clear H2_
  refine s_nil ⟨(H.pk [2, 3, 4, 5, 6, 7, 8]), ?_⟩
  refine d_nil ?_
  refine WD.block ?_
  replace H := H.nilOwn (α := Int) 3
  obtain ⟨t15z, hx16z, hM⟩ := M.e_bind hM
  refine WD.range (L := [cOwn (α := Int) 3 (.slice none 0 0) ([]), cBlk b_3 [(.slice none 0 0)] 22, cBlk nb1_6 [v_w__River_Down, v_w__River_Travel, v_w__River_Springs, v_w__River_Towns, I r14, I r15, v_w__River_Floods] 29, cBlk b_4 [I ((w__River_Towns.getD (Int.toNat d.town) default).station), I ((w__River_Towns.getD (Int.toNat d.town) default).lead), I ((w__River_Towns.getD (Int.toNat d.town) default).alarm)] 91, cBlk b_2 [I d.spring, I d.town] 61, cBlk b_1 [.pointer (some ⟨b_w_, 0, none⟩)] 94, cMap encDm id b_w__found fm_, cRx B_b_w__found, cBlk nb0_5 [I r00] 3]) [.pointer (some ⟨nb0_5, 0, none⟩), .pointer (some ⟨nb1_6, 0, none⟩)] (H.pk [9, 0, 4, 2, 3, 5, 6, 7, 8, 1]) rfl cf96 ?_
  intro l17z D18z r19z w20z hr21z H
  have hYC : YieldC Tryz.prog ([cMk (D18z :: ([])), cBlk nb1_6 [v_w__River_Down, v_w__River_Travel, v_w__River_Springs, v_w__River_Towns, I r14, I r15, v_w__River_Floods] 29, cBlk b_4 [I ((w__River_Towns.getD (Int.toNat d.town) default).station), I ((w__River_Towns.getD (Int.toNat d.town) default).lead), I ((w__River_Towns.getD (Int.toNat d.town) default).alarm)] 91, cBlk b_2 [I d.spring, I d.town] 61, cBlk b_1 [.pointer (some ⟨b_w_, 0, none⟩)] 94, cMap encDm id b_w__found fm_, cRx B_b_w__found] ++ R) arII (yJ l17z r19z (fun l Ls_ => ∃ (v_l : Value), Ls_ = [cOwn (α := Int) 3 v_l l, cBlk b_3 [v_l] 22]) (fun (_ : Unit) _ => False) (fun _ => .ret)) (.func (.yield l17z) #[] #[]) (M.yl (za5 w__River_Down w__River_Travel w__River_Springs w__River_Towns w__River_Delay_Lo w__River_Delay_Hi w__River_Floods d)) := by
   refine YieldC.mk hr21z (fun l Ls_ => ∃ (v_l : Value), Ls_ = [cOwn (α := Int) 3 v_l l, cBlk b_3 [v_l] 22]) (fun (_ : Unit) _ => False) (fun _ => .ret) (za5 w__River_Down w__River_Travel w__River_Springs w__River_Towns w__River_Delay_Lo w__River_Delay_Hi w__River_Floods d) (by rintro l _ h_; obtain ⟨_, rfl⟩ := h_; rfl) (fun _ _ h_ => h_.elim) rfl (arII_len rfl) ?_
   intro C_ vs_ x_ W_ hA_
   obtain ⟨x, x2⟩ := x_
   obtain rfl := hA_
   refine W.region rfl ?_
   refine s_val (x_as (v := I x2) rfl) ?_
   refine s_nil ?_
   refine ⟨rfl, rfl, ?_⟩
   intro w R hR_ Ls_ s_ r hY_ hM H
   skip
   obtain ⟨l, hs_eq_⟩ : ∃ y_, y_ = s_ := ⟨_, rfl⟩
   subst hs_eq_
   obtain ⟨v_l, rfl⟩ := hY_
   replace hC_w__River_Down := hC_w__River_Down.sub hR_
   replace hC_w__River_Travel := hC_w__River_Travel.sub hR_
   replace hC_w__River_Springs := hC_w__River_Springs.sub hR_
   replace hC_w__River_Towns := hC_w__River_Towns.sub hR_
   replace hC_w__River_Floods := hC_w__River_Floods.sub hR_
   replace h_b_w_ := h_b_w_.sub hR_
   replace hM : (za5 w__River_Down w__River_Travel w__River_Springs w__River_Towns w__River_Delay_Lo w__River_Delay_Hi w__River_Floods d l (x, x2)).Ends r := hM
   simp only [za5] at hM
   replace H := H.pk [0, 1, 3, 4, 5, 6, 7, 8, 2]
   refine W.block ?_
   refine W.seq ?_
   refine W.region rfl ?_
   refine s_val (x_ld (p := .pointer (some ⟨b_1, 0, none⟩)) (v := .pointer (some ⟨b_w_, 0, none⟩)) rfl (ldb_sc Sc94 (H.blk (k := 5) rfl) rfl)) ?_
   refine s_val (x_mv (v := I x2) rfl) ?_
   refine s_val (x_fa (a := .pointer (some ⟨b_4, 0, none⟩)) (v := .pointer (some ⟨b_4, 0, none⟩)) rfl (fa_blk (o := 0) Fd91_0 Sz3)) ?_
   refine s_val (x_ld (p := .pointer (some ⟨b_4, 0, none⟩)) (v := I ((w__River_Towns.getD (Int.toNat d.town) default).station)) rfl (ldb_sc Sc3 (H.blk (k := 3) rfl) rfl)) ?_
   obtain ⟨r23z, hx22z, hM⟩ := M.e_bind hM
   refine s_call cf74 [.pointer (some ⟨b_w_, 0, none⟩), I x2, I ((w__River_Towns.getD (Int.toNat d.town) default).station)] rfl (zbB w__River_Down w__River_Travel w__River_Springs w__River_Towns w__River_Delay_Lo w__River_Delay_Hi w__River_Floods x2 ((w__River_Towns.getD (Int.toNat d.town) default).station) (hC_w__River_Down.app _) hs_w__River_Down (hC_w__River_Travel.app _) hs_w__River_Travel (hC_w__River_Springs.app _) hs_w__River_Springs (hC_w__River_Towns.app _) hs_w__River_Towns (hC_w__River_Floods.app _) hs_w__River_Floods (h_b_w_.app _) hx22z _ (H.gt 9)) ?_
   rintro vq w24z ⟨r002, r01, r1, hr25z, hvq, H2_⟩
   subst hr25z
   subst vq
   try dsimp only at hM
   replace H := H.bk H2_
   clear H2_
   refine s_val (x_mv (v := .tuple #[.agg #[I r002, I r01], B r1]) rfl) ?_
   refine s_val (x_ext (vs := [.agg #[I r002, I r01], B r1]) (v := .agg #[I r002, I r01]) rfl rfl) ?_
   refine s_val (x_ext (vs := [.agg #[I r002, I r01], B r1]) (v := B r1) rfl rfl) ?_
   refine t_alloc (cs := [I 0, I 0]) H Al26 rfl ?_
   intro b_7 w26z H
   refine t_sw 0 0 [I r002, I r01] (.agg #[I r002, I r01]) H rfl rfl Sz26 rfl rfl rfl rfl ?_
   intro w27z H
   refine s_val (x_as (v := B r1) rfl) ?_
   refine s_nil ?_
   refine W.seq ?_
   refine W.draw (fun W => St w W [cBlk b_7 [I r002, I r01] 26, cOwn (α := Int) 3 v_l l, cBlk b_3 [v_l] 22, cBlk nb1_6 [v_w__River_Down, v_w__River_Travel, v_w__River_Springs, v_w__River_Towns, I r14, I r15, v_w__River_Floods] 29, cBlk b_4 [I ((w__River_Towns.getD (Int.toNat d.town) default).station), I ((w__River_Towns.getD (Int.toNat d.town) default).lead), I ((w__River_Towns.getD (Int.toNat d.town) default).alarm)] 91, cBlk b_2 [I d.spring, I d.town] 61, cBlk b_1 [.pointer (some ⟨b_w_, 0, none⟩)] 94, cMap encDm id b_w__found fm_, cRx B_b_w__found, cMk (D18z :: ([]))] R) [(0, true), (1, true), (2, true), (3, true), (4, true), (5, true), (6, true), (7, true), (8, true), (9, true), (10, true), (11, true), (12, true), (13, true), (14, true)] mixed (by decide +kernel) rfl ?_
   intro w28z hx_
   replace H := H.ext hx_
   clear hx_
   refine ⟨(H.pk [0, 1, 2, 3, 4, 5, 6, 7, 8, 9]), ?_⟩
   refine d_q rfl (fun w' H => x_mv (v := B r1) rfl) ?_
   refine d_q rfl (fun w' H => x_mv (v := B r1) rfl) ?_
   refine d_qg r1 rfl (gy_t rfl) (fun hg => (fun w' H => x_fa (a := .pointer (some ⟨b_7, 0, none⟩)) (v := .pointer (some ⟨b_7, 0, none⟩)) rfl (fa_blk (o := 0) Fd26_0 Sz3))) ?_
   refine d_qg r1 rfl (gy_t rfl) (fun hg => (fun w' H => x_ld (p := .pointer (some ⟨b_7, 0, none⟩)) (v := I r002) (gd_of (c := r1) hg (.pointer (some ⟨b_7, 0, none⟩))) (ldb_sc Sc3 (H.blk (k := 0) rfl) rfl))) ?_
   refine d_qg r1 rfl (gy_t rfl) (fun hg => (fun w' H => x_fa (a := .pointer (some ⟨b_4, 0, none⟩)) (v := .pointer (some ⟨b_4, 1, none⟩)) rfl (fa_blk (o := 0) Fd91_1 Sz3))) ?_
   refine d_qg r1 rfl (gy_t rfl) (fun hg => (fun w' H => x_ld (p := .pointer (some ⟨b_4, 1, none⟩)) (v := I ((w__River_Towns.getD (Int.toNat d.town) default).lead)) (gd_of (c := r1) hg (.pointer (some ⟨b_4, 1, none⟩))) (ldb_sc Sc3 (H.blk (k := 4) rfl) rfl))) ?_
   refine d_qg r1 rfl (gy_t rfl) (fun hg => (fun w' H => x_ld (p := .pointer (some ⟨b_1, 0, none⟩)) (v := .pointer (some ⟨b_w_, 0, none⟩)) rfl (ldb_sc Sc94 (H.blk (k := 6) rfl) rfl))) ?_
   refine d_qg r1 rfl (gy_t rfl) (fun hg => (fun w' H => x_nc (a := ⟨b_w_, 0, none⟩) (gd_of (c := r1) hg (.pointer (some ⟨b_w_, 0, none⟩))))) ?_
   refine d_qg r1 rfl (gy_t rfl) (fun hg => (fun w' H => x_fa (a := .pointer (some ⟨b_w_, 0, none⟩)) (v := .pointer (some ⟨b_w_, 0, none⟩)) (gd_of (c := r1) hg (.pointer (some ⟨b_w_, 0, none⟩))) (fa_blk (o := 0) Fd111_0 Sz29))) ?_
   refine d_qg r1 rfl (gy_t rfl) (fun hg => (fun w' H => x_fa (a := .pointer (some ⟨b_w_, 0, none⟩)) (v := .pointer (some ⟨b_w_, 4, none⟩)) (gd_of (c := r1) hg (.pointer (some ⟨b_w_, 0, none⟩))) (fa_blk (o := 0) Fd29_4 Sz26))) ?_
   refine d_qg r1 rfl (gy_t rfl) (fun hg => (fun w' H => x_fa (a := .pointer (some ⟨b_w_, 4, none⟩)) (v := .pointer (some ⟨b_w_, 5, none⟩)) (gd_of (c := r1) hg (.pointer (some ⟨b_w_, 4, none⟩))) (fa_blk (o := 4) Fd26_1 Sz3))) ?_
   refine d_qg r1 rfl (gy_t rfl) (fun hg => (fun w' H => x_ld (p := .pointer (some ⟨b_w_, 5, none⟩)) (v := I w__River_Delay_Hi) (gd_of (c := r1) hg (.pointer (some ⟨b_w_, 5, none⟩))) (ldb_sc Sc3 (h_b_w_.blk H) rfl))) ?_
   obtain ⟨sd29z, hM⟩ := M.e_grd hM
   replace sd29z := M.imp_of sd29z
   simp only [Bool.and_eq_true, decide_eq_true_eq] at sd29z
   refine d_qg r1 rfl (gy_t rfl) (fun hg => (fun w' H => x_ari (a := (w__River_Towns.getD (Int.toNat d.town) default).lead) (b := w__River_Delay_Hi) (r := ((w__River_Towns.getD (Int.toNat d.town) default).lead) + w__River_Delay_Hi) (gd_of (c := r1) hg (I ((w__River_Towns.getD (Int.toNat d.town) default).lead))) (gd_of (c := r1) hg (I w__River_Delay_Hi)) rfl (by have h1_ := sd29z.resolve_left (by rw [hg]; decide); first | exact h1_ | exact h1_.1 | exact h1_.2 | omega | (have hx_ := hg; simp at hx_; omega)))) ?_
   refine d_qg r1 rfl (gy_t rfl) (fun hg => (fun w' H => x_cmp (kd := .i64) (a := r002) (b := ((w__River_Towns.getD (Int.toNat d.town) default).lead) + w__River_Delay_Hi) (r := decide ((((w__River_Towns.getD (Int.toNat d.town) default).lead) + w__River_Delay_Hi) <= r002)) (gd_of (c := r1) hg (I r002)) (gd_of (c := r1) hg (I (((w__River_Towns.getD (Int.toNat d.town) default).lead) + w__River_Delay_Hi))) rfl)) ?_
   refine d_q rfl (fun w' H => x_pand (b := r1) (r := decide ((((w__River_Towns.getD (Int.toNat d.town) default).lead) + w__River_Delay_Hi) <= r002)) rfl (fun hb => gd_of (c := r1) (by first | exact hb | (rw [hb]; rfl) | simp_all) (B (decide ((((w__River_Towns.getD (Int.toNat d.town) default).lead) + w__River_Delay_Hi) <= r002)))) rfl) ?_
   refine d_nil ?_
   refine W.cond (r1 && (decide ((((w__River_Towns.getD (Int.toNat d.town) default).lead) + w__River_Delay_Hi) <= r002))) rfl (fun c30z => ?_) (fun c30z => ?_)
   ·replace hM := M.e_t hM c30z
    refine W.region rfl ?_
    refine s_val (x_ld (p := .pointer (some ⟨b_3, 0, none⟩)) (v := v_l) rfl (ldb_sc Sc22 (H.blk (k := 2) rfl) rfl)) ?_
    refine s_val (x_mv (v := I x2) rfl) ?_
    refine t_bs (α := Int) T22 [I x2] [(x2 : Int)] H rfl (.cons rfl (Flat.rep_enc _ (x2 : Int)) <| .nil) rfl rfl rfl ?_
    intro v31z w32z H
    obtain ⟨sd33z, hM⟩ := M.e_grd hM
    simp only [Bool.and_eq_true, decide_eq_true_eq] at sd33z
    refine t_app (α := Int) (k := 2) (l := l) (l2 := [(x2 : Int)]) (l' := l ++ ([(x2 : Int)])) (vy := v31z) T22 rfl H rfl rfl rfl (ownSl (H.get (k := 0) rfl)) (ownLe _ (H.get (k := 0) rfl)) (rfl) (by first | omega | (simp only [List.length_nil] at *; omega)) ?_
    intro v34z w35z H
    replace H := H.nf
    refine t_sw 3 0 [v34z] v34z H rfl rfl Sz22 (Sl.cells (ownSl (H.get (k := 2) rfl))) rfl rfl (by simp only [List.all_cons, List.all_nil, Bool.true_and, Bool.and_true, Sl.oc (ownSl (H.get (k := 2) rfl))]; try rfl) ?_
    intro w36z H
    refine s_nil ?_
    exact ⟨l ++ ([(x2 : Int)]), [cOwn (α := Int) 3 v34z (l ++ ([(x2 : Int)])), cBlk b_3 [v34z] 22], (M.e_pure hM).symm, ⟨v34z, rfl⟩, H.pick [2, 3, 10, 4, 5, 6, 7, 8, 9] (by decide) rfl⟩
   replace hM := M.e_f hM c30z
   refine W.skip ?_
   exact ⟨l, [cOwn (α := Int) 3 v_l l, cBlk b_3 [v_l] 22], (M.e_pure hM).symm, ⟨v_l, rfl⟩, H.pick [1, 2, 9, 3, 4, 5, 6, 7, 8] (by decide) rfl⟩
  replace H : St w w20z (cAll (cObj l17z (.loop r19z) :: [cOwn (α := Int) 3 (.slice none 0 0) ([]), cBlk b_3 [(.slice none 0 0)] 22]) :: [cBlk nb0_5 [I r00] 3, cMk (D18z :: ([])), cBlk nb1_6 [v_w__River_Down, v_w__River_Travel, v_w__River_Springs, v_w__River_Towns, I r14, I r15, v_w__River_Floods] 29, cBlk b_4 [I ((w__River_Towns.getD (Int.toNat d.town) default).station), I ((w__River_Towns.getD (Int.toNat d.town) default).lead), I ((w__River_Towns.getD (Int.toNat d.town) default).alarm)] 91, cBlk b_2 [I d.spring, I d.town] 61, cBlk b_1 [.pointer (some ⟨b_w_, 0, none⟩)] 94, cMap encDm id b_w__found fm_, cRx B_b_w__found]) R := St.bundleB (A := cObj l17z (.loop r19z) :: [cOwn (α := Int) 3 (.slice none 0 0) ([]), cBlk b_3 [(.slice none 0 0)] 22]) (T := [cBlk nb0_5 [I r00] 3, cMk (D18z :: ([])), cBlk nb1_6 [v_w__River_Down, v_w__River_Travel, v_w__River_Springs, v_w__River_Towns, I r14, I r15, v_w__River_Floods] 29, cBlk b_4 [I ((w__River_Towns.getD (Int.toNat d.town) default).station), I ((w__River_Towns.getD (Int.toNat d.town) default).lead), I ((w__River_Towns.getD (Int.toNat d.town) default).alarm)] 91, cBlk b_2 [I d.spring, I d.town] 61, cBlk b_1 [.pointer (some ⟨b_w_, 0, none⟩)] 94, cMap encDm id b_w__found fm_, cRx B_b_w__found]) rfl (H.pk [0, 2, 3, 10, 1, 4, 5, 6, 7, 8, 9])
  refine (za3 (M.yl (za5 w__River_Down w__River_Travel w__River_Springs w__River_Towns w__River_Delay_Lo w__River_Delay_Hi w__River_Floods d)) (.inl ([])) r00 w__River_Down w__River_Travel w__River_Springs w__River_Towns r14 r15 w__River_Floods hYC ⟨_, rfl, ⟨(.slice none 0 0), rfl⟩⟩ (hC_w__River_Down.app _) hs_w__River_Down (hC_w__River_Travel.app _) hs_w__River_Travel (hC_w__River_Springs.app _) hs_w__River_Springs (hC_w__River_Towns.app _) hs_w__River_Towns (hC_w__River_Floods.app _) hs_w__River_Floods (Has.here (k := 1) rfl) hx16z _ (H.gt 7)).mono ?_
  rintro vq w37z ⟨t41z, q0, Ls39z, hq42z, hvq, H2_, hY40z⟩
  subst hq42z
  replace H := H.back H2_ rfl
  clear H2_ hYC
  rcases t41z with l | _
  ·try dsimp only at hM
   obtain ⟨_, rfl, v_l, rfl⟩ := hY40z
   refine ⟨_, [cOwn (α := Int) 3 v_l l, cBlk b_3 [v_l] 22, cBlk nb1_6 [v_w__River_Down, v_w__River_Travel, v_w__River_Springs, v_w__River_Towns, I r14, I r15, v_w__River_Floods] 29, cBlk b_4 [I ((w__River_Towns.getD (Int.toNat d.town) default).station), I ((w__River_Towns.getD (Int.toNat d.town) default).lead), I ((w__River_Towns.getD (Int.toNat d.town) default).alarm)] 91, cBlk b_2 [I d.spring, I d.town] 61, cBlk b_1 [.pointer (some ⟨b_w_, 0, none⟩)] 94, cMap encDm id b_w__found fm_, cRx B_b_w__found, cBlk nb0_5 [I q0] 3], H.unbundle.pick [0, 4, 1, 2, 5, 6, 7, 8, 9, 10, 3] (by decide) rfl, hr21z.nb, ?_⟩
   intro w38z H
   rw [hr21z.pd]
   replace H := H.nf
   try simp only []
   replace H := H.pk [0, 1, 2, 5, 6, 7, 8]
   refine WD.seq ?_
   refine WD.of ?_
   refine W.draw (fun W => St w W [cMk (D18z :: ([])), cOwn (α := Int) 3 v_l l, cBlk b_3 [v_l] 22, cBlk b_2 [I d.spring, I d.town] 61, cBlk b_1 [.pointer (some ⟨b_w_, 0, none⟩)] 94, cRx B_b_w__found] R) [(0, true), (1, true), (2, true), (3, true), (4, true), (5, true), (6, false)] mixed (by decide +kernel) rfl ?_
   intro w43z hx_
   replace H := H.ext hx_
   clear hx_
   refine ⟨(H.pk [0, 1, 2, 3, 4, 6]), ?_⟩
   refine d_q rfl (fun w' H => x_ld (p := .pointer (some ⟨b_1, 0, none⟩)) (v := .pointer (some ⟨b_w_, 0, none⟩)) rfl (ldb_sc Sc94 (H.blk (k := 4) rfl) rfl)) ?_
   refine d_q rfl (fun w' H => x_nc (a := ⟨b_w_, 0, none⟩) rfl) ?_
   refine d_q rfl (fun w' H => x_fa (a := .pointer (some ⟨b_w_, 0, none⟩)) (v := .pointer (some ⟨b_w_, 7, none⟩)) rfl (fa_blk (o := 0) Fd111_1 Sz109)) ?_
   refine d_q rfl (fun w' H => x_ld (p := .pointer (some ⟨b_w_, 7, none⟩)) (v := .map (some b_w__found)) rfl (ldb_sc Sc109 (h_b_w_.blk H) rfl)) ?_
   refine d_q rfl (fun w' H => x_ld (p := .pointer (some ⟨b_2, 0, none⟩)) (v := .agg #[I d.spring, I d.town]) rfl (ldb_ag (ds := [I d.spring, I d.town]) Ag61 Sz61 (H.blk (k := 3) rfl) rfl rfl)) ?_
   refine d_q rfl (fun w' H => x_ld (p := .pointer (some ⟨b_3, 0, none⟩)) (v := v_l) rfl (ldb_sc Sc22 (H.blk (k := 2) rfl) rfl)) ?_
   refine d_l rfl ?_
   refine t_mapu (i := 5) (kenc := encDm) (venc := id) (f := fm_) (k := d) (v := v_l) (L' := [cMk (D18z :: ([])), cOwn (α := Int) 3 v_l l, cBlk b_3 [v_l] 22, cBlk b_2 [I d.spring, I d.town] 61, cBlk b_1 [.pointer (some ⟨b_w_, 0, none⟩)] 94, cMap encDm id b_w__found (updF fm_ d v_l), cRx B_b_w__found]) keyDem Tryz.underlying109 H rfl rfl rfl rfl rfl ?_
   intro w44z H
   refine s_nil ⟨(H.pk [0, 1, 2, 3, 4, 6]), ?_⟩
   refine d_nil ?_
   replace H := H.pk [0, 1, 2, 5, 6]
   refine WD.seq ?_
   refine WD.of ?_
   refine W.region rfl ?_
   refine s_val (x_ld (p := .pointer (some ⟨b_3, 0, none⟩)) (v := v_l) rfl (ldb_sc Sc22 (H.blk (k := 2) rfl) rfl)) ?_
   refine s_val (x_as (v := v_l) rfl) ?_
   refine s_nil ?_
   refine WD.of ?_
   refine W.ret ?_
   refine bodyD_r (H.pk [0, 1, 2, 3, 4]) ?_
   intro w45z H
   replace H := H.nf
   obtain ⟨Bm1_, le47z, hs46z, H⟩ := St.memShut1 (H.pk [2, 3, 0, 1]) hF_ (by rw [M.e_pure hM]; exact hM0)
   replace H := H.nf
   have hr_ := M.e_pure hM
   exact ⟨_, resE_tmp rfl, ⟨l, v_l, Bm1_, hr_, rfl, (H.pk [0]), hs46z⟩⟩
  obtain ⟨_, _, h_⟩ := hY40z; exact h_.elim
 | some vm_ =>
  obtain ⟨lm_, he_, hs_⟩ := hF_ d vm_ hf_
  obtain rfl := M.Ends.det he_ hM0
  replace hM : (M.pure lm_).Ends lm_ := M.i_pure
  refine WD.seq ?_
  refine WD.of ?_
  refine W.region rfl ?_
  refine t_box (v := .pointer (some ⟨b_w_, 0, none⟩)) (cs := [.pointer (some ⟨b_w_, 0, none⟩)]) H rfl rfl ?_
  intro b_1 w48z H
  refine t_box (v := .agg #[I d.spring, I d.town]) (cs := [I d.spring, I d.town]) H rfl rfl ?_
  intro b_2 w49z H
  refine s_val (x_as (v := .slice none 0 0) rfl) ?_
  refine s_nil ?_
  refine WD.seq ?_
  refine WD.seq ?_
  refine WD.of ?_
  refine W.draw (fun W => St w W [cBlk b_2 [I d.spring, I d.town] 61, cBlk b_1 [.pointer (some ⟨b_w_, 0, none⟩)] 94, cRx B_b_w__found, cMk ([])] R) [(0, true), (1, true), (2, true), (3, true), (4, true), (5, false), (6, true), (7, true), (8, true), (9, true), (10, true)] mixed (by decide +kernel) rfl ?_
  intro w50z hx_
  replace H := H.ext hx_
  clear hx_
  refine ⟨(H.pk [0, 1, 3, 4]), ?_⟩
  refine d_q rfl (fun w' H => x_ld (p := .pointer (some ⟨b_1, 0, none⟩)) (v := .pointer (some ⟨b_w_, 0, none⟩)) rfl (ldb_sc Sc94 (H.blk (k := 1) rfl) rfl)) ?_
  refine d_q rfl (fun w' H => x_nc (a := ⟨b_w_, 0, none⟩) rfl) ?_
  refine d_q rfl (fun w' H => x_fa (a := .pointer (some ⟨b_w_, 0, none⟩)) (v := .pointer (some ⟨b_w_, 7, none⟩)) rfl (fa_blk (o := 0) Fd111_1 Sz109)) ?_
  refine d_q rfl (fun w' H => x_ld (p := .pointer (some ⟨b_w_, 7, none⟩)) (v := .map (some b_w__found)) rfl (ldb_sc Sc109 (h_b_w_.blk H) rfl)) ?_
  refine d_q rfl (fun w' H => x_ld (p := .pointer (some ⟨b_2, 0, none⟩)) (v := .agg #[I d.spring, I d.town]) rfl (ldb_ag (ds := [I d.spring, I d.town]) Ag61 Sz61 (H.blk (k := 0) rfl) rfl rfl)) ?_
  refine d_l rfl ?_
  refine s_val (q_look (kenc := encDm) (venc := id) (f := fm_) (k := d) (z := .slice none 0 0) (v := .tuple #[vm_, B true]) keyDem Tryz.underlying109 (by kernel_rfl) rfl rfl (H.get (k := 2) rfl) true (by simp [hf_])) ?_
  refine s_nil ⟨(H.pk [0, 1, 3, 4]), ?_⟩
  refine d_q rfl (fun w' H => x_mv (v := .tuple #[vm_, B true]) rfl) ?_
  refine d_q rfl (fun w' H => x_ext (vs := [vm_, B true]) (v := vm_) rfl rfl) ?_
  refine d_q rfl (fun w' H => x_ext (vs := [vm_, B true]) (v := B true) rfl rfl) ?_
  refine d_q rfl (fun w' H => x_as (v := vm_) rfl) ?_
  refine d_q rfl (fun w' H => x_as (v := B true) rfl) ?_
  refine d_nil ?_
  refine WD.seq ?_
  refine WD.of ?_
  refine W.region rfl ?_
  refine s_val (x_mv (v := B true) rfl) ?_
  refine s_nil ?_
  refine WD.cond true rfl (fun c51z => ?_) (fun c51z => ?_)
  ·skip
   refine WD.seq ?_
   refine WD.of ?_
   refine W.region rfl ?_
   refine s_val (x_mv (v := vm_) rfl) ?_
   refine s_val (x_as (v := vm_) rfl) ?_
   refine s_nil ?_
   replace H := H.pk [2, 3, 4]
   refine WD.of ?_
   refine W.ret ?_
   refine bodyD_r (H.pk [2, 0, 1]) ?_
   intro w52z H
   replace H := H.nf
   replace H := St.memShut (H.pk [0, 1]) hF_
   replace H := H.nf
   have hr_ := M.e_pure hM
   exact ⟨_, resE_tmp rfl, ⟨lm_, vm_, B_b_w__found, hr_, rfl, H, hs_⟩⟩
  skip
  exact absurd c51z (by decide)

def za7 (lo : Int) (hi : Int) : M (Int × Int) :=
  M.pure (lo, hi)
theorem zbn {R : List Chunk}  (lo : Int) (hi : Int)  {r : (Int × Int)} (hM : (za7 lo hi).Ends r) (w : World) (H : St w w [] R) : Ret Tryz.prog 43 #[I lo, I hi] w fun v w' => ∃ (y0 : Int) (y1 : Int), (y0, y1) = r /\ v = .agg #[I y0, I y1] /\ St w w' [] R := by
 refine ret_of_W Tryz.func43 rfl rfl rfl ?_
 refine W.seq ?_
 refine W.region rfl ?_
 refine t_alloc (cs := [I 0, I 0]) H Al26 rfl ?_
 intro b_1 w1z H
 refine s_nil ?_
 refine W.seq ?_
 refine W.region rfl ?_
 refine s_val (x_mv (v := I lo) rfl) ?_
 refine s_val (x_mv (v := I hi) rfl) ?_
 refine s_val (x_bld (ps := [(0, I lo), (1, I hi)]) (zs := [I 0, I 0]) (L' := [I lo, I hi]) rfl Tryz.underlying26 Al26 rfl (Bd26 Tryz.underlying26) (.cons (cs := [I lo]) rfl rfl rfl rfl rfl <| .cons (cs := [I hi]) rfl rfl rfl rfl rfl <| .nil)) ?_
 refine t_sw 0 0 [I lo, I hi] (.agg #[I lo, I hi]) H rfl rfl Sz26 rfl rfl rfl rfl ?_
 intro w2z H
 refine s_nil ?_
 refine W.ret ?_
 have hb3z := (H.blk (k := 0) rfl)
 have hr_ := M.e_pure hM
 exact ⟨_, (resE_of1 (v := .agg #[I lo, I hi]) rfl (.cell (v := .agg #[I lo, I hi]) rfl (run_loadVar_ag (ds := [I lo, I hi]) Ag26 Sz26 hb3z rfl rfl) <| .nil)), ⟨lo, hi, hr_, rfl, (H.pk [])⟩⟩

def zae (lead : Int) : M ((List Int) × (List Span) × (List Int) × (List Town) × Int × Int × (List Flood)) :=
  M.bind (za7 5 6) fun (r0, r1) =>
  M.bind (za7 2 4) fun (r02, r12) =>
  M.bind (za7 3 5) fun (r03, r13) =>
  M.bind (za7 1 2) fun (r04, r14) =>
  M.pure (([(2 : Int), (2 : Int), (3 : Int), (-1 : Int)]), ([(⟨(r0 : Int), (r1 : Int)⟩ : Span), (⟨(r02 : Int), (r12 : Int)⟩ : Span), (⟨(r03 : Int), (r13 : Int)⟩ : Span), (⟨(0 : Int), (0 : Int)⟩ : Span)]), ([(0 : Int), (1 : Int)]), ([(⟨(3 : Int), (lead : Int), (300 : Int)⟩ : Town)]), r04, r14, ([(⟨(0 : Int), ([(200 : Int), (250 : Int), (310 : Int)])⟩ : Flood), (⟨(1 : Int), ([(280 : Int), (240 : Int), (290 : Int)])⟩ : Flood), (⟨(0 : Int), ([(100 : Int), (260 : Int), (300 : Int)])⟩ : Flood)]))
theorem zag {R : List Chunk}  (lead : Int)  {r : ((List Int) × (List Span) × (List Int) × (List Town) × Int × Int × (List Flood))} (hM : (zae lead).Ends r) (w : World) (H : St w w [] R) : Ret Tryz.prog 42 #[I lead] w fun v w' => ∃ (y0 : List Int) (y1 : List Span) (y2 : List Int) (y3 : List Town) (y4 : Int) (y5 : Int) (y6 : List Flood) (u0 : Value) (u1 : Value) (u2 : Value) (u3 : Value) (u4 : Value) (rr5 : List (Raw 1)) (Bs6 : Base), (y0, y1, y2, y3, y4, y5, y6) = r /\ v = .agg #[u0, u1, u2, u3, I y4, I y5, u4] /\ St w w' [cOwn (α := Int) 3 u0 y0, cOwn (α := Span) 26 u1 y1, cOwn (α := Int) 3 u2 y2, cOwn (α := Town) 91 u3 y3, cOwn (α := Raw 1) 85 u4 rr5, cRo Bs6] R /\ RepR (α := Flood) Bs6.cells rr5 y6 := by
 refine ret_of_W Tryz.func42 rfl rfl rfl ?_
 refine W.seq ?_
 refine W.region rfl ?_
 refine t_alloc (cs := [.slice none 0 0, .slice none 0 0, .slice none 0 0, .slice none 0 0, I 0, I 0, .slice none 0 0]) H Al29 rfl ?_
 intro b_1 w1z H
 refine s_nil ?_
 refine W.seq ?_
 refine W.region rfl ?_
 refine t_bs (α := Int) T22 [I 2, I 2, I 3, I (-1)] [(2 : Int), (2 : Int), (3 : Int), (-1 : Int)] H rfl (.cons rfl (Flat.rep_enc _ (2 : Int)) <| .cons rfl (Flat.rep_enc _ (2 : Int)) <| .cons rfl (Flat.rep_enc _ (3 : Int)) <| .cons rfl (Flat.rep_enc _ (-1 : Int)) <| .nil) rfl rfl rfl ?_
 intro v2z w3z H
 obtain ⟨r5z, hx4z, hM⟩ := M.e_bind hM
 refine s_call cf43 [I 5, I 6] rfl (zbn 5 6 hx4z _ (H.gt 2)) ?_
 rintro vq w6z ⟨r0, r1, hr7z, hvq, H2_⟩
 subst hr7z
 subst vq
 try dsimp only at hM
 replace H := H.bk H2_
 clear H2_
 obtain ⟨r9z, hx8z, hM⟩ := M.e_bind hM
 refine s_call cf43 [I 2, I 4] rfl (zbn 2 4 hx8z _ (H.gt 2)) ?_
 rintro vq w10z ⟨r02, r12, hr11z, hvq, H2_⟩
 subst hr11z
 subst vq
 try dsimp only at hM
 replace H := H.bk H2_
 clear H2_
 obtain ⟨r13z, hx12z, hM⟩ := M.e_bind hM
 refine s_call cf43 [I 3, I 5] rfl (zbn 3 5 hx12z _ (H.gt 2)) ?_
 rintro vq w14z ⟨r03, r13, hr15z, hvq, H2_⟩
 subst hr15z
 subst vq
 try dsimp only at hM
 replace H := H.bk H2_
 clear H2_
 refine s_val (x_bld (ps := []) (zs := [I 0, I 0]) (L' := [I 0, I 0]) rfl Tryz.underlying26 Al26 rfl (Bd26 Tryz.underlying26) (.nil)) ?_
 refine t_bs (α := Span) T23 [.agg #[I r0, I r1], .agg #[I r02, I r12], .agg #[I r03, I r13], .agg #[I 0, I 0]] [(⟨(r0 : Int), (r1 : Int)⟩ : Span), (⟨(r02 : Int), (r12 : Int)⟩ : Span), (⟨(r03 : Int), (r13 : Int)⟩ : Span), (⟨(0 : Int), (0 : Int)⟩ : Span)] H rfl (.cons rfl (Flat.rep_enc _ (⟨(r0 : Int), (r1 : Int)⟩ : Span)) <| .cons rfl (Flat.rep_enc _ (⟨(r02 : Int), (r12 : Int)⟩ : Span)) <| .cons rfl (Flat.rep_enc _ (⟨(r03 : Int), (r13 : Int)⟩ : Span)) <| .cons rfl (Flat.rep_enc _ (⟨(0 : Int), (0 : Int)⟩ : Span)) <| .nil) rfl rfl rfl ?_
 intro v16z w17z H
 refine t_bs (α := Int) T22 [I 0, I 1] [(0 : Int), (1 : Int)] H rfl (.cons rfl (Flat.rep_enc _ (0 : Int)) <| .cons rfl (Flat.rep_enc _ (1 : Int)) <| .nil) rfl rfl rfl ?_
 intro v18z w19z H
 refine s_val (x_mv (v := I lead) rfl) ?_
 refine s_val (x_bld (ps := [(0, I 3), (1, I lead), (2, I 300)]) (zs := [I 0, I 0, I 0]) (L' := [I 3, I lead, I 300]) rfl Tryz.underlying91 Al91 rfl (Bd91 Tryz.underlying91) (.cons (cs := [I 3]) rfl rfl rfl rfl rfl <| .cons (cs := [I lead]) rfl rfl rfl rfl rfl <| .cons (cs := [I 300]) rfl rfl rfl rfl rfl <| .nil)) ?_
 refine t_bs (α := Town) T24 [.agg #[I 3, I lead, I 300]] [(⟨(3 : Int), (lead : Int), (300 : Int)⟩ : Town)] H rfl (.cons rfl (Flat.rep_enc _ (⟨(3 : Int), (lead : Int), (300 : Int)⟩ : Town)) <| .nil) rfl rfl rfl ?_
 intro v20z w21z H
 obtain ⟨r23z, hx22z, hM⟩ := M.e_bind hM
 refine s_call cf43 [I 1, I 2] rfl (zbn 1 2 hx22z _ (H.gt 5)) ?_
 rintro vq w24z ⟨r04, r14, hr25z, hvq, H2_⟩
 subst hr25z
 subst vq
 try dsimp only at hM
 replace H := H.bk H2_
 clear H2_
 refine t_bs (α := Int) T22 [I 200, I 250, I 310] [(200 : Int), (250 : Int), (310 : Int)] H rfl (.cons rfl (Flat.rep_enc _ (200 : Int)) <| .cons rfl (Flat.rep_enc _ (250 : Int)) <| .cons rfl (Flat.rep_enc _ (310 : Int)) <| .nil) rfl rfl rfl ?_
 intro v26z w27z H
 refine s_val (x_bld (ps := [(0, I 0), (1, v26z)]) (zs := [I 0, .slice none 0 0]) (L' := [I 0, v26z]) rfl Tryz.underlying85 Al85 rfl (Bd85 Tryz.underlying85) (.cons (cs := [I 0]) rfl rfl rfl rfl rfl <| .cons (cs := [v26z]) (Sl.cells (ownSl (H.get (k := 0) rfl))) rfl rfl rfl rfl <| .nil)) ?_
 refine t_bs (α := Int) T22 [I 280, I 240, I 290] [(280 : Int), (240 : Int), (290 : Int)] H rfl (.cons rfl (Flat.rep_enc _ (280 : Int)) <| .cons rfl (Flat.rep_enc _ (240 : Int)) <| .cons rfl (Flat.rep_enc _ (290 : Int)) <| .nil) rfl rfl rfl ?_
 intro v28z w29z H
 refine s_val (x_bld (ps := [(0, I 1), (1, v28z)]) (zs := [I 0, .slice none 0 0]) (L' := [I 1, v28z]) rfl Tryz.underlying85 Al85 rfl (Bd85 Tryz.underlying85) (.cons (cs := [I 1]) rfl rfl rfl rfl rfl <| .cons (cs := [v28z]) (Sl.cells (ownSl (H.get (k := 0) rfl))) rfl rfl rfl rfl <| .nil)) ?_
 refine t_bs (α := Int) T22 [I 100, I 260, I 300] [(100 : Int), (260 : Int), (300 : Int)] H rfl (.cons rfl (Flat.rep_enc _ (100 : Int)) <| .cons rfl (Flat.rep_enc _ (260 : Int)) <| .cons rfl (Flat.rep_enc _ (300 : Int)) <| .nil) rfl rfl rfl ?_
 intro v30z w31z H
 refine s_val (x_bld (ps := [(0, I 0), (1, v30z)]) (zs := [I 0, .slice none 0 0]) (L' := [I 0, v30z]) rfl Tryz.underlying85 Al85 rfl (Bd85 Tryz.underlying85) (.cons (cs := [I 0]) rfl rfl rfl rfl rfl <| .cons (cs := [v30z]) (Sl.cells (ownSl (H.get (k := 0) rfl))) rfl rfl rfl rfl <| .nil)) ?_
 obtain ⟨Bs_9, H⟩ := H.emptyE
 obtain ⟨Bs_10, H, hs33z⟩ := H.freezeE (k := 3) rfl
 replace H := H.nf
 have hq32z := hs33z
 obtain ⟨Bs_11, H, le34z, le35z⟩ := H.joinE (i := 0) (j := 3) rfl rfl
 replace hq32z := hq32z.mono le35z
 obtain ⟨Bs_12, H, hs37z⟩ := H.freezeE (k := 3) rfl
 replace H := H.nf
 have hq36z := hs37z
 obtain ⟨Bs_13, H, le38z, le39z⟩ := H.joinE (i := 0) (j := 3) rfl rfl
 replace hq32z := hq32z.mono le38z
 replace hq36z := hq36z.mono le39z
 obtain ⟨Bs_14, H, hs41z⟩ := H.freezeE (k := 3) rfl
 replace H := H.nf
 have hq40z := hs41z
 obtain ⟨Bs_15, H, le42z, le43z⟩ := H.joinE (i := 0) (j := 3) rfl rfl
 replace hq32z := hq32z.mono le42z
 replace hq36z := hq36z.mono le42z
 replace hq40z := hq40z.mono le43z
 obtain ⟨rw44z, hrw_rw44z⟩ : ∃ r : Raw 1, r.cs = [I 0, v26z] := ⟨Raw.of [I 0, v26z] rfl (by simp only [List.all_cons, List.all_nil, Bool.true_and, Bool.and_true, Sl.oc hq32z]; try rfl), rfl⟩
 obtain ⟨rw45z, hrw_rw45z⟩ : ∃ r : Raw 1, r.cs = [I 1, v28z] := ⟨Raw.of [I 1, v28z] rfl (by simp only [List.all_cons, List.all_nil, Bool.true_and, Bool.and_true, Sl.oc hq36z]; try rfl), rfl⟩
 obtain ⟨rw46z, hrw_rw46z⟩ : ∃ r : Raw 1, r.cs = [I 0, v30z] := ⟨Raw.of [I 0, v30z] rfl (by simp only [List.all_cons, List.all_nil, Bool.true_and, Bool.and_true, Sl.oc hq40z]; try rfl), rfl⟩
 have hr47z : RepR (α := Flood) Bs_15.cells [rw44z, rw45z, rw46z] [(⟨(0 : Int), ([(200 : Int), (250 : Int), (310 : Int)])⟩ : Flood), (⟨(1 : Int), ([(280 : Int), (240 : Int), (290 : Int)])⟩ : Flood), (⟨(0 : Int), ([(100 : Int), (260 : Int), (300 : Int)])⟩ : Flood)] := .cons (by rw [hrw_rw44z]; exact ⟨_, rfl, hq32z⟩) <| .cons (by rw [hrw_rw45z]; exact ⟨_, rfl, hq36z⟩) <| .cons (by rw [hrw_rw46z]; exact ⟨_, rfl, hq40z⟩) <| .nil
 refine t_bs (α := Raw 1) T27 [.agg #[I 0, v26z], .agg #[I 1, v28z], .agg #[I 0, v30z]] [rw44z, rw45z, rw46z] H rfl (.cons (by rw [show (Flat.enc rw44z : List Value) = rw44z.cs from rfl, hrw_rw44z]; rfl) (Flat.rep_enc _ _) <| .cons (by rw [show (Flat.enc rw45z : List Value) = rw45z.cs from rfl, hrw_rw45z]; rfl) (Flat.rep_enc _ _) <| .cons (by rw [show (Flat.enc rw46z : List Value) = rw46z.cs from rfl, hrw_rw46z]; rfl) (Flat.rep_enc _ _) <| .nil) rfl rfl rfl ?_
 intro v48z w49z H
 replace H := H.nf
 refine s_val (x_bld (ps := [(0, v2z), (1, v16z), (2, v18z), (3, v20z), (4, .agg #[I r04, I r14]), (5, v48z)]) (zs := [.slice none 0 0, .slice none 0 0, .slice none 0 0, .slice none 0 0, I 0, I 0, .slice none 0 0]) (L' := [v2z, v16z, v18z, v20z, I r04, I r14, v48z]) rfl Tryz.underlying29 Al29 rfl (Bd29 Tryz.underlying29) (.cons (cs := [v2z]) (Sl.cells (ownSl (H.get (k := 11) rfl))) rfl rfl rfl rfl <| .cons (cs := [v16z]) (Sl.cells (ownSl (H.get (k := 10) rfl))) rfl rfl rfl rfl <| .cons (cs := [v18z]) (Sl.cells (ownSl (H.get (k := 9) rfl))) rfl rfl rfl rfl <| .cons (cs := [v20z]) (Sl.cells (ownSl (H.get (k := 8) rfl))) rfl rfl rfl rfl <| .cons (cs := [I r04, I r14]) rfl rfl rfl rfl rfl <| .cons (cs := [v48z]) (Sl.cells (rowSl rfl (H.get (k := 0) rfl) (roLe _ (H.get (k := 1) rfl)) hr47z)) rfl rfl rfl rfl <| .nil)) ?_
 refine t_sw 12 0 [v2z, v16z, v18z, v20z, I r04, I r14, v48z] (.agg #[v2z, v16z, v18z, v20z, I r04, I r14, v48z]) H rfl rfl Sz29 rfl rfl rfl (by simp only [List.all_cons, List.all_nil, Bool.true_and, Bool.and_true, Sl.oc (ownSl (H.get (k := 11) rfl)), Sl.oc (ownSl (H.get (k := 10) rfl)), Sl.oc (ownSl (H.get (k := 9) rfl)), Sl.oc (ownSl (H.get (k := 8) rfl)), Sl.oc (rowSl rfl (H.get (k := 0) rfl) (roLe _ (H.get (k := 1) rfl)) hr47z)]; try rfl) ?_
 intro w50z H
 refine s_nil ?_
 replace H := H.pk [0, 1, 8, 9, 10, 11, 12]
 refine W.ret ?_
 have hb51z := (H.blk (k := 6) rfl)
 have hr_ := M.e_pure hM
 exact ⟨_, (resE_of1 (v := .agg #[v2z, v16z, v18z, v20z, I r04, I r14, v48z]) rfl (.cell (v := .agg #[v2z, v16z, v18z, v20z, I r04, I r14, v48z]) rfl (run_loadVar_ag (ds := [v2z, v16z, v18z, v20z, I r04, I r14, v48z]) Ag29 Sz29 hb51z rfl rfl) <| .nil)), ⟨([(2 : Int), (2 : Int), (3 : Int), (-1 : Int)]), ([(⟨(r0 : Int), (r1 : Int)⟩ : Span), (⟨(r02 : Int), (r12 : Int)⟩ : Span), (⟨(r03 : Int), (r13 : Int)⟩ : Span), (⟨(0 : Int), (0 : Int)⟩ : Span)]), ([(0 : Int), (1 : Int)]), ([(⟨(3 : Int), (lead : Int), (300 : Int)⟩ : Town)]), r04, r14, ([(⟨(0 : Int), ([(200 : Int), (250 : Int), (310 : Int)])⟩ : Flood), (⟨(1 : Int), ([(280 : Int), (240 : Int), (290 : Int)])⟩ : Flood), (⟨(0 : Int), ([(100 : Int), (260 : Int), (300 : Int)])⟩ : Flood)]), v2z, v16z, v18z, v20z, v48z, [rw44z, rw45z, rw46z], Bs_15, hr_, rfl, (H.pk [5, 4, 3, 2, 0, 1]), hr47z⟩⟩

def zac (n : Int) (least : Int) (greatest : Int) : M Bool :=
  M.pure ((decide (least <= n)) && (decide (n <= greatest)))
theorem zaj {R : List Chunk}  (n : Int) (least : Int) (greatest : Int)  {r : Bool} (hM : (zac n least greatest).Ends r) (w : World) (H : St w w [] R) : Ret Tryz.prog 47 #[I n, I least, I greatest] w fun v w' => ∃ (y0 : Bool), y0 = r /\ v = B y0 /\ St w w' [] R := by
 refine ret_of_W Tryz.func47 rfl rfl rfl ?_
 refine W.seq ?_
 refine W.region rfl ?_
 refine s_val (x_as (v := B false) rfl) ?_
 refine s_nil ?_
 refine W.seq ?_
 refine W.region rfl ?_
 refine s_val (x_mv (v := I n) rfl) ?_
 refine s_val (x_mv (v := I least) rfl) ?_
 refine s_val (x_cmp (kd := .i64) (a := n) (b := least) (r := decide (least <= n)) rfl rfl rfl) ?_
 refine s_val (x_mv (v := B (decide (least <= n))) rfl) ?_
 refine g_val (decide (least <= n)) (gy_t rfl) (fun hg => x_mv (v := I n) rfl) ?_
 refine g_val (decide (least <= n)) (gy_t rfl) (fun hg => x_mv (v := I greatest) rfl) ?_
 refine g_val (decide (least <= n)) (gy_t rfl) (fun hg => x_cmp (kd := .i64) (a := n) (b := greatest) (r := decide (n <= greatest)) (gd_of (c := decide (least <= n)) hg (I n)) (gd_of (c := decide (least <= n)) hg (I greatest)) rfl) ?_
 refine s_val (x_pand (b := decide (least <= n)) (r := decide (n <= greatest)) rfl (fun hb => gd_of (c := decide (least <= n)) (by first | exact hb | (rw [hb]; rfl) | simp_all) (B (decide (n <= greatest)))) rfl) ?_
 refine s_val (x_as (v := B ((decide (least <= n)) && (decide (n <= greatest)))) rfl) ?_
 refine s_nil ?_
 refine W.ret ?_
 have hr_ := M.e_pure hM
 exact ⟨_, resE_tmp rfl, ⟨((decide (least <= n)) && (decide (n <= greatest))), hr_, rfl, H⟩⟩

def zaJ (s : Span) : M Bool :=
  M.bind (zac s.lo 0 s.hi) fun r2 =>
  M.bind (M.opt r2 (zac s.hi 0 1000) false) fun r3 =>
  M.pure (r2 && r3)
theorem zcr {R : List Chunk}  (s : Span)  {r : Bool} (hM : (zaJ s).Ends r) (w : World) (H : St w w [] R) : Ret Tryz.prog 61 #[.agg #[I s.lo, I s.hi]] w fun v w' => ∃ (y0 : Bool), y0 = r /\ v = B y0 /\ St w w' [] R := by
 refine ret_of_W Tryz.func61 rfl rfl rfl ?_
 refine W.seq ?_
 refine W.region rfl ?_
 refine t_box (v := .agg #[I s.lo, I s.hi]) (cs := [I s.lo, I s.hi]) H rfl rfl ?_
 intro b_1 w1z H
 refine s_val (x_as (v := B false) rfl) ?_
 refine s_nil ?_
 refine W.seq ?_
 refine W.region rfl ?_
 refine s_val (x_fa (a := .pointer (some ⟨b_1, 0, none⟩)) (v := .pointer (some ⟨b_1, 0, none⟩)) rfl (fa_blk (o := 0) Fd26_0 Sz3)) ?_
 refine s_val (x_ld (p := .pointer (some ⟨b_1, 0, none⟩)) (v := I s.lo) rfl (ldb_sc Sc3 (H.blk (k := 0) rfl) rfl)) ?_
 refine s_val (x_fa (a := .pointer (some ⟨b_1, 0, none⟩)) (v := .pointer (some ⟨b_1, 1, none⟩)) rfl (fa_blk (o := 0) Fd26_1 Sz3)) ?_
 refine s_val (x_ld (p := .pointer (some ⟨b_1, 1, none⟩)) (v := I s.hi) rfl (ldb_sc Sc3 (H.blk (k := 0) rfl) rfl)) ?_
 obtain ⟨r3z, hx2z, hM⟩ := M.e_bind hM
 refine s_call cf47 [I s.lo, I 0, I s.hi] rfl (zaj s.lo 0 s.hi hx2z _ (H.gt 1)) ?_
 rintro vq w4z ⟨r2, hr5z, hvq, H2_⟩
 subst hr5z
 subst vq
 try dsimp only at hM
 replace H := H.bk H2_
 clear H2_
 refine s_val (x_mv (v := B r2) rfl) ?_
 refine g_val r2 (gy_t rfl) (fun hg => x_fa (a := .pointer (some ⟨b_1, 0, none⟩)) (v := .pointer (some ⟨b_1, 1, none⟩)) rfl (fa_blk (o := 0) Fd26_1 Sz3)) ?_
 refine g_val r2 (gy_t rfl) (fun hg => x_ld (p := .pointer (some ⟨b_1, 1, none⟩)) (v := I s.hi) (gd_of (c := r2) hg (.pointer (some ⟨b_1, 1, none⟩))) (ldb_sc Sc3 (H.blk (k := 0) rfl) rfl)) ?_
 obtain ⟨r3, hx6z, hM⟩ := M.e_bind hM
 refine t_gcall r2 (gy_t rfl) cf47 (B r3) (fun _ => [I s.hi, I 0, I 1000]) (fun hg => lst3 (gd_of (c := r2) hg (I s.hi)) rfl rfl) H (fun hg => (zaj s.hi 0 1000 (M.e_opt hx6z hg) _ (H.give (A := []) rfl)).mono fun v_ w_ ⟨y_, hr_, hv_, H_⟩ => by subst hr_; exact ⟨hv_, H.via H_⟩) ?_
 intro w7z H
 refine s_val (x_pand (b := r2) (r := r3) rfl (fun hb => gd_of (c := r2) (by first | exact hb | (rw [hb]; rfl) | simp_all) (B r3)) rfl) ?_
 refine s_val (x_as (v := B (r2 && r3)) rfl) ?_
 refine s_nil ?_
 refine W.ret ?_
 have hr_ := M.e_pure hM
 exact ⟨_, resE_tmp rfl, ⟨(r2 && r3), hr_, rfl, (H.pk [])⟩⟩

def zaG (l : List Int) (end_ : Int) : (Int × Nat) -> M ((Int × Nat) ⊕ (Unit ⊕ Unit)) := fun (last, s) =>
  bif decide ((s : Int) < (l.length : Int)) then (
  M.grd (decide ((s : Int) < (l.length : Int))) <|
  M.grd (decide ((-9223372036854775808 : Int) <= (last + 1)) && decide ((last + 1) <= (9223372036854775807 : Int))) <|
  M.grd (decide ((-9223372036854775808 : Int) <= (end_ - 1)) && decide ((end_ - 1) <= (9223372036854775807 : Int))) <|
  M.bind (zac (l.getD s 0) (last + 1) (end_ - 1)) fun r2 =>
  bif !r2 then (
  M.pure (.inr (.inl ())))
  else (
  M.pure (.inl (l.getD s 0, s + 1))))
  else (
  M.pure (.inr (.inr ())))
def zau (l : List Int) (end_ : Int) : M Bool :=
  M.bind (M.iter (zaG l end_) (-1, 0)) fun x_ => match x_ with
  | (.inl (_ : Unit)) => (
  M.pure false)
  | (.inr (_ : Unit)) => (
  M.pure true)
theorem zb8 {R : List Chunk} {C_l : Cells} {v_l : Value} (l : List Int) (end_ : Int) (hC_l : Reads R C_l) (hs_l : Sl C_l v_l l) {r : Bool} (hM : (zau l end_).Ends r) (w : World) (H : St w w [] R) : Ret Tryz.prog 62 #[v_l, I end_] w fun v w' => ∃ (y0 : Bool), y0 = r /\ v = B y0 /\ St w w' [] R := by
 refine ret_of_W Tryz.func62 rfl rfl rfl ?_
 refine W.seq ?_
 refine W.region rfl ?_
 refine s_val (x_as (v := B false) rfl) ?_
 refine s_nil ?_
 refine W.seq ?_
 refine W.region rfl ?_
 refine s_val (x_as (v := I (-1)) rfl) ?_
 refine s_nil ?_
 refine W.seq ?_
 refine W.seq ?_
 refine W.region rfl ?_
 refine s_val (x_mv (v := v_l) rfl) ?_
 have hl1z := (hs_l).len_le
 refine s_val (x_lenS T22.und rfl hs_l) ?_
 refine s_val (x_mv (v := I 0) rfl) ?_
 refine s_nil ?_
 refine W.block ?_
 obtain ⟨ex2z, hi3z, hk4z⟩ := M.e_bind hM
 obtain ⟨m0_, hi3z⟩ := M.e_iter hi3z
 refine W.loop (fun m σ W => ∃ (last : Int) (s : Nat) (ρ : Env), σ = upds ρ [(1, I end_), (5, I last), (8, v_l), (9, I (l.length : Int)), (10, I (s : Int))] /\ M.iterN (zaG l end_) m (last, s) = some ex2z /\ St w W [] R) ?_ ?_
 ·exact ⟨_, -1, 0, _, upds_of _ _ ⟨rfl, rfl, rfl, rfl, rfl, trivial⟩, hi3z, H⟩
 rintro m7z σ w5z ⟨last, s, ρ, rfl, hI6z, H⟩
 obtain ⟨m8z, lt9z, x10z, hM, hN11z⟩ := M.e_iterN hI6z
 simp only [zaG] at hM
 clear hI6z
 refine W.seq ?_
 refine W.region rfl ?_
 refine s_val (x_cmp (kd := .i64) (a := (s : Int)) (b := (l.length : Int)) (r := decide ((s : Int) < (l.length : Int))) rfl rfl rfl) ?_
 refine s_nil ?_
 refine W.seq ?_
 refine W.cond (decide ((s : Int) < (l.length : Int))) rfl (fun c12z => ?_) (fun c12z => ?_)
 ·replace hM := M.e_t hM c12z
  simp only [decide_eq_true_eq, decide_eq_false_iff_not, beq_iff_eq, bne_iff_ne, beq_eq_false_iff_ne, bne_eq_false_iff_eq, ne_eq, Decidable.not_not] at c12z
  refine W.skip ?_
  refine W.seq ?_
  refine W.block ?_
  refine W.seq ?_
  refine W.region rfl ?_
  obtain ⟨sd13z, hM⟩ := M.e_grd hM
  simp only [Bool.and_eq_true, decide_eq_true_eq] at sd13z
  refine s_val (x_ix (a := v_l) (b := I (s : Int)) (v := vat v_l 1 (Int.toNat (s : Int))) rfl rfl (Sl.ix (α := Int) T22.und T22.size hs_l (by omega) (by omega))) ?_
  refine s_val (x_ld (p := vat v_l 1 (Int.toNat (s : Int))) (v := I (l.getD s 0)) rfl (ld_sc Sc3 (At.mono (Int_at hs_l (i := (s : Int)) (by omega) (by omega)) (hC_l.at H)))) ?_
  refine s_val (x_as (v := I (l.getD s 0)) rfl) ?_
  refine s_nil ?_
  refine W.seq ?_
  refine W.seq ?_
  refine W.region rfl ?_
  refine s_val (x_mv (v := I (l.getD s 0)) rfl) ?_
  refine s_val (x_mv (v := I last) rfl) ?_
  obtain ⟨sd14z, hM⟩ := M.e_grd hM
  simp only [Bool.and_eq_true, decide_eq_true_eq] at sd14z
  refine s_val (x_ari (a := last) (b := 1) (r := last + 1) rfl rfl rfl (by omega)) ?_
  refine s_val (x_mv (v := I end_) rfl) ?_
  obtain ⟨sd15z, hM⟩ := M.e_grd hM
  simp only [Bool.and_eq_true, decide_eq_true_eq] at sd15z
  refine s_val (x_ari (a := end_) (b := 1) (r := end_ - 1) rfl rfl rfl (by omega)) ?_
  obtain ⟨r17z, hx16z, hM⟩ := M.e_bind hM
  refine s_call cf47 [I (l.getD s 0), I (last + 1), I (end_ - 1)] rfl (zaj (l.getD s 0) (last + 1) (end_ - 1) hx16z _ (H.gt 0)) ?_
  rintro vq w18z ⟨r2, hr19z, hvq, H2_⟩
  subst hr19z
  subst vq
  try dsimp only at hM
  replace H := H.bk H2_
  clear H2_
  refine s_val (x_not (b := r2) rfl) ?_
  refine s_nil ?_
  refine W.cond (!r2) rfl (fun c20z => ?_) (fun c20z => ?_)
  ·replace hM := M.e_t hM c20z
   refine W.seq ?_
   refine W.region rfl ?_
   refine s_val (x_as (v := B false) rfl) ?_
   refine s_nil ?_
   refine W.ret ?_
   have hX21z := M.e_inr hM hN11z
   subst hX21z
   replace hM := hk4z
   try dsimp only at hM
   have hr_ := M.e_pure hM
   exact ⟨_, resE_tmp rfl, ⟨false, hr_, rfl, H⟩⟩
  replace hM := M.e_f hM c20z
  refine W.skip ?_
  refine W.region rfl ?_
  refine s_val (x_mv (v := I (l.getD s 0)) rfl) ?_
  refine s_val (x_as (v := I (l.getD s 0)) rfl) ?_
  refine s_nil ?_
  refine W.region rfl ?_
  refine s_val (x_ari (a := (s : Int)) (b := 1) (r := (s : Int) + 1) rfl rfl rfl (by omega)) ?_
  refine s_val (x_mv (v := I ((s : Int) + 1)) rfl) ?_
  refine s_nil ?_
  exact ⟨m8z, lt9z, l.getD s 0, s + 1, _, upds_of _ _ ⟨rfl, rfl, rfl, rfl, rfl, trivial⟩, M.e_inl hM hN11z, H⟩
 replace hM := M.e_f hM c12z
 simp only [decide_eq_true_eq, decide_eq_false_iff_not, beq_iff_eq, bne_iff_ne, beq_eq_false_iff_ne, bne_eq_false_iff_eq, ne_eq, Decidable.not_not] at c12z
 refine W.exit ?_
 have hX22z := M.e_inr hM hN11z
 subst hX22z
 replace hM := hk4z
 try dsimp only at hM
 refine W.seq ?_
 refine W.region rfl ?_
 refine s_val (x_as (v := B true) rfl) ?_
 refine s_nil ?_
 refine W.ret ?_
 have hr_ := M.e_pure hM
 exact ⟨_, resE_tmp rfl, ⟨true, hr_, rfl, H⟩⟩

def zaC (s : List Town) (f : Town -> M Bool) : Nat -> M (Nat ⊕ (Int ⊕ Unit)) := fun s2 =>
  bif decide ((s2 : Int) < (s.length : Int)) then (
  M.grd (decide ((s2 : Int) < (s.length : Int))) <|
  M.bind (f (s.getD s2 default)) fun r2 =>
  bif r2 then (
  M.pure (.inr (.inl (s2 : Int))))
  else (
  M.pure (.inl (s2 + 1))))
  else (
  M.pure (.inr (.inr ())))
def zbJ (s : List Town) (f : Town -> M Bool) : M Int :=
  M.bind (M.iter (zaC s f) 0) fun x_ => match x_ with
  | (.inl s3) => (
  M.pure s3)
  | (.inr (_ : Unit)) => (
  M.pure (-1))
theorem zdn {R : List Chunk} {C_s : Cells} {v_s : Value} {v_f : Value} (s : List Town) (f : Town -> M Bool) (hC_s : Reads R C_s) (hs_s : Sl C_s v_s s) (hf_f : FnM Tryz.prog R v_f f) {r : Int} (hM : (zbJ s f).Ends r) (w : World) (H : St w w [] R) : Ret Tryz.prog 108 #[v_s, v_f] w fun v w' => ∃ (y0 : Int), y0 = r /\ v = I y0 /\ St w w' [] R := by
 refine ret_of_W Tryz.func108 rfl rfl rfl ?_
 refine W.seq ?_
 refine W.region rfl ?_
 refine s_val (x_as (v := I 0) rfl) ?_
 refine s_nil ?_
 refine W.seq ?_
 refine W.seq ?_
 refine W.region rfl ?_
 refine s_val (x_mv (v := v_s) rfl) ?_
 have hl1z := (hs_s).len_le
 refine s_val (x_lenS T24.und rfl hs_s) ?_
 refine s_val (x_mv (v := I 0) rfl) ?_
 refine s_nil ?_
 refine W.block ?_
 obtain ⟨ex2z, hi3z, hk4z⟩ := M.e_bind hM
 obtain ⟨m0_, hi3z⟩ := M.e_iter hi3z
 refine W.loop (fun m σ W => ∃ (s2 : Nat) (ρ : Env), σ = upds ρ [(0, v_s), (1, v_f), (7, I (s.length : Int)), (8, I (s2 : Int))] /\ M.iterN (zaC s f) m s2 = some ex2z /\ St w W [] R) ?_ ?_
 ·exact ⟨_, 0, _, upds_of _ _ ⟨rfl, rfl, rfl, rfl, trivial⟩, hi3z, H⟩
 rintro m7z σ w5z ⟨s2, ρ, rfl, hI6z, H⟩
 obtain ⟨m8z, lt9z, x10z, hM, hN11z⟩ := M.e_iterN hI6z
 simp only [zaC] at hM
 clear hI6z
 refine W.seq ?_
 refine W.region rfl ?_
 refine s_val (x_cmp (kd := .i64) (a := (s2 : Int)) (b := (s.length : Int)) (r := decide ((s2 : Int) < (s.length : Int))) rfl rfl rfl) ?_
 refine s_nil ?_
 refine W.seq ?_
 refine W.cond (decide ((s2 : Int) < (s.length : Int))) rfl (fun c12z => ?_) (fun c12z => ?_)
 ·replace hM := M.e_t hM c12z
  simp only [decide_eq_true_eq, decide_eq_false_iff_not, beq_iff_eq, bne_iff_ne, beq_eq_false_iff_ne, bne_eq_false_iff_eq, ne_eq, Decidable.not_not] at c12z
  refine W.skip ?_
  refine W.seq ?_
  refine W.block ?_
  refine W.seq ?_
  refine W.region rfl ?_
  refine s_val (x_mv (v := I (s2 : Int)) rfl) ?_
  refine s_val (x_as (v := I (s2 : Int)) rfl) ?_
  refine s_nil ?_
  refine W.seq ?_
  refine W.region rfl ?_
  refine s_val (x_mv (v := v_f) rfl) ?_
  refine s_val (x_mv (v := v_s) rfl) ?_
  refine s_val (x_mv (v := I (s2 : Int)) rfl) ?_
  obtain ⟨sd13z, hM⟩ := M.e_grd hM
  simp only [Bool.and_eq_true, decide_eq_true_eq] at sd13z
  refine s_val (x_ix (a := v_s) (b := I (s2 : Int)) (v := vat v_s 3 (Int.toNat (s2 : Int))) rfl rfl (Sl.ix (α := Town) T24.und T24.size hs_s (by omega) (by omega))) ?_
  refine s_val (x_ld (p := vat v_s 3 (Int.toNat (s2 : Int))) (v := .agg #[I ((s.getD s2 default).station), I ((s.getD s2 default).lead), I ((s.getD s2 default).alarm)]) rfl (ld_ag Ag91 Sz91 (At.mono (Town_atA hs_s (i := (s2 : Int)) (by omega) (by omega)) (hC_s.at H)))) ?_
  obtain ⟨r2, hx15z, hM⟩ := M.e_bind hM
  refine t_callM H hf_f rfl rfl (s.getD s2 default) Reads.none ⟨_, rfl, rfl⟩ hx15z ?_
  intro w14z H
  refine s_nil ?_
  refine W.cond r2 rfl (fun c16z => ?_) (fun c16z => ?_)
  ·replace hM := M.e_t hM c16z
   refine W.seq ?_
   refine W.region rfl ?_
   refine s_val (x_mv (v := I (s2 : Int)) rfl) ?_
   refine s_val (x_as (v := I (s2 : Int)) rfl) ?_
   refine s_nil ?_
   refine W.ret ?_
   have hX17z := M.e_inr hM hN11z
   subst hX17z
   replace hM := hk4z
   try dsimp only at hM
   have hr_ := M.e_pure hM
   exact ⟨_, resE_tmp rfl, ⟨(s2 : Int), hr_, rfl, H⟩⟩
  replace hM := M.e_f hM c16z
  refine W.skip ?_
  refine W.region rfl ?_
  refine s_val (x_ari (a := (s2 : Int)) (b := 1) (r := (s2 : Int) + 1) rfl rfl rfl (by omega)) ?_
  refine s_val (x_mv (v := I ((s2 : Int) + 1)) rfl) ?_
  refine s_nil ?_
  exact ⟨m8z, lt9z, s2 + 1, _, upds_of _ _ ⟨rfl, rfl, rfl, rfl, trivial⟩, M.e_inl hM hN11z, H⟩
 replace hM := M.e_f hM c12z
 simp only [decide_eq_true_eq, decide_eq_false_iff_not, beq_iff_eq, bne_iff_ne, beq_eq_false_iff_ne, bne_eq_false_iff_eq, ne_eq, Decidable.not_not] at c12z
 refine W.exit ?_
 have hX18z := M.e_inr hM hN11z
 subst hX18z
 replace hM := hk4z
 try dsimp only at hM
 refine W.seq ?_
 refine W.region rfl ?_
 refine s_val (x_as (v := I (-1)) rfl) ?_
 refine s_nil ?_
 refine W.ret ?_
 have hr_ := M.e_pure hM
 exact ⟨_, resE_tmp rfl, ⟨(-1), hr_, rfl, H⟩⟩

def zaP (s : List Town) (f : Town -> M Bool) : M Bool :=
  M.bind (zbJ s f) fun r2 =>
  M.pure (decide (0 <= r2))
theorem zcb {R : List Chunk} {C_s : Cells} {v_s : Value} {v_f : Value} (s : List Town) (f : Town -> M Bool) (hC_s : Reads R C_s) (hs_s : Sl C_s v_s s) (hf_f : FnM Tryz.prog R v_f f) {r : Bool} (hM : (zaP s f).Ends r) (w : World) (H : St w w [] R) : Ret Tryz.prog 92 #[v_s, v_f] w fun v w' => ∃ (y0 : Bool), y0 = r /\ v = B y0 /\ St w w' [] R := by
 refine ret_of_W Tryz.func92 rfl rfl rfl ?_
 refine W.seq ?_
 refine W.region rfl ?_
 refine s_val (x_as (v := B false) rfl) ?_
 refine s_nil ?_
 refine W.seq ?_
 refine W.region rfl ?_
 refine s_val (x_mv (v := v_s) rfl) ?_
 refine s_val (x_mv (v := v_f) rfl) ?_
 obtain ⟨r2z, hx1z, hM⟩ := M.e_bind hM
 refine s_call cf108 [v_s, v_f] rfl (zdn s f (hC_s.app _) hs_s (hf_f.app _) hx1z _ (H.gt 0)) ?_
 rintro vq w3z ⟨r2, hr4z, hvq, H2_⟩
 subst hr4z
 subst vq
 try dsimp only at hM
 replace H := H.bk H2_
 clear H2_
 refine s_val (x_cmp (kd := .i64) (a := r2) (b := 0) (r := decide (0 <= r2)) rfl rfl rfl) ?_
 refine s_val (x_as (v := B (decide (0 <= r2))) rfl) ?_
 refine s_nil ?_
 refine W.ret ?_
 have hr_ := M.e_pure hM
 exact ⟨_, resE_tmp rfl, ⟨(decide (0 <= r2)), hr_, rfl, H⟩⟩

def zbq (x : Town) (k02 : Town -> M Bool) : M Bool :=
  M.bind (k02 x) fun r2 =>
  M.pure (!r2)
theorem zdx {R : List Chunk} {b_k0 : Nat} {v_k02 : Value} (x : Town) (k02 : Town -> M Bool) (hf_k02 : FnM Tryz.prog R v_k02 k02) (h_b_k0 : Has R (cBlk b_k0 [v_k02] 120)) {r : Bool} (hM : (zbq x k02).Ends r) (w : World) (H : St w w [] R) : Ret Tryz.prog 95 #[.agg #[I x.station, I x.lead, I x.alarm], .pointer (some ⟨b_k0, 0, none⟩)] w fun v w' => ∃ (y0 : Bool), y0 = r /\ v = B y0 /\ St w w' [] R := by
 refine ret_of_W Tryz.func95 rfl rfl rfl ?_
 refine W.seq ?_
 refine W.region rfl ?_
 refine t_box (v := .agg #[I x.station, I x.lead, I x.alarm]) (cs := [I x.station, I x.lead, I x.alarm]) H rfl rfl ?_
 intro b_1 w1z H
 refine s_val (x_as (v := B false) rfl) ?_
 refine s_nil ?_
 refine W.seq ?_
 refine W.region rfl ?_
 refine s_val (x_ld (p := .pointer (some ⟨b_k0, 0, none⟩)) (v := v_k02) rfl (ldb_sc Sc120 (h_b_k0.blk H) rfl)) ?_
 refine s_val (x_ld (p := .pointer (some ⟨b_1, 0, none⟩)) (v := .agg #[I x.station, I x.lead, I x.alarm]) rfl (ldb_ag (ds := [I x.station, I x.lead, I x.alarm]) Ag91 Sz91 (H.blk (k := 0) rfl) rfl rfl)) ?_
 obtain ⟨r2, hx3z, hM⟩ := M.e_bind hM
 refine t_callM H hf_k02 rfl rfl x Reads.none ⟨_, rfl, rfl⟩ hx3z ?_
 intro w2z H
 refine s_val (x_not (b := r2) rfl) ?_
 refine s_val (x_as (v := B (!r2)) rfl) ?_
 refine s_nil ?_
 refine W.ret ?_
 have hr_ := M.e_pure hM
 exact ⟨_, resE_tmp rfl, ⟨(!r2), hr_, rfl, (H.pk [])⟩⟩

def zaK (l : List Town) (so : Town -> M Bool) : M Bool :=
  M.bind (zaP l (fun xqz => zbq xqz so)) fun r2 =>
  M.pure (!r2)
theorem zcy {R : List Chunk} {C_l : Cells} {v_l : Value} {v_so : Value} (l : List Town) (so : Town -> M Bool) (hC_l : Reads R C_l) (hs_l : Sl C_l v_l l) (hf_so : FnM Tryz.prog R v_so so) {r : Bool} (hM : (zaK l so).Ends r) (w : World) (H : St w w [] R) : Ret Tryz.prog 63 #[v_l, v_so] w fun v w' => ∃ (y0 : Bool), y0 = r /\ v = B y0 /\ St w w' [] R := by
 refine ret_of_W Tryz.func63 rfl rfl rfl ?_
 refine W.seq ?_
 refine W.region rfl ?_
 refine t_box (v := v_so) (cs := [v_so]) H rfl (FnM.cells hf_so) ?_
 intro b_1 w1z H
 refine s_val (x_as (v := B false) rfl) ?_
 refine s_nil ?_
 refine W.seq ?_
 refine W.region rfl ?_
 refine s_val (x_mv (v := v_l) rfl) ?_
 refine s_val (x_mf (fs := []) (cs := [.pointer (some ⟨b_1, 0, none⟩)]) rfl rfl) ?_
 obtain ⟨r3z, hx2z, hM⟩ := M.e_bind hM
 refine s_call cf92 [v_l, .func (.func 95) #[] #[.pointer (some ⟨b_1, 0, none⟩)]] rfl (zcb l (fun xqz => zbq xqz so) (hC_l.app _) hs_l ⟨95, [.pointer (some ⟨b_1, 0, none⟩)], rfl, cf95, fun wqz Lqz Cqz vqz xqz bqz hsqz hCqz hAqz hpqz => by obtain rfl := Town_arg hAqz; exact (zdx xqz so (FnM.app (hf_so.app _) _) (Has.app (Has.here (k := 0) rfl) _) hpqz wqz (St.refl hsqz)).mono fun vqz wqz ⟨yqz, hrqz, hvqz, Hqz⟩ => by subst hrqz; exact ⟨hvqz, Hqz⟩⟩ hx2z _ (H.gt 1)) ?_
 rintro vq w4z ⟨r2, hr5z, hvq, H2_⟩
 subst hr5z
 subst vq
 try dsimp only at hM
 replace H := H.bk H2_
 clear H2_
 refine s_val (x_not (b := r2) rfl) ?_
 refine s_val (x_as (v := B (!r2)) rfl) ?_
 refine s_nil ?_
 refine W.ret ?_
 have hr_ := M.e_pure hM
 exact ⟨_, resE_tmp rfl, ⟨(!r2), hr_, rfl, (H.pk [])⟩⟩

def zax (n : Int) : M Bool :=
  M.bind (zac n 0 2000) fun r2 =>
  M.pure r2
theorem zcX {R : List Chunk}  (n : Int)  {r : Bool} (hM : (zax n).Ends r) (w : World) (H : St w w [] R) : Ret Tryz.prog 68 #[I n] w fun v w' => ∃ (y0 : Bool), y0 = r /\ v = B y0 /\ St w w' [] R := by
 refine ret_of_W Tryz.func68 rfl rfl rfl ?_
 refine W.seq ?_
 refine W.region rfl ?_
 refine s_val (x_as (v := B false) rfl) ?_
 refine s_nil ?_
 refine W.seq ?_
 refine W.region rfl ?_
 refine s_val (x_mv (v := I n) rfl) ?_
 obtain ⟨r2z, hx1z, hM⟩ := M.e_bind hM
 refine s_call cf47 [I n, I 0, I 2000] rfl (zaj n 0 2000 hx1z _ (H.gt 0)) ?_
 rintro vq w3z ⟨r2, hr4z, hvq, H2_⟩
 subst hr4z
 subst vq
 try dsimp only at hM
 replace H := H.bk H2_
 clear H2_
 refine s_val (x_as (v := B r2) rfl) ?_
 refine s_nil ?_
 refine W.ret ?_
 have hr_ := M.e_pure hM
 exact ⟨_, resE_tmp rfl, ⟨r2, hr_, rfl, H⟩⟩

def zaL (t : Town) : M Bool :=
  M.bind (zac t.lead 0 1000) fun r2 =>
  M.bind (M.opt r2 (zax t.alarm) false) fun r3 =>
  M.pure (r2 && r3)
theorem zdz {R : List Chunk}  (t : Town)  {r : Bool} (hM : (zaL t).Ends r) (w : World) (H : St w w [] R) : Ret Tryz.prog 64 #[.agg #[I t.station, I t.lead, I t.alarm]] w fun v w' => ∃ (y0 : Bool), y0 = r /\ v = B y0 /\ St w w' [] R := by
 refine ret_of_W Tryz.func64 rfl rfl rfl ?_
 refine W.seq ?_
 refine W.region rfl ?_
 refine t_box (v := .agg #[I t.station, I t.lead, I t.alarm]) (cs := [I t.station, I t.lead, I t.alarm]) H rfl rfl ?_
 intro b_1 w1z H
 refine s_val (x_as (v := B false) rfl) ?_
 refine s_nil ?_
 refine W.seq ?_
 refine W.region rfl ?_
 refine s_val (x_fa (a := .pointer (some ⟨b_1, 0, none⟩)) (v := .pointer (some ⟨b_1, 1, none⟩)) rfl (fa_blk (o := 0) Fd91_1 Sz3)) ?_
 refine s_val (x_ld (p := .pointer (some ⟨b_1, 1, none⟩)) (v := I t.lead) rfl (ldb_sc Sc3 (H.blk (k := 0) rfl) rfl)) ?_
 obtain ⟨r3z, hx2z, hM⟩ := M.e_bind hM
 refine s_call cf47 [I t.lead, I 0, I 1000] rfl (zaj t.lead 0 1000 hx2z _ (H.gt 1)) ?_
 rintro vq w4z ⟨r2, hr5z, hvq, H2_⟩
 subst hr5z
 subst vq
 try dsimp only at hM
 replace H := H.bk H2_
 clear H2_
 refine s_val (x_mv (v := B r2) rfl) ?_
 refine g_val r2 (gy_t rfl) (fun hg => x_fa (a := .pointer (some ⟨b_1, 0, none⟩)) (v := .pointer (some ⟨b_1, 2, none⟩)) rfl (fa_blk (o := 0) Fd91_2 Sz3)) ?_
 refine g_val r2 (gy_t rfl) (fun hg => x_ld (p := .pointer (some ⟨b_1, 2, none⟩)) (v := I t.alarm) (gd_of (c := r2) hg (.pointer (some ⟨b_1, 2, none⟩))) (ldb_sc Sc3 (H.blk (k := 0) rfl) rfl)) ?_
 obtain ⟨r3, hx6z, hM⟩ := M.e_bind hM
 refine t_gcall r2 (gy_t rfl) cf68 (B r3) (fun _ => [I t.alarm]) (fun hg => lst1 (gd_of (c := r2) hg (I t.alarm))) H (fun hg => (zcX t.alarm (M.e_opt hx6z hg) _ (H.give (A := []) rfl)).mono fun v_ w_ ⟨y_, hr_, hv_, H_⟩ => by subst hr_; exact ⟨hv_, H.via H_⟩) ?_
 intro w7z H
 refine s_val (x_pand (b := r2) (r := r3) rfl (fun hb => gd_of (c := r2) (by first | exact hb | (rw [hb]; rfl) | simp_all) (B r3)) rfl) ?_
 refine s_val (x_as (v := B (r2 && r3)) rfl) ?_
 refine s_nil ?_
 refine W.ret ?_
 have hr_ := M.e_pure hM
 exact ⟨_, resE_tmp rfl, ⟨(r2 && r3), hr_, rfl, (H.pk [])⟩⟩

def zaF (t : Town) (k02 : Int) : M Bool :=
  M.grd (decide ((-9223372036854775808 : Int) <= (k02 - 1)) && decide ((k02 - 1) <= (9223372036854775807 : Int))) <|
  M.bind (zac t.station 0 (k02 - 1)) fun r2 =>
  M.pure r2
theorem zc1 {R : List Chunk} {b_k0 : Nat} (t : Town) (k02 : Int) (h_b_k0 : Has R (cBlk b_k0 [I k02] 3)) {r : Bool} (hM : (zaF t k02).Ends r) (w : World) (H : St w w [] R) : Ret Tryz.prog 65 #[.agg #[I t.station, I t.lead, I t.alarm], .pointer (some ⟨b_k0, 0, none⟩)] w fun v w' => ∃ (y0 : Bool), y0 = r /\ v = B y0 /\ St w w' [] R := by
 refine ret_of_W Tryz.func65 rfl rfl rfl ?_
 refine W.seq ?_
 refine W.region rfl ?_
 refine t_box (v := .agg #[I t.station, I t.lead, I t.alarm]) (cs := [I t.station, I t.lead, I t.alarm]) H rfl rfl ?_
 intro b_1 w1z H
 refine s_val (x_as (v := B false) rfl) ?_
 refine s_nil ?_
 refine W.seq ?_
 refine W.region rfl ?_
 refine s_val (x_fa (a := .pointer (some ⟨b_1, 0, none⟩)) (v := .pointer (some ⟨b_1, 0, none⟩)) rfl (fa_blk (o := 0) Fd91_0 Sz3)) ?_
 refine s_val (x_ld (p := .pointer (some ⟨b_1, 0, none⟩)) (v := I t.station) rfl (ldb_sc Sc3 (H.blk (k := 0) rfl) rfl)) ?_
 refine s_val (x_ld (p := .pointer (some ⟨b_k0, 0, none⟩)) (v := I k02) rfl (ldb_sc Sc3 (h_b_k0.blk H) rfl)) ?_
 obtain ⟨sd2z, hM⟩ := M.e_grd hM
 simp only [Bool.and_eq_true, decide_eq_true_eq] at sd2z
 refine s_val (x_ari (a := k02) (b := 1) (r := k02 - 1) rfl rfl rfl (by omega)) ?_
 obtain ⟨r4z, hx3z, hM⟩ := M.e_bind hM
 refine s_call cf47 [I t.station, I 0, I (k02 - 1)] rfl (zaj t.station 0 (k02 - 1) hx3z _ (H.gt 1)) ?_
 rintro vq w5z ⟨r2, hr6z, hvq, H2_⟩
 subst hr6z
 subst vq
 try dsimp only at hM
 replace H := H.bk H2_
 clear H2_
 refine s_val (x_as (v := B r2) rfl) ?_
 refine s_nil ?_
 refine W.ret ?_
 have hr_ := M.e_pure hM
 exact ⟨_, resE_tmp rfl, ⟨r2, hr_, rfl, (H.pk [])⟩⟩

def zaz (s : List Int) (v : Int) : Nat -> M (Nat ⊕ (Int ⊕ Unit)) := fun s2 =>
  bif decide ((s2 : Int) < (s.length : Int)) then (
  M.grd (decide ((s2 : Int) < (s.length : Int))) <|
  bif v == (s.getD s2 0) then (
  M.pure (.inr (.inl (s2 : Int))))
  else (
  M.pure (.inl (s2 + 1))))
  else (
  M.pure (.inr (.inr ())))
def zbk (s : List Int) (v : Int) : M Int :=
  M.bind (M.iter (zaz s v) 0) fun x_ => match x_ with
  | (.inl s3) => (
  M.pure s3)
  | (.inr (_ : Unit)) => (
  M.pure (-1))
theorem zcW {R : List Chunk} {C_s : Cells} {v_s : Value} (s : List Int) (v : Int) (hC_s : Reads R C_s) (hs_s : Sl C_s v_s s) {r : Int} (hM : (zbk s v).Ends r) (w : World) (H : St w w [] R) : Ret Tryz.prog 56 #[v_s, I v] w fun v w' => ∃ (y0 : Int), y0 = r /\ v = I y0 /\ St w w' [] R := by
 refine ret_of_W Tryz.func56 rfl rfl rfl ?_
 refine W.seq ?_
 refine W.region rfl ?_
 refine s_val (x_as (v := I 0) rfl) ?_
 refine s_nil ?_
 refine W.seq ?_
 refine W.seq ?_
 refine W.region rfl ?_
 refine s_val (x_mv (v := v_s) rfl) ?_
 have hl1z := (hs_s).len_le
 refine s_val (x_lenS T22.und rfl hs_s) ?_
 refine s_val (x_mv (v := I 0) rfl) ?_
 refine s_nil ?_
 refine W.block ?_
 obtain ⟨ex2z, hi3z, hk4z⟩ := M.e_bind hM
 obtain ⟨m0_, hi3z⟩ := M.e_iter hi3z
 refine W.loop (fun m σ W => ∃ (s2 : Nat) (ρ : Env), σ = upds ρ [(0, v_s), (1, I v), (7, I (s.length : Int)), (8, I (s2 : Int))] /\ M.iterN (zaz s v) m s2 = some ex2z /\ St w W [] R) ?_ ?_
 ·exact ⟨_, 0, _, upds_of _ _ ⟨rfl, rfl, rfl, rfl, trivial⟩, hi3z, H⟩
 rintro m7z σ w5z ⟨s2, ρ, rfl, hI6z, H⟩
 obtain ⟨m8z, lt9z, x10z, hM, hN11z⟩ := M.e_iterN hI6z
 simp only [zaz] at hM
 clear hI6z
 refine W.seq ?_
 refine W.region rfl ?_
 refine s_val (x_cmp (kd := .i64) (a := (s2 : Int)) (b := (s.length : Int)) (r := decide ((s2 : Int) < (s.length : Int))) rfl rfl rfl) ?_
 refine s_nil ?_
 refine W.seq ?_
 refine W.cond (decide ((s2 : Int) < (s.length : Int))) rfl (fun c12z => ?_) (fun c12z => ?_)
 ·replace hM := M.e_t hM c12z
  simp only [decide_eq_true_eq, decide_eq_false_iff_not, beq_iff_eq, bne_iff_ne, beq_eq_false_iff_ne, bne_eq_false_iff_eq, ne_eq, Decidable.not_not] at c12z
  refine W.skip ?_
  refine W.seq ?_
  refine W.block ?_
  refine W.seq ?_
  refine W.region rfl ?_
  refine s_val (x_mv (v := I (s2 : Int)) rfl) ?_
  refine s_val (x_as (v := I (s2 : Int)) rfl) ?_
  refine s_nil ?_
  refine W.seq ?_
  refine W.region rfl ?_
  refine s_val (x_mv (v := I v) rfl) ?_
  refine s_val (x_mv (v := v_s) rfl) ?_
  refine s_val (x_mv (v := I (s2 : Int)) rfl) ?_
  obtain ⟨sd13z, hM⟩ := M.e_grd hM
  simp only [Bool.and_eq_true, decide_eq_true_eq] at sd13z
  refine s_val (x_ix (a := v_s) (b := I (s2 : Int)) (v := vat v_s 1 (Int.toNat (s2 : Int))) rfl rfl (Sl.ix (α := Int) T22.und T22.size hs_s (by omega) (by omega))) ?_
  refine s_val (x_ld (p := vat v_s 1 (Int.toNat (s2 : Int))) (v := I (s.getD s2 0)) rfl (ld_sc Sc3 (At.mono (Int_at hs_s (i := (s2 : Int)) (by omega) (by omega)) (hC_s.at H)))) ?_
  refine s_val (x_cmp (kd := .i64) (a := v) (b := s.getD s2 0) (r := v == (s.getD s2 0)) rfl rfl rfl) ?_
  refine s_nil ?_
  refine W.cond (v == (s.getD s2 0)) rfl (fun c14z => ?_) (fun c14z => ?_)
  ·replace hM := M.e_t hM c14z
   simp only [decide_eq_true_eq, decide_eq_false_iff_not, beq_iff_eq, bne_iff_ne, beq_eq_false_iff_ne, bne_eq_false_iff_eq, ne_eq, Decidable.not_not] at c14z
   refine W.seq ?_
   refine W.region rfl ?_
   refine s_val (x_mv (v := I (s2 : Int)) rfl) ?_
   refine s_val (x_as (v := I (s2 : Int)) rfl) ?_
   refine s_nil ?_
   refine W.ret ?_
   have hX15z := M.e_inr hM hN11z
   subst hX15z
   replace hM := hk4z
   try dsimp only at hM
   have hr_ := M.e_pure hM
   exact ⟨_, resE_tmp rfl, ⟨(s2 : Int), hr_, rfl, H⟩⟩
  replace hM := M.e_f hM c14z
  simp only [decide_eq_true_eq, decide_eq_false_iff_not, beq_iff_eq, bne_iff_ne, beq_eq_false_iff_ne, bne_eq_false_iff_eq, ne_eq, Decidable.not_not] at c14z
  refine W.skip ?_
  refine W.region rfl ?_
  refine s_val (x_ari (a := (s2 : Int)) (b := 1) (r := (s2 : Int) + 1) rfl rfl rfl (by omega)) ?_
  refine s_val (x_mv (v := I ((s2 : Int) + 1)) rfl) ?_
  refine s_nil ?_
  exact ⟨m8z, lt9z, s2 + 1, _, upds_of _ _ ⟨rfl, rfl, rfl, rfl, trivial⟩, M.e_inl hM hN11z, H⟩
 replace hM := M.e_f hM c12z
 simp only [decide_eq_true_eq, decide_eq_false_iff_not, beq_iff_eq, bne_iff_ne, beq_eq_false_iff_ne, bne_eq_false_iff_eq, ne_eq, Decidable.not_not] at c12z
 refine W.exit ?_
 have hX16z := M.e_inr hM hN11z
 subst hX16z
 replace hM := hk4z
 try dsimp only at hM
 refine W.seq ?_
 refine W.region rfl ?_
 refine s_val (x_as (v := I (-1)) rfl) ?_
 refine s_nil ?_
 refine W.ret ?_
 have hr_ := M.e_pure hM
 exact ⟨_, resE_tmp rfl, ⟨(-1), hr_, rfl, H⟩⟩

def za6 (s : List Int) (v : Int) : M Bool :=
  M.bind (zbk s v) fun r2 =>
  M.pure (decide (0 <= r2))
theorem zdB {R : List Chunk} {C_s : Cells} {v_s : Value} (s : List Int) (v : Int) (hC_s : Reads R C_s) (hs_s : Sl C_s v_s s) {r : Bool} (hM : (za6 s v).Ends r) (w : World) (H : St w w [] R) : Ret Tryz.prog 67 #[v_s, I v] w fun v w' => ∃ (y0 : Bool), y0 = r /\ v = B y0 /\ St w w' [] R := by
 refine ret_of_W Tryz.func67 rfl rfl rfl ?_
 refine W.seq ?_
 refine W.region rfl ?_
 refine s_val (x_as (v := B false) rfl) ?_
 refine s_nil ?_
 refine W.seq ?_
 refine W.region rfl ?_
 refine s_val (x_mv (v := v_s) rfl) ?_
 refine s_val (x_mv (v := I v) rfl) ?_
 obtain ⟨r2z, hx1z, hM⟩ := M.e_bind hM
 refine s_call cf56 [v_s, I v] rfl (zcW s v (hC_s.app _) hs_s hx1z _ (H.gt 0)) ?_
 rintro vq w3z ⟨r2, hr4z, hvq, H2_⟩
 subst hr4z
 subst vq
 try dsimp only at hM
 replace H := H.bk H2_
 clear H2_
 refine s_val (x_cmp (kd := .i64) (a := r2) (b := 0) (r := decide (0 <= r2)) rfl rfl rfl) ?_
 refine s_val (x_as (v := B (decide (0 <= r2))) rfl) ?_
 refine s_nil ?_
 refine W.ret ?_
 have hr_ := M.e_pure hM
 exact ⟨_, resE_tmp rfl, ⟨(decide (0 <= r2)), hr_, rfl, H⟩⟩

def zaN (s : List Int) (f : Int -> M Bool) : Nat -> M (Nat ⊕ (Int ⊕ Unit)) := fun s2 =>
  bif decide ((s2 : Int) < (s.length : Int)) then (
  M.grd (decide ((s2 : Int) < (s.length : Int))) <|
  M.bind (f (s.getD s2 0)) fun r2 =>
  bif r2 then (
  M.pure (.inr (.inl (s2 : Int))))
  else (
  M.pure (.inl (s2 + 1))))
  else (
  M.pure (.inr (.inr ())))
def zbA (s : List Int) (f : Int -> M Bool) : M Int :=
  M.bind (M.iter (zaN s f) 0) fun x_ => match x_ with
  | (.inl s3) => (
  M.pure s3)
  | (.inr (_ : Unit)) => (
  M.pure (-1))
theorem zc2 {R : List Chunk} {C_s : Cells} {v_s : Value} {v_f : Value} (s : List Int) (f : Int -> M Bool) (hC_s : Reads R C_s) (hs_s : Sl C_s v_s s) (hf_f : FnM Tryz.prog R v_f f) {r : Int} (hM : (zbA s f).Ends r) (w : World) (H : St w w [] R) : Ret Tryz.prog 100 #[v_s, v_f] w fun v w' => ∃ (y0 : Int), y0 = r /\ v = I y0 /\ St w w' [] R := by
 refine ret_of_W Tryz.func100 rfl rfl rfl ?_
 refine W.seq ?_
 refine W.region rfl ?_
 refine s_val (x_as (v := I 0) rfl) ?_
 refine s_nil ?_
 refine W.seq ?_
 refine W.seq ?_
 refine W.region rfl ?_
 refine s_val (x_mv (v := v_s) rfl) ?_
 have hl1z := (hs_s).len_le
 refine s_val (x_lenS T22.und rfl hs_s) ?_
 refine s_val (x_mv (v := I 0) rfl) ?_
 refine s_nil ?_
 refine W.block ?_
 obtain ⟨ex2z, hi3z, hk4z⟩ := M.e_bind hM
 obtain ⟨m0_, hi3z⟩ := M.e_iter hi3z
 refine W.loop (fun m σ W => ∃ (s2 : Nat) (ρ : Env), σ = upds ρ [(0, v_s), (1, v_f), (7, I (s.length : Int)), (8, I (s2 : Int))] /\ M.iterN (zaN s f) m s2 = some ex2z /\ St w W [] R) ?_ ?_
 ·exact ⟨_, 0, _, upds_of _ _ ⟨rfl, rfl, rfl, rfl, trivial⟩, hi3z, H⟩
 rintro m7z σ w5z ⟨s2, ρ, rfl, hI6z, H⟩
 obtain ⟨m8z, lt9z, x10z, hM, hN11z⟩ := M.e_iterN hI6z
 simp only [zaN] at hM
 clear hI6z
 refine W.seq ?_
 refine W.region rfl ?_
 refine s_val (x_cmp (kd := .i64) (a := (s2 : Int)) (b := (s.length : Int)) (r := decide ((s2 : Int) < (s.length : Int))) rfl rfl rfl) ?_
 refine s_nil ?_
 refine W.seq ?_
 refine W.cond (decide ((s2 : Int) < (s.length : Int))) rfl (fun c12z => ?_) (fun c12z => ?_)
 ·replace hM := M.e_t hM c12z
  simp only [decide_eq_true_eq, decide_eq_false_iff_not, beq_iff_eq, bne_iff_ne, beq_eq_false_iff_ne, bne_eq_false_iff_eq, ne_eq, Decidable.not_not] at c12z
  refine W.skip ?_
  refine W.seq ?_
  refine W.block ?_
  refine W.seq ?_
  refine W.region rfl ?_
  refine s_val (x_mv (v := I (s2 : Int)) rfl) ?_
  refine s_val (x_as (v := I (s2 : Int)) rfl) ?_
  refine s_nil ?_
  refine W.seq ?_
  refine W.region rfl ?_
  refine s_val (x_mv (v := v_f) rfl) ?_
  refine s_val (x_mv (v := v_s) rfl) ?_
  refine s_val (x_mv (v := I (s2 : Int)) rfl) ?_
  obtain ⟨sd13z, hM⟩ := M.e_grd hM
  simp only [Bool.and_eq_true, decide_eq_true_eq] at sd13z
  refine s_val (x_ix (a := v_s) (b := I (s2 : Int)) (v := vat v_s 1 (Int.toNat (s2 : Int))) rfl rfl (Sl.ix (α := Int) T22.und T22.size hs_s (by omega) (by omega))) ?_
  refine s_val (x_ld (p := vat v_s 1 (Int.toNat (s2 : Int))) (v := I (s.getD s2 0)) rfl (ld_sc Sc3 (At.mono (Int_at hs_s (i := (s2 : Int)) (by omega) (by omega)) (hC_s.at H)))) ?_
  obtain ⟨r2, hx15z, hM⟩ := M.e_bind hM
  refine t_callM H hf_f rfl rfl (s.getD s2 0) Reads.none (Arg.mkI (fun _ => none) _) hx15z ?_
  intro w14z H
  refine s_nil ?_
  refine W.cond r2 rfl (fun c16z => ?_) (fun c16z => ?_)
  ·replace hM := M.e_t hM c16z
   refine W.seq ?_
   refine W.region rfl ?_
   refine s_val (x_mv (v := I (s2 : Int)) rfl) ?_
   refine s_val (x_as (v := I (s2 : Int)) rfl) ?_
   refine s_nil ?_
   refine W.ret ?_
   have hX17z := M.e_inr hM hN11z
   subst hX17z
   replace hM := hk4z
   try dsimp only at hM
   have hr_ := M.e_pure hM
   exact ⟨_, resE_tmp rfl, ⟨(s2 : Int), hr_, rfl, H⟩⟩
  replace hM := M.e_f hM c16z
  refine W.skip ?_
  refine W.region rfl ?_
  refine s_val (x_ari (a := (s2 : Int)) (b := 1) (r := (s2 : Int) + 1) rfl rfl rfl (by omega)) ?_
  refine s_val (x_mv (v := I ((s2 : Int) + 1)) rfl) ?_
  refine s_nil ?_
  exact ⟨m8z, lt9z, s2 + 1, _, upds_of _ _ ⟨rfl, rfl, rfl, rfl, trivial⟩, M.e_inl hM hN11z, H⟩
 replace hM := M.e_f hM c12z
 simp only [decide_eq_true_eq, decide_eq_false_iff_not, beq_iff_eq, bne_iff_ne, beq_eq_false_iff_ne, bne_eq_false_iff_eq, ne_eq, Decidable.not_not] at c12z
 refine W.exit ?_
 have hX18z := M.e_inr hM hN11z
 subst hX18z
 replace hM := hk4z
 try dsimp only at hM
 refine W.seq ?_
 refine W.region rfl ?_
 refine s_val (x_as (v := I (-1)) rfl) ?_
 refine s_nil ?_
 refine W.ret ?_
 have hr_ := M.e_pure hM
 exact ⟨_, resE_tmp rfl, ⟨(-1), hr_, rfl, H⟩⟩

def zbE (s : List Int) (f : Int -> M Bool) : M Bool :=
  M.bind (zbA s f) fun r2 =>
  M.pure (decide (0 <= r2))
theorem zdk {R : List Chunk} {C_s : Cells} {v_s : Value} {v_f : Value} (s : List Int) (f : Int -> M Bool) (hC_s : Reads R C_s) (hs_s : Sl C_s v_s s) (hf_f : FnM Tryz.prog R v_f f) {r : Bool} (hM : (zbE s f).Ends r) (w : World) (H : St w w [] R) : Ret Tryz.prog 86 #[v_s, v_f] w fun v w' => ∃ (y0 : Bool), y0 = r /\ v = B y0 /\ St w w' [] R := by
 refine ret_of_W Tryz.func86 rfl rfl rfl ?_
 refine W.seq ?_
 refine W.region rfl ?_
 refine s_val (x_as (v := B false) rfl) ?_
 refine s_nil ?_
 refine W.seq ?_
 refine W.region rfl ?_
 refine s_val (x_mv (v := v_s) rfl) ?_
 refine s_val (x_mv (v := v_f) rfl) ?_
 obtain ⟨r2z, hx1z, hM⟩ := M.e_bind hM
 refine s_call cf100 [v_s, v_f] rfl (zc2 s f (hC_s.app _) hs_s (hf_f.app _) hx1z _ (H.gt 0)) ?_
 rintro vq w3z ⟨r2, hr4z, hvq, H2_⟩
 subst hr4z
 subst vq
 try dsimp only at hM
 replace H := H.bk H2_
 clear H2_
 refine s_val (x_cmp (kd := .i64) (a := r2) (b := 0) (r := decide (0 <= r2)) rfl rfl rfl) ?_
 refine s_val (x_as (v := B (decide (0 <= r2))) rfl) ?_
 refine s_nil ?_
 refine W.ret ?_
 have hr_ := M.e_pure hM
 exact ⟨_, resE_tmp rfl, ⟨(decide (0 <= r2)), hr_, rfl, H⟩⟩

def zbb (x : Int) (k02 : Int -> M Bool) : M Bool :=
  M.bind (k02 x) fun r2 =>
  M.pure (!r2)
theorem zc7 {R : List Chunk} {b_k0 : Nat} {v_k02 : Value} (x : Int) (k02 : Int -> M Bool) (hf_k02 : FnM Tryz.prog R v_k02 k02) (h_b_k0 : Has R (cBlk b_k0 [v_k02] 113)) {r : Bool} (hM : (zbb x k02).Ends r) (w : World) (H : St w w [] R) : Ret Tryz.prog 94 #[I x, .pointer (some ⟨b_k0, 0, none⟩)] w fun v w' => ∃ (y0 : Bool), y0 = r /\ v = B y0 /\ St w w' [] R := by
 refine ret_of_W Tryz.func94 rfl rfl rfl ?_
 refine W.seq ?_
 refine W.region rfl ?_
 refine s_val (x_as (v := B false) rfl) ?_
 refine s_nil ?_
 refine W.seq ?_
 refine W.region rfl ?_
 refine s_val (x_ld (p := .pointer (some ⟨b_k0, 0, none⟩)) (v := v_k02) rfl (ldb_sc Sc113 (h_b_k0.blk H) rfl)) ?_
 refine s_val (x_mv (v := I x) rfl) ?_
 obtain ⟨r2, hx2z, hM⟩ := M.e_bind hM
 refine t_callM H hf_k02 rfl rfl x Reads.none (Arg.mkI (fun _ => none) _) hx2z ?_
 intro w1z H
 refine s_val (x_not (b := r2) rfl) ?_
 refine s_val (x_as (v := B (!r2)) rfl) ?_
 refine s_nil ?_
 refine W.ret ?_
 have hr_ := M.e_pure hM
 exact ⟨_, resE_tmp rfl, ⟨(!r2), hr_, rfl, H⟩⟩

def zaE (l : List Int) (so : Int -> M Bool) : M Bool :=
  M.bind (zbE l (fun xqz => zbb xqz so)) fun r2 =>
  M.pure (!r2)
theorem zcU {R : List Chunk} {C_l : Cells} {v_l : Value} {v_so : Value} (l : List Int) (so : Int -> M Bool) (hC_l : Reads R C_l) (hs_l : Sl C_l v_l l) (hf_so : FnM Tryz.prog R v_so so) {r : Bool} (hM : (zaE l so).Ends r) (w : World) (H : St w w [] R) : Ret Tryz.prog 53 #[v_l, v_so] w fun v w' => ∃ (y0 : Bool), y0 = r /\ v = B y0 /\ St w w' [] R := by
 refine ret_of_W Tryz.func53 rfl rfl rfl ?_
 refine W.seq ?_
 refine W.region rfl ?_
 refine t_box (v := v_so) (cs := [v_so]) H rfl (FnM.cells hf_so) ?_
 intro b_1 w1z H
 refine s_val (x_as (v := B false) rfl) ?_
 refine s_nil ?_
 refine W.seq ?_
 refine W.region rfl ?_
 refine s_val (x_mv (v := v_l) rfl) ?_
 refine s_val (x_mf (fs := []) (cs := [.pointer (some ⟨b_1, 0, none⟩)]) rfl rfl) ?_
 obtain ⟨r3z, hx2z, hM⟩ := M.e_bind hM
 refine s_call cf86 [v_l, .func (.func 94) #[] #[.pointer (some ⟨b_1, 0, none⟩)]] rfl (zdk l (fun xqz => zbb xqz so) (hC_l.app _) hs_l ⟨94, [.pointer (some ⟨b_1, 0, none⟩)], rfl, cf94, fun wqz Lqz Cqz vqz xqz bqz hsqz hCqz hAqz hpqz => by obtain rfl := Arg.int hAqz; exact (zc7 xqz so (FnM.app (hf_so.app _) _) (Has.app (Has.here (k := 0) rfl) _) hpqz wqz (St.refl hsqz)).mono fun vqz wqz ⟨yqz, hrqz, hvqz, Hqz⟩ => by subst hrqz; exact ⟨hvqz, Hqz⟩⟩ hx2z _ (H.gt 1)) ?_
 rintro vq w4z ⟨r2, hr5z, hvq, H2_⟩
 subst hr5z
 subst vq
 try dsimp only at hM
 replace H := H.bk H2_
 clear H2_
 refine s_val (x_not (b := r2) rfl) ?_
 refine s_val (x_as (v := B (!r2)) rfl) ?_
 refine s_nil ?_
 refine W.ret ?_
 have hr_ := M.e_pure hM
 exact ⟨_, resE_tmp rfl, ⟨(!r2), hr_, rfl, (H.pk [])⟩⟩

end Go.Proofs.YtbaehghammbjdaaGreat
end
