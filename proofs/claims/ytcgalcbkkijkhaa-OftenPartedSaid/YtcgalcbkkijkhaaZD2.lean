/- Part 2 of the texts on which the proof rests. Conditions: none. -/
import Derived.Test.YtcgalcbkkijkhaaProg
import Derived.Shelf.SlIterI.Nil
import Derived.Shelf.SortM.Plain
import Derived.Shelf.SortM.SortNone
import Derived.Test.YtcgalcbkkijkhaaZD1
set_option linter.unusedVariables false
set_option linter.unusedSimpArgs false
set_option linter.unusedSectionVars false
namespace Go.Proofs
open Go.RowKit Go.Maps Go.Sort Go.Shelf
def Try.sortA_ren : Go.Shelf.Ren := ⟨fun | 5 => 59 | 7 => 93 | 8 => 94 | 10 => 101 | 11 => 102 | 12 => 103 | 13 => 104 | 14 => 105 | 15 => 106 | 16 => 107 | 17 => 108 | 18 => 109 | 19 => 110 | 20 => 111 | 30 => 115 | 31 => 116 | 32 => 117 | 33 => 118 | 34 => 119 | 35 => 96 | 40 => 120 | n => n, fun | 0 => 0 | 3 => 3 | 4 => 4 | 5 => 5 | 9 => 9 | 22 => 27 | 23 => 27 | 25 => 3 | 32 => 152 | 35 => 155 | 36 => 156 | 41 => 122 | 44 => 162 | 46 => 164 | 53 => 168 | 57 => 172 | 63 => 174 | 64 => 175 | n => n, fun | n => n⟩
theorem Try.sortA : Go.Proofs.SlLaysM.n5 Try.prog Try.sortA_ren := {
  mixed := by kernel_rfl
  f5 := ⟨"slices.Sort[[]int,int]", by kernel_rfl, Try.func59.trans (congrArg some (by kernel_rfl))⟩
  f7 := ⟨"slices.pdqsortOrdered[int]", by kernel_rfl, Try.func93.trans (congrArg some (by kernel_rfl))⟩
  f8 := Try.func94.trans (congrArg some (by kernel_rfl))
  f10 := ⟨"slices.insertionSortOrdered[int]", by kernel_rfl, Try.func101.trans (congrArg some (by kernel_rfl))⟩
  f11 := ⟨"slices.heapSortOrdered[int]", by kernel_rfl, Try.func102.trans (congrArg some (by kernel_rfl))⟩
  f12 := ⟨"slices.breakPatternsOrdered[int]", by kernel_rfl, Try.func103.trans (congrArg some (by kernel_rfl))⟩
  f13 := ⟨"slices.choosePivotOrdered[int]", by kernel_rfl, Try.func104.trans (congrArg some (by kernel_rfl))⟩
  f14 := ⟨"slices.reverseRangeOrdered[int]", by kernel_rfl, Try.func105.trans (congrArg some (by kernel_rfl))⟩
  f15 := ⟨"slices.partialInsertionSortOrdered[int]", by kernel_rfl, Try.func106.trans (congrArg some (by kernel_rfl))⟩
  f16 := ⟨"cmp.Less[int]", by kernel_rfl, Try.func107.trans (congrArg some (by kernel_rfl))⟩
  f17 := ⟨"slices.partitionEqualOrdered[int]", by kernel_rfl, Try.func108.trans (congrArg some (by kernel_rfl))⟩
  f18 := ⟨"slices.partitionOrdered[int]", by kernel_rfl, Try.func109.trans (congrArg some (by kernel_rfl))⟩
  f19 := Try.func110.trans (congrArg some (by kernel_rfl))
  f20 := Try.func111.trans (congrArg some (by kernel_rfl))
  f30 := ⟨"slices.siftDownOrdered[int]", by kernel_rfl, Try.func115.trans (congrArg some (by kernel_rfl))⟩
  f31 := Try.func116.trans (congrArg some (by kernel_rfl))
  f32 := Try.func117.trans (congrArg some (by kernel_rfl))
  f33 := ⟨"slices.medianAdjacentOrdered[int]", by kernel_rfl, Try.func118.trans (congrArg some (by kernel_rfl))⟩
  f34 := ⟨"slices.medianOrdered[int]", by kernel_rfl, Try.func119.trans (congrArg some (by kernel_rfl))⟩
  f35 := ⟨"cmp.isNaN[int]", by kernel_rfl, Try.func96.trans (congrArg some (by kernel_rfl))⟩
  f40 := ⟨"slices.order2Ordered[int]", by kernel_rfl, Try.func120.trans (congrArg some (by kernel_rfl))⟩
  t0 := Try.underlying0
  a0 := Try.isAgg0
  z0 := Try.sizeOf0
  v0 := Try.zeroValue0
  t3 := Try.underlying3
  a3 := Try.isAgg3
  z3 := Try.sizeOf3
  v3 := Try.zeroValue3
  t4 := Try.underlying4
  a4 := Try.isAgg4
  z4 := Try.sizeOf4
  v4 := Try.zeroValue4
  t5 := Try.underlying5
  a5 := Try.isAgg5
  z5 := Try.sizeOf5
  v5 := Try.zeroValue5
  t9 := Try.underlying9
  a9 := Try.isAgg9
  z9 := Try.sizeOf9
  v9 := Try.zeroValue9
  t22 := Try.underlying27
  a22 := Try.isAgg27
  z22 := Try.sizeOf27
  v22 := Try.zeroValue27
  t23 := Try.underlying27
  a23 := Try.isAgg27
  z23 := Try.sizeOf27
  v23 := Try.zeroValue27
  t25 := Try.underlying3
  a25 := Try.isAgg3
  z25 := Try.sizeOf3
  v25 := Try.zeroValue3
  t32 := Try.underlying152
  a32 := Try.isAgg152
  z32 := Try.sizeOf152
  v32 := Try.zeroValue152
  t35 := Try.underlying155
  a35 := Try.isAgg155
  z35 := Try.sizeOf155
  v35 := Try.zeroValue155
  t36 := Try.underlying156
  a36 := Try.isAgg156
  z36 := Try.sizeOf156
  v36 := Try.zeroValue156
  t41 := Try.underlying122
  a41 := Try.isAgg122
  z41 := Try.sizeOf122
  v41 := Try.zeroValue122
  t44 := Try.underlying162
  a44 := Try.isAgg162
  z44 := Try.sizeOf162
  v44 := Try.zeroValue162
  t46 := Try.underlying164
  a46 := Try.isAgg164
  z46 := Try.sizeOf164
  v46 := Try.zeroValue164
  t53 := Try.underlying168
  a53 := Try.isAgg168
  z53 := Try.sizeOf168
  v53 := Try.zeroValue168
  t57 := Try.underlying172
  a57 := Try.isAgg172
  z57 := Try.sizeOf172
  v57 := Try.zeroValue172
  t63 := Try.underlying174
  a63 := Try.isAgg174
  z63 := Try.sizeOf174
  v63 := Try.zeroValue174
  t64 := Try.underlying175
  a64 := Try.isAgg175
  z64 := Try.sizeOf175
  v64 := Try.zeroValue175 }

end Go.Proofs
namespace Go.Nm
open Go
theorem OwnF.row {B : Nat} {e : TypeId} {w : World} {l : List Int} {g cap : Nat} {cur : Array Value} (ho : OwnF B e w (.slice (some ⟨g, 0, none⟩) l.length cap) l) (hg : w.heap[g]? = some (.cells cur e (0, 0)))
    (hcs : l.length <= cap) (hsz : cur.size = cap) (hb : B <= g) (hm : cap <= maxLen) (d : Array Int) (hl : d.size = l.length) (q : Nat) :
    OwnF B e (Sort.putRow (Value.int .i64) (Sort.ahead w q) g 0 d) (.slice (some ⟨g, 0, none⟩) l.length cap) d.toList /\ Grow B (.slice (some ⟨g, 0, none⟩) l.length cap) w (Sort.putRow (Value.int .i64) (Sort.ahead w q) g 0 d) := by
  have hs1 : Elt.sz Int = 1 := rfl
  have h1 : (Sort.putRow (Value.int .i64) (Sort.ahead w q) g 0 d).heap[g]? = some (.cells (Sort.putCells (Value.int .i64) 0 d cur) e (0, 0)) := by
    show (w.heap.modify g _)[g]? = _
    rw [Array.getElem?_modify, if_pos rfl, hg]
    rfl
  have h2 : ∀ k, k ≠ g -> (Sort.putRow (Value.int .i64) (Sort.ahead w q) g 0 d).heap[k]? = w.heap[k]? := by
    intro k hk
    show (w.heap.modify g _)[k]? = _
    rw [Array.getElem?_modify, if_neg (fun h => hk h.symm)]
  refine ⟨⟨by rw [enc_ints]; simp [hs1], .inr ⟨g, cap, _, by simp [hl], hb, h1, by simp [hl]; omega, hm, by simp [hs1, Sort.putCells]; omega, ?_⟩⟩, ⟨rfl, rfl, by simp [Sort.putRow, Sort.mapBlock, Sort.ahead], fun k _ hk => ?_, fun g' hg' => (ho.lt g' hg').1, fun a => by simp⟩⟩
  · rw [enc_ints, hs1]
    apply List.ext_getElem?
    intro i
    rw [List.getElem?_take, List.getElem?_map]
    by_cases hi : i < d.toList.length * 1
    · rw [if_pos hi]
      have hi' : i < d.size := by simpa using hi
      have hc : i < cur.size := by omega
      simp [Sort.putCells, hi', hc]
    · rw [if_neg hi, List.getElem?_eq_none (by simpa using hi)]
      rfl
  · refine h2 k (fun e' => hk ?_)
    rw [e']
    rfl
end Go.Nm
namespace Go.Proofs.Ytcgalcbkkijkhaa
open Go Go.Nm Go.Proofs
theorem sort_any {w : World} {v : Value} {l : List Int} (ho : OwnF 0 3 w v l) (hl : l.length <= 1000000) : Ret Try.prog 59 #[v] w fun u w' => u = .tuple #[] /\ OwnF 0 3 w' v (isort l) /\ Keep w w' /\ ∀ b, b < w.heap.size -> v.ownBlock ≠ some b -> w'.heap[b]? = w.heap[b]? := by
  have ho' := ho
  rcases ho.2 with ⟨rfl, hn⟩ | ⟨g, cap, cur, rfl, hb, hg, hc, hm, hcs, htake⟩
  · obtain rfl := List.length_eq_zero_iff.1 hn
    have h := AnyM.slices_Sort_int_none Try.sortA none 0 w
    refine Calls.mono h ?_
    rintro _ w' ⟨rfl, rfl⟩
    exact ⟨_, rfl, rfl, ho, Keep.refl _, fun _ _ _ => rfl⟩
  · have hs1 : Elt.sz Int = 1 := rfl
    rw [hs1] at hcs htake
    rw [enc_ints] at htake
    have hcell : ∀ j, j < l.length -> w.cell? ⟨g, 0 + j, none⟩ = some (.int .i64 (l.getD j 0)) := by
      intro j hj
      rw [Nat.zero_add, cell_of_row w g j cur 3 (0, 0) hg]
      have h1 : (cur.toList.take (l.length * 1))[j]? = (l.map I)[j]? := by rw [htake]
      rw [List.getElem?_take, if_pos (by omega), List.getElem?_map, getD_some l hj 0] at h1
      simpa using h1
    have hH : Sort.Holds (Value.int .i64) w g 0 l.toArray := by
      intro j hj
      have hj : j < l.length := by simpa using hj
      refine ⟨?_, by simp [World.frozen?, hg]⟩
      rw [hcell j hj]
      have : l.getD j 0 = l.toArray[j]! := by
        rw [List.getD_eq_getElem?_getD, List.getElem?_eq_getElem hj]
        simp [getElem!_pos, hj]
      rw [this]
    have h := AnyM.slices_Sort_int Try.sortA g 0 cap l w hH (heap_lt hg) (by omega)
    refine Calls.mono h ?_
    rintro _ w' ⟨rfl, q, os, rfl⟩
    rw [merge_isort (List.Perm.refl l)]
    have hlen : (isort l).length = l.length := (isort_perm l).length_eq
    obtain ⟨h1, h2⟩ := OwnF.row ho hg hc (by omega) hb hm (isort l).toArray (by simp [hlen]) q
    have hlt : g < (Sort.putRow (Value.int .i64) (Sort.ahead w q) g 0 (isort l).toArray).heap.size := Nat.lt_of_lt_of_le (heap_lt hg) h2.size
    refine ⟨_, rfl, rfl, ?_, ⟨h2.os, h2.out, by rw [Sort.size_grow]; exact Nat.le_trans h2.size (Nat.le_add_right _ _)⟩, fun b hb' hne => ?_⟩
    · rcases h1 with ⟨h3, h4 | ⟨g', cap', cur', h5, h6, h7, h8⟩⟩
      · exact absurd h4.1 (by simp)
      · simp only [Value.slice.injEq, Option.some.injEq, Addr.mk.injEq, and_true] at h5
        obtain ⟨rfl, _, rfl⟩ := h5
        refine ⟨h3, .inr ⟨g, cap, cur', by simp [hlen], h6, by rw [Sort.heap_grow_old _ _ hlt]; exact h7, h8⟩⟩
    · rw [Sort.heap_grow_old _ _ (Nat.lt_of_lt_of_le hb' h2.size)]
      exact h2.blk b hb' hne
end Go.Proofs.Ytcgalcbkkijkhaa
namespace Go.Nm
open Go
theorem St.sorted {w0 w w' : World} {L L' R : List Chunk} {k : Nat} {v : Value} {l l' : List Int} {e : TypeId} (H : St w0 w L R) (hk : L[k]? = some (cOwn (α := Int) e v l)) (ho : OwnF 0 e w' v l') (kp : Keep w w') (hs : ∀ b, b < w.heap.size -> v.ownBlock ≠ some b -> w'.heap[b]? = w.heap[b]?)
    (hl : L.set k (cOwn (α := Int) e v l') = L') : St w0 w' L' R :=
  H.set (c' := cOwn (α := Int) e v l') hk rfl kp hs (fun b hb => .inl hb) ho hl
end Go.Nm
namespace Go.Nm
open Go
theorem sl_lohi {α : Type} [Elt α] {P : Program} {t e : TypeId} (hu : P.underlying t = some (.slice e)) (hs : (P.info? e).map (·.size) = some (Elt.sz α)) {C : Cells} {v : Value} {l : List α} (h : Sl C v l) {i j : Int} (h0 : 0 <= i) (h1 : i <= j) (h2 : j <= l.length) :
    ∃ u, (∀ w, (Instr.sliceAt t v (some (.int .i64 i)) (some (.int .i64 j)) none).run P w = .ok u w) /\ Sl C u ((l.take j.toNat).drop i.toNat) := by
  obtain ⟨a, c, hv, hc, hm, hh⟩ := h.ex
  have hlen : ((l.take j.toNat).drop i.toNat).length = j.toNat - i.toNat := by simp; omega
  refine ⟨.slice (if c = i.toNat then a else a.map (·.add (i.toNat * Elt.sz α))) (j.toNat - i.toNat) (c - i.toNat), fun w => ?_, ⟨_, c - i.toNat, by rw [hlen], by omega, by omega, fun k x hx => ?_⟩⟩
  · subst hv
    have hjc : j <= (c : Int) := by omega
    simp [Instr.sliceAt, Instr.slice, Instr.sliceBounds, Instr.sliceBound, asIntOf, run_underlying hu, run_sizeOf hs, h0, hjc]
    rw [if_pos (by omega), if_pos (by omega)]
  · rw [List.getElem?_drop, List.getElem?_take] at hx
    split at hx
    · have hlt := (List.getElem?_eq_some_iff.1 hx).1
      obtain ⟨b, o, cs, ha, hr, hy⟩ := hh _ x hx
      refine ⟨b, o + i.toNat * Elt.sz α, cs, ?_, hr, fun j y hj => ?_⟩
      · rw [if_neg (by omega), ha]
        simp [add_lit]
      · have := hy j y hj
        rwa [show o + (i.toNat + k) * Elt.sz α + j = o + i.toNat * Elt.sz α + k * Elt.sz α + j from by rw [Nat.add_mul]; omega] at this
    · cases hx
end Go.Nm
namespace Go.Nm
open Go
/-- A number as 64 bits hold it. -/
def wr64 (a : Int) : Int := IntKind.i64.wrap a
section
variable {P : Program} {w : World} {σ : Env} {d : Nat} {ty : TypeId} {pos : String} {af : Array Edge} {g : Option (Nat × Bool)}
theorem x_subW {t yt : TypeId} {x y : Operand} {a b : Int} (hx : ev σ x = .int .i64 a) (hy : ev σ y = .int .i64 b) :
    (execOp (ev σ) ⟨some d, .binOp .sub t x y yt, ty, pos, af, g⟩).run P w = .ok (.value (.int .i64 (wr64 (a - b)))) w := by
  simp [execOp, hx, hy, eqGuard, binOp, Op.intArith, wr64]
theorem x_addW {t yt : TypeId} {x y : Operand} {a b : Int} (hx : ev σ x = .int .i64 a) (hy : ev σ y = .int .i64 b) :
    (execOp (ev σ) ⟨some d, .binOp .add t x y yt, ty, pos, af, g⟩).run P w = .ok (.value (.int .i64 (wr64 (a + b)))) w := by
  simp [execOp, hx, hy, eqGuard, binOp, Op.intArith, wr64]
end
end Go.Nm
namespace Go.Nm
open Go
section
variable {P : Program} {w : World} {σ : Env} {d : Nat} {ty : TypeId} {pos : String} {af : Array Edge} {g : Option (Nat × Bool)}
end
end Go.Nm
namespace Go.Proofs.Ytcgalcbkkijkhaa
open Go Go.Nm
theorem keyIntSp : KeyL (ν := Span) Try.prog 3 I := KeyL.int Try.underlying3
theorem cf11 : CF Try.prog 11 := ⟨_, Try.func11, rfl, by decide +kernel⟩
theorem cf12 : CF Try.prog 12 := ⟨_, Try.func12, rfl, by decide +kernel⟩
theorem cf13 : CF Try.prog 13 := ⟨_, Try.func13, rfl, by decide +kernel⟩
theorem cf14 : CF Try.prog 14 := ⟨_, Try.func14, rfl, by decide +kernel⟩
theorem cf15 : CF Try.prog 15 := ⟨_, Try.func15, rfl, by decide +kernel⟩
theorem cf16 : CF Try.prog 16 := ⟨_, Try.func16, rfl, by decide +kernel⟩
theorem cf17 : CF Try.prog 17 := ⟨_, Try.func17, rfl, by decide +kernel⟩
theorem cf18 : CF Try.prog 18 := ⟨_, Try.func18, rfl, by decide +kernel⟩
theorem cf19 : CF Try.prog 19 := ⟨_, Try.func19, rfl, by decide +kernel⟩
theorem cf26 : CF Try.prog 26 := ⟨_, Try.func26, rfl, by decide +kernel⟩
theorem cf31 : CF Try.prog 31 := ⟨_, Try.func31, rfl, by decide +kernel⟩
theorem cf33 : CF Try.prog 33 := ⟨_, Try.func33, rfl, by decide +kernel⟩
theorem cf35 : CF Try.prog 35 := ⟨_, Try.func35, rfl, by decide +kernel⟩
theorem cf37 : CF Try.prog 37 := ⟨_, Try.func37, rfl, by decide +kernel⟩
theorem cf41 : CF Try.prog 41 := ⟨_, Try.func41, rfl, by decide +kernel⟩
theorem cf43 : CF Try.prog 43 := ⟨_, Try.func43, rfl, by decide +kernel⟩
theorem cf44 : CF Try.prog 44 := ⟨_, Try.func44, rfl, by decide +kernel⟩
theorem cf47 : CF Try.prog 47 := ⟨_, Try.func47, rfl, by decide +kernel⟩
theorem cf52 : CF Try.prog 52 := ⟨_, Try.func52, rfl, by decide +kernel⟩
theorem cf53 : CF Try.prog 53 := ⟨_, Try.func53, rfl, by decide +kernel⟩
theorem cf54 : CF Try.prog 54 := ⟨_, Try.func54, rfl, by decide +kernel⟩
theorem cf55 : CF Try.prog 55 := ⟨_, Try.func55, rfl, by decide +kernel⟩
theorem cf56 : CF Try.prog 56 := ⟨_, Try.func56, rfl, by decide +kernel⟩
theorem cf57 : CF Try.prog 57 := ⟨_, Try.func57, rfl, by decide +kernel⟩
theorem cf58 : CF Try.prog 58 := ⟨_, Try.func58, rfl, by decide +kernel⟩
theorem cf59 : CF Try.prog 59 := ⟨_, Try.func59, rfl, by decide +kernel⟩
theorem cf60 : CF Try.prog 60 := ⟨_, Try.func60, rfl, by decide +kernel⟩
theorem cf61 : CF Try.prog 61 := ⟨_, Try.func61, rfl, by decide +kernel⟩
theorem cf62 : CF Try.prog 62 := ⟨_, Try.func62, rfl, by decide +kernel⟩
theorem cf63 : CF Try.prog 63 := ⟨_, Try.func63, rfl, by decide +kernel⟩
theorem cf64 : CF Try.prog 64 := ⟨_, Try.func64, rfl, by decide +kernel⟩
theorem cf69 : CF Try.prog 69 := ⟨_, Try.func69, rfl, by decide +kernel⟩
theorem cf71 : CF Try.prog 71 := ⟨_, Try.func71, rfl, by decide +kernel⟩
theorem cf72 : CF Try.prog 72 := ⟨_, Try.func72, rfl, by decide +kernel⟩
theorem cf73 : CF Try.prog 73 := ⟨_, Try.func73, rfl, by decide +kernel⟩
theorem cf75 : CF Try.prog 75 := ⟨_, Try.func75, rfl, by decide +kernel⟩
theorem cf76 : CF Try.prog 76 := ⟨_, Try.func76, rfl, by decide +kernel⟩
theorem cf77 : CF Try.prog 77 := ⟨_, Try.func77, rfl, by decide +kernel⟩
theorem cf78 : CF Try.prog 78 := ⟨_, Try.func78, rfl, by decide +kernel⟩
theorem cf79 : CF Try.prog 79 := ⟨_, Try.func79, rfl, by decide +kernel⟩
theorem cf80 : CF Try.prog 80 := ⟨_, Try.func80, rfl, by decide +kernel⟩
theorem cf82 : CF Try.prog 82 := ⟨_, Try.func82, rfl, by decide +kernel⟩
theorem cf83 : CF Try.prog 83 := ⟨_, Try.func83, rfl, by decide +kernel⟩
theorem cf84 : CF Try.prog 84 := ⟨_, Try.func84, rfl, by decide +kernel⟩
theorem cf86 : CF Try.prog 86 := ⟨_, Try.func86, rfl, by decide +kernel⟩
theorem cf87 : CF Try.prog 87 := ⟨_, Try.func87, rfl, by decide +kernel⟩
theorem cf88 : CF Try.prog 88 := ⟨_, Try.func88, rfl, by decide +kernel⟩
theorem cf90 : CF Try.prog 90 := ⟨_, Try.func90, rfl, by decide +kernel⟩
theorem cf91 : CF Try.prog 91 := ⟨_, Try.func91, rfl, by decide +kernel⟩
theorem cf92 : CF Try.prog 92 := ⟨_, Try.func92, rfl, by decide +kernel⟩
theorem cf95 : CF Try.prog 95 := ⟨_, Try.func95, rfl, by decide +kernel⟩
theorem cf96 : CF Try.prog 96 := ⟨_, Try.func96, rfl, by decide +kernel⟩
theorem cf97 : CF Try.prog 97 := ⟨_, Try.func97, rfl, by decide +kernel⟩
theorem cf98 : CF Try.prog 98 := ⟨_, Try.func98, rfl, by decide +kernel⟩
theorem cf99 : CF Try.prog 99 := ⟨_, Try.func99, rfl, by decide +kernel⟩
theorem cf100 : CF Try.prog 100 := ⟨_, Try.func100, rfl, by decide +kernel⟩
theorem cf112 : CF Try.prog 112 := ⟨_, Try.func112, rfl, by decide +kernel⟩
theorem cf113 : CF Try.prog 113 := ⟨_, Try.func113, rfl, by decide +kernel⟩
theorem cf114 : CF Try.prog 114 := ⟨_, Try.func114, rfl, by decide +kernel⟩
theorem T22 : SlT Try.prog 22 5 1 1 (.int .u8 0) := ⟨Try.underlying22, by kernel_rfl, rfl, by decide⟩
theorem T23 : SlT Try.prog 23 41 3 24 (.agg #[I 0, I 0, I 0]) := ⟨Try.underlying23, by kernel_rfl, rfl, by decide⟩
theorem T24 : SlT Try.prog 24 43 4 48 (.agg #[I 0, I 0, I 0, .slice none 0 0]) := ⟨Try.underlying24, by kernel_rfl, rfl, by decide⟩
theorem T27 : SlT Try.prog 27 3 1 8 (I 0) := ⟨Try.underlying27, by kernel_rfl, rfl, by decide⟩
theorem T69 : SlT Try.prog 69 72 2 16 (.agg #[I 0, I 0]) := ⟨Try.underlying69, by kernel_rfl, rfl, by decide⟩
theorem Sc3 : isSc (Try.prog.underlying 3) = true := by rw [Try.underlying3]; rfl
theorem Sc4 : isSc (Try.prog.underlying 4) = true := by rw [Try.underlying4]; rfl
theorem Sc5 : isSc (Try.prog.underlying 5) = true := by rw [Try.underlying5]; rfl
theorem Sc22 : isSc (Try.prog.underlying 22) = true := by rw [Try.underlying22]; rfl
theorem Sc23 : isSc (Try.prog.underlying 23) = true := by rw [Try.underlying23]; rfl
theorem Sc24 : isSc (Try.prog.underlying 24) = true := by rw [Try.underlying24]; rfl
theorem Sc27 : isSc (Try.prog.underlying 27) = true := by rw [Try.underlying27]; rfl
theorem Sc33 : isSc (Try.prog.underlying 33) = true := by rw [Try.underlying33]; rfl
theorem Sc69 : isSc (Try.prog.underlying 69) = true := by rw [Try.underlying69]; rfl
theorem Sc102 : isSc (Try.prog.underlying 102) = true := by rw [Try.underlying102]; rfl
theorem Sc105 : isSc (Try.prog.underlying 105) = true := by rw [Try.underlying105]; rfl
theorem Sc111 : isSc (Try.prog.underlying 111) = true := by rw [Try.underlying111]; rfl
theorem Sc124 : isSc (Try.prog.underlying 124) = true := by rw [Try.underlying124]; rfl
theorem Sc147 : isSc (Try.prog.underlying 147) = true := by rw [Try.underlying147]; rfl
theorem Sz3 : (Try.prog.info? 3).map (·.size) = some 1 := by kernel_rfl
theorem Sz4 : (Try.prog.info? 4).map (·.size) = some 1 := by kernel_rfl
theorem Sz22 : (Try.prog.info? 22).map (·.size) = some 1 := by kernel_rfl
theorem Sz23 : (Try.prog.info? 23).map (·.size) = some 1 := by kernel_rfl
theorem Sz24 : (Try.prog.info? 24).map (·.size) = some 1 := by kernel_rfl
theorem Ag26 : isAg (Try.prog.underlying 26) = true := by rw [Try.underlying26]; rfl
theorem Sz26 : (Try.prog.info? 26).map (·.size) = some 4 := by kernel_rfl
theorem Sz27 : (Try.prog.info? 27).map (·.size) = some 1 := by kernel_rfl
theorem Sz33 : (Try.prog.info? 33).map (·.size) = some 1 := by kernel_rfl
theorem Ag35 : isAg (Try.prog.underlying 35) = true := by rw [Try.underlying35]; rfl
theorem Sz35 : (Try.prog.info? 35).map (·.size) = some 2 := by kernel_rfl
theorem Ag41 : isAg (Try.prog.underlying 41) = true := by rw [Try.underlying41]; rfl
theorem Sz41 : (Try.prog.info? 41).map (·.size) = some 3 := by kernel_rfl
theorem Ag43 : isAg (Try.prog.underlying 43) = true := by rw [Try.underlying43]; rfl
theorem Sz43 : (Try.prog.info? 43).map (·.size) = some 4 := by kernel_rfl
theorem Ag63 : isAg (Try.prog.underlying 63) = true := by rw [Try.underlying63]; rfl
theorem Sz63 : (Try.prog.info? 63).map (·.size) = some 2 := by kernel_rfl
theorem Ag72 : isAg (Try.prog.underlying 72) = true := by rw [Try.underlying72]; rfl
theorem Sz72 : (Try.prog.info? 72).map (·.size) = some 2 := by kernel_rfl
theorem Sz102 : (Try.prog.info? 102).map (·.size) = some 1 := by kernel_rfl
theorem Sz105 : (Try.prog.info? 105).map (·.size) = some 1 := by kernel_rfl
theorem Sz111 : (Try.prog.info? 111).map (·.size) = some 1 := by kernel_rfl
theorem Ag113 : isAg (Try.prog.underlying 113) = true := by rw [Try.underlying113]; rfl
theorem Sz113 : (Try.prog.info? 113).map (·.size) = some 1 := by kernel_rfl
theorem Sz124 : (Try.prog.info? 124).map (·.size) = some 1 := by kernel_rfl
theorem Fd26_0 : (Try.prog.underlying 26).bind (fun d => match d with | .struct fs => (fs[0]?).map (fun f => (f.offset, f.type)) | _ => none) = some (0, 23) := by rw [Try.underlying26]; rfl
theorem Fd26_1 : (Try.prog.underlying 26).bind (fun d => match d with | .struct fs => (fs[1]?).map (fun f => (f.offset, f.type)) | _ => none) = some (1, 24) := by rw [Try.underlying26]; rfl
theorem Fd26_2 : (Try.prog.underlying 26).bind (fun d => match d with | .struct fs => (fs[2]?).map (fun f => (f.offset, f.type)) | _ => none) = some (2, 3) := by rw [Try.underlying26]; rfl
theorem Fd26_3 : (Try.prog.underlying 26).bind (fun d => match d with | .struct fs => (fs[3]?).map (fun f => (f.offset, f.type)) | _ => none) = some (3, 3) := by rw [Try.underlying26]; rfl
theorem Fd35_0 : (Try.prog.underlying 35).bind (fun d => match d with | .struct fs => (fs[0]?).map (fun f => (f.offset, f.type)) | _ => none) = some (0, 3) := by rw [Try.underlying35]; rfl
theorem Fd35_1 : (Try.prog.underlying 35).bind (fun d => match d with | .struct fs => (fs[1]?).map (fun f => (f.offset, f.type)) | _ => none) = some (1, 3) := by rw [Try.underlying35]; rfl
theorem Fd41_0 : (Try.prog.underlying 41).bind (fun d => match d with | .struct fs => (fs[0]?).map (fun f => (f.offset, f.type)) | _ => none) = some (0, 3) := by rw [Try.underlying41]; rfl
theorem Fd41_1 : (Try.prog.underlying 41).bind (fun d => match d with | .struct fs => (fs[1]?).map (fun f => (f.offset, f.type)) | _ => none) = some (1, 35) := by rw [Try.underlying41]; rfl
theorem Fd43_0 : (Try.prog.underlying 43).bind (fun d => match d with | .struct fs => (fs[0]?).map (fun f => (f.offset, f.type)) | _ => none) = some (0, 3) := by rw [Try.underlying43]; rfl
theorem Fd43_1 : (Try.prog.underlying 43).bind (fun d => match d with | .struct fs => (fs[1]?).map (fun f => (f.offset, f.type)) | _ => none) = some (1, 3) := by rw [Try.underlying43]; rfl
theorem Fd43_2 : (Try.prog.underlying 43).bind (fun d => match d with | .struct fs => (fs[2]?).map (fun f => (f.offset, f.type)) | _ => none) = some (2, 3) := by rw [Try.underlying43]; rfl
theorem Fd43_3 : (Try.prog.underlying 43).bind (fun d => match d with | .struct fs => (fs[3]?).map (fun f => (f.offset, f.type)) | _ => none) = some (3, 27) := by rw [Try.underlying43]; rfl
theorem Fd72_0 : (Try.prog.underlying 72).bind (fun d => match d with | .struct fs => (fs[0]?).map (fun f => (f.offset, f.type)) | _ => none) = some (0, 3) := by rw [Try.underlying72]; rfl
theorem Fd72_1 : (Try.prog.underlying 72).bind (fun d => match d with | .struct fs => (fs[1]?).map (fun f => (f.offset, f.type)) | _ => none) = some (1, 3) := by rw [Try.underlying72]; rfl
theorem Fd101_0 : (Try.prog.underlying 101).bind (fun d => match d with | .struct fs => (fs[0]?).map (fun f => (f.offset, f.type)) | _ => none) = some (0, 22) := by rw [Try.underlying101]; rfl
theorem Fd101_1 : (Try.prog.underlying 101).bind (fun d => match d with | .struct fs => (fs[1]?).map (fun f => (f.offset, f.type)) | _ => none) = some (1, 3) := by rw [Try.underlying101]; rfl
theorem Fd101_2 : (Try.prog.underlying 101).bind (fun d => match d with | .struct fs => (fs[2]?).map (fun f => (f.offset, f.type)) | _ => none) = some (2, 3) := by rw [Try.underlying101]; rfl
theorem Fd107_0 : (Try.prog.underlying 107).bind (fun d => match d with | .struct fs => (fs[0]?).map (fun f => (f.offset, f.type)) | _ => none) = some (0, 3) := by rw [Try.underlying107]; rfl
theorem Fd113_0 : (Try.prog.underlying 113).bind (fun d => match d with | .struct fs => (fs[0]?).map (fun f => (f.offset, f.type)) | _ => none) = some (0, 111) := by rw [Try.underlying113]; rfl
theorem Fd126_0 : (Try.prog.underlying 126).bind (fun d => match d with | .struct fs => (fs[0]?).map (fun f => (f.offset, f.type)) | _ => none) = some (0, 26) := by rw [Try.underlying126]; rfl
theorem Fd126_1 : (Try.prog.underlying 126).bind (fun d => match d with | .struct fs => (fs[1]?).map (fun f => (f.offset, f.type)) | _ => none) = some (4, 124) := by rw [Try.underlying126]; rfl
theorem Al3 : (Try.prog.info? 3).map (·.zero) = some (some (I 0)) := by kernel_rfl
theorem Al4 : (Try.prog.info? 4).map (·.zero) = some (some (B false)) := by kernel_rfl
theorem Al26 : (Try.prog.info? 26).map (·.zero) = some (some (.agg #[.slice none 0 0, .slice none 0 0, I 0, I 0])) := by kernel_rfl
theorem Al27 : (Try.prog.info? 27).map (·.zero) = some (some (.slice none 0 0)) := by kernel_rfl
theorem Al33 : (Try.prog.info? 33).map (·.zero) = some (some (.nilFunc)) := by kernel_rfl
theorem Al35 : (Try.prog.info? 35).map (·.zero) = some (some (.agg #[I 0, I 0])) := by kernel_rfl
theorem Al41 : (Try.prog.info? 41).map (·.zero) = some (some (.agg #[I 0, I 0, I 0])) := by kernel_rfl
theorem Al43 : (Try.prog.info? 43).map (·.zero) = some (some (.agg #[I 0, I 0, I 0, .slice none 0 0])) := by kernel_rfl
theorem Al63 : (Try.prog.info? 63).map (·.zero) = some (some (.agg #[I 0, I 0])) := by kernel_rfl
theorem Al72 : (Try.prog.info? 72).map (·.zero) = some (some (.agg #[I 0, I 0])) := by kernel_rfl
theorem Al101 : (Try.prog.info? 101).map (·.zero) = some (some (.agg #[.slice none 0 0, I 0, I 0])) := by kernel_rfl
theorem Al102 : (Try.prog.info? 102).map (·.zero) = some (some (.pointer none)) := by kernel_rfl
theorem Al105 : (Try.prog.info? 105).map (·.zero) = some (some (.nilFunc)) := by kernel_rfl
theorem Al107 : (Try.prog.info? 107).map (·.zero) = some (some (.agg #[I 0])) := by kernel_rfl
theorem Al113 : (Try.prog.info? 113).map (·.zero) = some (some (.agg #[.nilFunc])) := by kernel_rfl
theorem Al126 : (Try.prog.info? 126).map (·.zero) = some (some (.agg #[.slice none 0 0, .slice none 0 0, I 0, I 0, .map none])) := by kernel_rfl
theorem Bd26 {fs : Array Field} (h : Try.prog.underlying 26 = some (.struct fs)) : fs.toList.mapM (fun f => (Try.prog.info? f.type).map fun i => (f.offset, i.size)) = some [(0, 1), (1, 1), (2, 1), (3, 1)] := by rw [Try.underlying26] at h; simp only [Option.some.injEq, TypeDesc.struct.injEq] at h; subst h; kernel_rfl
theorem Bd35 {fs : Array Field} (h : Try.prog.underlying 35 = some (.struct fs)) : fs.toList.mapM (fun f => (Try.prog.info? f.type).map fun i => (f.offset, i.size)) = some [(0, 1), (1, 1)] := by rw [Try.underlying35] at h; simp only [Option.some.injEq, TypeDesc.struct.injEq] at h; subst h; kernel_rfl
theorem Bd41 {fs : Array Field} (h : Try.prog.underlying 41 = some (.struct fs)) : fs.toList.mapM (fun f => (Try.prog.info? f.type).map fun i => (f.offset, i.size)) = some [(0, 1), (1, 2)] := by rw [Try.underlying41] at h; simp only [Option.some.injEq, TypeDesc.struct.injEq] at h; subst h; kernel_rfl
theorem Bd43 {fs : Array Field} (h : Try.prog.underlying 43 = some (.struct fs)) : fs.toList.mapM (fun f => (Try.prog.info? f.type).map fun i => (f.offset, i.size)) = some [(0, 1), (1, 1), (2, 1), (3, 1)] := by rw [Try.underlying43] at h; simp only [Option.some.injEq, TypeDesc.struct.injEq] at h; subst h; kernel_rfl
theorem Bd63 {fs : Array Field} (h : Try.prog.underlying 63 = some (.struct fs)) : fs.toList.mapM (fun f => (Try.prog.info? f.type).map fun i => (f.offset, i.size)) = some [(0, 1), (1, 1)] := by rw [Try.underlying63] at h; simp only [Option.some.injEq, TypeDesc.struct.injEq] at h; subst h; kernel_rfl
theorem Bd72 {fs : Array Field} (h : Try.prog.underlying 72 = some (.struct fs)) : fs.toList.mapM (fun f => (Try.prog.info? f.type).map fun i => (f.offset, i.size)) = some [(0, 1), (1, 1)] := by rw [Try.underlying72] at h; simp only [Option.some.injEq, TypeDesc.struct.injEq] at h; subst h; kernel_rfl
theorem Bd101 {fs : Array Field} (h : Try.prog.underlying 101 = some (.struct fs)) : fs.toList.mapM (fun f => (Try.prog.info? f.type).map fun i => (f.offset, i.size)) = some [(0, 1), (1, 1), (2, 1)] := by rw [Try.underlying101] at h; simp only [Option.some.injEq, TypeDesc.struct.injEq] at h; subst h; kernel_rfl
theorem Bd107 {fs : Array Field} (h : Try.prog.underlying 107 = some (.struct fs)) : fs.toList.mapM (fun f => (Try.prog.info? f.type).map fun i => (f.offset, i.size)) = some [(0, 1)] := by rw [Try.underlying107] at h; simp only [Option.some.injEq, TypeDesc.struct.injEq] at h; subst h; kernel_rfl
theorem Bd113 {fs : Array Field} (h : Try.prog.underlying 113 = some (.struct fs)) : fs.toList.mapM (fun f => (Try.prog.info? f.type).map fun i => (f.offset, i.size)) = some [(0, 1)] := by rw [Try.underlying113] at h; simp only [Option.some.injEq, TypeDesc.struct.injEq] at h; subst h; kernel_rfl
theorem Bd126 {fs : Array Field} (h : Try.prog.underlying 126 = some (.struct fs)) : fs.toList.mapM (fun f => (Try.prog.info? f.type).map fun i => (f.offset, i.size)) = some [(0, 4), (4, 1)] := by rw [Try.underlying126] at h; simp only [Option.some.injEq, TypeDesc.struct.injEq] at h; subst h; kernel_rfl
theorem mixed : Try.prog.follows .mixedOrders = true := by kernel_rfl
theorem Al140 : (Try.prog.info? 140).map (·.zero) = some (some (.agg (List.flatten [[], encF (α := Int) (List.replicate 41 0)]).toArray)) := by kernel_rfl

end Go.Proofs.Ytcgalcbkkijkhaa
section
set_option maxRecDepth 100000
set_option maxHeartbeats 16000000
namespace Go.Proofs.Ytcgalcbkkijkhaa
open Go Go.Nm
def zaL : M (List Pk) :=
  M.pure ([(⟨(10 : Int), (300 : Int)⟩ : Pk), (⟨(14 : Int), (350 : Int)⟩ : Pk), (⟨(19 : Int), (320 : Int)⟩ : Pk), (⟨(40 : Int), (280 : Int)⟩ : Pk)])
theorem za5 {R : List Chunk}    {r : (List Pk)} (hM : (zaL).Ends r) (w : World) (H : St w w [] R) : Ret Try.prog 60 #[] w fun v w' => ∃ (y0 : List Pk) (u0 : Value), y0 = r /\ v = u0 /\ St w w' [cOwn (α := Pk) 72 u0 y0] R := by
 refine ret_of_W Try.func60 rfl rfl rfl ?_
 refine W.seq ?_
 refine W.region rfl ?_
 refine s_val (x_as (v := .slice none 0 0) rfl) ?_
 refine s_nil ?_
 refine W.seq ?_
 refine W.region rfl ?_
 refine s_val (x_bld (ps := [(0, I 10), (1, I 300)]) (zs := [I 0, I 0]) (L' := [I 10, I 300]) rfl Try.underlying72 Al72 rfl (Bd72 Try.underlying72) (.cons (cs := [I 10]) rfl rfl rfl rfl rfl <| .cons (cs := [I 300]) rfl rfl rfl rfl rfl <| .nil)) ?_
 refine s_val (x_bld (ps := [(0, I 14), (1, I 350)]) (zs := [I 0, I 0]) (L' := [I 14, I 350]) rfl Try.underlying72 Al72 rfl (Bd72 Try.underlying72) (.cons (cs := [I 14]) rfl rfl rfl rfl rfl <| .cons (cs := [I 350]) rfl rfl rfl rfl rfl <| .nil)) ?_
 refine s_val (x_bld (ps := [(0, I 19), (1, I 320)]) (zs := [I 0, I 0]) (L' := [I 19, I 320]) rfl Try.underlying72 Al72 rfl (Bd72 Try.underlying72) (.cons (cs := [I 19]) rfl rfl rfl rfl rfl <| .cons (cs := [I 320]) rfl rfl rfl rfl rfl <| .nil)) ?_
 refine s_val (x_bld (ps := [(0, I 40), (1, I 280)]) (zs := [I 0, I 0]) (L' := [I 40, I 280]) rfl Try.underlying72 Al72 rfl (Bd72 Try.underlying72) (.cons (cs := [I 40]) rfl rfl rfl rfl rfl <| .cons (cs := [I 280]) rfl rfl rfl rfl rfl <| .nil)) ?_
 refine t_bs (α := Pk) T69 [.agg #[I 10, I 300], .agg #[I 14, I 350], .agg #[I 19, I 320], .agg #[I 40, I 280]] [(⟨(10 : Int), (300 : Int)⟩ : Pk), (⟨(14 : Int), (350 : Int)⟩ : Pk), (⟨(19 : Int), (320 : Int)⟩ : Pk), (⟨(40 : Int), (280 : Int)⟩ : Pk)] H rfl (.cons rfl (Flat.rep_enc _ (⟨(10 : Int), (300 : Int)⟩ : Pk)) <| .cons rfl (Flat.rep_enc _ (⟨(14 : Int), (350 : Int)⟩ : Pk)) <| .cons rfl (Flat.rep_enc _ (⟨(19 : Int), (320 : Int)⟩ : Pk)) <| .cons rfl (Flat.rep_enc _ (⟨(40 : Int), (280 : Int)⟩ : Pk)) <| .nil) rfl rfl rfl ?_
 intro v1z w2z H
 refine s_val (x_as (v := v1z) rfl) ?_
 refine s_nil ?_
 refine W.ret ?_
 have hr_ := M.e_pure hM
 exact ⟨_, resE_tmp rfl, ⟨([(⟨(10 : Int), (300 : Int)⟩ : Pk), (⟨(14 : Int), (350 : Int)⟩ : Pk), (⟨(19 : Int), (320 : Int)⟩ : Pk), (⟨(40 : Int), (280 : Int)⟩ : Pk)]), v1z, hr_, rfl, H⟩⟩

def zab (n : Int) (least : Int) (greatest : Int) : M Bool :=
  M.pure ((decide (least <= n)) && (decide (n <= greatest)))
theorem zac {R : List Chunk}  (n : Int) (least : Int) (greatest : Int)  {r : Bool} (hM : (zab n least greatest).Ends r) (w : World) (H : St w w [] R) : Ret Try.prog 63 #[I n, I least, I greatest] w fun v w' => ∃ (y0 : Bool), y0 = r /\ v = B y0 /\ St w w' [] R := by
 refine ret_of_W Try.func63 rfl rfl rfl ?_
 refine W.seq ?_
 refine W.region rfl ?_
 refine s_val (x_as (v := B false) rfl) ?_
 refine s_nil ?_
 refine W.seq ?_
 refine W.region rfl ?_
 refine s_val (x_mv (v := I n) rfl) ?_
 refine s_val (x_mv (v := I least) rfl) ?_
 refine s_val (x_cmp (kd := .i64) (a := n) (b := least) (r := decide (least <= n)) rfl rfl rfl) ?_
 refine s_val (x_mv (v := B (decide (least <= n))) rfl) ?_
 refine g_val (decide (least <= n)) (gy_t rfl) (fun hg => x_mv (v := I n) rfl) ?_
 refine g_val (decide (least <= n)) (gy_t rfl) (fun hg => x_mv (v := I greatest) rfl) ?_
 refine g_val (decide (least <= n)) (gy_t rfl) (fun hg => x_cmp (kd := .i64) (a := n) (b := greatest) (r := decide (n <= greatest)) (gd_of (c := decide (least <= n)) hg (I n)) (gd_of (c := decide (least <= n)) hg (I greatest)) rfl) ?_
 refine s_val (x_pand (b := decide (least <= n)) (r := decide (n <= greatest)) rfl (fun hb => gd_of (c := decide (least <= n)) (by first | exact hb | (rw [hb]; rfl) | simp_all) (B (decide (n <= greatest)))) rfl) ?_
 refine s_val (x_as (v := B ((decide (least <= n)) && (decide (n <= greatest)))) rfl) ?_
 refine s_nil ?_
 refine W.ret ?_
 have hr_ := M.e_pure hM
 exact ⟨_, resE_tmp rfl, ⟨((decide (least <= n)) && (decide (n <= greatest))), hr_, rfl, H⟩⟩

def zb1 (b_Years : List Yr) (b_Olds : List Old10) (b_First : Int) (b_Last : Int) (x2 : Pk) : M Bool :=
  M.bind (zab x2.day 0 4000) fun r2 =>
  M.bind (M.opt r2 (zab x2.stage 0 2000) false) fun r3 =>
  M.pure (r2 && r3)
theorem zcu {R : List Chunk} {C_b_Years : Cells} {v_b_Years : Value} {C_b_Olds : Cells} {v_b_Olds : Value} (b_Years : List Yr) (b_Olds : List Old10) (b_First : Int) (b_Last : Int) (x2 : Pk) (hC_b_Years : Reads R C_b_Years) (hs_b_Years : Sl C_b_Years v_b_Years b_Years) (hC_b_Olds : Reads R C_b_Olds) (hs_b_Olds : Sl C_b_Olds v_b_Olds b_Olds) {r : Bool} (hM : (zb1 b_Years b_Olds b_First b_Last x2).Ends r) (w : World) (H : St w w [] R) : Ret Try.prog 71 #[.agg #[v_b_Years, v_b_Olds, I b_First, I b_Last], .iface 72 (.agg #[I x2.day, I x2.stage])] w fun v w' => ∃ (y0 : Bool), y0 = r /\ v = B y0 /\ St w w' [] R := by
 refine ret_of_W Try.func71 rfl rfl rfl ?_
 refine W.seq ?_
 refine W.region rfl ?_
 refine t_box (v := .agg #[v_b_Years, v_b_Olds, I b_First, I b_Last]) (cs := [v_b_Years, v_b_Olds, I b_First, I b_Last]) H rfl rfl ?_
 intro b_1 w1z H
 refine s_val (x_as (v := B false) rfl) ?_
 refine s_nil ?_
 refine W.seq ?_
 refine W.seq ?_
 refine W.region rfl ?_
 refine s_val (x_mv (v := .iface 72 (.agg #[I x2.day, I x2.stage])) rfl) ?_
 refine s_nil ?_
 refine W.block ?_
 refine W.seq ?_
 refine W.region rfl ?_
 refine s_val (x_ta1 (v := .agg #[I x2.day, I x2.stage]) Try.underlying72 (by intro m h_; cases h_) rfl) ?_
 refine s_val (x_ext (vs := [.agg #[I x2.day, I x2.stage], B true]) (v := B true) rfl rfl) ?_
 refine s_val (x_ext (vs := [.agg #[I x2.day, I x2.stage], B true]) (v := .agg #[I x2.day, I x2.stage]) rfl rfl) ?_
 refine s_nil ?_
 refine W.cond true rfl (fun c2z => ?_) (fun c2z => ?_)
 ·skip
  refine W.seq ?_
  refine W.region rfl ?_
  refine t_alloc (cs := [I 0, I 0]) H Al72 rfl ?_
  intro b_2 w3z H
  refine t_st (k := 0) (b := b_2) (off := 0) (cs := [I 0, I 0]) (vs := [I x2.day, I x2.stage]) (cs' := [I x2.day, I x2.stage]) (v := .agg #[I x2.day, I x2.stage]) (L' := [cBlk b_2 [I x2.day, I x2.stage] 72, cBlk b_1 [v_b_Years, v_b_Olds, I b_First, I b_Last] 26]) H rfl rfl rfl Sz72 rfl rfl rfl rfl rfl rfl ?_
  intro w4z H
  refine s_nil ?_
  refine W.seq ?_
  refine W.region rfl ?_
  refine s_val (x_fa (a := .pointer (some ⟨b_2, 0, none⟩)) (v := .pointer (some ⟨b_2, 0, none⟩)) rfl (fa_blk (o := 0) Fd72_0 Sz3)) ?_
  refine s_val (x_ld (p := .pointer (some ⟨b_2, 0, none⟩)) (v := I x2.day) rfl (ldb_sc Sc3 (H.blk (k := 0) rfl) rfl)) ?_
  obtain ⟨r6z, hx5z, hM⟩ := M.e_bind hM
  refine s_call cf63 [I x2.day, I 0, I 4000] rfl (zac x2.day 0 4000 hx5z _ (St.give (T := [cBlk b_2 [I x2.day, I x2.stage] 72, cBlk b_1 [v_b_Years, v_b_Olds, I b_First, I b_Last] 26]) H rfl)) ?_
  rintro vq w7z ⟨r2, hr8z, hvq, H2_⟩
  subst hr8z
  subst vq
  try dsimp only at hM
  replace H : St w w7z [cBlk b_2 [I x2.day, I x2.stage] 72, cBlk b_1 [v_b_Years, v_b_Olds, I b_First, I b_Last] 26] R := H.back H2_ rfl
  clear H2_
  refine s_val (x_mv (v := B r2) rfl) ?_
  refine g_val r2 (gy_t rfl) (fun hg => x_fa (a := .pointer (some ⟨b_2, 0, none⟩)) (v := .pointer (some ⟨b_2, 1, none⟩)) rfl (fa_blk (o := 0) Fd72_1 Sz3)) ?_
  refine g_val r2 (gy_t rfl) (fun hg => x_ld (p := .pointer (some ⟨b_2, 1, none⟩)) (v := I x2.stage) (gd_of (c := r2) hg (.pointer (some ⟨b_2, 1, none⟩))) (ldb_sc Sc3 (H.blk (k := 0) rfl) rfl)) ?_
  obtain ⟨r3, hx9z, hM⟩ := M.e_bind hM
  refine t_gcall r2 (gy_t rfl) cf63 (B r3) (fun _ => [I x2.stage, I 0, I 2000]) (fun hg => lst3 (gd_of (c := r2) hg (I x2.stage)) rfl rfl) H (fun hg => (zac x2.stage 0 2000 (M.e_opt hx9z hg) _ (H.give (A := []) rfl)).mono fun v_ w_ ⟨y_, hr_, hv_, H_⟩ => by subst hr_; exact ⟨hv_, H.via H_⟩) ?_
  intro w10z H
  refine s_val (x_pand (b := r2) (r := r3) rfl (fun hb => gd_of (c := r2) (by first | exact hb | (rw [hb]; rfl) | simp_all) (B r3)) rfl) ?_
  refine s_val (x_as (v := B (r2 && r3)) rfl) ?_
  refine s_nil ?_
  refine W.ret ?_
  have hr_ := M.e_pure hM
  exact ⟨_, resE_tmp rfl, ⟨(r2 && r3), hr_, rfl, (H.pick [] (by decide) rfl)⟩⟩
 skip
 exact absurd c2z (by decide)

def zbl (l : List Pk) : Nat -> M (Nat ⊕ (Int ⊕ Unit)) := fun s =>
  bif decide ((s : Int) < (l.length : Int)) then (
  M.grd (decide ((s : Int) < (l.length : Int))) <|
  M.bind (zb1 ([] : List Yr) ([] : List Old10) 0 0 (l.getD s default)) fun r2 =>
  bif !r2 then (
  M.pure (.inr (.inl 110)))
  else (
  M.grd ((!(decide (0 < (s : Int))) || (decide ((-9223372036854775808 : Int) <= ((s : Int) - 1)) && decide (((s : Int) - 1) <= (9223372036854775807 : Int))))) <|
  M.grd ((!(decide (0 < (s : Int))) || (decide ((0 : Int) <= ((s : Int) - 1)) && decide (((s : Int) - 1) < (l.length : Int))))) <|
  bif ((decide (0 < (s : Int))) && (decide (((l.getD s default).day) <= ((l.getD (Int.toNat ((s : Int) - 1)) default).day)))) then (
  M.pure (.inr (.inl 9)))
  else (
  M.pure (.inl (s + 1)))))
  else (
  M.pure (.inr (.inr ())))
def zb2 (l : List Pk) : M Int :=
  bif decide (40 < (l.length : Int)) then (
  M.pure 3)
  else (
  M.bind (M.iter (zbl l) 0) fun x_ => match x_ with
  | (.inl s2) => (
  M.pure s2)
  | (.inr (_ : Unit)) => (
  M.pure 0))
theorem zcF {R : List Chunk} {C_l : Cells} {v_l : Value} (l : List Pk) (hC_l : Reads R C_l) (hs_l : Sl C_l v_l l) {r : Int} (hM : (zb2 l).Ends r) (w : World) (H : St w w [] R) : Ret Try.prog 33 #[v_l] w fun v w' => ∃ (y0 : Int), y0 = r /\ v = I y0 /\ St w w' [] R := by
 refine ret_of_W Try.func33 rfl rfl rfl ?_
 refine W.seq ?_
 refine W.region rfl ?_
 refine s_val (x_as (v := I 0) rfl) ?_
 refine s_nil ?_
 refine W.seq ?_
 refine W.seq ?_
 refine W.region rfl ?_
 refine s_val (x_mv (v := v_l) rfl) ?_
 have hl1z := (hs_l).len_le
 refine s_val (x_lenS T69.und rfl hs_l) ?_
 refine s_val (x_cmp (kd := .i64) (a := (l.length : Int)) (b := 40) (r := decide (40 < (l.length : Int))) rfl rfl rfl) ?_
 refine s_nil ?_
 refine W.cond (decide (40 < (l.length : Int))) rfl (fun c2z => ?_) (fun c2z => ?_)
 ·replace hM := M.e_t hM c2z
  simp only [decide_eq_true_eq, decide_eq_false_iff_not, beq_iff_eq, bne_iff_ne, beq_eq_false_iff_ne, bne_eq_false_iff_eq, ne_eq, Decidable.not_not] at c2z
  refine W.seq ?_
  refine W.region rfl ?_
  refine s_val (x_as (v := I 3) rfl) ?_
  refine s_nil ?_
  refine W.ret ?_
  have hr_ := M.e_pure hM
  exact ⟨_, resE_tmp rfl, ⟨3, hr_, rfl, H⟩⟩
 replace hM := M.e_f hM c2z
 simp only [decide_eq_true_eq, decide_eq_false_iff_not, beq_iff_eq, bne_iff_ne, beq_eq_false_iff_ne, bne_eq_false_iff_eq, ne_eq, Decidable.not_not] at c2z
 refine W.skip ?_
 refine W.seq ?_
 refine W.seq ?_
 refine W.region rfl ?_
 refine s_val (x_mv (v := v_l) rfl) ?_
 have hl3z := (hs_l).len_le
 refine s_val (x_lenS T69.und rfl hs_l) ?_
 refine s_val (x_mv (v := I 0) rfl) ?_
 refine s_nil ?_
 refine W.block ?_
 obtain ⟨ex4z, hi5z, hk6z⟩ := M.e_bind hM
 obtain ⟨m0_, hi5z⟩ := M.e_iter hi5z
 refine W.loop (fun m σ W => ∃ (s : Nat) (ρ : Env), σ = upds ρ [(0, v_l), (8, v_l), (9, I (l.length : Int)), (10, I (s : Int))] /\ M.iterN (zbl l) m s = some ex4z /\ St w W [] R) ?_ ?_
 ·exact ⟨_, 0, _, upds_of _ _ ⟨rfl, rfl, rfl, rfl, trivial⟩, hi5z, H⟩
 rintro m9z σ w7z ⟨s, ρ, rfl, hI8z, H⟩
 obtain ⟨m10z, lt11z, x12z, hM, hN13z⟩ := M.e_iterN hI8z
 simp only [zbl] at hM
 clear hI8z
 refine W.seq ?_
 refine W.region rfl ?_
 refine s_val (x_cmp (kd := .i64) (a := (s : Int)) (b := (l.length : Int)) (r := decide ((s : Int) < (l.length : Int))) rfl rfl rfl) ?_
 refine s_nil ?_
 refine W.seq ?_
 refine W.cond (decide ((s : Int) < (l.length : Int))) rfl (fun c14z => ?_) (fun c14z => ?_)
 ·replace hM := M.e_t hM c14z
  simp only [decide_eq_true_eq, decide_eq_false_iff_not, beq_iff_eq, bne_iff_ne, beq_eq_false_iff_ne, bne_eq_false_iff_eq, ne_eq, Decidable.not_not] at c14z
  refine W.skip ?_
  refine W.seq ?_
  refine W.block ?_
  refine W.seq ?_
  refine W.region rfl ?_
  refine s_val (x_mv (v := I (s : Int)) rfl) ?_
  obtain ⟨sd15z, hM⟩ := M.e_grd hM
  simp only [Bool.and_eq_true, decide_eq_true_eq] at sd15z
  refine s_val (x_ix (a := v_l) (b := I (s : Int)) (v := vat v_l 2 (Int.toNat (s : Int))) rfl rfl (Sl.ix (α := Pk) T69.und T69.size hs_l (by omega) (by omega))) ?_
  refine s_val (x_ld (p := vat v_l 2 (Int.toNat (s : Int))) (v := .agg #[I ((l.getD s default).day), I ((l.getD s default).stage)]) rfl (ld_ag Ag72 Sz72 (At.mono (Pk_atA hs_l (i := (s : Int)) (by omega) (by omega)) (hC_l.at H)))) ?_
  refine t_alloc (cs := [I 0, I 0]) H Al72 rfl ?_
  intro b_1 w16z H
  refine s_val (x_as (v := I (s : Int)) rfl) ?_
  refine t_st (k := 0) (b := b_1) (off := 0) (cs := [I 0, I 0]) (vs := [I ((l.getD s default).day), I ((l.getD s default).stage)]) (cs' := [I ((l.getD s default).day), I ((l.getD s default).stage)]) (v := .agg #[I ((l.getD s default).day), I ((l.getD s default).stage)]) (L' := [cBlk b_1 [I ((l.getD s default).day), I ((l.getD s default).stage)] 72]) H rfl rfl rfl Sz72 rfl rfl rfl rfl rfl rfl ?_
  intro w17z H
  refine s_nil ?_
  refine W.block ?_
  refine W.seq ?_
  refine W.region rfl ?_
  refine s_val (x_bld (ps := []) (zs := [.slice none 0 0, .slice none 0 0, I 0, I 0]) (L' := [.slice none 0 0, .slice none 0 0, I 0, I 0]) rfl Try.underlying26 Al26 rfl (Bd26 Try.underlying26) (.nil)) ?_
  refine s_val (x_ld (p := .pointer (some ⟨b_1, 0, none⟩)) (v := .agg #[I ((l.getD s default).day), I ((l.getD s default).stage)]) rfl (ldb_ag (ds := [I ((l.getD s default).day), I ((l.getD s default).stage)]) Ag72 Sz72 (H.blk (k := 0) rfl) rfl rfl)) ?_
  refine s_val (x_mi (v := .agg #[I ((l.getD s default).day), I ((l.getD s default).stage)]) Try.underlying72 (by intro m h_; cases h_) rfl) ?_
  obtain ⟨r19z, hx18z, hM⟩ := M.e_bind hM
  refine s_call cf71 [.agg #[.slice none 0 0, .slice none 0 0, I 0, I 0], .iface 72 (.agg #[I ((l.getD s default).day), I ((l.getD s default).stage)])] rfl (zcu ([] : List Yr) ([] : List Old10) 0 0 (l.getD s default) Reads.none (Sl.nil (fun _ => none)) Reads.none (Sl.nil (fun _ => none)) hx18z _ (St.give (T := [cBlk b_1 [I ((l.getD s default).day), I ((l.getD s default).stage)] 72]) H rfl)) ?_
  rintro vq w20z ⟨r2, hr21z, hvq, H2_⟩
  subst hr21z
  subst vq
  try dsimp only at hM
  replace H : St w w20z [cBlk b_1 [I ((l.getD s default).day), I ((l.getD s default).stage)] 72] R := H.back H2_ rfl
  clear H2_
  refine s_val (x_not (b := r2) rfl) ?_
  refine s_val (x_as (v := B (!r2)) rfl) ?_
  refine s_nil ?_
  refine W.cond (!r2) rfl (fun c22z => ?_) (fun c22z => ?_)
  ·replace hM := M.e_t hM c22z
   refine W.seq ?_
   refine W.region rfl ?_
   refine s_val (x_as (v := I 110) rfl) ?_
   refine s_nil ?_
   refine W.ret ?_
   have hX23z := M.e_inr hM hN13z
   subst hX23z
   replace hM := hk6z
   try dsimp only at hM
   have hr_ := M.e_pure hM
   exact ⟨_, resE_tmp rfl, ⟨110, hr_, rfl, (H.pick [] (by decide) rfl)⟩⟩
  replace hM := M.e_f hM c22z
  refine W.seq ?_
  refine W.draw (fun W => St w W [cBlk b_1 [I ((l.getD s default).day), I ((l.getD s default).stage)] 72] R) [(0, true), (1, true), (2, true), (3, true), (4, true), (5, true), (6, true), (7, true), (8, true), (9, true), (10, true), (11, true), (12, true), (13, true)] mixed (by decide +kernel) rfl ?_
  intro w24z hx_
  replace H : St w w24z [cBlk b_1 [I ((l.getD s default).day), I ((l.getD s default).stage)] 72] R := H.ext hx_
  clear hx_
  refine ⟨(H.pick [0] (by decide) rfl), ?_⟩
  refine d_q rfl (fun w' H => x_mv (v := I (s : Int)) rfl) ?_
  refine d_q rfl (fun w' H => x_cmp (kd := .i64) (a := (s : Int)) (b := 0) (r := decide (0 < (s : Int))) rfl rfl rfl) ?_
  refine d_q rfl (fun w' H => x_mv (v := B (decide (0 < (s : Int)))) rfl) ?_
  refine d_qg (decide (0 < (s : Int))) rfl (gy_t rfl) (fun hg => (fun w' H => x_fa (a := .pointer (some ⟨b_1, 0, none⟩)) (v := .pointer (some ⟨b_1, 0, none⟩)) rfl (fa_blk (o := 0) Fd72_0 Sz3))) ?_
  refine d_qg (decide (0 < (s : Int))) rfl (gy_t rfl) (fun hg => (fun w' H => x_ld (p := .pointer (some ⟨b_1, 0, none⟩)) (v := I ((l.getD s default).day)) (gd_of (c := decide (0 < (s : Int))) hg (.pointer (some ⟨b_1, 0, none⟩))) (ldb_sc Sc3 (H.blk (k := 0) rfl) rfl))) ?_
  refine d_qg (decide (0 < (s : Int))) rfl (gy_t rfl) (fun hg => (fun w' H => x_mv (v := v_l) rfl)) ?_
  refine d_qg (decide (0 < (s : Int))) rfl (gy_t rfl) (fun hg => (fun w' H => x_mv (v := I (s : Int)) rfl)) ?_
  obtain ⟨sd25z, hM⟩ := M.e_grd hM
  replace sd25z := M.imp_of sd25z
  simp only [Bool.and_eq_true, decide_eq_true_eq] at sd25z
  refine d_qg (decide (0 < (s : Int))) rfl (gy_t rfl) (fun hg => (fun w' H => x_ari (a := (s : Int)) (b := 1) (r := (s : Int) - 1) (gd_of (c := decide (0 < (s : Int))) hg (I (s : Int))) rfl rfl (by have h1_ := sd25z.resolve_left (by rw [hg]; decide); first | exact h1_ | exact h1_.1 | exact h1_.2 | omega | (have hx_ := hg; simp at hx_; omega)))) ?_
  obtain ⟨sd26z, hM⟩ := M.e_grd hM
  replace sd26z := M.imp_of sd26z
  simp only [Bool.and_eq_true, decide_eq_true_eq] at sd26z
  refine d_qg (decide (0 < (s : Int))) rfl (gy_t rfl) (fun hg => (fun w' H => x_ix (a := v_l) (b := I ((s : Int) - 1)) (v := vat v_l 2 (Int.toNat ((s : Int) - 1))) (gd_of (c := decide (0 < (s : Int))) hg (v_l)) (gd_of (c := decide (0 < (s : Int))) hg (I ((s : Int) - 1))) (Sl.ix (α := Pk) T69.und T69.size hs_l (by have h1_ := sd25z.resolve_left (by rw [hg]; decide); have h2_ := sd26z.resolve_left (by rw [hg]; decide); first | exact h1_ | exact h1_.1 | exact h1_.2 | exact h2_ | exact h2_.1 | exact h2_.2 | omega | (have hx_ := hg; simp at hx_; omega)) (by have h1_ := sd25z.resolve_left (by rw [hg]; decide); have h2_ := sd26z.resolve_left (by rw [hg]; decide); first | exact h1_ | exact h1_.1 | exact h1_.2 | exact h2_ | exact h2_.1 | exact h2_.2 | omega | (have hx_ := hg; simp at hx_; omega))))) ?_
  refine d_qg (decide (0 < (s : Int))) rfl (gy_t rfl) (fun hg => (fun w' H => x_fa (a := vat v_l 2 (Int.toNat ((s : Int) - 1))) (v := fat (vat v_l 2 (Int.toNat ((s : Int) - 1))) 0) (gd_of (c := decide (0 < (s : Int))) hg (vat v_l 2 (Int.toNat ((s : Int) - 1)))) (fa_pl Fd72_0 Sz3 (Sl.pl (i := (s : Int) - 1) hs_l (by have h1_ := sd25z.resolve_left (by rw [hg]; decide); have h2_ := sd26z.resolve_left (by rw [hg]; decide); first | exact h1_ | exact h1_.1 | exact h1_.2 | exact h2_ | exact h2_.1 | exact h2_.2 | omega | (have hx_ := hg; simp at hx_; omega)) (by have h1_ := sd25z.resolve_left (by rw [hg]; decide); have h2_ := sd26z.resolve_left (by rw [hg]; decide); first | exact h1_ | exact h1_.1 | exact h1_.2 | exact h2_ | exact h2_.1 | exact h2_.2 | omega | (have hx_ := hg; simp at hx_; omega)))))) ?_
  refine d_qg (decide (0 < (s : Int))) rfl (gy_t rfl) (fun hg => (fun w' H => x_ld (p := fat (vat v_l 2 (Int.toNat ((s : Int) - 1))) 0) (v := I ((l.getD (Int.toNat ((s : Int) - 1)) default).day)) (gd_of (c := decide (0 < (s : Int))) hg (fat (vat v_l 2 (Int.toNat ((s : Int) - 1))) 0)) (ld_sc Sc3 (At.mono (Pk_at0 hs_l (i := (s : Int) - 1) (by have h1_ := sd25z.resolve_left (by rw [hg]; decide); have h2_ := sd26z.resolve_left (by rw [hg]; decide); first | exact h1_ | exact h1_.1 | exact h1_.2 | exact h2_ | exact h2_.1 | exact h2_.2 | omega | (have hx_ := hg; simp at hx_; omega)) (by have h1_ := sd25z.resolve_left (by rw [hg]; decide); have h2_ := sd26z.resolve_left (by rw [hg]; decide); first | exact h1_ | exact h1_.1 | exact h1_.2 | exact h2_ | exact h2_.1 | exact h2_.2 | omega | (have hx_ := hg; simp at hx_; omega))) (hC_l.at H))))) ?_
  refine d_qg (decide (0 < (s : Int))) rfl (gy_t rfl) (fun hg => (fun w' H => x_cmp (kd := .i64) (a := (l.getD s default).day) (b := (l.getD (Int.toNat ((s : Int) - 1)) default).day) (r := decide (((l.getD s default).day) <= ((l.getD (Int.toNat ((s : Int) - 1)) default).day))) (gd_of (c := decide (0 < (s : Int))) hg (I ((l.getD s default).day))) (gd_of (c := decide (0 < (s : Int))) hg (I ((l.getD (Int.toNat ((s : Int) - 1)) default).day))) rfl)) ?_
  refine d_q rfl (fun w' H => x_pand (b := decide (0 < (s : Int))) (r := decide (((l.getD s default).day) <= ((l.getD (Int.toNat ((s : Int) - 1)) default).day))) rfl (fun hb => gd_of (c := decide (0 < (s : Int))) (by first | exact hb | (rw [hb]; rfl) | simp_all) (B (decide (((l.getD s default).day) <= ((l.getD (Int.toNat ((s : Int) - 1)) default).day))))) rfl) ?_
  refine d_q rfl (fun w' H => x_as (v := B ((decide (0 < (s : Int))) && (decide (((l.getD s default).day) <= ((l.getD (Int.toNat ((s : Int) - 1)) default).day))))) rfl) ?_
  refine d_nil ?_
  refine W.cond ((decide (0 < (s : Int))) && (decide (((l.getD s default).day) <= ((l.getD (Int.toNat ((s : Int) - 1)) default).day)))) rfl (fun c27z => ?_) (fun c27z => ?_)
  ·replace hM := M.e_t hM c27z
   refine W.seq ?_
   refine W.region rfl ?_
   refine s_val (x_as (v := I 9) rfl) ?_
   refine s_nil ?_
   refine W.ret ?_
   have hX28z := M.e_inr hM hN13z
   subst hX28z
   replace hM := hk6z
   try dsimp only at hM
   have hr_ := M.e_pure hM
   exact ⟨_, resE_tmp rfl, ⟨9, hr_, rfl, (H.pick [] (by decide) rfl)⟩⟩
  replace hM := M.e_f hM c27z
  refine W.skip ?_
  refine W.region rfl ?_
  refine s_val (x_ari (a := (s : Int)) (b := 1) (r := (s : Int) + 1) rfl rfl rfl (by omega)) ?_
  refine s_val (x_mv (v := I ((s : Int) + 1)) rfl) ?_
  refine s_nil ?_
  exact ⟨m10z, lt11z, s + 1, _, upds_of _ _ ⟨rfl, rfl, rfl, rfl, trivial⟩, M.e_inl hM hN13z, (H.pick [] (by decide) rfl)⟩
 replace hM := M.e_f hM c14z
 simp only [decide_eq_true_eq, decide_eq_false_iff_not, beq_iff_eq, bne_iff_ne, beq_eq_false_iff_ne, bne_eq_false_iff_eq, ne_eq, Decidable.not_not] at c14z
 refine W.exit ?_
 have hX29z := M.e_inr hM hN13z
 subst hX29z
 replace hM := hk6z
 try dsimp only at hM
 refine W.seq ?_
 refine W.region rfl ?_
 refine s_val (x_as (v := I 0) rfl) ?_
 refine s_nil ?_
 refine W.ret ?_
 have hr_ := M.e_pure hM
 exact ⟨_, resE_tmp rfl, ⟨0, hr_, rfl, H⟩⟩

def zaZ (l : List Pk) (apart : Int) (threshold : Int) : M Int :=
  M.bind (zb2 l) fun r2 =>
  M.bind (M.opt (r2 == 0) (zab apart 1 60) false) fun r3 =>
  M.bind (M.opt ((r2 == 0) && !(!r3)) (zab threshold 0 2000) false) fun r4 =>
  bif ((r2 == 0) && ((!r3) || (!r4))) then (
  M.pure 4)
  else (
  M.pure r2)
theorem zbp {R : List Chunk} {C_l : Cells} {v_l : Value} (l : List Pk) (apart : Int) (threshold : Int) (hC_l : Reads R C_l) (hs_l : Sl C_l v_l l) {r : Int} (hM : (zaZ l apart threshold).Ends r) (w : World) (H : St w w [] R) : Ret Try.prog 72 #[v_l, I apart, I threshold] w fun v w' => ∃ (y0 : Int), y0 = r /\ v = I y0 /\ St w w' [] R := by
 refine ret_of_W Try.func72 rfl rfl rfl ?_
 refine W.seq ?_
 refine W.region rfl ?_
 refine s_val (x_as (v := I 0) rfl) ?_
 refine s_nil ?_
 refine W.seq ?_
 refine W.region rfl ?_
 refine s_val (x_mv (v := v_l) rfl) ?_
 obtain ⟨r2z, hx1z, hM⟩ := M.e_bind hM
 refine s_call cf33 [v_l] rfl (zcF l (hC_l.app _) hs_l hx1z _ (St.give (T := []) H rfl)) ?_
 rintro vq w3z ⟨r2, hr4z, hvq, H2_⟩
 subst hr4z
 subst vq
 try dsimp only at hM
 replace H : St w w3z [] R := H.back H2_ rfl
 clear H2_
 refine s_val (x_as (v := I r2) rfl) ?_
 refine s_nil ?_
 refine W.seq ?_
 refine W.seq ?_
 refine W.region rfl ?_
 refine s_val (x_mv (v := I r2) rfl) ?_
 refine s_val (x_cmp (kd := .i64) (a := r2) (b := 0) (r := r2 == 0) rfl rfl rfl) ?_
 refine s_val (x_mv (v := B (r2 == 0)) rfl) ?_
 refine g_val (r2 == 0) (gy_t rfl) (fun hg => x_mv (v := I apart) rfl) ?_
 obtain ⟨r3, hx5z, hM⟩ := M.e_bind hM
 refine t_gcall (r2 == 0) (gy_t rfl) cf63 (B r3) (fun _ => [I apart, I 1, I 60]) (fun hg => lst3 (gd_of (c := r2 == 0) hg (I apart)) rfl rfl) H (fun hg => (zac apart 1 60 (M.e_opt hx5z hg) _ (H.give (A := []) rfl)).mono fun v_ w_ ⟨y_, hr_, hv_, H_⟩ => by subst hr_; exact ⟨hv_, H.via H_⟩) ?_
 intro w6z H
 refine g_val (r2 == 0) (gy_t rfl) (fun hg => x_not (b := r3) (gd_of (c := r2 == 0) hg (B r3))) ?_
 refine g_val (r2 == 0) (gy_t rfl) (fun hg => x_mv (v := B (!r3)) (gd_of (c := r2 == 0) hg (B (!r3)))) ?_
 refine g_val ((r2 == 0) && !(!r3)) (gy_gf rfl rfl) (fun hg => x_mv (v := I threshold) rfl) ?_
 obtain ⟨r4, hx7z, hM⟩ := M.e_bind hM
 refine t_gcall ((r2 == 0) && !(!r3)) (gy_gf rfl rfl) cf63 (B r4) (fun _ => [I threshold, I 0, I 2000]) (fun hg => lst3 (gd_of (c := ((r2 == 0) && !(!r3))) hg (I threshold)) rfl rfl) H (fun hg => (zac threshold 0 2000 (M.e_opt hx7z hg) _ (H.give (A := []) rfl)).mono fun v_ w_ ⟨y_, hr_, hv_, H_⟩ => by subst hr_; exact ⟨hv_, H.via H_⟩) ?_
 intro w8z H
 refine g_val ((r2 == 0) && !(!r3)) (gy_gf rfl rfl) (fun hg => x_not (b := r4) (gd_of (c := ((r2 == 0) && !(!r3))) hg (B r4))) ?_
 refine g_val (r2 == 0) (gy_t rfl) (fun hg => x_por (b := !r3) (r := !r4) (gd_of (c := r2 == 0) hg (B (!r3))) rfl (fun hb => gd_of (c := ((r2 == 0) && !(!r3))) (by first | exact hb | (rw [hb]; rfl) | simp_all) (B (!r4)))) ?_
 refine s_val (x_pand (b := r2 == 0) (r := ((!r3) || (!r4))) rfl (fun hb => gd_of (c := r2 == 0) (by first | exact hb | (rw [hb]; rfl) | simp_all) (B ((!r3) || (!r4)))) rfl) ?_
 refine s_nil ?_
 refine W.cond ((r2 == 0) && ((!r3) || (!r4))) rfl (fun c9z => ?_) (fun c9z => ?_)
 ·replace hM := M.e_t hM c9z
  refine W.region rfl ?_
  refine s_val (x_as (v := I 4) rfl) ?_
  refine s_nil ?_
  refine W.seq ?_
  refine W.region rfl ?_
  refine s_val (x_mv (v := I 4) rfl) ?_
  refine s_val (x_as (v := I 4) rfl) ?_
  refine s_nil ?_
  refine W.ret ?_
  have hr_ := M.e_pure hM
  exact ⟨_, resE_tmp rfl, ⟨4, hr_, rfl, H⟩⟩
 replace hM := M.e_f hM c9z
 refine W.skip ?_
 refine W.seq ?_
 refine W.region rfl ?_
 refine s_val (x_mv (v := I r2) rfl) ?_
 refine s_val (x_as (v := I r2) rfl) ?_
 refine s_nil ?_
 refine W.ret ?_
 have hr_ := M.e_pure hM
 exact ⟨_, resE_tmp rfl, ⟨r2, hr_, rfl, H⟩⟩

def m_cmp_isNaN_int (x : Int) : M Bool :=
  M.pure (x != x)
theorem cmp_isNaN_int_ok {R : List Chunk}  (x : Int)  {r : Bool} (hM : (m_cmp_isNaN_int x).Ends r) (w : World) (H : St w w [] R) : Ret Try.prog 96 #[I x] w fun v w' => ∃ (y0 : Bool), y0 = r /\ v = B y0 /\ St w w' [] R := by
 refine ret_of_W Try.func96 rfl rfl rfl ?_
 refine W.seq ?_
 refine W.region rfl ?_
 refine s_val (x_as (v := B false) rfl) ?_
 refine s_nil ?_
 refine W.seq ?_
 refine W.region rfl ?_
 refine s_val (x_mv (v := I x) rfl) ?_
 refine s_val (x_mv (v := I x) rfl) ?_
 refine s_val (x_cmp (kd := .i64) (a := x) (b := x) (r := x != x) rfl rfl rfl) ?_
 refine s_val (x_as (v := B (x != x)) rfl) ?_
 refine s_nil ?_
 refine W.ret ?_
 have hr_ := M.e_pure hM
 exact ⟨_, resE_tmp rfl, ⟨(x != x), hr_, rfl, H⟩⟩

def m_cmp_Compare_int (x : Int) (y : Int) : M Int :=
  M.bind (m_cmp_isNaN_int x) fun r2 =>
  M.bind (m_cmp_isNaN_int y) fun r3 =>
  bif r2 then (
  bif r3 then (
  M.pure 0)
  else (
  M.pure (-1)))
  else (
  bif r3 then (
  M.pure 1)
  else (
  bif decide (x < y) then (
  M.pure (-1))
  else (
  bif decide (y < x) then (
  M.pure 1)
  else (
  M.pure 0))))
theorem cmp_Compare_int_ok {R : List Chunk}  (x : Int) (y : Int)  {r : Int} (hM : (m_cmp_Compare_int x y).Ends r) (w : World) (H : St w w [] R) : Ret Try.prog 78 #[I x, I y] w fun v w' => ∃ (y0 : Int), y0 = r /\ v = I y0 /\ St w w' [] R := by
 refine ret_of_W Try.func78 rfl rfl rfl ?_
 refine W.seq ?_
 refine W.region rfl ?_
 refine s_val (x_as (v := I 0) rfl) ?_
 refine s_nil ?_
 refine W.seq ?_
 refine W.region rfl ?_
 refine s_val (x_mv (v := I x) rfl) ?_
 obtain ⟨r2z, hx1z, hM⟩ := M.e_bind hM
 refine s_call cf96 [I x] rfl (cmp_isNaN_int_ok x hx1z _ (St.give (T := []) H rfl)) ?_
 rintro vq w3z ⟨r2, hr4z, hvq, H2_⟩
 subst hr4z
 subst vq
 try dsimp only at hM
 replace H : St w w3z [] R := H.back H2_ rfl
 clear H2_
 refine s_val (x_as (v := B r2) rfl) ?_
 refine s_nil ?_
 refine W.seq ?_
 refine W.region rfl ?_
 refine s_val (x_mv (v := I y) rfl) ?_
 obtain ⟨r6z, hx5z, hM⟩ := M.e_bind hM
 refine s_call cf96 [I y] rfl (cmp_isNaN_int_ok y hx5z _ (St.give (T := []) H rfl)) ?_
 rintro vq w7z ⟨r3, hr8z, hvq, H2_⟩
 subst hr8z
 subst vq
 try dsimp only at hM
 replace H : St w w7z [] R := H.back H2_ rfl
 clear H2_
 refine s_val (x_as (v := B r3) rfl) ?_
 refine s_nil ?_
 refine W.seq ?_
 refine W.seq ?_
 refine W.region rfl ?_
 refine s_val (x_mv (v := B r2) rfl) ?_
 refine s_nil ?_
 refine W.cond r2 rfl (fun c9z => ?_) (fun c9z => ?_)
 ·replace hM := M.e_t hM c9z
  refine W.seq ?_
  refine W.seq ?_
  refine W.region rfl ?_
  refine s_val (x_mv (v := B r3) rfl) ?_
  refine s_nil ?_
  refine W.cond r3 rfl (fun c10z => ?_) (fun c10z => ?_)
  ·replace hM := M.e_t hM c10z
   refine W.seq ?_
   refine W.region rfl ?_
   refine s_val (x_as (v := I 0) rfl) ?_
   refine s_nil ?_
   refine W.ret ?_
   have hr_ := M.e_pure hM
   exact ⟨_, resE_tmp rfl, ⟨0, hr_, rfl, H⟩⟩
  replace hM := M.e_f hM c10z
  refine W.skip ?_
  refine W.seq ?_
  refine W.region rfl ?_
  refine s_val (x_as (v := I (-1)) rfl) ?_
  refine s_nil ?_
  refine W.ret ?_
  have hr_ := M.e_pure hM
  exact ⟨_, resE_tmp rfl, ⟨(-1), hr_, rfl, H⟩⟩
 replace hM := M.e_f hM c9z
 refine W.skip ?_
 refine W.seq ?_
 refine W.seq ?_
 refine W.region rfl ?_
 refine s_val (x_mv (v := B r3) rfl) ?_
 refine s_nil ?_
 refine W.cond r3 rfl (fun c11z => ?_) (fun c11z => ?_)
 ·replace hM := M.e_t hM c11z
  refine W.seq ?_
  refine W.region rfl ?_
  refine s_val (x_as (v := I 1) rfl) ?_
  refine s_nil ?_
  refine W.ret ?_
  have hr_ := M.e_pure hM
  exact ⟨_, resE_tmp rfl, ⟨1, hr_, rfl, H⟩⟩
 replace hM := M.e_f hM c11z
 refine W.skip ?_
 refine W.seq ?_
 refine W.seq ?_
 refine W.region rfl ?_
 refine s_val (x_mv (v := I x) rfl) ?_
 refine s_val (x_mv (v := I y) rfl) ?_
 refine s_val (x_cmp (kd := .i64) (a := x) (b := y) (r := decide (x < y)) rfl rfl rfl) ?_
 refine s_nil ?_
 refine W.cond (decide (x < y)) rfl (fun c12z => ?_) (fun c12z => ?_)
 ·replace hM := M.e_t hM c12z
  simp only [decide_eq_true_eq, decide_eq_false_iff_not, beq_iff_eq, bne_iff_ne, beq_eq_false_iff_ne, bne_eq_false_iff_eq, ne_eq, Decidable.not_not] at c12z
  refine W.seq ?_
  refine W.region rfl ?_
  refine s_val (x_as (v := I (-1)) rfl) ?_
  refine s_nil ?_
  refine W.ret ?_
  have hr_ := M.e_pure hM
  exact ⟨_, resE_tmp rfl, ⟨(-1), hr_, rfl, H⟩⟩
 replace hM := M.e_f hM c12z
 simp only [decide_eq_true_eq, decide_eq_false_iff_not, beq_iff_eq, bne_iff_ne, beq_eq_false_iff_ne, bne_eq_false_iff_eq, ne_eq, Decidable.not_not] at c12z
 refine W.skip ?_
 refine W.seq ?_
 refine W.seq ?_
 refine W.region rfl ?_
 refine s_val (x_mv (v := I x) rfl) ?_
 refine s_val (x_mv (v := I y) rfl) ?_
 refine s_val (x_cmp (kd := .i64) (a := x) (b := y) (r := decide (y < x)) rfl rfl rfl) ?_
 refine s_nil ?_
 refine W.cond (decide (y < x)) rfl (fun c13z => ?_) (fun c13z => ?_)
 ·replace hM := M.e_t hM c13z
  simp only [decide_eq_true_eq, decide_eq_false_iff_not, beq_iff_eq, bne_iff_ne, beq_eq_false_iff_ne, bne_eq_false_iff_eq, ne_eq, Decidable.not_not] at c13z
  refine W.seq ?_
  refine W.region rfl ?_
  refine s_val (x_as (v := I 1) rfl) ?_
  refine s_nil ?_
  refine W.ret ?_
  have hr_ := M.e_pure hM
  exact ⟨_, resE_tmp rfl, ⟨1, hr_, rfl, H⟩⟩
 replace hM := M.e_f hM c13z
 simp only [decide_eq_true_eq, decide_eq_false_iff_not, beq_iff_eq, bne_iff_ne, beq_eq_false_iff_ne, bne_eq_false_iff_eq, ne_eq, Decidable.not_not] at c13z
 refine W.skip ?_
 refine W.seq ?_
 refine W.region rfl ?_
 refine s_val (x_as (v := I 0) rfl) ?_
 refine s_nil ?_
 refine W.ret ?_
 have hr_ := M.e_pure hM
 exact ⟨_, resE_tmp rfl, ⟨0, hr_, rfl, H⟩⟩

def zbw (p : Pk) (day : Int) : M Int :=
  M.bind (m_cmp_Compare_int p.day day) fun r2 =>
  M.pure r2
theorem zbZ {R : List Chunk}  (p : Pk) (day : Int)  {r : Int} (hM : (zbw p day).Ends r) (w : World) (H : St w w [] R) : Ret Try.prog 77 #[.agg #[I p.day, I p.stage], I day] w fun v w' => ∃ (y0 : Int), y0 = r /\ v = I y0 /\ St w w' [] R := by
 refine ret_of_W Try.func77 rfl rfl rfl ?_
 refine W.seq ?_
 refine W.region rfl ?_
 refine t_box (v := .agg #[I p.day, I p.stage]) (cs := [I p.day, I p.stage]) H rfl rfl ?_
 intro b_1 w1z H
 refine s_val (x_as (v := I 0) rfl) ?_
 refine s_nil ?_
 refine W.seq ?_
 refine W.region rfl ?_
 refine s_val (x_fa (a := .pointer (some ⟨b_1, 0, none⟩)) (v := .pointer (some ⟨b_1, 0, none⟩)) rfl (fa_blk (o := 0) Fd72_0 Sz3)) ?_
 refine s_val (x_ld (p := .pointer (some ⟨b_1, 0, none⟩)) (v := I p.day) rfl (ldb_sc Sc3 (H.blk (k := 0) rfl) rfl)) ?_
 refine s_val (x_mv (v := I day) rfl) ?_
 obtain ⟨r3z, hx2z, hM⟩ := M.e_bind hM
 refine s_call cf78 [I p.day, I day] rfl (cmp_Compare_int_ok p.day day hx2z _ (St.give (T := [cBlk b_1 [I p.day, I p.stage] 72]) H rfl)) ?_
 rintro vq w4z ⟨r2, hr5z, hvq, H2_⟩
 subst hr5z
 subst vq
 try dsimp only at hM
 replace H : St w w4z [cBlk b_1 [I p.day, I p.stage] 72] R := H.back H2_ rfl
 clear H2_
 refine s_val (x_as (v := I r2) rfl) ?_
 refine s_nil ?_
 refine W.ret ?_
 have hr_ := M.e_pure hM
 exact ⟨_, resE_tmp rfl, ⟨r2, hr_, rfl, (H.pick [] (by decide) rfl)⟩⟩

def zbv (x : List Pk) (target : Int) : (Int × Int) -> M ((Int × Int) ⊕ Int) := fun (i, j) =>
  bif decide (i < j) then (
  M.grd (decide ((-9223372036854775808 : Int) <= (i + j)) && decide ((i + j) <= (9223372036854775807 : Int))) <|
  M.grd (decide ((0 : Int) <= (i + j)) && decide ((i + j) <= (9223372036854775807 : Int))) <|
  M.grd (decide ((0 : Int) <= ((i + j) / 2)) && decide (((i + j) / 2) <= (9223372036854775807 : Int))) <|
  M.grd (decide ((0 : Int) <= ((i + j) / 2)) && decide (((i + j) / 2) < (x.length : Int))) <|
  M.bind (zbw (x.getD (Int.toNat ((i + j) / 2)) default) target) fun r2 =>
  bif decide (r2 < 0) then (
  M.pure (.inl (((i + j) / 2) + 1, j)))
  else (
  M.pure (.inl (i, (i + j) / 2))))
  else (
  M.pure (.inr i))
def zbS (x : List Pk) (target : Int) : M (Int × Bool) :=
  M.bind (M.iter (zbv x target) (0, (x.length : Int))) fun i2 =>
  M.grd ((!(decide (i2 < (x.length : Int))) || (decide ((0 : Int) <= i2) && decide (i2 < (x.length : Int))))) <|
  M.bind (M.opt (decide (i2 < (x.length : Int))) (zbw (x.getD (Int.toNat i2) default) target) 0) fun r3 =>
  M.pure (i2, ((decide (i2 < (x.length : Int))) && (r3 == 0)))
theorem zcj {R : List Chunk} {C_x : Cells} {v_x : Value} (x : List Pk) (target : Int) (hC_x : Reads R C_x) (hs_x : Sl C_x v_x x) {r : (Int × Bool)} (hM : (zbS x target).Ends r) (w : World) (H : St w w [] R) : Ret Try.prog 76 #[v_x, I target, .func (.func 77) #[] #[]] w fun v w' => ∃ (y0 : Int) (y1 : Bool), (y0, y1) = r /\ v = .tuple #[I y0, B y1] /\ St w w' [] R := by
 refine ret_of_W Try.func76 rfl rfl rfl ?_
 refine W.seq ?_
 refine W.region rfl ?_
 refine s_val (x_as (v := I 0) rfl) ?_
 refine s_val (x_as (v := B false) rfl) ?_
 refine s_nil ?_
 refine W.seq ?_
 refine W.region rfl ?_
 refine s_val (x_mv (v := v_x) rfl) ?_
 have hl1z := (hs_x).len_le
 refine s_val (x_lenS T69.und rfl hs_x) ?_
 refine s_val (x_as (v := I (x.length : Int)) rfl) ?_
 refine s_nil ?_
 refine W.seq ?_
 refine W.region rfl ?_
 refine s_val (x_mv (v := I (x.length : Int)) rfl) ?_
 refine s_val (x_as (v := I 0) rfl) ?_
 refine s_val (x_as (v := I (x.length : Int)) rfl) ?_
 refine s_nil ?_
 refine W.seq ?_
 refine W.block ?_
 obtain ⟨ex2z, hi3z, hk4z⟩ := M.e_bind hM
 obtain ⟨m0_, hi3z⟩ := M.e_iter hi3z
 refine W.loop (fun m σ W => ∃ (i : Int) (j : Int) (ρ : Env), σ = upds ρ [(0, v_x), (1, I target), (2, .func (.func 77) #[] #[]), (8, I (x.length : Int)), (9, I i), (10, I j)] /\ M.iterN (zbv x target) m (i, j) = some ex2z /\ St w W [] R) ?_ ?_
 ·exact ⟨_, 0, (x.length : Int), _, upds_of _ _ ⟨rfl, rfl, rfl, rfl, rfl, rfl, trivial⟩, hi3z, H⟩
 rintro m7z σ w5z ⟨i, j, ρ, rfl, hI6z, H⟩
 obtain ⟨m8z, lt9z, x10z, hM, hN11z⟩ := M.e_iterN hI6z
 simp only [zbv] at hM
 clear hI6z
 refine W.seq ?_
 refine W.seq ?_
 refine W.region rfl ?_
 refine s_val (x_mv (v := I i) rfl) ?_
 refine s_val (x_mv (v := I j) rfl) ?_
 refine s_val (x_cmp (kd := .i64) (a := i) (b := j) (r := decide (i < j)) rfl rfl rfl) ?_
 refine s_nil ?_
 refine W.cond (decide (i < j)) rfl (fun c12z => ?_) (fun c12z => ?_)
 ·replace hM := M.e_t hM c12z
  simp only [decide_eq_true_eq, decide_eq_false_iff_not, beq_iff_eq, bne_iff_ne, beq_eq_false_iff_ne, bne_eq_false_iff_eq, ne_eq, Decidable.not_not] at c12z
  refine W.skip ?_
  refine W.block ?_
  refine W.seq ?_
  refine W.region rfl ?_
  refine s_val (x_mv (v := I i) rfl) ?_
  refine s_val (x_mv (v := I j) rfl) ?_
  obtain ⟨sd13z, hM⟩ := M.e_grd hM
  simp only [Bool.and_eq_true, decide_eq_true_eq] at sd13z
  refine s_val (x_ari (a := i) (b := j) (r := i + j) rfl rfl rfl (by omega)) ?_
  obtain ⟨sd14z, hM⟩ := M.e_grd hM
  simp only [Bool.and_eq_true, decide_eq_true_eq] at sd14z
  refine s_val (x_convU (kd := .i64) (a := i + j) Try.underlying3 Try.underlying152 rfl (by omega)) ?_
  refine s_val (x_ushr1 (a := i + j) rfl rfl) ?_
  obtain ⟨sd15z, hM⟩ := M.e_grd hM
  simp only [Bool.and_eq_true, decide_eq_true_eq] at sd15z
  refine s_val (x_conv64 (kd := .u64) (a := (i + j) / 2) Try.underlying152 Try.underlying3 rfl (by omega)) ?_
  refine s_val (x_as (v := I ((i + j) / 2)) rfl) ?_
  refine s_nil ?_
  refine W.seq ?_
  refine W.region rfl ?_
  refine s_val (x_mv (v := .func (.func 77) #[] #[]) rfl) ?_
  refine s_val (x_mv (v := v_x) rfl) ?_
  refine s_val (x_mv (v := I ((i + j) / 2)) rfl) ?_
  obtain ⟨sd16z, hM⟩ := M.e_grd hM
  simp only [Bool.and_eq_true, decide_eq_true_eq] at sd16z
  refine s_val (x_ix (a := v_x) (b := I ((i + j) / 2)) (v := vat v_x 2 (Int.toNat ((i + j) / 2))) rfl rfl (Sl.ix (α := Pk) T69.und T69.size hs_x (by omega) (by omega))) ?_
  refine s_val (x_ld (p := vat v_x 2 (Int.toNat ((i + j) / 2))) (v := .agg #[I ((x.getD (Int.toNat ((i + j) / 2)) default).day), I ((x.getD (Int.toNat ((i + j) / 2)) default).stage)]) rfl (ld_ag Ag72 Sz72 (At.mono (Pk_atA hs_x (i := (i + j) / 2) (by omega) (by omega)) (hC_x.at H)))) ?_
  refine s_val (x_mv (v := I target) rfl) ?_
  obtain ⟨r18z, hx17z, hM⟩ := M.e_bind hM
  refine s_callv (f := 77) rfl cf77 [.agg #[I ((x.getD (Int.toNat ((i + j) / 2)) default).day), I ((x.getD (Int.toNat ((i + j) / 2)) default).stage)], I target] rfl (zbZ (x.getD (Int.toNat ((i + j) / 2)) default) target hx17z _ (St.give (T := []) H rfl)) ?_
  rintro vq w19z ⟨r2, hr20z, hvq, H2_⟩
  subst hr20z
  subst vq
  try dsimp only at hM
  replace H : St w w19z [] R := H.back H2_ rfl
  clear H2_
  refine s_val (x_cmp (kd := .i64) (a := r2) (b := 0) (r := decide (r2 < 0)) rfl rfl rfl) ?_
  refine s_nil ?_
  refine W.cond (decide (r2 < 0)) rfl (fun c21z => ?_) (fun c21z => ?_)
  ·replace hM := M.e_t hM c21z
   simp only [decide_eq_true_eq, decide_eq_false_iff_not, beq_iff_eq, bne_iff_ne, beq_eq_false_iff_ne, bne_eq_false_iff_eq, ne_eq, Decidable.not_not] at c21z
   refine W.region rfl ?_
   refine s_val (x_mv (v := I ((i + j) / 2)) rfl) ?_
   refine s_val (x_ari (a := (i + j) / 2) (b := 1) (r := ((i + j) / 2) + 1) rfl rfl rfl (by omega)) ?_
   refine s_val (x_as (v := I (((i + j) / 2) + 1)) rfl) ?_
   refine s_nil ?_
   exact ⟨m8z, lt9z, ((i + j) / 2) + 1, j, _, upds_of _ _ ⟨rfl, rfl, rfl, rfl, rfl, rfl, trivial⟩, M.e_inl hM hN11z, H⟩
  replace hM := M.e_f hM c21z
  simp only [decide_eq_true_eq, decide_eq_false_iff_not, beq_iff_eq, bne_iff_ne, beq_eq_false_iff_ne, bne_eq_false_iff_eq, ne_eq, Decidable.not_not] at c21z
  refine W.region rfl ?_
  refine s_val (x_mv (v := I ((i + j) / 2)) rfl) ?_
  refine s_val (x_as (v := I ((i + j) / 2)) rfl) ?_
  refine s_nil ?_
  exact ⟨m8z, lt9z, i, (i + j) / 2, _, upds_of _ _ ⟨rfl, rfl, rfl, rfl, rfl, rfl, trivial⟩, M.e_inl hM hN11z, H⟩
 replace hM := M.e_f hM c12z
 simp only [decide_eq_true_eq, decide_eq_false_iff_not, beq_iff_eq, bne_iff_ne, beq_eq_false_iff_ne, bne_eq_false_iff_eq, ne_eq, Decidable.not_not] at c12z
 refine W.exit ?_
 have hX22z := M.e_inr hM hN11z
 subst hX22z
 replace hM := hk4z
 try dsimp only at hM
 refine W.seq ?_
 refine W.region rfl ?_
 refine s_val (x_mv (v := I i) rfl) ?_
 refine s_val (x_mv (v := I i) rfl) ?_
 refine s_val (x_mv (v := I (x.length : Int)) rfl) ?_
 refine s_val (x_cmp (kd := .i64) (a := i) (b := (x.length : Int)) (r := decide (i < (x.length : Int))) rfl rfl rfl) ?_
 refine s_val (x_mv (v := B (decide (i < (x.length : Int)))) rfl) ?_
 refine g_val (decide (i < (x.length : Int))) (gy_t rfl) (fun hg => x_mv (v := .func (.func 77) #[] #[]) rfl) ?_
 refine g_val (decide (i < (x.length : Int))) (gy_t rfl) (fun hg => x_mv (v := v_x) rfl) ?_
 refine g_val (decide (i < (x.length : Int))) (gy_t rfl) (fun hg => x_mv (v := I i) rfl) ?_
 obtain ⟨sd23z, hM⟩ := M.e_grd hM
 replace sd23z := M.imp_of sd23z
 simp only [Bool.and_eq_true, decide_eq_true_eq] at sd23z
 refine g_val (decide (i < (x.length : Int))) (gy_t rfl) (fun hg => x_ix (a := v_x) (b := I i) (v := vat v_x 2 (Int.toNat i)) (gd_of (c := decide (i < (x.length : Int))) hg (v_x)) (gd_of (c := decide (i < (x.length : Int))) hg (I i)) (Sl.ix (α := Pk) T69.und T69.size hs_x (by have h1_ := sd23z.resolve_left (by rw [hg]; decide); first | exact h1_ | exact h1_.1 | exact h1_.2 | omega | (have hx_ := hg; simp at hx_; omega)) (by have h1_ := sd23z.resolve_left (by rw [hg]; decide); first | exact h1_ | exact h1_.1 | exact h1_.2 | omega | (have hx_ := hg; simp at hx_; omega)))) ?_
 refine g_val (decide (i < (x.length : Int))) (gy_t rfl) (fun hg => x_ld (p := vat v_x 2 (Int.toNat i)) (v := .agg #[I ((x.getD (Int.toNat i) default).day), I ((x.getD (Int.toNat i) default).stage)]) (gd_of (c := decide (i < (x.length : Int))) hg (vat v_x 2 (Int.toNat i))) (ld_ag Ag72 Sz72 (At.mono (Pk_atA hs_x (i := i) (by have h1_ := sd23z.resolve_left (by rw [hg]; decide); first | exact h1_ | exact h1_.1 | exact h1_.2 | omega | (have hx_ := hg; simp at hx_; omega)) (by have h1_ := sd23z.resolve_left (by rw [hg]; decide); first | exact h1_ | exact h1_.1 | exact h1_.2 | omega | (have hx_ := hg; simp at hx_; omega))) (hC_x.at H)))) ?_
 refine g_val (decide (i < (x.length : Int))) (gy_t rfl) (fun hg => x_mv (v := I target) rfl) ?_
 obtain ⟨r3, hx24z, hM⟩ := M.e_bind hM
 refine t_gcallv (cap := []) (decide (i < (x.length : Int))) (gy_t rfl) cf77 (fun hg => (gd_of (c := decide (i < (x.length : Int))) hg (.func (.func 77) #[] #[]))) (I r3) (fun _ => [.agg #[I ((x.getD (Int.toNat i) default).day), I ((x.getD (Int.toNat i) default).stage)], I target]) (fun hg => lst2 (gd_of (c := decide (i < (x.length : Int))) hg (.agg #[I ((x.getD (Int.toNat i) default).day), I ((x.getD (Int.toNat i) default).stage)])) (gd_of (c := decide (i < (x.length : Int))) hg (I target))) H (fun hg => (zbZ (x.getD (Int.toNat i) default) target (M.e_opt hx24z hg) _ (H.give (A := []) rfl)).mono fun v_ w_ ⟨y_, hr_, hv_, H_⟩ => by subst hr_; exact ⟨hv_, H.via H_⟩) ?_
 intro w25z H
 refine g_val (decide (i < (x.length : Int))) (gy_t rfl) (fun hg => x_cmp (kd := .i64) (a := r3) (b := 0) (r := r3 == 0) (gd_of (c := decide (i < (x.length : Int))) hg (I r3)) rfl rfl) ?_
 refine s_val (x_pand (b := decide (i < (x.length : Int))) (r := r3 == 0) rfl (fun hb => gd_of (c := decide (i < (x.length : Int))) (by first | exact hb | (rw [hb]; rfl) | simp_all) (B (r3 == 0))) rfl) ?_
 refine s_val (x_as (v := I i) rfl) ?_
 refine s_val (x_as (v := B ((decide (i < (x.length : Int))) && (r3 == 0))) rfl) ?_
 refine s_nil ?_
 refine W.ret ?_
 have hr_ := M.e_pure hM
 exact ⟨_, resE_tmp2 rfl, ⟨i, ((decide (i < (x.length : Int))) && (r3 == 0)), hr_, rfl, H⟩⟩

def zbF (i : Int) (k02 : List Pk) (k12 : Int) : M Int :=
  M.grd (decide ((0 : Int) <= i) && decide (i < (k02.length : Int))) <|
  M.grd (decide ((-9223372036854775808 : Int) <= (((k02.getD (Int.toNat i) default).day) + k12)) && decide ((((k02.getD (Int.toNat i) default).day) + k12) <= (9223372036854775807 : Int))) <|
  M.bind (zbS k02 (((k02.getD (Int.toNat i) default).day) + k12)) fun (r0, r1) =>
  M.pure r0
theorem zb8 {R : List Chunk} {b_k0 : Nat} {C_k02 : Cells} {v_k02 : Value} {b_k1 : Nat} (i : Int) (k02 : List Pk) (k12 : Int) (hC_k02 : Reads R C_k02) (hs_k02 : Sl C_k02 v_k02 k02) (h_b_k0 : Has R (cBlk b_k0 [v_k02] 69)) (h_b_k1 : Has R (cBlk b_k1 [I k12] 3)) {r : Int} (hM : (zbF i k02 k12).Ends r) (w : World) (H : St w w [] R) : Ret Try.prog 75 #[I i, .pointer (some ⟨b_k0, 0, none⟩), .pointer (some ⟨b_k1, 0, none⟩)] w fun v w' => ∃ (y0 : Int), y0 = r /\ v = I y0 /\ St w w' [] R := by
 refine ret_of_W Try.func75 rfl rfl rfl ?_
 refine W.seq ?_
 refine W.region rfl ?_
 refine s_val (x_as (v := I 0) rfl) ?_
 refine s_nil ?_
 refine W.seq ?_
 refine W.draw (fun W => St w W [] R) [(0, true), (1, true), (2, true), (3, true), (4, true), (5, true), (6, true), (7, true), (8, false), (9, true), (10, true), (11, true), (12, true), (13, true)] mixed (by decide +kernel) rfl ?_
 intro w1z hx_
 replace H : St w w1z [] R := H.ext hx_
 clear hx_
 refine ⟨(H.pick [] (by decide) rfl), ?_⟩
 refine d_q rfl (fun w' H => x_ld (p := .pointer (some ⟨b_k0, 0, none⟩)) (v := v_k02) rfl (ldb_sc Sc69 (h_b_k0.blk H) rfl)) ?_
 refine d_q rfl (fun w' H => x_ld (p := .pointer (some ⟨b_k0, 0, none⟩)) (v := v_k02) rfl (ldb_sc Sc69 (h_b_k0.blk H) rfl)) ?_
 refine d_q rfl (fun w' H => x_mv (v := I i) rfl) ?_
 obtain ⟨sd2z, hM⟩ := M.e_grd hM
 simp only [Bool.and_eq_true, decide_eq_true_eq] at sd2z
 refine d_q rfl (fun w' H => x_ix (a := v_k02) (b := I i) (v := vat v_k02 2 (Int.toNat i)) rfl rfl (Sl.ix (α := Pk) T69.und T69.size hs_k02 (by omega) (by omega))) ?_
 refine d_q rfl (fun w' H => x_fa (a := vat v_k02 2 (Int.toNat i)) (v := fat (vat v_k02 2 (Int.toNat i)) 0) rfl (fa_pl Fd72_0 Sz3 (Sl.pl (i := i) hs_k02 (by omega) (by omega)))) ?_
 refine d_q rfl (fun w' H => x_ld (p := fat (vat v_k02 2 (Int.toNat i)) 0) (v := I ((k02.getD (Int.toNat i) default).day)) rfl (ld_sc Sc3 (At.mono (Pk_at0 hs_k02 (i := i) (by omega) (by omega)) (hC_k02.at H)))) ?_
 refine d_q rfl (fun w' H => x_ld (p := .pointer (some ⟨b_k1, 0, none⟩)) (v := I k12) rfl (ldb_sc Sc3 (h_b_k1.blk H) rfl)) ?_
 obtain ⟨sd3z, hM⟩ := M.e_grd hM
 simp only [Bool.and_eq_true, decide_eq_true_eq] at sd3z
 refine d_q rfl (fun w' H => x_ari (a := (k02.getD (Int.toNat i) default).day) (b := k12) (r := ((k02.getD (Int.toNat i) default).day) + k12) rfl rfl rfl (by omega)) ?_
 refine d_l rfl ?_
 obtain ⟨r5z, hx4z, hM⟩ := M.e_bind hM
 refine s_call cf76 [v_k02, I (((k02.getD (Int.toNat i) default).day) + k12), .func (.func 77) #[] #[]] rfl (zcj k02 (((k02.getD (Int.toNat i) default).day) + k12) (hC_k02.app _) hs_k02 hx4z _ (St.give (T := []) H rfl)) ?_
 rintro vq w6z ⟨r0, r1, hr7z, hvq, H2_⟩
 subst hr7z
 subst vq
 try dsimp only at hM
 replace H : St w w6z [] R := H.back H2_ rfl
 clear H2_
 refine s_nil ⟨(H.pick [] (by decide) rfl), ?_⟩
 refine d_q rfl (fun w' H => x_mv (v := .tuple #[I r0, B r1]) rfl) ?_
 refine d_q rfl (fun w' H => x_ext (vs := [I r0, B r1]) (v := I r0) rfl rfl) ?_
 refine d_q rfl (fun w' H => x_ext (vs := [I r0, B r1]) (v := B r1) rfl rfl) ?_
 refine d_q rfl (fun w' H => x_as (v := I r0) rfl) ?_
 refine d_q rfl (fun w' H => x_as (v := B r1) rfl) ?_
 refine d_nil ?_
 refine W.seq ?_
 refine W.region rfl ?_
 refine s_val (x_mv (v := I r0) rfl) ?_
 refine s_val (x_as (v := I r0) rfl) ?_
 refine s_nil ?_
 refine W.ret ?_
 have hr_ := M.e_pure hM
 exact ⟨_, resE_tmp rfl, ⟨r0, hr_, rfl, H⟩⟩

def zby (i : Int) (k02 : List Pk) (k12 : Int) (k20 : List Int) (k3202 : List Pk) (k3212 : Int) : M Int :=
  M.grd (decide ((0 : Int) <= i) && decide (i < (k02.length : Int))) <|
  M.grd (decide ((-9223372036854775808 : Int) <= (((k02.getD (Int.toNat i) default).stage) - k12)) && decide ((((k02.getD (Int.toNat i) default).stage) - k12) <= (9223372036854775807 : Int))) <|
  M.bind (zbF i k3202 k3212) fun r2 =>
  M.grd (decide ((0 : Int) <= r2) && decide (r2 < (41 : Int))) <|
  M.grd (decide ((-9223372036854775808 : Int) <= ((((k02.getD (Int.toNat i) default).stage) - k12) + (k20.getD (Int.toNat r2) 0))) && decide (((((k02.getD (Int.toNat i) default).stage) - k12) + (k20.getD (Int.toNat r2) 0)) <= (9223372036854775807 : Int))) <|
  M.pure ((((k02.getD (Int.toNat i) default).stage) - k12) + (k20.getD (Int.toNat r2) 0))
theorem zbj {R : List Chunk} {b_k0 : Nat} {C_k02 : Cells} {v_k02 : Value} {b_k1 : Nat} {b_k2 : Nat} {b_k3 : Nat} {b_k320 : Nat} {C_k3202 : Cells} {v_k3202 : Value} {b_k321 : Nat} (i : Int) (k02 : List Pk) (k12 : Int) (k20 : List Int) (k3202 : List Pk) (k3212 : Int) (hC_k02 : Reads R C_k02) (hs_k02 : Sl C_k02 v_k02 k02) (h_b_k0 : Has R (cBlk b_k0 [v_k02] 69)) (h_b_k1 : Has R (cBlk b_k1 [I k12] 3)) (hl_k20 : k20.length = 41) (h_b_k2 : Has R (cBlk b_k2 (List.flatten [[], encF (α := Int) k20]) 140)) (hC_k3202 : Reads R C_k3202) (hs_k3202 : Sl C_k3202 v_k3202 k3202) (h_b_k320 : Has R (cBlk b_k320 [v_k3202] 69)) (h_b_k321 : Has R (cBlk b_k321 [I k3212] 3)) (h_b_k3 : Has R (cBlk b_k3 [.func (.func 75) #[] #[.pointer (some ⟨b_k320, 0, none⟩), .pointer (some ⟨b_k321, 0, none⟩)]] 33)) {r : Int} (hM : (zby i k02 k12 k20 k3202 k3212).Ends r) (w : World) (H : St w w [] R) : Ret Try.prog 79 #[I i, .pointer (some ⟨b_k0, 0, none⟩), .pointer (some ⟨b_k1, 0, none⟩), .pointer (some ⟨b_k2, 0, none⟩), .pointer (some ⟨b_k3, 0, none⟩)] w fun v w' => ∃ (y0 : Int), y0 = r /\ v = I y0 /\ St w w' [] R := by
 refine ret_of_W Try.func79 rfl rfl rfl ?_
 refine W.seq ?_
 refine W.region rfl ?_
 refine s_val (x_as (v := I 0) rfl) ?_
 refine s_nil ?_
 refine W.seq ?_
 refine W.draw (fun W => St w W [] R) [(0, true), (1, true), (2, true), (3, true), (4, true), (5, true), (6, true), (7, true), (8, true), (9, false), (10, true), (11, true), (12, true), (13, true)] mixed (by decide +kernel) rfl ?_
 intro w1z hx_
 replace H : St w w1z [] R := H.ext hx_
 clear hx_
 refine ⟨(H.pick [] (by decide) rfl), ?_⟩
 refine d_q rfl (fun w' H => x_ld (p := .pointer (some ⟨b_k0, 0, none⟩)) (v := v_k02) rfl (ldb_sc Sc69 (h_b_k0.blk H) rfl)) ?_
 refine d_q rfl (fun w' H => x_mv (v := I i) rfl) ?_
 obtain ⟨sd2z, hM⟩ := M.e_grd hM
 simp only [Bool.and_eq_true, decide_eq_true_eq] at sd2z
 refine d_q rfl (fun w' H => x_ix (a := v_k02) (b := I i) (v := vat v_k02 2 (Int.toNat i)) rfl rfl (Sl.ix (α := Pk) T69.und T69.size hs_k02 (by omega) (by omega))) ?_
 refine d_q rfl (fun w' H => x_fa (a := vat v_k02 2 (Int.toNat i)) (v := fat (vat v_k02 2 (Int.toNat i)) 1) rfl (fa_pl Fd72_1 Sz3 (Sl.pl (i := i) hs_k02 (by omega) (by omega)))) ?_
 refine d_q rfl (fun w' H => x_ld (p := fat (vat v_k02 2 (Int.toNat i)) 1) (v := I ((k02.getD (Int.toNat i) default).stage)) rfl (ld_sc Sc3 (At.mono (Pk_at1 hs_k02 (i := i) (by omega) (by omega)) (hC_k02.at H)))) ?_
 refine d_q rfl (fun w' H => x_ld (p := .pointer (some ⟨b_k1, 0, none⟩)) (v := I k12) rfl (ldb_sc Sc3 (h_b_k1.blk H) rfl)) ?_
 obtain ⟨sd3z, hM⟩ := M.e_grd hM
 simp only [Bool.and_eq_true, decide_eq_true_eq] at sd3z
 refine d_q rfl (fun w' H => x_ari (a := (k02.getD (Int.toNat i) default).stage) (b := k12) (r := ((k02.getD (Int.toNat i) default).stage) - k12) rfl rfl rfl (by omega)) ?_
 refine d_q rfl (fun w' H => x_ld (p := .pointer (some ⟨b_k3, 0, none⟩)) (v := .func (.func 75) #[] #[.pointer (some ⟨b_k320, 0, none⟩), .pointer (some ⟨b_k321, 0, none⟩)]) rfl (ldb_sc Sc33 (h_b_k3.blk H) rfl)) ?_
 refine d_q rfl (fun w' H => x_mv (v := I i) rfl) ?_
 refine d_l rfl ?_
 obtain ⟨r5z, hx4z, hM⟩ := M.e_bind hM
 refine s_callv (f := 75) rfl cf75 [I i] rfl (zb8 i k3202 k3212 (hC_k3202.app _) hs_k3202 (h_b_k320.app _) (h_b_k321.app _) hx4z _ (St.give (T := []) H rfl)) ?_
 rintro vq w6z ⟨r2, hr7z, hvq, H2_⟩
 subst hr7z
 subst vq
 try dsimp only at hM
 replace H : St w w6z [] R := H.back H2_ rfl
 clear H2_
 refine s_nil ⟨(H.pick [] (by decide) rfl), ?_⟩
 obtain ⟨sd8z, hM⟩ := M.e_grd hM
 simp only [Bool.and_eq_true, decide_eq_true_eq] at sd8z
 refine d_q rfl (fun w' H => x_ix (a := .pointer (some ⟨b_k2, 0, none⟩)) (b := I r2) (v := .pointer (some ⟨b_k2, 0 + Int.toNat r2 * 1, none⟩)) rfl rfl (run_indexS Try.underlying140 Sz3 (by omega) (by omega))) ?_
 refine d_q rfl (fun w' H => x_ld (p := .pointer (some ⟨b_k2, 0 + Int.toNat r2 * 1, none⟩)) (v := I (k20.getD (Int.toNat r2) 0)) rfl (ldS (α := Int) (k := 1) (off := 0) (i := (Int.toNat r2)) (f := 0) (sz := 1) 0 Sc3 (h_b_k2.blk H) rfl (sgo1 rfl) rfl (by decide) (by have hl_ := hl_k20; omega) (by omega) rfl)) ?_
 obtain ⟨sd9z, hM⟩ := M.e_grd hM
 simp only [Bool.and_eq_true, decide_eq_true_eq] at sd9z
 refine d_q rfl (fun w' H => x_ari (a := ((k02.getD (Int.toNat i) default).stage) - k12) (b := k20.getD (Int.toNat r2) 0) (r := (((k02.getD (Int.toNat i) default).stage) - k12) + (k20.getD (Int.toNat r2) 0)) rfl rfl rfl (by omega)) ?_
 refine d_q rfl (fun w' H => x_as (v := I ((((k02.getD (Int.toNat i) default).stage) - k12) + (k20.getD (Int.toNat r2) 0))) rfl) ?_
 refine d_nil ?_
 refine W.ret ?_
 have hr_ := M.e_pure hM
 exact ⟨_, resE_tmp rfl, ⟨((((k02.getD (Int.toNat i) default).stage) - k12) + (k20.getD (Int.toNat r2) 0)), hr_, rfl, H⟩⟩

def zbN (l : List Int) : (Int × Nat) -> M ((Int × Nat) ⊕ Int) := fun (out, s) =>
  bif decide ((s : Int) < (l.length : Int)) then (
  M.grd (decide ((s : Int) < (l.length : Int))) <|
  M.pure (.inl (max out (l.getD s 0), s + 1)))
  else (
  M.pure (.inr out))
def zca (l : List Int) : M Int :=
  M.bind (M.iter (zbN l) (0, 0)) fun out2 =>
  M.pure out2
theorem zcb {R : List Chunk} {C_l : Cells} {v_l : Value} (l : List Int) (hC_l : Reads R C_l) (hs_l : Sl C_l v_l l) {r : Int} (hM : (zca l).Ends r) (w : World) (H : St w w [] R) : Ret Try.prog 80 #[v_l] w fun v w' => ∃ (y0 : Int), y0 = r /\ v = I y0 /\ St w w' [] R := by
 refine ret_of_W Try.func80 rfl rfl rfl ?_
 refine W.seq ?_
 refine W.region rfl ?_
 refine s_val (x_as (v := I 0) rfl) ?_
 refine s_nil ?_
 refine W.seq ?_
 refine W.region rfl ?_
 refine s_val (x_as (v := I 0) rfl) ?_
 refine s_nil ?_
 refine W.seq ?_
 refine W.seq ?_
 refine W.region rfl ?_
 refine s_val (x_mv (v := v_l) rfl) ?_
 have hl1z := (hs_l).len_le
 refine s_val (x_lenS T27.und rfl hs_l) ?_
 refine s_val (x_mv (v := I 0) rfl) ?_
 refine s_nil ?_
 refine W.block ?_
 obtain ⟨ex2z, hi3z, hk4z⟩ := M.e_bind hM
 obtain ⟨m0_, hi3z⟩ := M.e_iter hi3z
 refine W.loop (fun m σ W => ∃ (out : Int) (s : Nat) (ρ : Env), σ = upds ρ [(3, I out), (6, v_l), (7, I (l.length : Int)), (8, I (s : Int))] /\ M.iterN (zbN l) m (out, s) = some ex2z /\ St w W [] R) ?_ ?_
 ·exact ⟨_, 0, 0, _, upds_of _ _ ⟨rfl, rfl, rfl, rfl, trivial⟩, hi3z, H⟩
 rintro m7z σ w5z ⟨out, s, ρ, rfl, hI6z, H⟩
 obtain ⟨m8z, lt9z, x10z, hM, hN11z⟩ := M.e_iterN hI6z
 simp only [zbN] at hM
 clear hI6z
 refine W.seq ?_
 refine W.region rfl ?_
 refine s_val (x_cmp (kd := .i64) (a := (s : Int)) (b := (l.length : Int)) (r := decide ((s : Int) < (l.length : Int))) rfl rfl rfl) ?_
 refine s_nil ?_
 refine W.seq ?_
 refine W.cond (decide ((s : Int) < (l.length : Int))) rfl (fun c12z => ?_) (fun c12z => ?_)
 ·replace hM := M.e_t hM c12z
  simp only [decide_eq_true_eq, decide_eq_false_iff_not, beq_iff_eq, bne_iff_ne, beq_eq_false_iff_ne, bne_eq_false_iff_eq, ne_eq, Decidable.not_not] at c12z
  refine W.skip ?_
  refine W.seq ?_
  refine W.block ?_
  refine W.seq ?_
  refine W.region rfl ?_
  obtain ⟨sd13z, hM⟩ := M.e_grd hM
  simp only [Bool.and_eq_true, decide_eq_true_eq] at sd13z
  refine s_val (x_ix (a := v_l) (b := I (s : Int)) (v := vat v_l 1 (Int.toNat (s : Int))) rfl rfl (Sl.ix (α := Int) T27.und T27.size hs_l (by omega) (by omega))) ?_
  refine s_val (x_ld (p := vat v_l 1 (Int.toNat (s : Int))) (v := I (l.getD s 0)) rfl (ld_sc Sc3 (At.mono (Int_at hs_l (i := (s : Int)) (by omega) (by omega)) (hC_l.at H)))) ?_
  refine s_val (x_as (v := I (l.getD s 0)) rfl) ?_
  refine s_nil ?_
  refine W.region rfl ?_
  refine s_val (x_mv (v := I out) rfl) ?_
  refine s_val (x_mv (v := I (l.getD s 0)) rfl) ?_
  refine s_val (x_max (kd := .i64) (a := out) (b := l.getD s 0) rfl rfl) ?_
  refine s_val (x_as (v := I (max out (l.getD s 0))) rfl) ?_
  refine s_nil ?_
  refine W.region rfl ?_
  refine s_val (x_ari (a := (s : Int)) (b := 1) (r := (s : Int) + 1) rfl rfl rfl (by omega)) ?_
  refine s_val (x_mv (v := I ((s : Int) + 1)) rfl) ?_
  refine s_nil ?_
  exact ⟨m8z, lt9z, max out (l.getD s 0), s + 1, _, upds_of _ _ ⟨rfl, rfl, rfl, rfl, trivial⟩, M.e_inl hM hN11z, H⟩
 replace hM := M.e_f hM c12z
 simp only [decide_eq_true_eq, decide_eq_false_iff_not, beq_iff_eq, bne_iff_ne, beq_eq_false_iff_ne, bne_eq_false_iff_eq, ne_eq, Decidable.not_not] at c12z
 refine W.exit ?_
 have hX14z := M.e_inr hM hN11z
 subst hX14z
 replace hM := hk4z
 try dsimp only at hM
 refine W.seq ?_
 refine W.region rfl ?_
 refine s_val (x_mv (v := I out) rfl) ?_
 refine s_val (x_as (v := I out) rfl) ?_
 refine s_nil ?_
 refine W.ret ?_
 have hr_ := M.e_pure hM
 exact ⟨_, resE_tmp rfl, ⟨out, hr_, rfl, H⟩⟩

def zbL (l : List Pk) (apart : Int) (threshold : Int) : ((List Int) × Int) -> M (((List Int) × Int) ⊕ (List Int)) := fun (s, i) =>
  bif decide (0 <= i) then (
  M.grd (decide ((-9223372036854775808 : Int) <= (i + 1)) && decide ((i + 1) <= (9223372036854775807 : Int))) <|
  M.grd (decide ((0 : Int) <= (i + 1)) && decide ((i + 1) < (41 : Int))) <|
  M.bind (zby i l threshold s l apart) fun r3 =>
  M.bind (zca ([(s.getD (Int.toNat (i + 1)) 0 : Int), (r3 : Int)])) fun r4 =>
  M.grd (decide ((0 : Int) <= i) && decide (i < (41 : Int))) <|
  M.grd (decide ((-9223372036854775808 : Int) <= (i - 1)) && decide ((i - 1) <= (9223372036854775807 : Int))) <|
  M.pure (.inl (s.set (Int.toNat i) r4, i - 1)))
  else (
  M.pure (.inr s))
def zbG (l : List Pk) (apart : Int) (threshold : Int) (l2 : List Int) : (Int × (List Int)) -> M ((Int × (List Int)) ⊕ ((List Int) × (List Int))) := fun (i2, l3) =>
  bif decide (i2 < (l.length : Int)) then (
  M.grd (decide ((0 : Int) <= i2) && decide (i2 < (l.length : Int))) <|
  M.grd ((!(!(decide (((l.getD (Int.toNat i2) default).stage) <= threshold))) || (decide ((0 : Int) <= i2) && decide (i2 < (41 : Int))))) <|
  M.bind (M.opt (!(decide (((l.getD (Int.toNat i2) default).stage) <= threshold))) (zby i2 l threshold l2 l apart) 0) fun r5 =>
  bif ((decide (((l.getD (Int.toNat i2) default).stage) <= threshold)) || (decide (r5 < (l2.getD (Int.toNat i2) 0)))) then (
  M.pure (.inl (i2 + 1, l3)))
  else (
  M.grd (decide ((l3.length + ([(i2 : Int)]).length) * 8 <= 140737488355328)) <|
  M.bind (zbF i2 l apart) fun r6 =>
  M.pure (.inl (r6, l3 ++ ([(i2 : Int)])))))
  else (
  M.pure (.inr (l3, l3)))
def zbR (l : List Pk) (apart : Int) (threshold : Int) : M ((List Int) × Int × Int) :=
  M.bind (zaZ l apart threshold) fun r2 =>
  bif r2 != 0 then (
  M.pure (([]), 0, r2))
  else (
  M.bind (M.iter (zbL l apart threshold) (List.replicate 41 0, (l.length : Int) - 1)) fun l2 =>
  M.bind (M.iter (zbG l apart threshold l2) (0, [])) fun (l4, l5) =>
  M.grd (decide ((0 : Int) <= 0) && decide (0 < (41 : Int))) <|
  M.pure (l5, (l2.getD 0 0), 0))
theorem zcG {R : List Chunk} {C_l : Cells} {v_l : Value} (l : List Pk) (apart : Int) (threshold : Int) (hC_l : Reads R C_l) (hs_l : Sl C_l v_l l) {r : ((List Int) × Int × Int)} (hM : (zbR l apart threshold).Ends r) (w : World) (H : St w w [] R) : Ret Try.prog 37 #[v_l, I apart, I threshold] w fun v w' => ∃ (y0 : List Int) (y1 : Int) (y2 : Int) (u0 : Value), (y0, y1, y2) = r /\ v = .tuple #[u0, I y1, I y2] /\ St w w' [cOwn (α := Int) 3 u0 y0] R := by
 refine ret_of_W Try.func37 rfl rfl rfl ?_
 refine W.seq ?_
 refine W.region rfl ?_
 refine t_box (v := v_l) (cs := [v_l]) H rfl (Sl.cells hs_l) ?_
 intro b_1 w1z H
 refine t_box (v := I apart) (cs := [I apart]) H rfl rfl ?_
 intro b_2 w2z H
 refine t_box (v := I threshold) (cs := [I threshold]) H rfl rfl ?_
 intro b_3 w3z H
 refine s_val (x_as (v := .slice none 0 0) rfl) ?_
 refine s_val (x_as (v := I 0) rfl) ?_
 refine s_val (x_as (v := I 0) rfl) ?_
 refine s_nil ?_
 refine W.seq ?_
 refine W.seq ?_
 refine W.region rfl ?_
 refine s_val (x_ld (p := .pointer (some ⟨b_1, 0, none⟩)) (v := v_l) rfl (ldb_sc Sc69 (H.blk (k := 2) rfl) rfl)) ?_
 refine s_val (x_ld (p := .pointer (some ⟨b_2, 0, none⟩)) (v := I apart) rfl (ldb_sc Sc3 (H.blk (k := 1) rfl) rfl)) ?_
 refine s_val (x_ld (p := .pointer (some ⟨b_3, 0, none⟩)) (v := I threshold) rfl (ldb_sc Sc3 (H.blk (k := 0) rfl) rfl)) ?_
 obtain ⟨r5z, hx4z, hM⟩ := M.e_bind hM
 refine s_call cf72 [v_l, I apart, I threshold] rfl (zbp l apart threshold (hC_l.app _) hs_l hx4z _ (St.give (T := [cBlk b_3 [I threshold] 3, cBlk b_2 [I apart] 3, cBlk b_1 [v_l] 69]) H rfl)) ?_
 rintro vq w6z ⟨r2, hr7z, hvq, H2_⟩
 subst hr7z
 subst vq
 try dsimp only at hM
 replace H : St w w6z [cBlk b_3 [I threshold] 3, cBlk b_2 [I apart] 3, cBlk b_1 [v_l] 69] R := H.back H2_ rfl
 clear H2_
 refine s_val (x_as (v := I r2) rfl) ?_
 refine s_nil ?_
 refine W.seq ?_
 refine W.region rfl ?_
 refine s_val (x_mv (v := I r2) rfl) ?_
 refine s_val (x_cmp (kd := .i64) (a := r2) (b := 0) (r := r2 != 0) rfl rfl rfl) ?_
 refine s_nil ?_
 refine W.cond (r2 != 0) rfl (fun c8z => ?_) (fun c8z => ?_)
 ·replace hM := M.e_t hM c8z
  simp only [decide_eq_true_eq, decide_eq_false_iff_not, beq_iff_eq, bne_iff_ne, beq_eq_false_iff_ne, bne_eq_false_iff_eq, ne_eq, Decidable.not_not] at c8z
  refine W.seq ?_
  refine W.region rfl ?_
  refine s_val (x_mv (v := I r2) rfl) ?_
  refine s_val (x_as (v := .slice none 0 0) rfl) ?_
  refine s_val (x_as (v := I 0) rfl) ?_
  refine s_val (x_as (v := I r2) rfl) ?_
  refine s_nil ?_
  refine W.ret ?_
  have hr_ := M.e_pure hM
  replace H : St w w6z [cOwn (α := Int) 3 (.slice none 0 0) ([]), cBlk b_3 [I threshold] 3, cBlk b_2 [I apart] 3, cBlk b_1 [v_l] 69] R := H.nilOwn (α := Int) 3
  exact ⟨_, resE_tmp3 rfl, ⟨([]), 0, r2, (.slice none 0 0), hr_, rfl, (H.pick [0] (by decide) rfl)⟩⟩
 replace hM := M.e_f hM c8z
 simp only [decide_eq_true_eq, decide_eq_false_iff_not, beq_iff_eq, bne_iff_ne, beq_eq_false_iff_ne, bne_eq_false_iff_eq, ne_eq, Decidable.not_not] at c8z
 refine W.skip ?_
 refine W.seq ?_
 refine W.region rfl ?_
 refine t_alloc (cs := (List.flatten [[], encF (α := Int) (List.replicate 41 0)])) H Al140 (by kernel_rfl) ?_
 intro b_4 w9z H
 refine s_nil ?_
 refine W.seq ?_
 refine W.region rfl ?_
 refine s_val (x_mf (fs := []) (cs := [.pointer (some ⟨b_1, 0, none⟩), .pointer (some ⟨b_2, 0, none⟩)]) rfl rfl) ?_
 refine t_alloc (cs := [.nilFunc]) H Al33 rfl ?_
 intro b_5 w10z H
 refine t_st (k := 0) (b := b_5) (off := 0) (cs := [.nilFunc]) (vs := [.func (.func 75) #[] #[.pointer (some ⟨b_1, 0, none⟩), .pointer (some ⟨b_2, 0, none⟩)]]) (cs' := [.func (.func 75) #[] #[.pointer (some ⟨b_1, 0, none⟩), .pointer (some ⟨b_2, 0, none⟩)]]) (v := .func (.func 75) #[] #[.pointer (some ⟨b_1, 0, none⟩), .pointer (some ⟨b_2, 0, none⟩)]) (L' := [cBlk b_5 [.func (.func 75) #[] #[.pointer (some ⟨b_1, 0, none⟩), .pointer (some ⟨b_2, 0, none⟩)]] 33, cBlk b_4 (List.flatten [[], encF (α := Int) (List.replicate 41 0)]) 140, cBlk b_3 [I threshold] 3, cBlk b_2 [I apart] 3, cBlk b_1 [v_l] 69]) H rfl rfl rfl Sz33 rfl rfl rfl rfl rfl rfl ?_
 intro w11z H
 refine s_nil ?_
 refine W.seq ?_
 refine W.region rfl ?_
 refine s_val (x_mf (fs := []) (cs := [.pointer (some ⟨b_1, 0, none⟩), .pointer (some ⟨b_3, 0, none⟩), .pointer (some ⟨b_4, 0, none⟩), .pointer (some ⟨b_5, 0, none⟩)]) rfl rfl) ?_
 refine s_val (x_as (v := .func (.func 79) #[] #[.pointer (some ⟨b_1, 0, none⟩), .pointer (some ⟨b_3, 0, none⟩), .pointer (some ⟨b_4, 0, none⟩), .pointer (some ⟨b_5, 0, none⟩)]) rfl) ?_
 refine s_nil ?_
 refine W.seq ?_
 refine W.seq ?_
 refine W.region rfl ?_
 refine s_val (x_ld (p := .pointer (some ⟨b_1, 0, none⟩)) (v := v_l) rfl (ldb_sc Sc69 (H.blk (k := 4) rfl) rfl)) ?_
 have hl12z := (hs_l).len_le
 refine s_val (x_lenS T69.und rfl hs_l) ?_
 refine s_val (x_ari (a := (l.length : Int)) (b := 1) (r := (l.length : Int) - 1) rfl rfl rfl (by omega)) ?_
 refine s_val (x_as (v := I ((l.length : Int) - 1)) rfl) ?_
 refine s_nil ?_
 refine W.block ?_
 obtain ⟨ex13z, hi14z, hk15z⟩ := M.e_bind hM
 obtain ⟨m0_, hi14z⟩ := M.e_iter hi14z
 refine W.loop (fun m σ W => ∃ (s : List Int) (i : Int) (ρ : Env), σ = upds ρ [(3, .pointer (some ⟨b_1, 0, none⟩)), (5, .pointer (some ⟨b_3, 0, none⟩)), (10, .pointer (some ⟨b_4, 0, none⟩)), (11, .pointer (some ⟨b_5, 0, none⟩)), (12, .func (.func 79) #[] #[.pointer (some ⟨b_1, 0, none⟩), .pointer (some ⟨b_3, 0, none⟩), .pointer (some ⟨b_4, 0, none⟩), .pointer (some ⟨b_5, 0, none⟩)]), (13, I i)] /\ M.iterN (zbL l apart threshold) m (s, i) = some ex13z /\ St w W [cBlk b_5 [.func (.func 75) #[] #[.pointer (some ⟨b_1, 0, none⟩), .pointer (some ⟨b_2, 0, none⟩)]] 33, cBlk b_4 (List.flatten [[], encF (α := Int) s]) 140, cBlk b_3 [I threshold] 3, cBlk b_2 [I apart] 3, cBlk b_1 [v_l] 69] R /\ s.length = 41) ?_ ?_
 ·exact ⟨_, List.replicate 41 0, (l.length : Int) - 1, _, upds_of _ _ ⟨rfl, rfl, rfl, rfl, rfl, rfl, trivial⟩, hi14z, H, List.length_replicate⟩
 rintro m18z σ w16z ⟨s, i, ρ, rfl, hI17z, H, hl_s⟩
 obtain ⟨m19z, lt20z, x21z, hM, hN22z⟩ := M.e_iterN hI17z
 simp only [zbL] at hM
 clear hI17z
 refine W.seq ?_
 refine W.seq ?_
 refine W.region rfl ?_
 refine s_val (x_mv (v := I i) rfl) ?_
 refine s_val (x_cmp (kd := .i64) (a := i) (b := 0) (r := decide (0 <= i)) rfl rfl rfl) ?_
 refine s_nil ?_
 refine W.cond (decide (0 <= i)) rfl (fun c23z => ?_) (fun c23z => ?_)
 ·replace hM := M.e_t hM c23z
  simp only [decide_eq_true_eq, decide_eq_false_iff_not, beq_iff_eq, bne_iff_ne, beq_eq_false_iff_ne, bne_eq_false_iff_eq, ne_eq, Decidable.not_not] at c23z
  refine W.skip ?_
  refine W.seq ?_
  refine W.block ?_
  refine W.drawT (fun W => St w W [cBlk b_5 [.func (.func 75) #[] #[.pointer (some ⟨b_1, 0, none⟩), .pointer (some ⟨b_2, 0, none⟩)]] 33, cBlk b_3 [I threshold] 3, cBlk b_2 [I apart] 3, cBlk b_1 [v_l] 69] R) (.q 0 (.q 1 (.q 2 (.q 3 (.q 5 (.q 6 (.l2 4 (.l 7 (.l 8 (.l 9 (.q 10 (.l 11 .nil))))) 7 (.l 4 (.l 8 (.l 9 (.q 10 (.l 11 .nil)))))))))))) mixed (by decide +kernel) rfl ?_
  intro w24z hx_
  replace H : St w w24z [cBlk b_5 [.func (.func 75) #[] #[.pointer (some ⟨b_1, 0, none⟩), .pointer (some ⟨b_2, 0, none⟩)]] 33, cBlk b_4 (List.flatten [[], encF (α := Int) s]) 140, cBlk b_3 [I threshold] 3, cBlk b_2 [I apart] 3, cBlk b_1 [v_l] 69] R := H.ext hx_
  clear hx_
  refine ⟨(H.pick [0, 2, 3, 4] (by decide) rfl), ?_⟩
  refine t_q rfl (fun w' H => x_mv (v := I i) rfl) ?_
  refine t_q rfl (fun w' H => x_mv (v := I i) rfl) ?_
  obtain ⟨sd25z, hM⟩ := M.e_grd hM
  simp only [Bool.and_eq_true, decide_eq_true_eq] at sd25z
  refine t_q rfl (fun w' H => x_ari (a := i) (b := 1) (r := i + 1) rfl rfl rfl (by omega)) ?_
  obtain ⟨sd26z, hM⟩ := M.e_grd hM
  simp only [Bool.and_eq_true, decide_eq_true_eq] at sd26z
  refine t_q rfl (fun w' H => x_ix (a := .pointer (some ⟨b_4, 0, none⟩)) (b := I (i + 1)) (v := .pointer (some ⟨b_4, 0 + Int.toNat (i + 1) * 1, none⟩)) rfl rfl (run_indexS Try.underlying140 Sz3 (by omega) (by omega))) ?_
  refine t_q rfl (fun w' H => x_mv (v := .func (.func 79) #[] #[.pointer (some ⟨b_1, 0, none⟩), .pointer (some ⟨b_3, 0, none⟩), .pointer (some ⟨b_4, 0, none⟩), .pointer (some ⟨b_5, 0, none⟩)]) rfl) ?_
  refine t_q rfl (fun w' H => x_mv (v := I i) rfl) ?_
  refine t_l2 rfl rfl ?_ ?_
  ·skip
   refine s_val (x_ld (p := .pointer (some ⟨b_4, 0 + Int.toNat (i + 1) * 1, none⟩)) (v := I (s.getD (Int.toNat (i + 1)) 0)) rfl (ldS (α := Int) (k := 1) (off := 0) (i := (Int.toNat (i + 1))) (f := 0) (sz := 1) 0 Sc3 (H.blk (k := 1) rfl) rfl (sgo1 rfl) rfl (by decide) (by have hl_ := hl_s; omega) (by omega) rfl)) ?_
   refine s_nil ⟨(H.pick [0, 2, 3, 4] (by decide) rfl), ?_⟩
   refine t_l rfl ?_
   obtain ⟨r41z, hx40z, hM⟩ := M.e_bind hM
   refine s_callv (f := 79) rfl cf79 [I i] rfl (zbj i l threshold s l apart (hC_l.app _) hs_l (Has.here (k := 4) rfl) (Has.here (k := 2) rfl) hl_s (Has.here (k := 1) rfl) (hC_l.app _) hs_l (Has.here (k := 4) rfl) (Has.here (k := 3) rfl) (Has.here (k := 0) rfl) hx40z _ (St.give (T := [cBlk b_5 [.func (.func 75) #[] #[.pointer (some ⟨b_1, 0, none⟩), .pointer (some ⟨b_2, 0, none⟩)]] 33, cBlk b_4 (List.flatten [[], encF (α := Int) s]) 140, cBlk b_3 [I threshold] 3, cBlk b_2 [I apart] 3, cBlk b_1 [v_l] 69]) H rfl)) ?_
   rintro vq w42z ⟨r3, hr43z, hvq, H2_⟩
   subst hr43z
   subst vq
   try dsimp only at hM
   replace H : St w w42z [cBlk b_5 [.func (.func 75) #[] #[.pointer (some ⟨b_1, 0, none⟩), .pointer (some ⟨b_2, 0, none⟩)]] 33, cBlk b_4 (List.flatten [[], encF (α := Int) s]) 140, cBlk b_3 [I threshold] 3, cBlk b_2 [I apart] 3, cBlk b_1 [v_l] 69] R := H.back H2_ rfl
   clear H2_
   refine s_nil ⟨(H.pick [0, 2, 3, 4] (by decide) rfl), ?_⟩
   refine t_l rfl ?_
   refine t_bs (α := Int) T27 [I (s.getD (Int.toNat (i + 1)) 0), I r3] [(s.getD (Int.toNat (i + 1)) 0 : Int), (r3 : Int)] H rfl (.cons rfl (Flat.rep_enc _ (s.getD (Int.toNat (i + 1)) 0 : Int)) <| .cons rfl (Flat.rep_enc _ (r3 : Int)) <| .nil) rfl rfl rfl ?_
   intro v44z w45z H
   have hvc_q46z := Sl.cells (ownSl (H.get (k := 0) rfl))
   have hvo_q46z := Sl.oc (ownSl (H.get (k := 0) rfl))
   refine s_nil ⟨(H.pick [1, 3, 4, 5] (by decide) rfl), ?_⟩
   refine t_l rfl ?_
   obtain ⟨r48z, hx47z, hM⟩ := M.e_bind hM
   refine s_call cf80 [v44z] rfl (zcb ([(s.getD (Int.toNat (i + 1)) 0 : Int), (r3 : Int)]) (Reads.of (k := 0) rfl ownLe) (ownSl (H.get (k := 0) rfl)) hx47z _ (St.give (T := [cOwn (α := Int) 3 v44z ([(s.getD (Int.toNat (i + 1)) 0 : Int), (r3 : Int)]), cBlk b_5 [.func (.func 75) #[] #[.pointer (some ⟨b_1, 0, none⟩), .pointer (some ⟨b_2, 0, none⟩)]] 33, cBlk b_4 (List.flatten [[], encF (α := Int) s]) 140, cBlk b_3 [I threshold] 3, cBlk b_2 [I apart] 3, cBlk b_1 [v_l] 69]) H rfl)) ?_
   rintro vq w49z ⟨r4, hr50z, hvq, H2_⟩
   subst hr50z
   subst vq
   try dsimp only at hM
   replace H : St w w49z [cOwn (α := Int) 3 v44z ([(s.getD (Int.toNat (i + 1)) 0 : Int), (r3 : Int)]), cBlk b_5 [.func (.func 75) #[] #[.pointer (some ⟨b_1, 0, none⟩), .pointer (some ⟨b_2, 0, none⟩)]] 33, cBlk b_4 (List.flatten [[], encF (α := Int) s]) 140, cBlk b_3 [I threshold] 3, cBlk b_2 [I apart] 3, cBlk b_1 [v_l] 69] R := H.back H2_ rfl
   clear H2_
   refine s_nil ⟨(H.pick [1, 3, 4, 5] (by decide) rfl), ?_⟩
   obtain ⟨sd51z, hM⟩ := M.e_grd hM
   simp only [Bool.and_eq_true, decide_eq_true_eq] at sd51z
   refine t_q rfl (fun w' H => x_ix (a := .pointer (some ⟨b_4, 0, none⟩)) (b := I i) (v := .pointer (some ⟨b_4, 0 + Int.toNat i * 1, none⟩)) rfl rfl (run_indexS Try.underlying140 Sz3 (by omega) (by omega))) ?_
   refine t_l rfl ?_
   refine t_stS (α := Int) (kc := 2) (b := b_4) (k := 1) (off := 0) (i := (Int.toNat i)) (f := 0) (sz := 1) (segs := [[], encF (α := Int) s]) (segs' := [[], encF (α := Int) (s.set (Int.toNat i) r4)]) (l := s) (l' := s.set (Int.toNat i) r4) (vs := [I r4]) (L' := [cOwn (α := Int) 3 v44z ([(s.getD (Int.toNat (i + 1)) 0 : Int), (r3 : Int)]), cBlk b_5 [.func (.func 75) #[] #[.pointer (some ⟨b_1, 0, none⟩), .pointer (some ⟨b_2, 0, none⟩)]] 33, cBlk b_4 (List.flatten [[], encF (α := Int) (s.set (Int.toNat i) r4)]) 140, cBlk b_3 [I threshold] 3, cBlk b_2 [I apart] 3, cBlk b_1 [v_l] 69]) H rfl rfl rfl Sz3 rfl rfl rfl rfl (sgo1 rfl) rfl rfl (by have hl_ := hl_s; omega) (by omega) 0 r4 rfl rfl rfl rfl ?_
   intro w52z H
   have hl53z : (s.set (Int.toNat i) r4).length = 41 := List.length_set.trans hl_s
   refine s_nil ⟨(H.pick [1, 3, 4, 5] (by decide) rfl), ?_⟩
   refine t_nil ?_
   refine W.region rfl ?_
   refine s_val (x_mv (v := I i) rfl) ?_
   obtain ⟨sd54z, hM⟩ := M.e_grd hM
   simp only [Bool.and_eq_true, decide_eq_true_eq] at sd54z
   refine s_val (x_ari (a := i) (b := 1) (r := i - 1) rfl rfl rfl (by omega)) ?_
   refine s_val (x_as (v := I (i - 1)) rfl) ?_
   refine s_nil ?_
   exact ⟨m19z, lt20z, s.set (Int.toNat i) r4, i - 1, _, upds_of _ _ ⟨rfl, rfl, rfl, rfl, rfl, rfl, trivial⟩, M.e_inl hM hN22z, (H.pick [1, 2, 3, 4, 5] (by decide) rfl), hl53z⟩
  skip
  obtain ⟨r56z, hx55z, hM⟩ := M.e_bind hM
  refine s_callv (f := 79) rfl cf79 [I i] rfl (zbj i l threshold s l apart (hC_l.app _) hs_l (Has.here (k := 4) rfl) (Has.here (k := 2) rfl) hl_s (Has.here (k := 1) rfl) (hC_l.app _) hs_l (Has.here (k := 4) rfl) (Has.here (k := 3) rfl) (Has.here (k := 0) rfl) hx55z _ (St.give (T := [cBlk b_5 [.func (.func 75) #[] #[.pointer (some ⟨b_1, 0, none⟩), .pointer (some ⟨b_2, 0, none⟩)]] 33, cBlk b_4 (List.flatten [[], encF (α := Int) s]) 140, cBlk b_3 [I threshold] 3, cBlk b_2 [I apart] 3, cBlk b_1 [v_l] 69]) H rfl)) ?_
  rintro vq w57z ⟨r3, hr58z, hvq, H2_⟩
  subst hr58z
  subst vq
  try dsimp only at hM
  replace H : St w w57z [cBlk b_5 [.func (.func 75) #[] #[.pointer (some ⟨b_1, 0, none⟩), .pointer (some ⟨b_2, 0, none⟩)]] 33, cBlk b_4 (List.flatten [[], encF (α := Int) s]) 140, cBlk b_3 [I threshold] 3, cBlk b_2 [I apart] 3, cBlk b_1 [v_l] 69] R := H.back H2_ rfl
  clear H2_
  refine s_nil ⟨(H.pick [0, 2, 3, 4] (by decide) rfl), ?_⟩
  refine t_l rfl ?_
  refine s_val (x_ld (p := .pointer (some ⟨b_4, 0 + Int.toNat (i + 1) * 1, none⟩)) (v := I (s.getD (Int.toNat (i + 1)) 0)) rfl (ldS (α := Int) (k := 1) (off := 0) (i := (Int.toNat (i + 1))) (f := 0) (sz := 1) 0 Sc3 (H.blk (k := 1) rfl) rfl (sgo1 rfl) rfl (by decide) (by have hl_ := hl_s; omega) (by omega) rfl)) ?_
  refine s_nil ⟨(H.pick [0, 2, 3, 4] (by decide) rfl), ?_⟩
  refine t_l rfl ?_
  refine t_bs (α := Int) T27 [I (s.getD (Int.toNat (i + 1)) 0), I r3] [(s.getD (Int.toNat (i + 1)) 0 : Int), (r3 : Int)] H rfl (.cons rfl (Flat.rep_enc _ (s.getD (Int.toNat (i + 1)) 0 : Int)) <| .cons rfl (Flat.rep_enc _ (r3 : Int)) <| .nil) rfl rfl rfl ?_
  intro v59z w60z H
  have hvc_q61z := Sl.cells (ownSl (H.get (k := 0) rfl))
  have hvo_q61z := Sl.oc (ownSl (H.get (k := 0) rfl))
  refine s_nil ⟨(H.pick [1, 3, 4, 5] (by decide) rfl), ?_⟩
  refine t_l rfl ?_
  obtain ⟨r63z, hx62z, hM⟩ := M.e_bind hM
  refine s_call cf80 [v59z] rfl (zcb ([(s.getD (Int.toNat (i + 1)) 0 : Int), (r3 : Int)]) (Reads.of (k := 0) rfl ownLe) (ownSl (H.get (k := 0) rfl)) hx62z _ (St.give (T := [cOwn (α := Int) 3 v59z ([(s.getD (Int.toNat (i + 1)) 0 : Int), (r3 : Int)]), cBlk b_5 [.func (.func 75) #[] #[.pointer (some ⟨b_1, 0, none⟩), .pointer (some ⟨b_2, 0, none⟩)]] 33, cBlk b_4 (List.flatten [[], encF (α := Int) s]) 140, cBlk b_3 [I threshold] 3, cBlk b_2 [I apart] 3, cBlk b_1 [v_l] 69]) H rfl)) ?_
  rintro vq w64z ⟨r4, hr65z, hvq, H2_⟩
  subst hr65z
  subst vq
  try dsimp only at hM
  replace H : St w w64z [cOwn (α := Int) 3 v59z ([(s.getD (Int.toNat (i + 1)) 0 : Int), (r3 : Int)]), cBlk b_5 [.func (.func 75) #[] #[.pointer (some ⟨b_1, 0, none⟩), .pointer (some ⟨b_2, 0, none⟩)]] 33, cBlk b_4 (List.flatten [[], encF (α := Int) s]) 140, cBlk b_3 [I threshold] 3, cBlk b_2 [I apart] 3, cBlk b_1 [v_l] 69] R := H.back H2_ rfl
  clear H2_
  refine s_nil ⟨(H.pick [1, 3, 4, 5] (by decide) rfl), ?_⟩
  obtain ⟨sd66z, hM⟩ := M.e_grd hM
  simp only [Bool.and_eq_true, decide_eq_true_eq] at sd66z
  refine t_q rfl (fun w' H => x_ix (a := .pointer (some ⟨b_4, 0, none⟩)) (b := I i) (v := .pointer (some ⟨b_4, 0 + Int.toNat i * 1, none⟩)) rfl rfl (run_indexS Try.underlying140 Sz3 (by omega) (by omega))) ?_
  refine t_l rfl ?_
  refine t_stS (α := Int) (kc := 2) (b := b_4) (k := 1) (off := 0) (i := (Int.toNat i)) (f := 0) (sz := 1) (segs := [[], encF (α := Int) s]) (segs' := [[], encF (α := Int) (s.set (Int.toNat i) r4)]) (l := s) (l' := s.set (Int.toNat i) r4) (vs := [I r4]) (L' := [cOwn (α := Int) 3 v59z ([(s.getD (Int.toNat (i + 1)) 0 : Int), (r3 : Int)]), cBlk b_5 [.func (.func 75) #[] #[.pointer (some ⟨b_1, 0, none⟩), .pointer (some ⟨b_2, 0, none⟩)]] 33, cBlk b_4 (List.flatten [[], encF (α := Int) (s.set (Int.toNat i) r4)]) 140, cBlk b_3 [I threshold] 3, cBlk b_2 [I apart] 3, cBlk b_1 [v_l] 69]) H rfl rfl rfl Sz3 rfl rfl rfl rfl (sgo1 rfl) rfl rfl (by have hl_ := hl_s; omega) (by omega) 0 r4 rfl rfl rfl rfl ?_
  intro w67z H
  have hl68z : (s.set (Int.toNat i) r4).length = 41 := List.length_set.trans hl_s
  refine s_nil ⟨(H.pick [1, 3, 4, 5] (by decide) rfl), ?_⟩
  refine t_nil ?_
  refine W.region rfl ?_
  refine s_val (x_mv (v := I i) rfl) ?_
  obtain ⟨sd69z, hM⟩ := M.e_grd hM
  simp only [Bool.and_eq_true, decide_eq_true_eq] at sd69z
  refine s_val (x_ari (a := i) (b := 1) (r := i - 1) rfl rfl rfl (by omega)) ?_
  refine s_val (x_as (v := I (i - 1)) rfl) ?_
  refine s_nil ?_
  exact ⟨m19z, lt20z, s.set (Int.toNat i) r4, i - 1, _, upds_of _ _ ⟨rfl, rfl, rfl, rfl, rfl, rfl, trivial⟩, M.e_inl hM hN22z, (H.pick [1, 2, 3, 4, 5] (by decide) rfl), hl68z⟩
 replace hM := M.e_f hM c23z
 simp only [decide_eq_true_eq, decide_eq_false_iff_not, beq_iff_eq, bne_iff_ne, beq_eq_false_iff_ne, bne_eq_false_iff_eq, ne_eq, Decidable.not_not] at c23z
 refine W.exit ?_
 have hX70z := M.e_inr hM hN22z
 subst hX70z
 replace hM := hk15z
 try dsimp only at hM
 refine W.seq ?_
 refine W.region rfl ?_
 refine s_val (x_as (v := .slice none 0 0) rfl) ?_
 refine s_nil ?_
 refine W.seq ?_
 refine W.seq ?_
 refine W.region rfl ?_
 refine s_val (x_as (v := I 0) rfl) ?_
 refine s_nil ?_
 refine W.block ?_
 replace H : St w w16z [cOwn (α := Int) 3 (.slice none 0 0) ([]), cBlk b_5 [.func (.func 75) #[] #[.pointer (some ⟨b_1, 0, none⟩), .pointer (some ⟨b_2, 0, none⟩)]] 33, cBlk b_4 (List.flatten [[], encF (α := Int) s]) 140, cBlk b_3 [I threshold] 3, cBlk b_2 [I apart] 3, cBlk b_1 [v_l] 69] R := H.nilOwn (α := Int) 3
 obtain ⟨ex71z, hi72z, hk73z⟩ := M.e_bind hM
 obtain ⟨m0_, hi72z⟩ := M.e_iter hi72z
 refine W.loop (fun m σ W => ∃ (i2 : Int) (l3 : List Int) (v_l3 : Value) (ρ : Env), σ = upds ρ [(3, .pointer (some ⟨b_1, 0, none⟩)), (5, .pointer (some ⟨b_3, 0, none⟩)), (10, .pointer (some ⟨b_4, 0, none⟩)), (11, .pointer (some ⟨b_5, 0, none⟩)), (12, .func (.func 79) #[] #[.pointer (some ⟨b_1, 0, none⟩), .pointer (some ⟨b_3, 0, none⟩), .pointer (some ⟨b_4, 0, none⟩), .pointer (some ⟨b_5, 0, none⟩)]), (14, v_l3), (15, I i2)] /\ M.iterN (zbG l apart threshold s) m (i2, l3) = some ex71z /\ St w W [cOwn (α := Int) 3 v_l3 l3, cBlk b_5 [.func (.func 75) #[] #[.pointer (some ⟨b_1, 0, none⟩), .pointer (some ⟨b_2, 0, none⟩)]] 33, cBlk b_4 (List.flatten [[], encF (α := Int) s]) 140, cBlk b_3 [I threshold] 3, cBlk b_2 [I apart] 3, cBlk b_1 [v_l] 69] R) ?_ ?_
 ·exact ⟨_, 0, [], (.slice none 0 0), _, upds_of _ _ ⟨rfl, rfl, rfl, rfl, rfl, rfl, rfl, trivial⟩, hi72z, H⟩
 rintro m76z σ w74z ⟨i2, l3, v_l3, ρ, rfl, hI75z, H⟩
 obtain ⟨m77z, lt78z, x79z, hM, hN80z⟩ := M.e_iterN hI75z
 simp only [zbG] at hM
 clear hI75z
 refine W.seq ?_
 refine W.seq ?_
 refine W.region rfl ?_
 refine s_val (x_mv (v := I i2) rfl) ?_
 refine s_val (x_ld (p := .pointer (some ⟨b_1, 0, none⟩)) (v := v_l) rfl (ldb_sc Sc69 (H.blk (k := 5) rfl) rfl)) ?_
 have hl81z := (hs_l).len_le
 refine s_val (x_lenS T69.und rfl hs_l) ?_
 refine s_val (x_cmp (kd := .i64) (a := i2) (b := (l.length : Int)) (r := decide (i2 < (l.length : Int))) rfl rfl rfl) ?_
 refine s_nil ?_
 refine W.cond (decide (i2 < (l.length : Int))) rfl (fun c82z => ?_) (fun c82z => ?_)
 ·replace hM := M.e_t hM c82z
  simp only [decide_eq_true_eq, decide_eq_false_iff_not, beq_iff_eq, bne_iff_ne, beq_eq_false_iff_ne, bne_eq_false_iff_eq, ne_eq, Decidable.not_not] at c82z
  refine W.skip ?_
  refine W.block ?_
  refine W.seq ?_
  refine W.seq ?_
  refine W.draw (fun W => St w W [cOwn (α := Int) 3 v_l3 l3, cBlk b_5 [.func (.func 75) #[] #[.pointer (some ⟨b_1, 0, none⟩), .pointer (some ⟨b_2, 0, none⟩)]] 33, cBlk b_4 (List.flatten [[], encF (α := Int) s]) 140, cBlk b_3 [I threshold] 3, cBlk b_2 [I apart] 3, cBlk b_1 [v_l] 69] R) [(0, true), (1, true), (2, true), (3, true), (4, true), (5, true), (6, true), (7, true), (8, true), (9, true), (11, true), (12, true), (13, true), (10, false), (14, true), (15, true)] mixed (by decide +kernel) rfl ?_
  intro w83z hx_
  replace H : St w w83z [cOwn (α := Int) 3 v_l3 l3, cBlk b_5 [.func (.func 75) #[] #[.pointer (some ⟨b_1, 0, none⟩), .pointer (some ⟨b_2, 0, none⟩)]] 33, cBlk b_4 (List.flatten [[], encF (α := Int) s]) 140, cBlk b_3 [I threshold] 3, cBlk b_2 [I apart] 3, cBlk b_1 [v_l] 69] R := H.ext hx_
  clear hx_
  refine ⟨(H.pick [0, 1, 2, 3, 4, 5] (by decide) rfl), ?_⟩
  refine d_q rfl (fun w' H => x_ld (p := .pointer (some ⟨b_1, 0, none⟩)) (v := v_l) rfl (ldb_sc Sc69 (H.blk (k := 5) rfl) rfl)) ?_
  refine d_q rfl (fun w' H => x_mv (v := I i2) rfl) ?_
  obtain ⟨sd84z, hM⟩ := M.e_grd hM
  simp only [Bool.and_eq_true, decide_eq_true_eq] at sd84z
  refine d_q rfl (fun w' H => x_ix (a := v_l) (b := I i2) (v := vat v_l 2 (Int.toNat i2)) rfl rfl (Sl.ix (α := Pk) T69.und T69.size hs_l (by omega) (by omega))) ?_
  refine d_q rfl (fun w' H => x_fa (a := vat v_l 2 (Int.toNat i2)) (v := fat (vat v_l 2 (Int.toNat i2)) 1) rfl (fa_pl Fd72_1 Sz3 (Sl.pl (i := i2) hs_l (by omega) (by omega)))) ?_
  refine d_q rfl (fun w' H => x_ld (p := fat (vat v_l 2 (Int.toNat i2)) 1) (v := I ((l.getD (Int.toNat i2) default).stage)) rfl (ld_sc Sc3 (At.mono (Pk_at1 hs_l (i := i2) (by omega) (by omega)) (hC_l.at H)))) ?_
  refine d_q rfl (fun w' H => x_ld (p := .pointer (some ⟨b_3, 0, none⟩)) (v := I threshold) rfl (ldb_sc Sc3 (H.blk (k := 3) rfl) rfl)) ?_
  refine d_q rfl (fun w' H => x_cmp (kd := .i64) (a := (l.getD (Int.toNat i2) default).stage) (b := threshold) (r := decide (((l.getD (Int.toNat i2) default).stage) <= threshold)) rfl rfl rfl) ?_
  refine d_q rfl (fun w' H => x_mv (v := B (decide (((l.getD (Int.toNat i2) default).stage) <= threshold))) rfl) ?_
  refine d_qg (!(decide (((l.getD (Int.toNat i2) default).stage) <= threshold))) rfl (gy_f rfl) (fun hg => (fun w' H => x_mv (v := .func (.func 79) #[] #[.pointer (some ⟨b_1, 0, none⟩), .pointer (some ⟨b_3, 0, none⟩), .pointer (some ⟨b_4, 0, none⟩), .pointer (some ⟨b_5, 0, none⟩)]) rfl)) ?_
  refine d_qg (!(decide (((l.getD (Int.toNat i2) default).stage) <= threshold))) rfl (gy_f rfl) (fun hg => (fun w' H => x_mv (v := I i2) rfl)) ?_
  refine d_qg (!(decide (((l.getD (Int.toNat i2) default).stage) <= threshold))) rfl (gy_f rfl) (fun hg => (fun w' H => x_mv (v := I i2) rfl)) ?_
  obtain ⟨sd85z, hM⟩ := M.e_grd hM
  replace sd85z := M.imp_of sd85z
  simp only [Bool.and_eq_true, decide_eq_true_eq] at sd85z
  refine d_qg (!(decide (((l.getD (Int.toNat i2) default).stage) <= threshold))) rfl (gy_f rfl) (fun hg => (fun w' H => x_ix (a := .pointer (some ⟨b_4, 0, none⟩)) (b := I i2) (v := .pointer (some ⟨b_4, 0 + Int.toNat i2 * 1, none⟩)) rfl (gd_of (c := !(decide (((l.getD (Int.toNat i2) default).stage) <= threshold))) hg (I i2)) (run_indexS Try.underlying140 Sz3 (by have h1_ := sd85z.resolve_left (by rw [hg]; decide); first | exact h1_ | exact h1_.1 | exact h1_.2 | omega | (have hx_ := hg; simp at hx_; omega)) (by have h1_ := sd85z.resolve_left (by rw [hg]; decide); first | exact h1_ | exact h1_.1 | exact h1_.2 | omega | (have hx_ := hg; simp at hx_; omega))))) ?_
  refine d_qg (!(decide (((l.getD (Int.toNat i2) default).stage) <= threshold))) rfl (gy_f rfl) (fun hg => (fun w' H => x_ld (p := .pointer (some ⟨b_4, 0 + Int.toNat i2 * 1, none⟩)) (v := I (s.getD (Int.toNat i2) 0)) (gd_of (c := !(decide (((l.getD (Int.toNat i2) default).stage) <= threshold))) hg (.pointer (some ⟨b_4, 0 + Int.toNat i2 * 1, none⟩))) (ldS (α := Int) (k := 1) (off := 0) (i := (Int.toNat i2)) (f := 0) (sz := 1) 0 Sc3 (H.blk (k := 2) rfl) rfl (sgo1 rfl) rfl (by decide) (by have hu_ := hl_s; have h1_ := sd85z.resolve_left (by rw [hg]; decide); first | exact h1_ | exact h1_.1 | exact h1_.2 | omega | (have hx_ := hg; simp at hx_; omega)) (by omega) rfl))) ?_
  refine d_l rfl ?_
  obtain ⟨r5, hx86z, hM⟩ := M.e_bind hM
  refine t_gcallv (cap := [.pointer (some ⟨b_1, 0, none⟩), .pointer (some ⟨b_3, 0, none⟩), .pointer (some ⟨b_4, 0, none⟩), .pointer (some ⟨b_5, 0, none⟩)]) (!(decide (((l.getD (Int.toNat i2) default).stage) <= threshold))) (gy_f rfl) cf79 (fun hg => (gd_of (c := !(decide (((l.getD (Int.toNat i2) default).stage) <= threshold))) hg (.func (.func 79) #[] #[.pointer (some ⟨b_1, 0, none⟩), .pointer (some ⟨b_3, 0, none⟩), .pointer (some ⟨b_4, 0, none⟩), .pointer (some ⟨b_5, 0, none⟩)]))) (I r5) (fun _ => [I i2]) (fun hg => lst1 (gd_of (c := !(decide (((l.getD (Int.toNat i2) default).stage) <= threshold))) hg (I i2))) H (fun hg => (zbj i2 l threshold s l apart (hC_l.app _) hs_l (Has.here (k := 5) rfl) (Has.here (k := 3) rfl) hl_s (Has.here (k := 2) rfl) (hC_l.app _) hs_l (Has.here (k := 5) rfl) (Has.here (k := 4) rfl) (Has.here (k := 1) rfl) (M.e_opt hx86z hg) _ (H.give (A := []) rfl)).mono fun v_ w_ ⟨y_, hr_, hv_, H_⟩ => by subst hr_; exact ⟨hv_, H.via H_⟩) ?_
  intro w87z H
  refine s_nil ⟨(H.pick [0, 1, 2, 3, 4, 5] (by decide) rfl), ?_⟩
  refine d_qg (!(decide (((l.getD (Int.toNat i2) default).stage) <= threshold))) rfl (gy_f rfl) (fun hg => (fun w' H => x_cmp (kd := .i64) (a := r5) (b := s.getD (Int.toNat i2) 0) (r := decide (r5 < (s.getD (Int.toNat i2) 0))) (gd_of (c := !(decide (((l.getD (Int.toNat i2) default).stage) <= threshold))) hg (I r5)) (gd_of (c := !(decide (((l.getD (Int.toNat i2) default).stage) <= threshold))) hg (I (s.getD (Int.toNat i2) 0))) rfl)) ?_
  refine d_q rfl (fun w' H => x_por (b := decide (((l.getD (Int.toNat i2) default).stage) <= threshold)) (r := decide (r5 < (s.getD (Int.toNat i2) 0))) rfl rfl (fun hb => gd_of (c := !(decide (((l.getD (Int.toNat i2) default).stage) <= threshold))) (by first | exact hb | (rw [hb]; rfl) | simp_all) (B (decide (r5 < (s.getD (Int.toNat i2) 0)))))) ?_
  refine d_nil ?_
  refine W.cond ((decide (((l.getD (Int.toNat i2) default).stage) <= threshold)) || (decide (r5 < (s.getD (Int.toNat i2) 0)))) rfl (fun c88z => ?_) (fun c88z => ?_)
  ·replace hM := M.e_t hM c88z
   refine W.seq ?_
   refine W.region rfl ?_
   refine s_val (x_mv (v := I i2) rfl) ?_
   refine s_val (x_ari (a := i2) (b := 1) (r := i2 + 1) rfl rfl rfl (by omega)) ?_
   refine s_val (x_as (v := I (i2 + 1)) rfl) ?_
   refine s_nil ?_
   refine W.exit ?_
   exact ⟨m77z, lt78z, i2 + 1, l3, v_l3, _, upds_of _ _ ⟨rfl, rfl, rfl, rfl, rfl, rfl, rfl, trivial⟩, M.e_inl hM hN80z, H⟩
  replace hM := M.e_f hM c88z
  refine W.skip ?_
  refine W.seq ?_
  refine W.region rfl ?_
  refine s_val (x_mv (v := v_l3) rfl) ?_
  refine s_val (x_mv (v := I i2) rfl) ?_
  refine t_bs (α := Int) T27 [I i2] [(i2 : Int)] H rfl (.cons rfl (Flat.rep_enc _ (i2 : Int)) <| .nil) rfl rfl rfl ?_
  intro v89z w90z H
  obtain ⟨sd91z, hM⟩ := M.e_grd hM
  simp only [Bool.and_eq_true, decide_eq_true_eq] at sd91z
  refine t_app (α := Int) (k := 1) (l := l3) (l2 := [(i2 : Int)]) (l' := l3 ++ ([(i2 : Int)])) (vy := v89z) T27 rfl H rfl rfl rfl (ownSl (H.get (k := 0) rfl)) (ownLe _ (H.get (k := 0) rfl)) (rfl) (by first | omega | (simp only [List.length_nil] at *; omega)) ?_
  intro v92z w93z H
  replace H : St w w93z [cOwn (α := Int) 3 v89z ([(i2 : Int)]), cOwn (α := Int) 3 v92z (l3 ++ ([(i2 : Int)])), cBlk b_5 [.func (.func 75) #[] #[.pointer (some ⟨b_1, 0, none⟩), .pointer (some ⟨b_2, 0, none⟩)]] 33, cBlk b_4 (List.flatten [[], encF (α := Int) s]) 140, cBlk b_3 [I threshold] 3, cBlk b_2 [I apart] 3, cBlk b_1 [v_l] 69] R := H
  refine s_val (x_as (v := v92z) rfl) ?_
  refine s_nil ?_
  refine W.region rfl ?_
  refine s_val (x_ld (p := .pointer (some ⟨b_5, 0, none⟩)) (v := .func (.func 75) #[] #[.pointer (some ⟨b_1, 0, none⟩), .pointer (some ⟨b_2, 0, none⟩)]) rfl (ldb_sc Sc33 (H.blk (k := 2) rfl) rfl)) ?_
  refine s_val (x_mv (v := I i2) rfl) ?_
  obtain ⟨r95z, hx94z, hM⟩ := M.e_bind hM
  refine s_callv (f := 75) rfl cf75 [I i2] rfl (zb8 i2 l apart (hC_l.app _) hs_l (Has.here (k := 6) rfl) (Has.here (k := 5) rfl) hx94z _ (St.give (T := [cOwn (α := Int) 3 v89z ([(i2 : Int)]), cOwn (α := Int) 3 v92z (l3 ++ ([(i2 : Int)])), cBlk b_5 [.func (.func 75) #[] #[.pointer (some ⟨b_1, 0, none⟩), .pointer (some ⟨b_2, 0, none⟩)]] 33, cBlk b_4 (List.flatten [[], encF (α := Int) s]) 140, cBlk b_3 [I threshold] 3, cBlk b_2 [I apart] 3, cBlk b_1 [v_l] 69]) H rfl)) ?_
  rintro vq w96z ⟨r6, hr97z, hvq, H2_⟩
  subst hr97z
  subst vq
  try dsimp only at hM
  replace H : St w w96z [cOwn (α := Int) 3 v89z ([(i2 : Int)]), cOwn (α := Int) 3 v92z (l3 ++ ([(i2 : Int)])), cBlk b_5 [.func (.func 75) #[] #[.pointer (some ⟨b_1, 0, none⟩), .pointer (some ⟨b_2, 0, none⟩)]] 33, cBlk b_4 (List.flatten [[], encF (α := Int) s]) 140, cBlk b_3 [I threshold] 3, cBlk b_2 [I apart] 3, cBlk b_1 [v_l] 69] R := H.back H2_ rfl
  clear H2_
  refine s_val (x_as (v := I r6) rfl) ?_
  refine s_nil ?_
  exact ⟨m77z, lt78z, r6, l3 ++ ([(i2 : Int)]), v92z, _, upds_of _ _ ⟨rfl, rfl, rfl, rfl, rfl, rfl, rfl, trivial⟩, M.e_inl hM hN80z, (H.pick [1, 2, 3, 4, 5, 6] (by decide) rfl)⟩
 replace hM := M.e_f hM c82z
 simp only [decide_eq_true_eq, decide_eq_false_iff_not, beq_iff_eq, bne_iff_ne, beq_eq_false_iff_ne, bne_eq_false_iff_eq, ne_eq, Decidable.not_not] at c82z
 refine W.exit ?_
 have hX98z := M.e_inr hM hN80z
 subst hX98z
 replace hM := hk73z
 try dsimp only at hM
 refine W.seq ?_
 refine W.draw (fun W => St w W [cOwn (α := Int) 3 v_l3 l3, cBlk b_5 [.func (.func 75) #[] #[.pointer (some ⟨b_1, 0, none⟩), .pointer (some ⟨b_2, 0, none⟩)]] 33, cBlk b_4 (List.flatten [[], encF (α := Int) s]) 140, cBlk b_3 [I threshold] 3, cBlk b_2 [I apart] 3, cBlk b_1 [v_l] 69] R) [(0, true), (1, true), (2, true), (3, true), (4, true), (5, true)] mixed (by decide +kernel) rfl ?_
 intro w99z hx_
 replace H : St w w99z [cOwn (α := Int) 3 v_l3 l3, cBlk b_5 [.func (.func 75) #[] #[.pointer (some ⟨b_1, 0, none⟩), .pointer (some ⟨b_2, 0, none⟩)]] 33, cBlk b_4 (List.flatten [[], encF (α := Int) s]) 140, cBlk b_3 [I threshold] 3, cBlk b_2 [I apart] 3, cBlk b_1 [v_l] 69] R := H.ext hx_
 clear hx_
 refine ⟨(H.pick [0, 1, 2, 3, 4, 5] (by decide) rfl), ?_⟩
 refine d_q rfl (fun w' H => x_mv (v := v_l3) rfl) ?_
 obtain ⟨sd100z, hM⟩ := M.e_grd hM
 simp only [Bool.and_eq_true, decide_eq_true_eq] at sd100z
 refine d_q rfl (fun w' H => x_ix (a := .pointer (some ⟨b_4, 0, none⟩)) (b := I 0) (v := .pointer (some ⟨b_4, 0 + Int.toNat 0 * 1, none⟩)) rfl rfl (run_indexS Try.underlying140 Sz3 (by omega) (by omega))) ?_
 refine d_q rfl (fun w' H => x_ld (p := .pointer (some ⟨b_4, 0 + Int.toNat 0 * 1, none⟩)) (v := I (s.getD 0 0)) rfl (ldS (α := Int) (k := 1) (off := 0) (i := 0) (f := 0) (sz := 1) 0 Sc3 (H.blk (k := 2) rfl) rfl (sgo1 rfl) rfl (by decide) (by have hl_ := hl_s; omega) (by omega) rfl)) ?_
 refine d_q rfl (fun w' H => x_as (v := v_l3) rfl) ?_
 refine d_q rfl (fun w' H => x_as (v := I (s.getD 0 0)) rfl) ?_
 refine d_q rfl (fun w' H => x_as (v := I 0) rfl) ?_
 refine d_nil ?_
 refine W.ret ?_
 have hr_ := M.e_pure hM
 exact ⟨_, resE_tmp3 rfl, ⟨l3, (s.getD 0 0), 0, v_l3, hr_, rfl, (H.pick [0] (by decide) rfl)⟩⟩

def zaM (l : List Int) (last : Int) : (Int × Nat) -> M ((Int × Nat) ⊕ (Unit ⊕ Unit)) := fun (first2, s) =>
  bif decide ((s : Int) < (l.length : Int)) then (
  M.grd (decide ((s : Int) < (l.length : Int))) <|
  M.bind (zab (l.getD s 0) first2 last) fun r2 =>
  bif !r2 then (
  M.pure (.inr (.inl ())))
  else (
  M.grd (decide ((-9223372036854775808 : Int) <= ((l.getD s 0) + 1)) && decide (((l.getD s 0) + 1) <= (9223372036854775807 : Int))) <|
  M.pure (.inl ((l.getD s 0) + 1, s + 1))))
  else (
  M.pure (.inr (.inr ())))
def zas (l : List Int) (first : Int) (last : Int) : M Bool :=
  M.bind (M.iter (zaM l last) (first, 0)) fun x_ => match x_ with
  | (.inl (_ : Unit)) => (
  M.pure false)
  | (.inr (_ : Unit)) => (
  M.pure true)
theorem zbY {R : List Chunk} {C_l : Cells} {v_l : Value} (l : List Int) (first : Int) (last : Int) (hC_l : Reads R C_l) (hs_l : Sl C_l v_l l) {r : Bool} (hM : (zas l first last).Ends r) (w : World) (H : St w w [] R) : Ret Try.prog 73 #[v_l, I first, I last] w fun v w' => ∃ (y0 : Bool), y0 = r /\ v = B y0 /\ St w w' [] R := by
 refine ret_of_W Try.func73 rfl rfl rfl ?_
 refine W.seq ?_
 refine W.region rfl ?_
 refine s_val (x_as (v := B false) rfl) ?_
 refine s_nil ?_
 refine W.seq ?_
 refine W.seq ?_
 refine W.region rfl ?_
 refine s_val (x_mv (v := v_l) rfl) ?_
 have hl1z := (hs_l).len_le
 refine s_val (x_lenS T27.und rfl hs_l) ?_
 refine s_val (x_mv (v := I 0) rfl) ?_
 refine s_nil ?_
 refine W.block ?_
 obtain ⟨ex2z, hi3z, hk4z⟩ := M.e_bind hM
 obtain ⟨m0_, hi3z⟩ := M.e_iter hi3z
 refine W.loop (fun m σ W => ∃ (first2 : Int) (s : Nat) (ρ : Env), σ = upds ρ [(1, I first2), (2, I last), (9, v_l), (10, I (l.length : Int)), (11, I (s : Int))] /\ M.iterN (zaM l last) m (first2, s) = some ex2z /\ St w W [] R) ?_ ?_
 ·exact ⟨_, first, 0, _, upds_of _ _ ⟨rfl, rfl, rfl, rfl, rfl, trivial⟩, hi3z, H⟩
 rintro m7z σ w5z ⟨first2, s, ρ, rfl, hI6z, H⟩
 obtain ⟨m8z, lt9z, x10z, hM, hN11z⟩ := M.e_iterN hI6z
 simp only [zaM] at hM
 clear hI6z
 refine W.seq ?_
 refine W.region rfl ?_
 refine s_val (x_cmp (kd := .i64) (a := (s : Int)) (b := (l.length : Int)) (r := decide ((s : Int) < (l.length : Int))) rfl rfl rfl) ?_
 refine s_nil ?_
 refine W.seq ?_
 refine W.cond (decide ((s : Int) < (l.length : Int))) rfl (fun c12z => ?_) (fun c12z => ?_)
 ·replace hM := M.e_t hM c12z
  simp only [decide_eq_true_eq, decide_eq_false_iff_not, beq_iff_eq, bne_iff_ne, beq_eq_false_iff_ne, bne_eq_false_iff_eq, ne_eq, Decidable.not_not] at c12z
  refine W.skip ?_
  refine W.seq ?_
  refine W.block ?_
  refine W.seq ?_
  refine W.region rfl ?_
  obtain ⟨sd13z, hM⟩ := M.e_grd hM
  simp only [Bool.and_eq_true, decide_eq_true_eq] at sd13z
  refine s_val (x_ix (a := v_l) (b := I (s : Int)) (v := vat v_l 1 (Int.toNat (s : Int))) rfl rfl (Sl.ix (α := Int) T27.und T27.size hs_l (by omega) (by omega))) ?_
  refine s_val (x_ld (p := vat v_l 1 (Int.toNat (s : Int))) (v := I (l.getD s 0)) rfl (ld_sc Sc3 (At.mono (Int_at hs_l (i := (s : Int)) (by omega) (by omega)) (hC_l.at H)))) ?_
  refine s_val (x_as (v := I (l.getD s 0)) rfl) ?_
  refine s_nil ?_
  refine W.seq ?_
  refine W.seq ?_
  refine W.region rfl ?_
  refine s_val (x_mv (v := I (l.getD s 0)) rfl) ?_
  refine s_val (x_mv (v := I first2) rfl) ?_
  refine s_val (x_mv (v := I last) rfl) ?_
  obtain ⟨r15z, hx14z, hM⟩ := M.e_bind hM
  refine s_call cf63 [I (l.getD s 0), I first2, I last] rfl (zac (l.getD s 0) first2 last hx14z _ (St.give (T := []) H rfl)) ?_
  rintro vq w16z ⟨r2, hr17z, hvq, H2_⟩
  subst hr17z
  subst vq
  try dsimp only at hM
  replace H : St w w16z [] R := H.back H2_ rfl
  clear H2_
  refine s_val (x_not (b := r2) rfl) ?_
  refine s_nil ?_
  refine W.cond (!r2) rfl (fun c18z => ?_) (fun c18z => ?_)
  ·replace hM := M.e_t hM c18z
   refine W.seq ?_
   refine W.region rfl ?_
   refine s_val (x_as (v := B false) rfl) ?_
   refine s_nil ?_
   refine W.ret ?_
   have hX19z := M.e_inr hM hN11z
   subst hX19z
   replace hM := hk4z
   try dsimp only at hM
   have hr_ := M.e_pure hM
   exact ⟨_, resE_tmp rfl, ⟨false, hr_, rfl, H⟩⟩
  replace hM := M.e_f hM c18z
  refine W.skip ?_
  refine W.region rfl ?_
  refine s_val (x_mv (v := I (l.getD s 0)) rfl) ?_
  obtain ⟨sd20z, hM⟩ := M.e_grd hM
  simp only [Bool.and_eq_true, decide_eq_true_eq] at sd20z
  refine s_val (x_ari (a := l.getD s 0) (b := 1) (r := (l.getD s 0) + 1) rfl rfl rfl (by omega)) ?_
  refine s_val (x_as (v := I ((l.getD s 0) + 1)) rfl) ?_
  refine s_nil ?_
  refine W.region rfl ?_
  refine s_val (x_ari (a := (s : Int)) (b := 1) (r := (s : Int) + 1) rfl rfl rfl (by omega)) ?_
  refine s_val (x_mv (v := I ((s : Int) + 1)) rfl) ?_
  refine s_nil ?_
  exact ⟨m8z, lt9z, (l.getD s 0) + 1, s + 1, _, upds_of _ _ ⟨rfl, rfl, rfl, rfl, rfl, trivial⟩, M.e_inl hM hN11z, H⟩
 replace hM := M.e_f hM c12z
 simp only [decide_eq_true_eq, decide_eq_false_iff_not, beq_iff_eq, bne_iff_ne, beq_eq_false_iff_ne, bne_eq_false_iff_eq, ne_eq, Decidable.not_not] at c12z
 refine W.exit ?_
 have hX21z := M.e_inr hM hN11z
 subst hX21z
 replace hM := hk4z
 try dsimp only at hM
 refine W.seq ?_
 refine W.region rfl ?_
 refine s_val (x_as (v := B true) rfl) ?_
 refine s_nil ?_
 refine W.ret ?_
 have hr_ := M.e_pure hM
 exact ⟨_, resE_tmp rfl, ⟨true, hr_, rfl, H⟩⟩

def zbm (l : List Pk) (apart : Int) (threshold : Int) (choice : List Int) : (Int × Nat) -> M ((Int × Nat) ⊕ (Unit ⊕ Int)) := fun (worth, s) =>
  bif decide ((s : Int) < (choice.length : Int)) then (
  M.grd (decide ((s : Int) < (choice.length : Int))) <|
  M.grd (decide ((0 : Int) <= (choice.getD s 0)) && decide ((choice.getD s 0) < (l.length : Int))) <|
  M.grd ((!((!(decide (((l.getD (Int.toNat (choice.getD s 0)) default).stage) <= threshold))) && (decide (0 < (s : Int)))) || (decide ((-9223372036854775808 : Int) <= ((s : Int) - 1)) && decide (((s : Int) - 1) <= (9223372036854775807 : Int))))) <|
  M.grd ((!((!(decide (((l.getD (Int.toNat (choice.getD s 0)) default).stage) <= threshold))) && (decide (0 < (s : Int)))) || (decide ((0 : Int) <= ((s : Int) - 1)) && decide (((s : Int) - 1) < (choice.length : Int))))) <|
  M.grd ((!((!(decide (((l.getD (Int.toNat (choice.getD s 0)) default).stage) <= threshold))) && (decide (0 < (s : Int)))) || (decide ((0 : Int) <= (choice.getD (Int.toNat ((s : Int) - 1)) 0)) && decide ((choice.getD (Int.toNat ((s : Int) - 1)) 0) < (l.length : Int))))) <|
  M.grd ((!((!(decide (((l.getD (Int.toNat (choice.getD s 0)) default).stage) <= threshold))) && (decide (0 < (s : Int)))) || (decide ((-9223372036854775808 : Int) <= (((l.getD (Int.toNat (choice.getD s 0)) default).day) - ((l.getD (Int.toNat (choice.getD (Int.toNat ((s : Int) - 1)) 0)) default).day))) && decide ((((l.getD (Int.toNat (choice.getD s 0)) default).day) - ((l.getD (Int.toNat (choice.getD (Int.toNat ((s : Int) - 1)) 0)) default).day)) <= (9223372036854775807 : Int))))) <|
  bif ((decide (((l.getD (Int.toNat (choice.getD s 0)) default).stage) <= threshold)) || ((decide (0 < (s : Int))) && (decide ((((l.getD (Int.toNat (choice.getD s 0)) default).day) - ((l.getD (Int.toNat (choice.getD (Int.toNat ((s : Int) - 1)) 0)) default).day)) < apart)))) then (
  M.pure (.inr (.inl ())))
  else (
  M.grd (decide ((-9223372036854775808 : Int) <= (((l.getD (Int.toNat (choice.getD s 0)) default).stage) - threshold)) && decide ((((l.getD (Int.toNat (choice.getD s 0)) default).stage) - threshold) <= (9223372036854775807 : Int))) <|
  M.grd (decide ((-9223372036854775808 : Int) <= (worth + (((l.getD (Int.toNat (choice.getD s 0)) default).stage) - threshold))) && decide ((worth + (((l.getD (Int.toNat (choice.getD s 0)) default).stage) - threshold)) <= (9223372036854775807 : Int))) <|
  M.pure (.inl (worth + (((l.getD (Int.toNat (choice.getD s 0)) default).stage) - threshold), s + 1))))
  else (
  M.pure (.inr (.inr worth)))
def zbQ (l : List Pk) (apart : Int) (threshold : Int) (choice : List Int) : M (Int × Int) :=
  M.bind (zaZ l apart threshold) fun r2 =>
  bif r2 != 0 then (
  M.pure (0, r2))
  else (
  M.bind (zas choice 0 ((l.length : Int) - 1)) fun r3 =>
  bif !r3 then (
  M.pure (0, 2))
  else (
  M.bind (M.iter (zbm l apart threshold choice) (0, 0)) fun x_ => match x_ with
  | (.inl (_ : Unit)) => (
  M.pure (0, 7))
  | (.inr worth2) => (
  M.pure (worth2, 0))))
theorem zcE {R : List Chunk} {C_l : Cells} {v_l : Value} {C_choice : Cells} {v_choice : Value} (l : List Pk) (apart : Int) (threshold : Int) (choice : List Int) (hC_l : Reads R C_l) (hs_l : Sl C_l v_l l) (hC_choice : Reads R C_choice) (hs_choice : Sl C_choice v_choice choice) {r : (Int × Int)} (hM : (zbQ l apart threshold choice).Ends r) (w : World) (H : St w w [] R) : Ret Try.prog 35 #[v_l, I apart, I threshold, v_choice] w fun v w' => ∃ (y0 : Int) (y1 : Int), (y0, y1) = r /\ v = .tuple #[I y0, I y1] /\ St w w' [] R := by
 refine ret_of_W Try.func35 rfl rfl rfl ?_
 refine W.seq ?_
 refine W.region rfl ?_
 refine s_val (x_as (v := I 0) rfl) ?_
 refine s_val (x_as (v := I 0) rfl) ?_
 refine s_nil ?_
 refine W.seq ?_
 refine W.seq ?_
 refine W.region rfl ?_
 refine s_val (x_mv (v := v_l) rfl) ?_
 refine s_val (x_mv (v := I apart) rfl) ?_
 refine s_val (x_mv (v := I threshold) rfl) ?_
 obtain ⟨r2z, hx1z, hM⟩ := M.e_bind hM
 refine s_call cf72 [v_l, I apart, I threshold] rfl (zbp l apart threshold (hC_l.app _) hs_l hx1z _ (St.give (T := []) H rfl)) ?_
 rintro vq w3z ⟨r2, hr4z, hvq, H2_⟩
 subst hr4z
 subst vq
 try dsimp only at hM
 replace H : St w w3z [] R := H.back H2_ rfl
 clear H2_
 refine s_val (x_as (v := I r2) rfl) ?_
 refine s_nil ?_
 refine W.seq ?_
 refine W.region rfl ?_
 refine s_val (x_mv (v := I r2) rfl) ?_
 refine s_val (x_cmp (kd := .i64) (a := r2) (b := 0) (r := r2 != 0) rfl rfl rfl) ?_
 refine s_nil ?_
 refine W.cond (r2 != 0) rfl (fun c5z => ?_) (fun c5z => ?_)
 ·replace hM := M.e_t hM c5z
  simp only [decide_eq_true_eq, decide_eq_false_iff_not, beq_iff_eq, bne_iff_ne, beq_eq_false_iff_ne, bne_eq_false_iff_eq, ne_eq, Decidable.not_not] at c5z
  refine W.seq ?_
  refine W.region rfl ?_
  refine s_val (x_mv (v := I r2) rfl) ?_
  refine s_val (x_as (v := I 0) rfl) ?_
  refine s_val (x_as (v := I r2) rfl) ?_
  refine s_nil ?_
  refine W.ret ?_
  have hr_ := M.e_pure hM
  exact ⟨_, resE_tmp2 rfl, ⟨0, r2, hr_, rfl, H⟩⟩
 replace hM := M.e_f hM c5z
 simp only [decide_eq_true_eq, decide_eq_false_iff_not, beq_iff_eq, bne_iff_ne, beq_eq_false_iff_ne, bne_eq_false_iff_eq, ne_eq, Decidable.not_not] at c5z
 refine W.skip ?_
 refine W.seq ?_
 refine W.seq ?_
 refine W.region rfl ?_
 refine s_val (x_mv (v := v_choice) rfl) ?_
 refine s_val (x_mv (v := v_l) rfl) ?_
 have hl6z := (hs_l).len_le
 refine s_val (x_lenS T69.und rfl hs_l) ?_
 refine s_val (x_ari (a := (l.length : Int)) (b := 1) (r := (l.length : Int) - 1) rfl rfl rfl (by omega)) ?_
 obtain ⟨r8z, hx7z, hM⟩ := M.e_bind hM
 refine s_call cf73 [v_choice, I 0, I ((l.length : Int) - 1)] rfl (zbY choice 0 ((l.length : Int) - 1) (hC_choice.app _) hs_choice hx7z _ (St.give (T := []) H rfl)) ?_
 rintro vq w9z ⟨r3, hr10z, hvq, H2_⟩
 subst hr10z
 subst vq
 try dsimp only at hM
 replace H : St w w9z [] R := H.back H2_ rfl
 clear H2_
 refine s_val (x_not (b := r3) rfl) ?_
 refine s_nil ?_
 refine W.cond (!r3) rfl (fun c11z => ?_) (fun c11z => ?_)
 ·replace hM := M.e_t hM c11z
  refine W.seq ?_
  refine W.region rfl ?_
  refine s_val (x_as (v := I 0) rfl) ?_
  refine s_val (x_as (v := I 2) rfl) ?_
  refine s_nil ?_
  refine W.ret ?_
  have hr_ := M.e_pure hM
  exact ⟨_, resE_tmp2 rfl, ⟨0, 2, hr_, rfl, H⟩⟩
 replace hM := M.e_f hM c11z
 refine W.skip ?_
 refine W.seq ?_
 refine W.region rfl ?_
 refine s_val (x_as (v := I 0) rfl) ?_
 refine s_nil ?_
 refine W.seq ?_
 refine W.seq ?_
 refine W.region rfl ?_
 refine s_val (x_mv (v := v_choice) rfl) ?_
 have hl12z := (hs_choice).len_le
 refine s_val (x_lenS T27.und rfl hs_choice) ?_
 refine s_val (x_mv (v := I 0) rfl) ?_
 refine s_nil ?_
 refine W.block ?_
 obtain ⟨ex13z, hi14z, hk15z⟩ := M.e_bind hM
 obtain ⟨m0_, hi14z⟩ := M.e_iter hi14z
 refine W.loop (fun m σ W => ∃ (worth : Int) (s : Nat) (ρ : Env), σ = upds ρ [(0, v_l), (1, I apart), (2, I threshold), (3, v_choice), (11, I worth), (27, v_choice), (28, I (choice.length : Int)), (29, I (s : Int))] /\ M.iterN (zbm l apart threshold choice) m (worth, s) = some ex13z /\ St w W [] R) ?_ ?_
 ·exact ⟨_, 0, 0, _, upds_of _ _ ⟨rfl, rfl, rfl, rfl, rfl, rfl, rfl, rfl, trivial⟩, hi14z, H⟩
 rintro m18z σ w16z ⟨worth, s, ρ, rfl, hI17z, H⟩
 obtain ⟨m19z, lt20z, x21z, hM, hN22z⟩ := M.e_iterN hI17z
 simp only [zbm] at hM
 clear hI17z
 refine W.seq ?_
 refine W.region rfl ?_
 refine s_val (x_cmp (kd := .i64) (a := (s : Int)) (b := (choice.length : Int)) (r := decide ((s : Int) < (choice.length : Int))) rfl rfl rfl) ?_
 refine s_nil ?_
 refine W.seq ?_
 refine W.cond (decide ((s : Int) < (choice.length : Int))) rfl (fun c23z => ?_) (fun c23z => ?_)
 ·replace hM := M.e_t hM c23z
  simp only [decide_eq_true_eq, decide_eq_false_iff_not, beq_iff_eq, bne_iff_ne, beq_eq_false_iff_ne, bne_eq_false_iff_eq, ne_eq, Decidable.not_not] at c23z
  refine W.skip ?_
  refine W.seq ?_
  refine W.block ?_
  refine W.seq ?_
  refine W.region rfl ?_
  refine s_val (x_mv (v := I (s : Int)) rfl) ?_
  obtain ⟨sd24z, hM⟩ := M.e_grd hM
  simp only [Bool.and_eq_true, decide_eq_true_eq] at sd24z
  refine s_val (x_ix (a := v_choice) (b := I (s : Int)) (v := vat v_choice 1 (Int.toNat (s : Int))) rfl rfl (Sl.ix (α := Int) T27.und T27.size hs_choice (by omega) (by omega))) ?_
  refine s_val (x_ld (p := vat v_choice 1 (Int.toNat (s : Int))) (v := I (choice.getD s 0)) rfl (ld_sc Sc3 (At.mono (Int_at hs_choice (i := (s : Int)) (by omega) (by omega)) (hC_choice.at H)))) ?_
  refine s_val (x_as (v := I (s : Int)) rfl) ?_
  refine s_val (x_as (v := I (choice.getD s 0)) rfl) ?_
  refine s_nil ?_
  refine W.seq ?_
  refine W.seq ?_
  refine W.draw (fun W => St w W [] R) [(0, true), (1, true), (2, true), (3, true), (4, true), (5, true), (6, true), (7, true), (8, true), (9, true), (10, true), (11, true), (12, true), (13, true), (14, true), (15, true), (16, true), (17, true), (18, true), (19, true), (20, true), (21, true), (22, true), (23, true), (24, true), (25, true), (26, true), (27, true), (28, true), (29, true)] mixed (by decide +kernel) rfl ?_
  intro w25z hx_
  replace H : St w w25z [] R := H.ext hx_
  clear hx_
  refine ⟨(H.pick [] (by decide) rfl), ?_⟩
  refine d_q rfl (fun w' H => x_mv (v := v_l) rfl) ?_
  refine d_q rfl (fun w' H => x_mv (v := I (choice.getD s 0)) rfl) ?_
  obtain ⟨sd26z, hM⟩ := M.e_grd hM
  simp only [Bool.and_eq_true, decide_eq_true_eq] at sd26z
  refine d_q rfl (fun w' H => x_ix (a := v_l) (b := I (choice.getD s 0)) (v := vat v_l 2 (Int.toNat (choice.getD s 0))) rfl rfl (Sl.ix (α := Pk) T69.und T69.size hs_l (by omega) (by omega))) ?_
  refine d_q rfl (fun w' H => x_fa (a := vat v_l 2 (Int.toNat (choice.getD s 0))) (v := fat (vat v_l 2 (Int.toNat (choice.getD s 0))) 1) rfl (fa_pl Fd72_1 Sz3 (Sl.pl (i := choice.getD s 0) hs_l (by omega) (by omega)))) ?_
  refine d_q rfl (fun w' H => x_ld (p := fat (vat v_l 2 (Int.toNat (choice.getD s 0))) 1) (v := I ((l.getD (Int.toNat (choice.getD s 0)) default).stage)) rfl (ld_sc Sc3 (At.mono (Pk_at1 hs_l (i := choice.getD s 0) (by omega) (by omega)) (hC_l.at H)))) ?_
  refine d_q rfl (fun w' H => x_mv (v := I threshold) rfl) ?_
  refine d_q rfl (fun w' H => x_cmp (kd := .i64) (a := (l.getD (Int.toNat (choice.getD s 0)) default).stage) (b := threshold) (r := decide (((l.getD (Int.toNat (choice.getD s 0)) default).stage) <= threshold)) rfl rfl rfl) ?_
  refine d_q rfl (fun w' H => x_mv (v := B (decide (((l.getD (Int.toNat (choice.getD s 0)) default).stage) <= threshold))) rfl) ?_
  refine d_qg (!(decide (((l.getD (Int.toNat (choice.getD s 0)) default).stage) <= threshold))) rfl (gy_f rfl) (fun hg => (fun w' H => x_mv (v := I (s : Int)) rfl)) ?_
  refine d_qg (!(decide (((l.getD (Int.toNat (choice.getD s 0)) default).stage) <= threshold))) rfl (gy_f rfl) (fun hg => (fun w' H => x_cmp (kd := .i64) (a := (s : Int)) (b := 0) (r := decide (0 < (s : Int))) (gd_of (c := !(decide (((l.getD (Int.toNat (choice.getD s 0)) default).stage) <= threshold))) hg (I (s : Int))) rfl rfl)) ?_
  refine d_qg (!(decide (((l.getD (Int.toNat (choice.getD s 0)) default).stage) <= threshold))) rfl (gy_f rfl) (fun hg => (fun w' H => x_mv (v := B (decide (0 < (s : Int)))) (gd_of (c := !(decide (((l.getD (Int.toNat (choice.getD s 0)) default).stage) <= threshold))) hg (B (decide (0 < (s : Int))))))) ?_
  refine d_qg ((!(decide (((l.getD (Int.toNat (choice.getD s 0)) default).stage) <= threshold))) && (decide (0 < (s : Int)))) rfl (gy_gt rfl rfl) (fun hg => (fun w' H => x_mv (v := v_l) rfl)) ?_
  refine d_qg ((!(decide (((l.getD (Int.toNat (choice.getD s 0)) default).stage) <= threshold))) && (decide (0 < (s : Int)))) rfl (gy_gt rfl rfl) (fun hg => (fun w' H => x_mv (v := I (choice.getD s 0)) rfl)) ?_
  refine d_qg ((!(decide (((l.getD (Int.toNat (choice.getD s 0)) default).stage) <= threshold))) && (decide (0 < (s : Int)))) rfl (gy_gt rfl rfl) (fun hg => (fun w' H => x_ix (a := v_l) (b := I (choice.getD s 0)) (v := vat v_l 2 (Int.toNat (choice.getD s 0))) (gd_of (c := ((!(decide (((l.getD (Int.toNat (choice.getD s 0)) default).stage) <= threshold))) && (decide (0 < (s : Int))))) hg (v_l)) (gd_of (c := ((!(decide (((l.getD (Int.toNat (choice.getD s 0)) default).stage) <= threshold))) && (decide (0 < (s : Int))))) hg (I (choice.getD s 0))) (Sl.ix (α := Pk) T69.und T69.size hs_l (by first | omega | (have hx_ := hg; simp at hx_; omega)) (by first | omega | (have hx_ := hg; simp at hx_; omega))))) ?_
  refine d_qg ((!(decide (((l.getD (Int.toNat (choice.getD s 0)) default).stage) <= threshold))) && (decide (0 < (s : Int)))) rfl (gy_gt rfl rfl) (fun hg => (fun w' H => x_fa (a := vat v_l 2 (Int.toNat (choice.getD s 0))) (v := fat (vat v_l 2 (Int.toNat (choice.getD s 0))) 0) (gd_of (c := ((!(decide (((l.getD (Int.toNat (choice.getD s 0)) default).stage) <= threshold))) && (decide (0 < (s : Int))))) hg (vat v_l 2 (Int.toNat (choice.getD s 0)))) (fa_pl Fd72_0 Sz3 (Sl.pl (i := choice.getD s 0) hs_l (by first | omega | (have hx_ := hg; simp at hx_; omega)) (by first | omega | (have hx_ := hg; simp at hx_; omega)))))) ?_
  refine d_qg ((!(decide (((l.getD (Int.toNat (choice.getD s 0)) default).stage) <= threshold))) && (decide (0 < (s : Int)))) rfl (gy_gt rfl rfl) (fun hg => (fun w' H => x_ld (p := fat (vat v_l 2 (Int.toNat (choice.getD s 0))) 0) (v := I ((l.getD (Int.toNat (choice.getD s 0)) default).day)) (gd_of (c := ((!(decide (((l.getD (Int.toNat (choice.getD s 0)) default).stage) <= threshold))) && (decide (0 < (s : Int))))) hg (fat (vat v_l 2 (Int.toNat (choice.getD s 0))) 0)) (ld_sc Sc3 (At.mono (Pk_at0 hs_l (i := choice.getD s 0) (by first | omega | (have hx_ := hg; simp at hx_; omega)) (by first | omega | (have hx_ := hg; simp at hx_; omega))) (hC_l.at H))))) ?_
  refine d_qg ((!(decide (((l.getD (Int.toNat (choice.getD s 0)) default).stage) <= threshold))) && (decide (0 < (s : Int)))) rfl (gy_gt rfl rfl) (fun hg => (fun w' H => x_mv (v := v_l) rfl)) ?_
  refine d_qg ((!(decide (((l.getD (Int.toNat (choice.getD s 0)) default).stage) <= threshold))) && (decide (0 < (s : Int)))) rfl (gy_gt rfl rfl) (fun hg => (fun w' H => x_mv (v := v_choice) rfl)) ?_
  refine d_qg ((!(decide (((l.getD (Int.toNat (choice.getD s 0)) default).stage) <= threshold))) && (decide (0 < (s : Int)))) rfl (gy_gt rfl rfl) (fun hg => (fun w' H => x_mv (v := I (s : Int)) rfl)) ?_
  obtain ⟨sd27z, hM⟩ := M.e_grd hM
  replace sd27z := M.imp_of sd27z
  simp only [Bool.and_eq_true, decide_eq_true_eq] at sd27z
  refine d_qg ((!(decide (((l.getD (Int.toNat (choice.getD s 0)) default).stage) <= threshold))) && (decide (0 < (s : Int)))) rfl (gy_gt rfl rfl) (fun hg => (fun w' H => x_ari (a := (s : Int)) (b := 1) (r := (s : Int) - 1) (gd_of (c := ((!(decide (((l.getD (Int.toNat (choice.getD s 0)) default).stage) <= threshold))) && (decide (0 < (s : Int))))) hg (I (s : Int))) rfl rfl (by have h1_ := sd27z.resolve_left (by rw [hg]; decide); first | exact h1_ | exact h1_.1 | exact h1_.2 | omega | (have hx_ := hg; simp at hx_; omega)))) ?_
  obtain ⟨sd28z, hM⟩ := M.e_grd hM
  replace sd28z := M.imp_of sd28z
  simp only [Bool.and_eq_true, decide_eq_true_eq] at sd28z
  refine d_qg ((!(decide (((l.getD (Int.toNat (choice.getD s 0)) default).stage) <= threshold))) && (decide (0 < (s : Int)))) rfl (gy_gt rfl rfl) (fun hg => (fun w' H => x_ix (a := v_choice) (b := I ((s : Int) - 1)) (v := vat v_choice 1 (Int.toNat ((s : Int) - 1))) (gd_of (c := ((!(decide (((l.getD (Int.toNat (choice.getD s 0)) default).stage) <= threshold))) && (decide (0 < (s : Int))))) hg (v_choice)) (gd_of (c := ((!(decide (((l.getD (Int.toNat (choice.getD s 0)) default).stage) <= threshold))) && (decide (0 < (s : Int))))) hg (I ((s : Int) - 1))) (Sl.ix (α := Int) T27.und T27.size hs_choice (by have h1_ := sd27z.resolve_left (by rw [hg]; decide); have h2_ := sd28z.resolve_left (by rw [hg]; decide); first | exact h1_ | exact h1_.1 | exact h1_.2 | exact h2_ | exact h2_.1 | exact h2_.2 | omega | (have hx_ := hg; simp at hx_; omega)) (by have h1_ := sd27z.resolve_left (by rw [hg]; decide); have h2_ := sd28z.resolve_left (by rw [hg]; decide); first | exact h1_ | exact h1_.1 | exact h1_.2 | exact h2_ | exact h2_.1 | exact h2_.2 | omega | (have hx_ := hg; simp at hx_; omega))))) ?_
  refine d_qg ((!(decide (((l.getD (Int.toNat (choice.getD s 0)) default).stage) <= threshold))) && (decide (0 < (s : Int)))) rfl (gy_gt rfl rfl) (fun hg => (fun w' H => x_ld (p := vat v_choice 1 (Int.toNat ((s : Int) - 1))) (v := I (choice.getD (Int.toNat ((s : Int) - 1)) 0)) (gd_of (c := ((!(decide (((l.getD (Int.toNat (choice.getD s 0)) default).stage) <= threshold))) && (decide (0 < (s : Int))))) hg (vat v_choice 1 (Int.toNat ((s : Int) - 1)))) (ld_sc Sc3 (At.mono (Int_at hs_choice (i := (s : Int) - 1) (by have h1_ := sd27z.resolve_left (by rw [hg]; decide); have h2_ := sd28z.resolve_left (by rw [hg]; decide); first | exact h1_ | exact h1_.1 | exact h1_.2 | exact h2_ | exact h2_.1 | exact h2_.2 | omega | (have hx_ := hg; simp at hx_; omega)) (by have h1_ := sd27z.resolve_left (by rw [hg]; decide); have h2_ := sd28z.resolve_left (by rw [hg]; decide); first | exact h1_ | exact h1_.1 | exact h1_.2 | exact h2_ | exact h2_.1 | exact h2_.2 | omega | (have hx_ := hg; simp at hx_; omega))) (hC_choice.at H))))) ?_
  obtain ⟨sd29z, hM⟩ := M.e_grd hM
  replace sd29z := M.imp_of sd29z
  simp only [Bool.and_eq_true, decide_eq_true_eq] at sd29z
  refine d_qg ((!(decide (((l.getD (Int.toNat (choice.getD s 0)) default).stage) <= threshold))) && (decide (0 < (s : Int)))) rfl (gy_gt rfl rfl) (fun hg => (fun w' H => x_ix (a := v_l) (b := I (choice.getD (Int.toNat ((s : Int) - 1)) 0)) (v := vat v_l 2 (Int.toNat (choice.getD (Int.toNat ((s : Int) - 1)) 0))) (gd_of (c := ((!(decide (((l.getD (Int.toNat (choice.getD s 0)) default).stage) <= threshold))) && (decide (0 < (s : Int))))) hg (v_l)) (gd_of (c := ((!(decide (((l.getD (Int.toNat (choice.getD s 0)) default).stage) <= threshold))) && (decide (0 < (s : Int))))) hg (I (choice.getD (Int.toNat ((s : Int) - 1)) 0))) (Sl.ix (α := Pk) T69.und T69.size hs_l (by have h1_ := sd27z.resolve_left (by rw [hg]; decide); have h2_ := sd28z.resolve_left (by rw [hg]; decide); have h3_ := sd29z.resolve_left (by rw [hg]; decide); first | exact h1_ | exact h1_.1 | exact h1_.2 | exact h2_ | exact h2_.1 | exact h2_.2 | exact h3_ | exact h3_.1 | exact h3_.2 | omega | (have hx_ := hg; simp at hx_; omega)) (by have h1_ := sd27z.resolve_left (by rw [hg]; decide); have h2_ := sd28z.resolve_left (by rw [hg]; decide); have h3_ := sd29z.resolve_left (by rw [hg]; decide); first | exact h1_ | exact h1_.1 | exact h1_.2 | exact h2_ | exact h2_.1 | exact h2_.2 | exact h3_ | exact h3_.1 | exact h3_.2 | omega | (have hx_ := hg; simp at hx_; omega))))) ?_
  refine d_qg ((!(decide (((l.getD (Int.toNat (choice.getD s 0)) default).stage) <= threshold))) && (decide (0 < (s : Int)))) rfl (gy_gt rfl rfl) (fun hg => (fun w' H => x_fa (a := vat v_l 2 (Int.toNat (choice.getD (Int.toNat ((s : Int) - 1)) 0))) (v := fat (vat v_l 2 (Int.toNat (choice.getD (Int.toNat ((s : Int) - 1)) 0))) 0) (gd_of (c := ((!(decide (((l.getD (Int.toNat (choice.getD s 0)) default).stage) <= threshold))) && (decide (0 < (s : Int))))) hg (vat v_l 2 (Int.toNat (choice.getD (Int.toNat ((s : Int) - 1)) 0)))) (fa_pl Fd72_0 Sz3 (Sl.pl (i := choice.getD (Int.toNat ((s : Int) - 1)) 0) hs_l (by have h1_ := sd27z.resolve_left (by rw [hg]; decide); have h2_ := sd28z.resolve_left (by rw [hg]; decide); have h3_ := sd29z.resolve_left (by rw [hg]; decide); first | exact h1_ | exact h1_.1 | exact h1_.2 | exact h2_ | exact h2_.1 | exact h2_.2 | exact h3_ | exact h3_.1 | exact h3_.2 | omega | (have hx_ := hg; simp at hx_; omega)) (by have h1_ := sd27z.resolve_left (by rw [hg]; decide); have h2_ := sd28z.resolve_left (by rw [hg]; decide); have h3_ := sd29z.resolve_left (by rw [hg]; decide); first | exact h1_ | exact h1_.1 | exact h1_.2 | exact h2_ | exact h2_.1 | exact h2_.2 | exact h3_ | exact h3_.1 | exact h3_.2 | omega | (have hx_ := hg; simp at hx_; omega)))))) ?_
  refine d_qg ((!(decide (((l.getD (Int.toNat (choice.getD s 0)) default).stage) <= threshold))) && (decide (0 < (s : Int)))) rfl (gy_gt rfl rfl) (fun hg => (fun w' H => x_ld (p := fat (vat v_l 2 (Int.toNat (choice.getD (Int.toNat ((s : Int) - 1)) 0))) 0) (v := I ((l.getD (Int.toNat (choice.getD (Int.toNat ((s : Int) - 1)) 0)) default).day)) (gd_of (c := ((!(decide (((l.getD (Int.toNat (choice.getD s 0)) default).stage) <= threshold))) && (decide (0 < (s : Int))))) hg (fat (vat v_l 2 (Int.toNat (choice.getD (Int.toNat ((s : Int) - 1)) 0))) 0)) (ld_sc Sc3 (At.mono (Pk_at0 hs_l (i := choice.getD (Int.toNat ((s : Int) - 1)) 0) (by have h1_ := sd27z.resolve_left (by rw [hg]; decide); have h2_ := sd28z.resolve_left (by rw [hg]; decide); have h3_ := sd29z.resolve_left (by rw [hg]; decide); first | exact h1_ | exact h1_.1 | exact h1_.2 | exact h2_ | exact h2_.1 | exact h2_.2 | exact h3_ | exact h3_.1 | exact h3_.2 | omega | (have hx_ := hg; simp at hx_; omega)) (by have h1_ := sd27z.resolve_left (by rw [hg]; decide); have h2_ := sd28z.resolve_left (by rw [hg]; decide); have h3_ := sd29z.resolve_left (by rw [hg]; decide); first | exact h1_ | exact h1_.1 | exact h1_.2 | exact h2_ | exact h2_.1 | exact h2_.2 | exact h3_ | exact h3_.1 | exact h3_.2 | omega | (have hx_ := hg; simp at hx_; omega))) (hC_l.at H))))) ?_
  obtain ⟨sd30z, hM⟩ := M.e_grd hM
  replace sd30z := M.imp_of sd30z
  simp only [Bool.and_eq_true, decide_eq_true_eq] at sd30z
  refine d_qg ((!(decide (((l.getD (Int.toNat (choice.getD s 0)) default).stage) <= threshold))) && (decide (0 < (s : Int)))) rfl (gy_gt rfl rfl) (fun hg => (fun w' H => x_ari (a := (l.getD (Int.toNat (choice.getD s 0)) default).day) (b := (l.getD (Int.toNat (choice.getD (Int.toNat ((s : Int) - 1)) 0)) default).day) (r := ((l.getD (Int.toNat (choice.getD s 0)) default).day) - ((l.getD (Int.toNat (choice.getD (Int.toNat ((s : Int) - 1)) 0)) default).day)) (gd_of (c := ((!(decide (((l.getD (Int.toNat (choice.getD s 0)) default).stage) <= threshold))) && (decide (0 < (s : Int))))) hg (I ((l.getD (Int.toNat (choice.getD s 0)) default).day))) (gd_of (c := ((!(decide (((l.getD (Int.toNat (choice.getD s 0)) default).stage) <= threshold))) && (decide (0 < (s : Int))))) hg (I ((l.getD (Int.toNat (choice.getD (Int.toNat ((s : Int) - 1)) 0)) default).day))) rfl (by have h1_ := sd27z.resolve_left (by rw [hg]; decide); have h2_ := sd28z.resolve_left (by rw [hg]; decide); have h3_ := sd29z.resolve_left (by rw [hg]; decide); have h4_ := sd30z.resolve_left (by rw [hg]; decide); first | exact h1_ | exact h1_.1 | exact h1_.2 | exact h2_ | exact h2_.1 | exact h2_.2 | exact h3_ | exact h3_.1 | exact h3_.2 | exact h4_ | exact h4_.1 | exact h4_.2 | omega | (have hx_ := hg; simp at hx_; omega)))) ?_
  refine d_qg ((!(decide (((l.getD (Int.toNat (choice.getD s 0)) default).stage) <= threshold))) && (decide (0 < (s : Int)))) rfl (gy_gt rfl rfl) (fun hg => (fun w' H => x_mv (v := I apart) rfl)) ?_
  refine d_qg ((!(decide (((l.getD (Int.toNat (choice.getD s 0)) default).stage) <= threshold))) && (decide (0 < (s : Int)))) rfl (gy_gt rfl rfl) (fun hg => (fun w' H => x_cmp (kd := .i64) (a := ((l.getD (Int.toNat (choice.getD s 0)) default).day) - ((l.getD (Int.toNat (choice.getD (Int.toNat ((s : Int) - 1)) 0)) default).day)) (b := apart) (r := decide ((((l.getD (Int.toNat (choice.getD s 0)) default).day) - ((l.getD (Int.toNat (choice.getD (Int.toNat ((s : Int) - 1)) 0)) default).day)) < apart)) (gd_of (c := ((!(decide (((l.getD (Int.toNat (choice.getD s 0)) default).stage) <= threshold))) && (decide (0 < (s : Int))))) hg (I (((l.getD (Int.toNat (choice.getD s 0)) default).day) - ((l.getD (Int.toNat (choice.getD (Int.toNat ((s : Int) - 1)) 0)) default).day)))) (gd_of (c := ((!(decide (((l.getD (Int.toNat (choice.getD s 0)) default).stage) <= threshold))) && (decide (0 < (s : Int))))) hg (I apart)) rfl)) ?_
  refine d_qg (!(decide (((l.getD (Int.toNat (choice.getD s 0)) default).stage) <= threshold))) rfl (gy_f rfl) (fun hg => (fun w' H => x_pand (b := decide (0 < (s : Int))) (r := decide ((((l.getD (Int.toNat (choice.getD s 0)) default).day) - ((l.getD (Int.toNat (choice.getD (Int.toNat ((s : Int) - 1)) 0)) default).day)) < apart)) (gd_of (c := !(decide (((l.getD (Int.toNat (choice.getD s 0)) default).stage) <= threshold))) hg (B (decide (0 < (s : Int))))) (fun hb => gd_of (c := ((!(decide (((l.getD (Int.toNat (choice.getD s 0)) default).stage) <= threshold))) && (decide (0 < (s : Int))))) (by first | exact hb | (rw [hb]; rfl) | simp_all) (B (decide ((((l.getD (Int.toNat (choice.getD s 0)) default).day) - ((l.getD (Int.toNat (choice.getD (Int.toNat ((s : Int) - 1)) 0)) default).day)) < apart)))) rfl)) ?_
  refine d_q rfl (fun w' H => x_por (b := decide (((l.getD (Int.toNat (choice.getD s 0)) default).stage) <= threshold)) (r := ((decide (0 < (s : Int))) && (decide ((((l.getD (Int.toNat (choice.getD s 0)) default).day) - ((l.getD (Int.toNat (choice.getD (Int.toNat ((s : Int) - 1)) 0)) default).day)) < apart)))) rfl rfl (fun hb => gd_of (c := !(decide (((l.getD (Int.toNat (choice.getD s 0)) default).stage) <= threshold))) (by first | exact hb | (rw [hb]; rfl) | simp_all) (B ((decide (0 < (s : Int))) && (decide ((((l.getD (Int.toNat (choice.getD s 0)) default).day) - ((l.getD (Int.toNat (choice.getD (Int.toNat ((s : Int) - 1)) 0)) default).day)) < apart)))))) ?_
  refine d_nil ?_
  refine W.cond ((decide (((l.getD (Int.toNat (choice.getD s 0)) default).stage) <= threshold)) || ((decide (0 < (s : Int))) && (decide ((((l.getD (Int.toNat (choice.getD s 0)) default).day) - ((l.getD (Int.toNat (choice.getD (Int.toNat ((s : Int) - 1)) 0)) default).day)) < apart)))) rfl (fun c31z => ?_) (fun c31z => ?_)
  ·replace hM := M.e_t hM c31z
   refine W.seq ?_
   refine W.region rfl ?_
   refine s_val (x_as (v := I 0) rfl) ?_
   refine s_val (x_as (v := I 7) rfl) ?_
   refine s_nil ?_
   refine W.ret ?_
   have hX32z := M.e_inr hM hN22z
   subst hX32z
   replace hM := hk15z
   try dsimp only at hM
   have hr_ := M.e_pure hM
   exact ⟨_, resE_tmp2 rfl, ⟨0, 7, hr_, rfl, H⟩⟩
  replace hM := M.e_f hM c31z
  refine W.skip ?_
  refine W.region rfl ?_
  refine s_val (x_mv (v := I worth) rfl) ?_
  refine s_val (x_mv (v := v_l) rfl) ?_
  refine s_val (x_mv (v := I (choice.getD s 0)) rfl) ?_
  refine s_val (x_ix (a := v_l) (b := I (choice.getD s 0)) (v := vat v_l 2 (Int.toNat (choice.getD s 0))) rfl rfl (Sl.ix (α := Pk) T69.und T69.size hs_l (by omega) (by omega))) ?_
  refine s_val (x_fa (a := vat v_l 2 (Int.toNat (choice.getD s 0))) (v := fat (vat v_l 2 (Int.toNat (choice.getD s 0))) 1) rfl (fa_pl Fd72_1 Sz3 (Sl.pl (i := choice.getD s 0) hs_l (by omega) (by omega)))) ?_
  refine s_val (x_ld (p := fat (vat v_l 2 (Int.toNat (choice.getD s 0))) 1) (v := I ((l.getD (Int.toNat (choice.getD s 0)) default).stage)) rfl (ld_sc Sc3 (At.mono (Pk_at1 hs_l (i := choice.getD s 0) (by omega) (by omega)) (hC_l.at H)))) ?_
  refine s_val (x_mv (v := I threshold) rfl) ?_
  obtain ⟨sd33z, hM⟩ := M.e_grd hM
  simp only [Bool.and_eq_true, decide_eq_true_eq] at sd33z
  refine s_val (x_ari (a := (l.getD (Int.toNat (choice.getD s 0)) default).stage) (b := threshold) (r := ((l.getD (Int.toNat (choice.getD s 0)) default).stage) - threshold) rfl rfl rfl (by omega)) ?_
  obtain ⟨sd34z, hM⟩ := M.e_grd hM
  simp only [Bool.and_eq_true, decide_eq_true_eq] at sd34z
  refine s_val (x_ari (a := worth) (b := ((l.getD (Int.toNat (choice.getD s 0)) default).stage) - threshold) (r := worth + (((l.getD (Int.toNat (choice.getD s 0)) default).stage) - threshold)) rfl rfl rfl (by omega)) ?_
  refine s_val (x_as (v := I (worth + (((l.getD (Int.toNat (choice.getD s 0)) default).stage) - threshold))) rfl) ?_
  refine s_nil ?_
  refine W.region rfl ?_
  refine s_val (x_ari (a := (s : Int)) (b := 1) (r := (s : Int) + 1) rfl rfl rfl (by omega)) ?_
  refine s_val (x_mv (v := I ((s : Int) + 1)) rfl) ?_
  refine s_nil ?_
  exact ⟨m19z, lt20z, worth + (((l.getD (Int.toNat (choice.getD s 0)) default).stage) - threshold), s + 1, _, upds_of _ _ ⟨rfl, rfl, rfl, rfl, rfl, rfl, rfl, rfl, trivial⟩, M.e_inl hM hN22z, H⟩
 replace hM := M.e_f hM c23z
 simp only [decide_eq_true_eq, decide_eq_false_iff_not, beq_iff_eq, bne_iff_ne, beq_eq_false_iff_ne, bne_eq_false_iff_eq, ne_eq, Decidable.not_not] at c23z
 refine W.exit ?_
 have hX35z := M.e_inr hM hN22z
 subst hX35z
 replace hM := hk15z
 try dsimp only at hM
 refine W.seq ?_
 refine W.region rfl ?_
 refine s_val (x_mv (v := I worth) rfl) ?_
 refine s_val (x_as (v := I worth) rfl) ?_
 refine s_val (x_as (v := I 0) rfl) ?_
 refine s_nil ?_
 refine W.ret ?_
 have hr_ := M.e_pure hM
 exact ⟨_, resE_tmp2 rfl, ⟨worth, 0, hr_, rfl, H⟩⟩

def zbs (s : List Int) (f : Int -> M Bool) : Nat -> M (Nat ⊕ (Int ⊕ Unit)) := fun s2 =>
  bif decide ((s2 : Int) < (s.length : Int)) then (
  M.grd (decide ((s2 : Int) < (s.length : Int))) <|
  M.bind (f (s.getD s2 0)) fun r2 =>
  bif r2 then (
  M.pure (.inr (.inl (s2 : Int))))
  else (
  M.pure (.inl (s2 + 1))))
  else (
  M.pure (.inr (.inr ())))
def zbX (s : List Int) (f : Int -> M Bool) : M Int :=
  M.bind (M.iter (zbs s f) 0) fun x_ => match x_ with
  | (.inl s3) => (
  M.pure s3)
  | (.inr (_ : Unit)) => (
  M.pure (-1))
theorem zcg {R : List Chunk} {C_s : Cells} {v_s : Value} {v_f : Value} (s : List Int) (f : Int -> M Bool) (hC_s : Reads R C_s) (hs_s : Sl C_s v_s s) (hf_f : FnM Try.prog R v_f f) {r : Int} (hM : (zbX s f).Ends r) (w : World) (H : St w w [] R) : Ret Try.prog 113 #[v_s, v_f] w fun v w' => ∃ (y0 : Int), y0 = r /\ v = I y0 /\ St w w' [] R := by
 refine ret_of_W Try.func113 rfl rfl rfl ?_
 refine W.seq ?_
 refine W.region rfl ?_
 refine s_val (x_as (v := I 0) rfl) ?_
 refine s_nil ?_
 refine W.seq ?_
 refine W.seq ?_
 refine W.region rfl ?_
 refine s_val (x_mv (v := v_s) rfl) ?_
 have hl1z := (hs_s).len_le
 refine s_val (x_lenS T27.und rfl hs_s) ?_
 refine s_val (x_mv (v := I 0) rfl) ?_
 refine s_nil ?_
 refine W.block ?_
 obtain ⟨ex2z, hi3z, hk4z⟩ := M.e_bind hM
 obtain ⟨m0_, hi3z⟩ := M.e_iter hi3z
 refine W.loop (fun m σ W => ∃ (s2 : Nat) (ρ : Env), σ = upds ρ [(0, v_s), (1, v_f), (7, I (s.length : Int)), (8, I (s2 : Int))] /\ M.iterN (zbs s f) m s2 = some ex2z /\ St w W [] R) ?_ ?_
 ·exact ⟨_, 0, _, upds_of _ _ ⟨rfl, rfl, rfl, rfl, trivial⟩, hi3z, H⟩
 rintro m7z σ w5z ⟨s2, ρ, rfl, hI6z, H⟩
 obtain ⟨m8z, lt9z, x10z, hM, hN11z⟩ := M.e_iterN hI6z
 simp only [zbs] at hM
 clear hI6z
 refine W.seq ?_
 refine W.region rfl ?_
 refine s_val (x_cmp (kd := .i64) (a := (s2 : Int)) (b := (s.length : Int)) (r := decide ((s2 : Int) < (s.length : Int))) rfl rfl rfl) ?_
 refine s_nil ?_
 refine W.seq ?_
 refine W.cond (decide ((s2 : Int) < (s.length : Int))) rfl (fun c12z => ?_) (fun c12z => ?_)
 ·replace hM := M.e_t hM c12z
  simp only [decide_eq_true_eq, decide_eq_false_iff_not, beq_iff_eq, bne_iff_ne, beq_eq_false_iff_ne, bne_eq_false_iff_eq, ne_eq, Decidable.not_not] at c12z
  refine W.skip ?_
  refine W.seq ?_
  refine W.block ?_
  refine W.seq ?_
  refine W.region rfl ?_
  refine s_val (x_mv (v := I (s2 : Int)) rfl) ?_
  refine s_val (x_as (v := I (s2 : Int)) rfl) ?_
  refine s_nil ?_
  refine W.seq ?_
  refine W.region rfl ?_
  refine s_val (x_mv (v := v_f) rfl) ?_
  refine s_val (x_mv (v := v_s) rfl) ?_
  refine s_val (x_mv (v := I (s2 : Int)) rfl) ?_
  obtain ⟨sd13z, hM⟩ := M.e_grd hM
  simp only [Bool.and_eq_true, decide_eq_true_eq] at sd13z
  refine s_val (x_ix (a := v_s) (b := I (s2 : Int)) (v := vat v_s 1 (Int.toNat (s2 : Int))) rfl rfl (Sl.ix (α := Int) T27.und T27.size hs_s (by omega) (by omega))) ?_
  refine s_val (x_ld (p := vat v_s 1 (Int.toNat (s2 : Int))) (v := I (s.getD s2 0)) rfl (ld_sc Sc3 (At.mono (Int_at hs_s (i := (s2 : Int)) (by omega) (by omega)) (hC_s.at H)))) ?_
  obtain ⟨r2, hx15z, hM⟩ := M.e_bind hM
  refine t_callM H hf_f rfl rfl (s.getD s2 0) Reads.none (Arg.mkI (fun _ => none) _) hx15z ?_
  intro w14z H
  refine s_nil ?_
  refine W.cond r2 rfl (fun c16z => ?_) (fun c16z => ?_)
  ·replace hM := M.e_t hM c16z
   refine W.seq ?_
   refine W.region rfl ?_
   refine s_val (x_mv (v := I (s2 : Int)) rfl) ?_
   refine s_val (x_as (v := I (s2 : Int)) rfl) ?_
   refine s_nil ?_
   refine W.ret ?_
   have hX17z := M.e_inr hM hN11z
   subst hX17z
   replace hM := hk4z
   try dsimp only at hM
   have hr_ := M.e_pure hM
   exact ⟨_, resE_tmp rfl, ⟨(s2 : Int), hr_, rfl, H⟩⟩
  replace hM := M.e_f hM c16z
  refine W.skip ?_
  refine W.region rfl ?_
  refine s_val (x_ari (a := (s2 : Int)) (b := 1) (r := (s2 : Int) + 1) rfl rfl rfl (by omega)) ?_
  refine s_val (x_mv (v := I ((s2 : Int) + 1)) rfl) ?_
  refine s_nil ?_
  exact ⟨m8z, lt9z, s2 + 1, _, upds_of _ _ ⟨rfl, rfl, rfl, rfl, trivial⟩, M.e_inl hM hN11z, H⟩
 replace hM := M.e_f hM c12z
 simp only [decide_eq_true_eq, decide_eq_false_iff_not, beq_iff_eq, bne_iff_ne, beq_eq_false_iff_ne, bne_eq_false_iff_eq, ne_eq, Decidable.not_not] at c12z
 refine W.exit ?_
 have hX18z := M.e_inr hM hN11z
 subst hX18z
 replace hM := hk4z
 try dsimp only at hM
 refine W.seq ?_
 refine W.region rfl ?_
 refine s_val (x_as (v := I (-1)) rfl) ?_
 refine s_nil ?_
 refine W.ret ?_
 have hr_ := M.e_pure hM
 exact ⟨_, resE_tmp rfl, ⟨(-1), hr_, rfl, H⟩⟩

def zb6 (s : List Int) (f : Int -> M Bool) : M Bool :=
  M.bind (zbX s f) fun r2 =>
  M.pure (decide (0 <= r2))
theorem zcv {R : List Chunk} {C_s : Cells} {v_s : Value} {v_f : Value} (s : List Int) (f : Int -> M Bool) (hC_s : Reads R C_s) (hs_s : Sl C_s v_s s) (hf_f : FnM Try.prog R v_f f) {r : Bool} (hM : (zb6 s f).Ends r) (w : World) (H : St w w [] R) : Ret Try.prog 97 #[v_s, v_f] w fun v w' => ∃ (y0 : Bool), y0 = r /\ v = B y0 /\ St w w' [] R := by
 refine ret_of_W Try.func97 rfl rfl rfl ?_
 refine W.seq ?_
 refine W.region rfl ?_
 refine s_val (x_as (v := B false) rfl) ?_
 refine s_nil ?_
 refine W.seq ?_
 refine W.region rfl ?_
 refine s_val (x_mv (v := v_s) rfl) ?_
 refine s_val (x_mv (v := v_f) rfl) ?_
 obtain ⟨r2z, hx1z, hM⟩ := M.e_bind hM
 refine s_call cf113 [v_s, v_f] rfl (zcg s f (hC_s.app _) hs_s (hf_f.app _) hx1z _ (St.give (T := []) H rfl)) ?_
 rintro vq w3z ⟨r2, hr4z, hvq, H2_⟩
 subst hr4z
 subst vq
 try dsimp only at hM
 replace H : St w w3z [] R := H.back H2_ rfl
 clear H2_
 refine s_val (x_cmp (kd := .i64) (a := r2) (b := 0) (r := decide (0 <= r2)) rfl rfl rfl) ?_
 refine s_val (x_as (v := B (decide (0 <= r2))) rfl) ?_
 refine s_nil ?_
 refine W.ret ?_
 have hr_ := M.e_pure hM
 exact ⟨_, resE_tmp rfl, ⟨(decide (0 <= r2)), hr_, rfl, H⟩⟩

def zbx (x : Int) (k02 : Int -> M Bool) : M Bool :=
  M.bind (k02 x) fun r2 =>
  M.pure (!r2)
theorem zcH {R : List Chunk} {b_k0 : Nat} {v_k02 : Value} (x : Int) (k02 : Int -> M Bool) (hf_k02 : FnM Try.prog R v_k02 k02) (h_b_k0 : Has R (cBlk b_k0 [v_k02] 105)) {r : Bool} (hM : (zbx x k02).Ends r) (w : World) (H : St w w [] R) : Ret Try.prog 98 #[I x, .pointer (some ⟨b_k0, 0, none⟩)] w fun v w' => ∃ (y0 : Bool), y0 = r /\ v = B y0 /\ St w w' [] R := by
 refine ret_of_W Try.func98 rfl rfl rfl ?_
 refine W.seq ?_
 refine W.region rfl ?_
 refine s_val (x_as (v := B false) rfl) ?_
 refine s_nil ?_
 refine W.seq ?_
 refine W.region rfl ?_
 refine s_val (x_ld (p := .pointer (some ⟨b_k0, 0, none⟩)) (v := v_k02) rfl (ldb_sc Sc105 (h_b_k0.blk H) rfl)) ?_
 refine s_val (x_mv (v := I x) rfl) ?_
 obtain ⟨r2, hx2z, hM⟩ := M.e_bind hM
 refine t_callM H hf_k02 rfl rfl x Reads.none (Arg.mkI (fun _ => none) _) hx2z ?_
 intro w1z H
 refine s_val (x_not (b := r2) rfl) ?_
 refine s_val (x_as (v := B (!r2)) rfl) ?_
 refine s_nil ?_
 refine W.ret ?_
 have hr_ := M.e_pure hM
 exact ⟨_, resE_tmp rfl, ⟨(!r2), hr_, rfl, H⟩⟩

def zb0 (l : List Int) (so : Int -> M Bool) : M Bool :=
  M.bind (zb6 l (fun xqz => zbx xqz so)) fun r2 =>
  M.pure (!r2)
theorem zcf {R : List Chunk} {C_l : Cells} {v_l : Value} {v_so : Value} (l : List Int) (so : Int -> M Bool) (hC_l : Reads R C_l) (hs_l : Sl C_l v_l l) (hf_so : FnM Try.prog R v_so so) {r : Bool} (hM : (zb0 l so).Ends r) (w : World) (H : St w w [] R) : Ret Try.prog 83 #[v_l, v_so] w fun v w' => ∃ (y0 : Bool), y0 = r /\ v = B y0 /\ St w w' [] R := by
 refine ret_of_W Try.func83 rfl rfl rfl ?_
 refine W.seq ?_
 refine W.region rfl ?_
 refine t_box (v := v_so) (cs := [v_so]) H rfl (FnM.cells hf_so) ?_
 intro b_1 w1z H
 refine s_val (x_as (v := B false) rfl) ?_
 refine s_nil ?_
 refine W.seq ?_
 refine W.region rfl ?_
 refine s_val (x_mv (v := v_l) rfl) ?_
 refine s_val (x_mf (fs := []) (cs := [.pointer (some ⟨b_1, 0, none⟩)]) rfl rfl) ?_
 obtain ⟨r3z, hx2z, hM⟩ := M.e_bind hM
 refine s_call cf97 [v_l, .func (.func 98) #[] #[.pointer (some ⟨b_1, 0, none⟩)]] rfl (zcv l (fun xqz => zbx xqz so) (hC_l.app _) hs_l ⟨98, [.pointer (some ⟨b_1, 0, none⟩)], rfl, cf98, fun wqz Lqz Cqz vqz xqz bqz hsqz hCqz hAqz hpqz => by obtain rfl := Arg.int hAqz; exact (zcH xqz so (FnM.app (hf_so.app _) _) (Has.app (Has.here (k := 0) rfl) _) hpqz wqz (St.refl hsqz)).mono fun vqz wqz ⟨yqz, hrqz, hvqz, Hqz⟩ => by subst hrqz; exact ⟨hvqz, Hqz⟩⟩ hx2z _ (St.give (T := [cBlk b_1 [v_so] 105]) H rfl)) ?_
 rintro vq w4z ⟨r2, hr5z, hvq, H2_⟩
 subst hr5z
 subst vq
 try dsimp only at hM
 replace H : St w w4z [cBlk b_1 [v_so] 105] R := H.back H2_ rfl
 clear H2_
 refine s_val (x_not (b := r2) rfl) ?_
 refine s_val (x_as (v := B (!r2)) rfl) ?_
 refine s_nil ?_
 refine W.ret ?_
 have hr_ := M.e_pure hM
 exact ⟨_, resE_tmp rfl, ⟨(!r2), hr_, rfl, (H.pick [] (by decide) rfl)⟩⟩

def zbq (n : Int) : M Bool :=
  M.bind (zab n 0 2000) fun r2 =>
  M.pure r2
theorem zcp {R : List Chunk}  (n : Int)  {r : Bool} (hM : (zbq n).Ends r) (w : World) (H : St w w [] R) : Ret Try.prog 84 #[I n] w fun v w' => ∃ (y0 : Bool), y0 = r /\ v = B y0 /\ St w w' [] R := by
 refine ret_of_W Try.func84 rfl rfl rfl ?_
 refine W.seq ?_
 refine W.region rfl ?_
 refine s_val (x_as (v := B false) rfl) ?_
 refine s_nil ?_
 refine W.seq ?_
 refine W.region rfl ?_
 refine s_val (x_mv (v := I n) rfl) ?_
 obtain ⟨r2z, hx1z, hM⟩ := M.e_bind hM
 refine s_call cf63 [I n, I 0, I 2000] rfl (zac n 0 2000 hx1z _ (St.give (T := []) H rfl)) ?_
 rintro vq w3z ⟨r2, hr4z, hvq, H2_⟩
 subst hr4z
 subst vq
 try dsimp only at hM
 replace H : St w w3z [] R := H.back H2_ rfl
 clear H2_
 refine s_val (x_as (v := B r2) rfl) ?_
 refine s_nil ?_
 refine W.ret ?_
 have hr_ := M.e_pure hM
 exact ⟨_, resE_tmp rfl, ⟨r2, hr_, rfl, H⟩⟩

def zbH (l : List Pk) (i : Int) (apart : Int) : Int -> M (Int ⊕ Int) := fun s =>
  M.grd ((!(decide (s < (l.length : Int))) || (decide ((0 : Int) <= s) && decide (s < (l.length : Int))))) <|
  M.grd ((!(decide (s < (l.length : Int))) || (decide ((0 : Int) <= i) && decide (i < (l.length : Int))))) <|
  M.grd ((!(decide (s < (l.length : Int))) || (decide ((-9223372036854775808 : Int) <= (((l.getD (Int.toNat i) default).day) + apart)) && decide ((((l.getD (Int.toNat i) default).day) + apart) <= (9223372036854775807 : Int))))) <|
  bif ((decide (s < (l.length : Int))) && (decide (((l.getD (Int.toNat s) default).day) < (((l.getD (Int.toNat i) default).day) + apart)))) then (
  M.grd (decide ((-9223372036854775808 : Int) <= (s + 1)) && decide ((s + 1) <= (9223372036854775807 : Int))) <|
  M.pure (.inl (s + 1)))
  else (
  M.pure (.inr s))
def zbU (l : List Pk) (i : Int) (apart : Int) : M Int :=
  M.bind (M.iter (zbH l i apart) i) fun s2 =>
  M.pure s2
theorem zcl {R : List Chunk} {C_l : Cells} {v_l : Value} (l : List Pk) (i : Int) (apart : Int) (hC_l : Reads R C_l) (hs_l : Sl C_l v_l l) {r : Int} (hM : (zbU l i apart).Ends r) (w : World) (H : St w w [] R) : Ret Try.prog 82 #[v_l, I i, I apart] w fun v w' => ∃ (y0 : Int), y0 = r /\ v = I y0 /\ St w w' [] R := by
 refine ret_of_W Try.func82 rfl rfl rfl ?_
 refine W.seq ?_
 refine W.region rfl ?_
 refine s_val (x_as (v := I 0) rfl) ?_
 refine s_nil ?_
 refine W.seq ?_
 refine W.region rfl ?_
 refine s_val (x_mv (v := I i) rfl) ?_
 refine s_val (x_as (v := I i) rfl) ?_
 refine s_nil ?_
 refine W.seq ?_
 refine W.block ?_
 obtain ⟨ex1z, hi2z, hk3z⟩ := M.e_bind hM
 obtain ⟨m0_, hi2z⟩ := M.e_iter hi2z
 refine W.loop (fun m σ W => ∃ (s : Int) (ρ : Env), σ = upds ρ [(0, v_l), (1, I i), (2, I apart), (7, I s)] /\ M.iterN (zbH l i apart) m s = some ex1z /\ St w W [] R) ?_ ?_
 ·exact ⟨_, i, _, upds_of _ _ ⟨rfl, rfl, rfl, rfl, trivial⟩, hi2z, H⟩
 rintro m6z σ w4z ⟨s, ρ, rfl, hI5z, H⟩
 obtain ⟨m7z, lt8z, x9z, hM, hN10z⟩ := M.e_iterN hI5z
 simp only [zbH] at hM
 clear hI5z
 refine W.seq ?_
 refine W.seq ?_
 refine W.draw (fun W => St w W [] R) [(0, true), (1, true), (2, true), (3, true), (4, true), (5, true), (6, true), (7, true), (8, true), (9, true), (10, true), (11, true), (12, true), (13, true), (14, true), (15, true), (16, true), (17, true), (18, true)] mixed (by decide +kernel) rfl ?_
 intro w11z hx_
 replace H : St w w11z [] R := H.ext hx_
 clear hx_
 refine ⟨(H.pick [] (by decide) rfl), ?_⟩
 refine d_q rfl (fun w' H => x_mv (v := I s) rfl) ?_
 refine d_q rfl (fun w' H => x_mv (v := v_l) rfl) ?_
 have hl12z := (hs_l).len_le
 refine d_q rfl (fun w' H => x_lenS T69.und rfl hs_l) ?_
 refine d_q rfl (fun w' H => x_cmp (kd := .i64) (a := s) (b := (l.length : Int)) (r := decide (s < (l.length : Int))) rfl rfl rfl) ?_
 refine d_q rfl (fun w' H => x_mv (v := B (decide (s < (l.length : Int)))) rfl) ?_
 refine d_qg (decide (s < (l.length : Int))) rfl (gy_t rfl) (fun hg => (fun w' H => x_mv (v := v_l) rfl)) ?_
 refine d_qg (decide (s < (l.length : Int))) rfl (gy_t rfl) (fun hg => (fun w' H => x_mv (v := I s) rfl)) ?_
 obtain ⟨sd13z, hM⟩ := M.e_grd hM
 replace sd13z := M.imp_of sd13z
 simp only [Bool.and_eq_true, decide_eq_true_eq] at sd13z
 refine d_qg (decide (s < (l.length : Int))) rfl (gy_t rfl) (fun hg => (fun w' H => x_ix (a := v_l) (b := I s) (v := vat v_l 2 (Int.toNat s)) (gd_of (c := decide (s < (l.length : Int))) hg (v_l)) (gd_of (c := decide (s < (l.length : Int))) hg (I s)) (Sl.ix (α := Pk) T69.und T69.size hs_l (by have h1_ := sd13z.resolve_left (by rw [hg]; decide); first | exact h1_ | exact h1_.1 | exact h1_.2 | omega | (have hx_ := hg; simp at hx_; omega)) (by have h1_ := sd13z.resolve_left (by rw [hg]; decide); first | exact h1_ | exact h1_.1 | exact h1_.2 | omega | (have hx_ := hg; simp at hx_; omega))))) ?_
 refine d_qg (decide (s < (l.length : Int))) rfl (gy_t rfl) (fun hg => (fun w' H => x_fa (a := vat v_l 2 (Int.toNat s)) (v := fat (vat v_l 2 (Int.toNat s)) 0) (gd_of (c := decide (s < (l.length : Int))) hg (vat v_l 2 (Int.toNat s))) (fa_pl Fd72_0 Sz3 (Sl.pl (i := s) hs_l (by have h1_ := sd13z.resolve_left (by rw [hg]; decide); first | exact h1_ | exact h1_.1 | exact h1_.2 | omega | (have hx_ := hg; simp at hx_; omega)) (by have h1_ := sd13z.resolve_left (by rw [hg]; decide); first | exact h1_ | exact h1_.1 | exact h1_.2 | omega | (have hx_ := hg; simp at hx_; omega)))))) ?_
 refine d_qg (decide (s < (l.length : Int))) rfl (gy_t rfl) (fun hg => (fun w' H => x_ld (p := fat (vat v_l 2 (Int.toNat s)) 0) (v := I ((l.getD (Int.toNat s) default).day)) (gd_of (c := decide (s < (l.length : Int))) hg (fat (vat v_l 2 (Int.toNat s)) 0)) (ld_sc Sc3 (At.mono (Pk_at0 hs_l (i := s) (by have h1_ := sd13z.resolve_left (by rw [hg]; decide); first | exact h1_ | exact h1_.1 | exact h1_.2 | omega | (have hx_ := hg; simp at hx_; omega)) (by have h1_ := sd13z.resolve_left (by rw [hg]; decide); first | exact h1_ | exact h1_.1 | exact h1_.2 | omega | (have hx_ := hg; simp at hx_; omega))) (hC_l.at H))))) ?_
 refine d_qg (decide (s < (l.length : Int))) rfl (gy_t rfl) (fun hg => (fun w' H => x_mv (v := v_l) rfl)) ?_
 refine d_qg (decide (s < (l.length : Int))) rfl (gy_t rfl) (fun hg => (fun w' H => x_mv (v := I i) rfl)) ?_
 obtain ⟨sd14z, hM⟩ := M.e_grd hM
 replace sd14z := M.imp_of sd14z
 simp only [Bool.and_eq_true, decide_eq_true_eq] at sd14z
 refine d_qg (decide (s < (l.length : Int))) rfl (gy_t rfl) (fun hg => (fun w' H => x_ix (a := v_l) (b := I i) (v := vat v_l 2 (Int.toNat i)) (gd_of (c := decide (s < (l.length : Int))) hg (v_l)) (gd_of (c := decide (s < (l.length : Int))) hg (I i)) (Sl.ix (α := Pk) T69.und T69.size hs_l (by have h1_ := sd13z.resolve_left (by rw [hg]; decide); have h2_ := sd14z.resolve_left (by rw [hg]; decide); first | exact h1_ | exact h1_.1 | exact h1_.2 | exact h2_ | exact h2_.1 | exact h2_.2 | omega | (have hx_ := hg; simp at hx_; omega)) (by have h1_ := sd13z.resolve_left (by rw [hg]; decide); have h2_ := sd14z.resolve_left (by rw [hg]; decide); first | exact h1_ | exact h1_.1 | exact h1_.2 | exact h2_ | exact h2_.1 | exact h2_.2 | omega | (have hx_ := hg; simp at hx_; omega))))) ?_
 refine d_qg (decide (s < (l.length : Int))) rfl (gy_t rfl) (fun hg => (fun w' H => x_fa (a := vat v_l 2 (Int.toNat i)) (v := fat (vat v_l 2 (Int.toNat i)) 0) (gd_of (c := decide (s < (l.length : Int))) hg (vat v_l 2 (Int.toNat i))) (fa_pl Fd72_0 Sz3 (Sl.pl (i := i) hs_l (by have h1_ := sd13z.resolve_left (by rw [hg]; decide); have h2_ := sd14z.resolve_left (by rw [hg]; decide); first | exact h1_ | exact h1_.1 | exact h1_.2 | exact h2_ | exact h2_.1 | exact h2_.2 | omega | (have hx_ := hg; simp at hx_; omega)) (by have h1_ := sd13z.resolve_left (by rw [hg]; decide); have h2_ := sd14z.resolve_left (by rw [hg]; decide); first | exact h1_ | exact h1_.1 | exact h1_.2 | exact h2_ | exact h2_.1 | exact h2_.2 | omega | (have hx_ := hg; simp at hx_; omega)))))) ?_
 refine d_qg (decide (s < (l.length : Int))) rfl (gy_t rfl) (fun hg => (fun w' H => x_ld (p := fat (vat v_l 2 (Int.toNat i)) 0) (v := I ((l.getD (Int.toNat i) default).day)) (gd_of (c := decide (s < (l.length : Int))) hg (fat (vat v_l 2 (Int.toNat i)) 0)) (ld_sc Sc3 (At.mono (Pk_at0 hs_l (i := i) (by have h1_ := sd13z.resolve_left (by rw [hg]; decide); have h2_ := sd14z.resolve_left (by rw [hg]; decide); first | exact h1_ | exact h1_.1 | exact h1_.2 | exact h2_ | exact h2_.1 | exact h2_.2 | omega | (have hx_ := hg; simp at hx_; omega)) (by have h1_ := sd13z.resolve_left (by rw [hg]; decide); have h2_ := sd14z.resolve_left (by rw [hg]; decide); first | exact h1_ | exact h1_.1 | exact h1_.2 | exact h2_ | exact h2_.1 | exact h2_.2 | omega | (have hx_ := hg; simp at hx_; omega))) (hC_l.at H))))) ?_
 refine d_qg (decide (s < (l.length : Int))) rfl (gy_t rfl) (fun hg => (fun w' H => x_mv (v := I apart) rfl)) ?_
 obtain ⟨sd15z, hM⟩ := M.e_grd hM
 replace sd15z := M.imp_of sd15z
 simp only [Bool.and_eq_true, decide_eq_true_eq] at sd15z
 refine d_qg (decide (s < (l.length : Int))) rfl (gy_t rfl) (fun hg => (fun w' H => x_ari (a := (l.getD (Int.toNat i) default).day) (b := apart) (r := ((l.getD (Int.toNat i) default).day) + apart) (gd_of (c := decide (s < (l.length : Int))) hg (I ((l.getD (Int.toNat i) default).day))) (gd_of (c := decide (s < (l.length : Int))) hg (I apart)) rfl (by have h1_ := sd13z.resolve_left (by rw [hg]; decide); have h2_ := sd14z.resolve_left (by rw [hg]; decide); have h3_ := sd15z.resolve_left (by rw [hg]; decide); first | exact h1_ | exact h1_.1 | exact h1_.2 | exact h2_ | exact h2_.1 | exact h2_.2 | exact h3_ | exact h3_.1 | exact h3_.2 | omega | (have hx_ := hg; simp at hx_; omega)))) ?_
 refine d_qg (decide (s < (l.length : Int))) rfl (gy_t rfl) (fun hg => (fun w' H => x_cmp (kd := .i64) (a := (l.getD (Int.toNat s) default).day) (b := ((l.getD (Int.toNat i) default).day) + apart) (r := decide (((l.getD (Int.toNat s) default).day) < (((l.getD (Int.toNat i) default).day) + apart))) (gd_of (c := decide (s < (l.length : Int))) hg (I ((l.getD (Int.toNat s) default).day))) (gd_of (c := decide (s < (l.length : Int))) hg (I (((l.getD (Int.toNat i) default).day) + apart))) rfl)) ?_
 refine d_q rfl (fun w' H => x_pand (b := decide (s < (l.length : Int))) (r := decide (((l.getD (Int.toNat s) default).day) < (((l.getD (Int.toNat i) default).day) + apart))) rfl (fun hb => gd_of (c := decide (s < (l.length : Int))) (by first | exact hb | (rw [hb]; rfl) | simp_all) (B (decide (((l.getD (Int.toNat s) default).day) < (((l.getD (Int.toNat i) default).day) + apart))))) rfl) ?_
 refine d_nil ?_
 refine W.cond ((decide (s < (l.length : Int))) && (decide (((l.getD (Int.toNat s) default).day) < (((l.getD (Int.toNat i) default).day) + apart)))) rfl (fun c16z => ?_) (fun c16z => ?_)
 ·replace hM := M.e_t hM c16z
  refine W.skip ?_
  refine W.block ?_
  refine W.region rfl ?_
  refine s_val (x_mv (v := I s) rfl) ?_
  obtain ⟨sd17z, hM⟩ := M.e_grd hM
  simp only [Bool.and_eq_true, decide_eq_true_eq] at sd17z
  refine s_val (x_ari (a := s) (b := 1) (r := s + 1) rfl rfl rfl (by omega)) ?_
  refine s_val (x_as (v := I (s + 1)) rfl) ?_
  refine s_nil ?_
  exact ⟨m7z, lt8z, s + 1, _, upds_of _ _ ⟨rfl, rfl, rfl, rfl, trivial⟩, M.e_inl hM hN10z, H⟩
 replace hM := M.e_f hM c16z
 refine W.exit ?_
 have hX18z := M.e_inr hM hN10z
 subst hX18z
 replace hM := hk3z
 try dsimp only at hM
 refine W.seq ?_
 refine W.region rfl ?_
 refine s_val (x_mv (v := I s) rfl) ?_
 refine s_val (x_as (v := I s) rfl) ?_
 refine s_nil ?_
 refine W.ret ?_
 have hr_ := M.e_pure hM
 exact ⟨_, resE_tmp rfl, ⟨s, hr_, rfl, H⟩⟩

def zbD (dues : List Int) (s2 : Nat) (r4 : Int) : (Int × Nat) -> M ((Int × Nat) ⊕ Int) := fun (has, s) =>
  bif decide ((s : Int) < (((dues.take (Int.toNat r4)).drop s2).length : Int)) then (
  M.grd (decide ((s : Int) < (((dues.take (Int.toNat r4)).drop s2).length : Int))) <|
  M.grd (decide ((-9223372036854775808 : Int) <= (has + (((dues.take (Int.toNat r4)).drop s2).getD s 0))) && decide ((has + (((dues.take (Int.toNat r4)).drop s2).getD s 0)) <= (9223372036854775807 : Int))) <|
  M.pure (.inl (has + (((dues.take (Int.toNat r4)).drop s2).getD s 0), s + 1)))
  else (
  M.pure (.inr has))
def zbK (l : List Pk) (apart : Int) (threshold : Int) (dues : List Int) : (Int × Nat) -> M ((Int × Nat) ⊕ (Unit ⊕ Int)) := fun (sum, s2) =>
  bif decide ((s2 : Int) < (l.length : Int)) then (
  M.grd (decide ((s2 : Int) < (l.length : Int))) <|
  M.grd (decide ((s2 : Int) < (dues.length : Int))) <|
  M.grd (decide ((-9223372036854775808 : Int) <= (sum + (dues.getD s2 0))) && decide ((sum + (dues.getD s2 0)) <= (9223372036854775807 : Int))) <|
  M.bind (zbU l (s2 : Int) apart) fun r4 =>
  M.grd (decide ((0 : Int) <= (s2 : Int)) && decide ((s2 : Int) <= r4) && decide (r4 <= (dues.length : Int))) <|
  M.bind (M.iter (zbD dues s2 r4) (0, 0)) fun has2 =>
  M.grd (decide ((-9223372036854775808 : Int) <= (((l.getD s2 default).stage) - threshold)) && decide ((((l.getD s2 default).stage) - threshold) <= (9223372036854775807 : Int))) <|
  bif decide (has2 < (((l.getD s2 default).stage) - threshold)) then (
  M.pure (.inr (.inl ())))
  else (
  M.pure (.inl (sum + (dues.getD s2 0), s2 + 1))))
  else (
  M.pure (.inr (.inr sum)))
def zbO (l : List Pk) (apart : Int) (threshold : Int) (worth : Int) (dues : List Int) : M (Bool × Int) :=
  M.bind (zaZ l apart threshold) fun r2 =>
  bif r2 != 0 then (
  M.pure (false, r2))
  else (
  bif (dues.length : Int) != (l.length : Int) then (
  M.pure (false, 2))
  else (
  M.bind (zb0 dues (fun xqz => zbq xqz)) fun r3 =>
  bif !r3 then (
  M.pure (false, 4))
  else (
  M.bind (M.iter (zbK l apart threshold dues) (0, 0)) fun x_ => match x_ with
  | (.inl (_ : Unit)) => (
  M.pure (false, 0))
  | (.inr sum2) => (
  M.pure ((decide (sum2 <= worth)), 0)))))
theorem zbV {R : List Chunk} {C_l : Cells} {v_l : Value} {C_dues : Cells} {v_dues : Value} (l : List Pk) (apart : Int) (threshold : Int) (worth : Int) (dues : List Int) (hC_l : Reads R C_l) (hs_l : Sl C_l v_l l) (hC_dues : Reads R C_dues) (hs_dues : Sl C_dues v_dues dues) {r : (Bool × Int)} (hM : (zbO l apart threshold worth dues).Ends r) (w : World) (H : St w w [] R) : Ret Try.prog 41 #[v_l, I apart, I threshold, I worth, v_dues] w fun v w' => ∃ (y0 : Bool) (y1 : Int), (y0, y1) = r /\ v = .tuple #[B y0, I y1] /\ St w w' [] R := by
 refine ret_of_W Try.func41 rfl rfl rfl ?_
 refine W.seq ?_
 refine W.region rfl ?_
 refine s_val (x_as (v := B false) rfl) ?_
 refine s_val (x_as (v := I 0) rfl) ?_
 refine s_nil ?_
 refine W.seq ?_
 refine W.seq ?_
 refine W.region rfl ?_
 refine s_val (x_mv (v := v_l) rfl) ?_
 refine s_val (x_mv (v := I apart) rfl) ?_
 refine s_val (x_mv (v := I threshold) rfl) ?_
 obtain ⟨r2z, hx1z, hM⟩ := M.e_bind hM
 refine s_call cf72 [v_l, I apart, I threshold] rfl (zbp l apart threshold (hC_l.app _) hs_l hx1z _ (St.give (T := []) H rfl)) ?_
 rintro vq w3z ⟨r2, hr4z, hvq, H2_⟩
 subst hr4z
 subst vq
 try dsimp only at hM
 replace H : St w w3z [] R := H.back H2_ rfl
 clear H2_
 refine s_val (x_as (v := I r2) rfl) ?_
 refine s_nil ?_
 refine W.seq ?_
 refine W.region rfl ?_
 refine s_val (x_mv (v := I r2) rfl) ?_
 refine s_val (x_cmp (kd := .i64) (a := r2) (b := 0) (r := r2 != 0) rfl rfl rfl) ?_
 refine s_nil ?_
 refine W.cond (r2 != 0) rfl (fun c5z => ?_) (fun c5z => ?_)
 ·replace hM := M.e_t hM c5z
  simp only [decide_eq_true_eq, decide_eq_false_iff_not, beq_iff_eq, bne_iff_ne, beq_eq_false_iff_ne, bne_eq_false_iff_eq, ne_eq, Decidable.not_not] at c5z
  refine W.seq ?_
  refine W.region rfl ?_
  refine s_val (x_mv (v := I r2) rfl) ?_
  refine s_val (x_as (v := B false) rfl) ?_
  refine s_val (x_as (v := I r2) rfl) ?_
  refine s_nil ?_
  refine W.ret ?_
  have hr_ := M.e_pure hM
  exact ⟨_, resE_tmp2 rfl, ⟨false, r2, hr_, rfl, H⟩⟩
 replace hM := M.e_f hM c5z
 simp only [decide_eq_true_eq, decide_eq_false_iff_not, beq_iff_eq, bne_iff_ne, beq_eq_false_iff_ne, bne_eq_false_iff_eq, ne_eq, Decidable.not_not] at c5z
 refine W.skip ?_
 refine W.seq ?_
 refine W.block ?_
 refine W.seq ?_
 refine W.region rfl ?_
 refine s_val (x_mv (v := v_dues) rfl) ?_
 have hl6z := (hs_dues).len_le
 refine s_val (x_lenS T27.und rfl hs_dues) ?_
 refine s_val (x_mv (v := v_l) rfl) ?_
 have hl7z := (hs_l).len_le
 refine s_val (x_lenS T69.und rfl hs_l) ?_
 refine s_val (x_cmp (kd := .i64) (a := (dues.length : Int)) (b := (l.length : Int)) (r := (dues.length : Int) != (l.length : Int)) rfl rfl rfl) ?_
 refine s_val (x_as (v := B ((dues.length : Int) != (l.length : Int))) rfl) ?_
 refine s_nil ?_
 refine W.cond ((dues.length : Int) != (l.length : Int)) rfl (fun c8z => ?_) (fun c8z => ?_)
 ·replace hM := M.e_t hM c8z
  simp only [decide_eq_true_eq, decide_eq_false_iff_not, beq_iff_eq, bne_iff_ne, beq_eq_false_iff_ne, bne_eq_false_iff_eq, ne_eq, Decidable.not_not] at c8z
  refine W.seq ?_
  refine W.region rfl ?_
  refine s_val (x_as (v := B false) rfl) ?_
  refine s_val (x_as (v := I 2) rfl) ?_
  refine s_nil ?_
  refine W.ret ?_
  have hr_ := M.e_pure hM
  exact ⟨_, resE_tmp2 rfl, ⟨false, 2, hr_, rfl, H⟩⟩
 replace hM := M.e_f hM c8z
 simp only [decide_eq_true_eq, decide_eq_false_iff_not, beq_iff_eq, bne_iff_ne, beq_eq_false_iff_ne, bne_eq_false_iff_eq, ne_eq, Decidable.not_not] at c8z
 refine W.seq ?_
 refine W.region rfl ?_
 refine s_val (x_mv (v := v_dues) rfl) ?_
 obtain ⟨r10z, hx9z, hM⟩ := M.e_bind hM
 refine s_call cf83 [v_dues, .func (.func 84) #[] #[]] rfl (zcf dues (fun xqz => zbq xqz) (hC_dues.app _) hs_dues ⟨84, [], rfl, cf84, fun wqz Lqz Cqz vqz xqz bqz hsqz hCqz hAqz hpqz => by obtain rfl := Arg.int hAqz; exact (zcp xqz hpqz wqz (St.refl hsqz)).mono fun vqz wqz ⟨yqz, hrqz, hvqz, Hqz⟩ => by subst hrqz; exact ⟨hvqz, Hqz⟩⟩ hx9z _ (St.give (T := []) H rfl)) ?_
 rintro vq w11z ⟨r3, hr12z, hvq, H2_⟩
 subst hr12z
 subst vq
 try dsimp only at hM
 replace H : St w w11z [] R := H.back H2_ rfl
 clear H2_
 refine s_val (x_not (b := r3) rfl) ?_
 refine s_val (x_as (v := B (!r3)) rfl) ?_
 refine s_nil ?_
 refine W.cond (!r3) rfl (fun c13z => ?_) (fun c13z => ?_)
 ·replace hM := M.e_t hM c13z
  refine W.seq ?_
  refine W.region rfl ?_
  refine s_val (x_as (v := B false) rfl) ?_
  refine s_val (x_as (v := I 4) rfl) ?_
  refine s_nil ?_
  refine W.ret ?_
  have hr_ := M.e_pure hM
  exact ⟨_, resE_tmp2 rfl, ⟨false, 4, hr_, rfl, H⟩⟩
 replace hM := M.e_f hM c13z
 refine W.skip ?_
 refine W.seq ?_
 refine W.region rfl ?_
 refine s_val (x_as (v := I 0) rfl) ?_
 refine s_nil ?_
 refine W.seq ?_
 refine W.seq ?_
 refine W.region rfl ?_
 refine s_val (x_mv (v := v_l) rfl) ?_
 have hl14z := (hs_l).len_le
 refine s_val (x_lenS T69.und rfl hs_l) ?_
 refine s_val (x_mv (v := I 0) rfl) ?_
 refine s_nil ?_
 refine W.block ?_
 obtain ⟨ex15z, hi16z, hk17z⟩ := M.e_bind hM
 obtain ⟨m0_, hi16z⟩ := M.e_iter hi16z
 refine W.loop (fun m σ W => ∃ (sum : Int) (s2 : Nat) (ρ : Env), σ = upds ρ [(0, v_l), (1, I apart), (2, I threshold), (3, I worth), (4, v_dues), (13, I sum), (36, v_l), (37, I (l.length : Int)), (38, I (s2 : Int))] /\ M.iterN (zbK l apart threshold dues) m (sum, s2) = some ex15z /\ St w W [] R) ?_ ?_
 ·exact ⟨_, 0, 0, _, upds_of _ _ ⟨rfl, rfl, rfl, rfl, rfl, rfl, rfl, rfl, rfl, trivial⟩, hi16z, H⟩
 rintro m20z σ w18z ⟨sum, s2, ρ, rfl, hI19z, H⟩
 obtain ⟨m21z, lt22z, x23z, hM, hN24z⟩ := M.e_iterN hI19z
 simp only [zbK] at hM
 clear hI19z
 refine W.seq ?_
 refine W.region rfl ?_
 refine s_val (x_cmp (kd := .i64) (a := (s2 : Int)) (b := (l.length : Int)) (r := decide ((s2 : Int) < (l.length : Int))) rfl rfl rfl) ?_
 refine s_nil ?_
 refine W.seq ?_
 refine W.cond (decide ((s2 : Int) < (l.length : Int))) rfl (fun c25z => ?_) (fun c25z => ?_)
 ·replace hM := M.e_t hM c25z
  simp only [decide_eq_true_eq, decide_eq_false_iff_not, beq_iff_eq, bne_iff_ne, beq_eq_false_iff_ne, bne_eq_false_iff_eq, ne_eq, Decidable.not_not] at c25z
  refine W.skip ?_
  refine W.seq ?_
  refine W.block ?_
  refine W.seq ?_
  refine W.region rfl ?_
  refine s_val (x_mv (v := I (s2 : Int)) rfl) ?_
  obtain ⟨sd26z, hM⟩ := M.e_grd hM
  simp only [Bool.and_eq_true, decide_eq_true_eq] at sd26z
  refine s_val (x_ix (a := v_l) (b := I (s2 : Int)) (v := vat v_l 2 (Int.toNat (s2 : Int))) rfl rfl (Sl.ix (α := Pk) T69.und T69.size hs_l (by omega) (by omega))) ?_
  refine s_val (x_ld (p := vat v_l 2 (Int.toNat (s2 : Int))) (v := .agg #[I ((l.getD s2 default).day), I ((l.getD s2 default).stage)]) rfl (ld_ag Ag72 Sz72 (At.mono (Pk_atA hs_l (i := (s2 : Int)) (by omega) (by omega)) (hC_l.at H)))) ?_
  refine t_alloc (cs := [I 0, I 0]) H Al72 rfl ?_
  intro b_1 w27z H
  refine s_val (x_as (v := I (s2 : Int)) rfl) ?_
  refine t_st (k := 0) (b := b_1) (off := 0) (cs := [I 0, I 0]) (vs := [I ((l.getD s2 default).day), I ((l.getD s2 default).stage)]) (cs' := [I ((l.getD s2 default).day), I ((l.getD s2 default).stage)]) (v := .agg #[I ((l.getD s2 default).day), I ((l.getD s2 default).stage)]) (L' := [cBlk b_1 [I ((l.getD s2 default).day), I ((l.getD s2 default).stage)] 72]) H rfl rfl rfl Sz72 rfl rfl rfl rfl rfl rfl ?_
  intro w28z H
  refine s_nil ?_
  refine W.seq ?_
  refine W.region rfl ?_
  refine s_val (x_mv (v := I sum) rfl) ?_
  refine s_val (x_mv (v := v_dues) rfl) ?_
  refine s_val (x_mv (v := I (s2 : Int)) rfl) ?_
  obtain ⟨sd29z, hM⟩ := M.e_grd hM
  simp only [Bool.and_eq_true, decide_eq_true_eq] at sd29z
  refine s_val (x_ix (a := v_dues) (b := I (s2 : Int)) (v := vat v_dues 1 (Int.toNat (s2 : Int))) rfl rfl (Sl.ix (α := Int) T27.und T27.size hs_dues (by omega) (by omega))) ?_
  refine s_val (x_ld (p := vat v_dues 1 (Int.toNat (s2 : Int))) (v := I (dues.getD s2 0)) rfl (ld_sc Sc3 (At.mono (Int_at hs_dues (i := (s2 : Int)) (by omega) (by omega)) (hC_dues.at H)))) ?_
  obtain ⟨sd30z, hM⟩ := M.e_grd hM
  simp only [Bool.and_eq_true, decide_eq_true_eq] at sd30z
  refine s_val (x_ari (a := sum) (b := dues.getD s2 0) (r := sum + (dues.getD s2 0)) rfl rfl rfl (by omega)) ?_
  refine s_val (x_as (v := I (sum + (dues.getD s2 0))) rfl) ?_
  refine s_nil ?_
  refine W.seq ?_
  refine W.region rfl ?_
  refine s_val (x_as (v := I 0) rfl) ?_
  refine s_nil ?_
  refine W.seq ?_
  refine W.seq ?_
  refine W.region rfl ?_
  refine s_val (x_mv (v := v_dues) rfl) ?_
  refine s_val (x_mv (v := I (s2 : Int)) rfl) ?_
  refine s_val (x_mv (v := v_l) rfl) ?_
  refine s_val (x_mv (v := I (s2 : Int)) rfl) ?_
  refine s_val (x_mv (v := I apart) rfl) ?_
  obtain ⟨r32z, hx31z, hM⟩ := M.e_bind hM
  refine s_call cf82 [v_l, I (s2 : Int), I apart] rfl (zcl l (s2 : Int) apart (hC_l.app _) hs_l hx31z _ (St.give (T := [cBlk b_1 [I ((l.getD s2 default).day), I ((l.getD s2 default).stage)] 72]) H rfl)) ?_
  rintro vq w33z ⟨r4, hr34z, hvq, H2_⟩
  subst hr34z
  subst vq
  try dsimp only at hM
  replace H : St w w33z [cBlk b_1 [I ((l.getD s2 default).day), I ((l.getD s2 default).stage)] 72] R := H.back H2_ rfl
  clear H2_
  obtain ⟨sd35z, hM⟩ := M.e_grd hM
  simp only [Bool.and_eq_true, decide_eq_true_eq] at sd35z
  obtain ⟨u36z, hr_u36z, hs37z⟩ := sl_lohi T27.und T27.size hs_dues (i := (s2 : Int)) (j := r4) (by omega) (by omega) (by omega)
  replace hs37z : Sl _ u36z ((dues.take (Int.toNat r4)).drop s2) := hs37z
  refine s_val (x_sl (v := v_dues) (u := u36z) (lo' := some (I (s2 : Int))) (hi' := some (I r4)) (mx' := none) rfl rfl rfl rfl (hr_u36z _)) ?_
  have hl38z := (hs37z).len_le
  refine s_val (x_lenS T27.und rfl hs37z) ?_
  refine s_val (x_mv (v := I 0) rfl) ?_
  refine s_nil ?_
  refine W.block ?_
  obtain ⟨ex39z, hi40z, hk41z⟩ := M.e_bind hM
  obtain ⟨m0_, hi40z⟩ := M.e_iter hi40z
  refine W.loop (fun m σ W => ∃ (has : Int) (s : Nat) (ρ : Env), σ = upds ρ [(0, v_l), (1, I apart), (2, I threshold), (3, I worth), (4, v_dues), (13, I (sum + (dues.getD s2 0))), (15, .pointer (some ⟨b_1, 0, none⟩)), (16, I has), (36, v_l), (37, I (l.length : Int)), (38, I (s2 : Int)), (55, u36z), (56, I (((dues.take (Int.toNat r4)).drop s2).length : Int)), (57, I (s : Int))] /\ M.iterN (zbD dues s2 r4) m (has, s) = some ex39z /\ St w W [cBlk b_1 [I ((l.getD s2 default).day), I ((l.getD s2 default).stage)] 72] R) ?_ ?_
  ·exact ⟨_, 0, 0, _, upds_of _ _ ⟨rfl, rfl, rfl, rfl, rfl, rfl, rfl, rfl, rfl, rfl, rfl, rfl, rfl, rfl, trivial⟩, hi40z, H⟩
  rintro m44z σ w42z ⟨has, s, ρ, rfl, hI43z, H⟩
  obtain ⟨m45z, lt46z, x47z, hM, hN48z⟩ := M.e_iterN hI43z
  simp only [zbD] at hM
  clear hI43z
  refine W.seq ?_
  refine W.region rfl ?_
  refine s_val (x_cmp (kd := .i64) (a := (s : Int)) (b := (((dues.take (Int.toNat r4)).drop s2).length : Int)) (r := decide ((s : Int) < (((dues.take (Int.toNat r4)).drop s2).length : Int))) rfl rfl rfl) ?_
  refine s_nil ?_
  refine W.seq ?_
  refine W.cond (decide ((s : Int) < (((dues.take (Int.toNat r4)).drop s2).length : Int))) rfl (fun c49z => ?_) (fun c49z => ?_)
  ·replace hM := M.e_t hM c49z
   simp only [decide_eq_true_eq, decide_eq_false_iff_not, beq_iff_eq, bne_iff_ne, beq_eq_false_iff_ne, bne_eq_false_iff_eq, ne_eq, Decidable.not_not] at c49z
   refine W.skip ?_
   refine W.seq ?_
   refine W.block ?_
   refine W.seq ?_
   refine W.region rfl ?_
   obtain ⟨sd50z, hM⟩ := M.e_grd hM
   simp only [Bool.and_eq_true, decide_eq_true_eq] at sd50z
   refine s_val (x_ix (a := u36z) (b := I (s : Int)) (v := vat u36z 1 (Int.toNat (s : Int))) rfl rfl (Sl.ix (α := Int) T27.und T27.size hs37z (by omega) (by omega))) ?_
   refine s_val (x_ld (p := vat u36z 1 (Int.toNat (s : Int))) (v := I (((dues.take (Int.toNat r4)).drop s2).getD s 0)) rfl (ld_sc Sc3 (At.mono (Int_at hs37z (i := (s : Int)) (by omega) (by omega)) (hC_dues.at H)))) ?_
   refine s_val (x_as (v := I (((dues.take (Int.toNat r4)).drop s2).getD s 0)) rfl) ?_
   refine s_nil ?_
   refine W.region rfl ?_
   refine s_val (x_mv (v := I has) rfl) ?_
   refine s_val (x_mv (v := I (((dues.take (Int.toNat r4)).drop s2).getD s 0)) rfl) ?_
   obtain ⟨sd51z, hM⟩ := M.e_grd hM
   simp only [Bool.and_eq_true, decide_eq_true_eq] at sd51z
   refine s_val (x_ari (a := has) (b := ((dues.take (Int.toNat r4)).drop s2).getD s 0) (r := has + (((dues.take (Int.toNat r4)).drop s2).getD s 0)) rfl rfl rfl (by omega)) ?_
   refine s_val (x_as (v := I (has + (((dues.take (Int.toNat r4)).drop s2).getD s 0))) rfl) ?_
   refine s_nil ?_
   refine W.region rfl ?_
   refine s_val (x_ari (a := (s : Int)) (b := 1) (r := (s : Int) + 1) rfl rfl rfl (by omega)) ?_
   refine s_val (x_mv (v := I ((s : Int) + 1)) rfl) ?_
   refine s_nil ?_
   exact ⟨m45z, lt46z, has + (((dues.take (Int.toNat r4)).drop s2).getD s 0), s + 1, _, upds_of _ _ ⟨rfl, rfl, rfl, rfl, rfl, rfl, rfl, rfl, rfl, rfl, rfl, rfl, rfl, rfl, trivial⟩, M.e_inl hM hN48z, H⟩
  replace hM := M.e_f hM c49z
  simp only [decide_eq_true_eq, decide_eq_false_iff_not, beq_iff_eq, bne_iff_ne, beq_eq_false_iff_ne, bne_eq_false_iff_eq, ne_eq, Decidable.not_not] at c49z
  refine W.exit ?_
  have hX52z := M.e_inr hM hN48z
  subst hX52z
  replace hM := hk41z
  try dsimp only at hM
  refine W.seq ?_
  refine W.region rfl ?_
  refine s_val (x_mv (v := I has) rfl) ?_
  refine s_val (x_fa (a := .pointer (some ⟨b_1, 0, none⟩)) (v := .pointer (some ⟨b_1, 1, none⟩)) rfl (fa_blk (o := 0) Fd72_1 Sz3)) ?_
  refine s_val (x_ld (p := .pointer (some ⟨b_1, 1, none⟩)) (v := I ((l.getD s2 default).stage)) rfl (ldb_sc Sc3 (H.blk (k := 0) rfl) rfl)) ?_
  refine s_val (x_mv (v := I threshold) rfl) ?_
  obtain ⟨sd53z, hM⟩ := M.e_grd hM
  simp only [Bool.and_eq_true, decide_eq_true_eq] at sd53z
  refine s_val (x_ari (a := (l.getD s2 default).stage) (b := threshold) (r := ((l.getD s2 default).stage) - threshold) rfl rfl rfl (by omega)) ?_
  refine s_val (x_cmp (kd := .i64) (a := has) (b := ((l.getD s2 default).stage) - threshold) (r := decide (has < (((l.getD s2 default).stage) - threshold))) rfl rfl rfl) ?_
  refine s_nil ?_
  refine W.cond (decide (has < (((l.getD s2 default).stage) - threshold))) rfl (fun c54z => ?_) (fun c54z => ?_)
  ·replace hM := M.e_t hM c54z
   simp only [decide_eq_true_eq, decide_eq_false_iff_not, beq_iff_eq, bne_iff_ne, beq_eq_false_iff_ne, bne_eq_false_iff_eq, ne_eq, Decidable.not_not] at c54z
   refine W.seq ?_
   refine W.region rfl ?_
   refine s_val (x_as (v := B false) rfl) ?_
   refine s_val (x_as (v := I 0) rfl) ?_
   refine s_nil ?_
   refine W.ret ?_
   have hX55z := M.e_inr hM hN24z
   subst hX55z
   replace hM := hk17z
   try dsimp only at hM
   have hr_ := M.e_pure hM
   exact ⟨_, resE_tmp2 rfl, ⟨false, 0, hr_, rfl, (H.pick [] (by decide) rfl)⟩⟩
  replace hM := M.e_f hM c54z
  simp only [decide_eq_true_eq, decide_eq_false_iff_not, beq_iff_eq, bne_iff_ne, beq_eq_false_iff_ne, bne_eq_false_iff_eq, ne_eq, Decidable.not_not] at c54z
  refine W.skip ?_
  refine W.region rfl ?_
  refine s_val (x_ari (a := (s2 : Int)) (b := 1) (r := (s2 : Int) + 1) rfl rfl rfl (by omega)) ?_
  refine s_val (x_mv (v := I ((s2 : Int) + 1)) rfl) ?_
  refine s_nil ?_
  exact ⟨m21z, lt22z, sum + (dues.getD s2 0), s2 + 1, _, upds_of _ _ ⟨rfl, rfl, rfl, rfl, rfl, rfl, rfl, rfl, rfl, trivial⟩, M.e_inl hM hN24z, (H.pick [] (by decide) rfl)⟩
 replace hM := M.e_f hM c25z
 simp only [decide_eq_true_eq, decide_eq_false_iff_not, beq_iff_eq, bne_iff_ne, beq_eq_false_iff_ne, bne_eq_false_iff_eq, ne_eq, Decidable.not_not] at c25z
 refine W.exit ?_
 have hX56z := M.e_inr hM hN24z
 subst hX56z
 replace hM := hk17z
 try dsimp only at hM
 refine W.seq ?_
 refine W.region rfl ?_
 refine s_val (x_mv (v := I sum) rfl) ?_
 refine s_val (x_mv (v := I worth) rfl) ?_
 refine s_val (x_cmp (kd := .i64) (a := sum) (b := worth) (r := decide (sum <= worth)) rfl rfl rfl) ?_
 refine s_val (x_as (v := B (decide (sum <= worth))) rfl) ?_
 refine s_val (x_as (v := I 0) rfl) ?_
 refine s_nil ?_
 refine W.ret ?_
 have hr_ := M.e_pure hM
 exact ⟨_, resE_tmp2 rfl, ⟨(decide (sum <= worth)), 0, hr_, rfl, H⟩⟩

def zbi (a : List Int) (b : List Int) : Nat -> M (Nat ⊕ (Unit ⊕ Unit)) := fun i =>
  bif decide ((i : Int) < (a.length : Int)) then (
  M.grd (decide ((i : Int) < (a.length : Int))) <|
  M.grd (decide ((i : Int) < (b.length : Int))) <|
  bif (a.getD i 0) != (b.getD i 0) then (
  M.pure (.inr (.inl ())))
  else (
  M.pure (.inl (i + 1))))
  else (
  M.pure (.inr (.inr ())))
def zb7 (a : List Int) (b : List Int) : M Bool :=
  bif (a.length : Int) != (b.length : Int) then (
  M.pure false)
  else (
  M.bind (M.iter (zbi a b) 0) fun x_ => match x_ with
  | (.inl (_ : Unit)) => (
  M.pure false)
  | (.inr (_ : Unit)) => (
  M.pure true))
theorem zcs {R : List Chunk} {C_a : Cells} {v_a : Value} {C_b : Cells} {v_b : Value} (a : List Int) (b : List Int) (hC_a : Reads R C_a) (hs_a : Sl C_a v_a a) (hC_b : Reads R C_b) (hs_b : Sl C_b v_b b) {r : Bool} (hM : (zb7 a b).Ends r) (w : World) (H : St w w [] R) : Ret Try.prog 43 #[v_a, v_b] w fun v w' => ∃ (y0 : Bool), y0 = r /\ v = B y0 /\ St w w' [] R := by
 refine ret_of_W Try.func43 rfl rfl rfl ?_
 refine W.seq ?_
 refine W.region rfl ?_
 refine s_val (x_as (v := B false) rfl) ?_
 refine s_nil ?_
 refine W.seq ?_
 refine W.seq ?_
 refine W.region rfl ?_
 refine s_val (x_mv (v := v_a) rfl) ?_
 have hl1z := (hs_a).len_le
 refine s_val (x_lenS T27.und rfl hs_a) ?_
 refine s_val (x_mv (v := v_b) rfl) ?_
 have hl2z := (hs_b).len_le
 refine s_val (x_lenS T27.und rfl hs_b) ?_
 refine s_val (x_cmp (kd := .i64) (a := (a.length : Int)) (b := (b.length : Int)) (r := (a.length : Int) != (b.length : Int)) rfl rfl rfl) ?_
 refine s_nil ?_
 refine W.cond ((a.length : Int) != (b.length : Int)) rfl (fun c3z => ?_) (fun c3z => ?_)
 ·replace hM := M.e_t hM c3z
  simp only [decide_eq_true_eq, decide_eq_false_iff_not, beq_iff_eq, bne_iff_ne, beq_eq_false_iff_ne, bne_eq_false_iff_eq, ne_eq, Decidable.not_not] at c3z
  refine W.seq ?_
  refine W.region rfl ?_
  refine s_val (x_as (v := B false) rfl) ?_
  refine s_nil ?_
  refine W.ret ?_
  have hr_ := M.e_pure hM
  exact ⟨_, resE_tmp rfl, ⟨false, hr_, rfl, H⟩⟩
 replace hM := M.e_f hM c3z
 simp only [decide_eq_true_eq, decide_eq_false_iff_not, beq_iff_eq, bne_iff_ne, beq_eq_false_iff_ne, bne_eq_false_iff_eq, ne_eq, Decidable.not_not] at c3z
 refine W.skip ?_
 refine W.seq ?_
 refine W.seq ?_
 refine W.region rfl ?_
 refine s_val (x_as (v := I 0) rfl) ?_
 refine s_nil ?_
 refine W.block ?_
 obtain ⟨ex4z, hi5z, hk6z⟩ := M.e_bind hM
 obtain ⟨m0_, hi5z⟩ := M.e_iter hi5z
 refine W.loop (fun m σ W => ∃ (i : Nat) (ρ : Env), σ = upds ρ [(0, v_a), (1, v_b), (5, I (i : Int))] /\ M.iterN (zbi a b) m i = some ex4z /\ St w W [] R) ?_ ?_
 ·exact ⟨_, 0, _, upds_of _ _ ⟨rfl, rfl, rfl, trivial⟩, hi5z, H⟩
 rintro m9z σ w7z ⟨i, ρ, rfl, hI8z, H⟩
 obtain ⟨m10z, lt11z, x12z, hM, hN13z⟩ := M.e_iterN hI8z
 simp only [zbi] at hM
 clear hI8z
 refine W.seq ?_
 refine W.seq ?_
 refine W.region rfl ?_
 refine s_val (x_mv (v := I (i : Int)) rfl) ?_
 refine s_val (x_mv (v := v_a) rfl) ?_
 have hl14z := (hs_a).len_le
 refine s_val (x_lenS T27.und rfl hs_a) ?_
 refine s_val (x_cmp (kd := .i64) (a := (i : Int)) (b := (a.length : Int)) (r := decide ((i : Int) < (a.length : Int))) rfl rfl rfl) ?_
 refine s_nil ?_
 refine W.cond (decide ((i : Int) < (a.length : Int))) rfl (fun c15z => ?_) (fun c15z => ?_)
 ·replace hM := M.e_t hM c15z
  simp only [decide_eq_true_eq, decide_eq_false_iff_not, beq_iff_eq, bne_iff_ne, beq_eq_false_iff_ne, bne_eq_false_iff_eq, ne_eq, Decidable.not_not] at c15z
  refine W.skip ?_
  refine W.seq ?_
  refine W.block ?_
  refine W.seq ?_
  refine W.draw (fun W => St w W [] R) [(0, true), (1, true), (2, true), (3, true), (4, true), (5, true), (6, true), (7, true), (8, true)] mixed (by decide +kernel) rfl ?_
  intro w16z hx_
  replace H : St w w16z [] R := H.ext hx_
  clear hx_
  refine ⟨(H.pick [] (by decide) rfl), ?_⟩
  refine d_q rfl (fun w' H => x_mv (v := v_a) rfl) ?_
  refine d_q rfl (fun w' H => x_mv (v := I (i : Int)) rfl) ?_
  obtain ⟨sd17z, hM⟩ := M.e_grd hM
  simp only [Bool.and_eq_true, decide_eq_true_eq] at sd17z
  refine d_q rfl (fun w' H => x_ix (a := v_a) (b := I (i : Int)) (v := vat v_a 1 (Int.toNat (i : Int))) rfl rfl (Sl.ix (α := Int) T27.und T27.size hs_a (by omega) (by omega))) ?_
  refine d_q rfl (fun w' H => x_ld (p := vat v_a 1 (Int.toNat (i : Int))) (v := I (a.getD i 0)) rfl (ld_sc Sc3 (At.mono (Int_at hs_a (i := (i : Int)) (by omega) (by omega)) (hC_a.at H)))) ?_
  refine d_q rfl (fun w' H => x_mv (v := v_b) rfl) ?_
  refine d_q rfl (fun w' H => x_mv (v := I (i : Int)) rfl) ?_
  obtain ⟨sd18z, hM⟩ := M.e_grd hM
  simp only [Bool.and_eq_true, decide_eq_true_eq] at sd18z
  refine d_q rfl (fun w' H => x_ix (a := v_b) (b := I (i : Int)) (v := vat v_b 1 (Int.toNat (i : Int))) rfl rfl (Sl.ix (α := Int) T27.und T27.size hs_b (by omega) (by omega))) ?_
  refine d_q rfl (fun w' H => x_ld (p := vat v_b 1 (Int.toNat (i : Int))) (v := I (b.getD i 0)) rfl (ld_sc Sc3 (At.mono (Int_at hs_b (i := (i : Int)) (by omega) (by omega)) (hC_b.at H)))) ?_
  refine d_q rfl (fun w' H => x_cmp (kd := .i64) (a := a.getD i 0) (b := b.getD i 0) (r := (a.getD i 0) != (b.getD i 0)) rfl rfl rfl) ?_
  refine d_nil ?_
  refine W.cond ((a.getD i 0) != (b.getD i 0)) rfl (fun c19z => ?_) (fun c19z => ?_)
  ·replace hM := M.e_t hM c19z
   simp only [decide_eq_true_eq, decide_eq_false_iff_not, beq_iff_eq, bne_iff_ne, beq_eq_false_iff_ne, bne_eq_false_iff_eq, ne_eq, Decidable.not_not] at c19z
   refine W.seq ?_
   refine W.region rfl ?_
   refine s_val (x_as (v := B false) rfl) ?_
   refine s_nil ?_
   refine W.ret ?_
   have hX20z := M.e_inr hM hN13z
   subst hX20z
   replace hM := hk6z
   try dsimp only at hM
   have hr_ := M.e_pure hM
   exact ⟨_, resE_tmp rfl, ⟨false, hr_, rfl, H⟩⟩
  replace hM := M.e_f hM c19z
  simp only [decide_eq_true_eq, decide_eq_false_iff_not, beq_iff_eq, bne_iff_ne, beq_eq_false_iff_ne, bne_eq_false_iff_eq, ne_eq, Decidable.not_not] at c19z
  refine W.skip ?_
  refine W.region rfl ?_
  refine s_val (x_mv (v := I (i : Int)) rfl) ?_
  refine s_val (x_ari (a := (i : Int)) (b := 1) (r := (i : Int) + 1) rfl rfl rfl (by omega)) ?_
  refine s_val (x_as (v := I ((i : Int) + 1)) rfl) ?_
  refine s_nil ?_
  exact ⟨m10z, lt11z, i + 1, _, upds_of _ _ ⟨rfl, rfl, rfl, trivial⟩, M.e_inl hM hN13z, H⟩
 replace hM := M.e_f hM c15z
 simp only [decide_eq_true_eq, decide_eq_false_iff_not, beq_iff_eq, bne_iff_ne, beq_eq_false_iff_ne, bne_eq_false_iff_eq, ne_eq, Decidable.not_not] at c15z
 refine W.exit ?_
 have hX21z := M.e_inr hM hN13z
 subst hX21z
 replace hM := hk6z
 try dsimp only at hM
 refine W.seq ?_
 refine W.region rfl ?_
 refine s_val (x_as (v := B true) rfl) ?_
 refine s_nil ?_
 refine W.ret ?_
 have hr_ := M.e_pure hM
 exact ⟨_, resE_tmp rfl, ⟨true, hr_, rfl, H⟩⟩

def zaF : M ((List Yr) × (List Old10) × Int × Int) :=
  M.pure (([(⟨(1905 : Int), (400 : Int), (420 : Int)⟩ : Yr), (⟨(1906 : Int), (250 : Int), (250 : Int)⟩ : Yr)]), ([(⟨(1900 : Int), (1904 : Int), (500 : Int), ([(1902 : Int)])⟩ : Old10)]), 1900, 1909)
theorem zbe {R : List Chunk}    {r : ((List Yr) × (List Old10) × Int × Int)} (hM : (zaF).Ends r) (w : World) (H : St w w [] R) : Ret Try.prog 61 #[] w fun v w' => ∃ (y0 : List Yr) (y1 : List Old10) (y2 : Int) (y3 : Int) (u0 : Value) (u1 : Value) (rr2 : List (Raw 3)) (Bs3 : Base), (y0, y1, y2, y3) = r /\ v = .agg #[u0, u1, I y2, I y3] /\ St w w' [cOwn (α := Yr) 41 u0 y0, cOwn (α := Raw 3) 43 u1 rr2, cRo Bs3] R /\ RepR (α := Old10) Bs3.cells rr2 y1 := by
 refine ret_of_W Try.func61 rfl rfl rfl ?_
 refine W.seq ?_
 refine W.region rfl ?_
 refine t_alloc (cs := [.slice none 0 0, .slice none 0 0, I 0, I 0]) H Al26 rfl ?_
 intro b_1 w1z H
 refine s_nil ?_
 refine W.seq ?_
 refine W.region rfl ?_
 refine s_val (x_bld (ps := [(0, I 400), (1, I 420)]) (zs := [I 0, I 0]) (L' := [I 400, I 420]) rfl Try.underlying35 Al35 rfl (Bd35 Try.underlying35) (.cons (cs := [I 400]) rfl rfl rfl rfl rfl <| .cons (cs := [I 420]) rfl rfl rfl rfl rfl <| .nil)) ?_
 refine s_val (x_bld (ps := [(0, I 1905), (1, .agg #[I 400, I 420])]) (zs := [I 0, I 0, I 0]) (L' := [I 1905, I 400, I 420]) rfl Try.underlying41 Al41 rfl (Bd41 Try.underlying41) (.cons (cs := [I 1905]) rfl rfl rfl rfl rfl <| .cons (cs := [I 400, I 420]) rfl rfl rfl rfl rfl <| .nil)) ?_
 refine s_val (x_bld (ps := [(0, I 250), (1, I 250)]) (zs := [I 0, I 0]) (L' := [I 250, I 250]) rfl Try.underlying35 Al35 rfl (Bd35 Try.underlying35) (.cons (cs := [I 250]) rfl rfl rfl rfl rfl <| .cons (cs := [I 250]) rfl rfl rfl rfl rfl <| .nil)) ?_
 refine s_val (x_bld (ps := [(0, I 1906), (1, .agg #[I 250, I 250])]) (zs := [I 0, I 0, I 0]) (L' := [I 1906, I 250, I 250]) rfl Try.underlying41 Al41 rfl (Bd41 Try.underlying41) (.cons (cs := [I 1906]) rfl rfl rfl rfl rfl <| .cons (cs := [I 250, I 250]) rfl rfl rfl rfl rfl <| .nil)) ?_
 refine t_bs (α := Yr) T23 [.agg #[I 1905, I 400, I 420], .agg #[I 1906, I 250, I 250]] [(⟨(1905 : Int), (400 : Int), (420 : Int)⟩ : Yr), (⟨(1906 : Int), (250 : Int), (250 : Int)⟩ : Yr)] H rfl (.cons rfl (Flat.rep_enc _ (⟨(1905 : Int), (400 : Int), (420 : Int)⟩ : Yr)) <| .cons rfl (Flat.rep_enc _ (⟨(1906 : Int), (250 : Int), (250 : Int)⟩ : Yr)) <| .nil) rfl rfl rfl ?_
 intro v2z w3z H
 refine t_bs (α := Int) T27 [I 1902] [(1902 : Int)] H rfl (.cons rfl (Flat.rep_enc _ (1902 : Int)) <| .nil) rfl rfl rfl ?_
 intro v4z w5z H
 refine s_val (x_bld (ps := [(0, I 1900), (1, I 1904), (2, I 500), (3, v4z)]) (zs := [I 0, I 0, I 0, .slice none 0 0]) (L' := [I 1900, I 1904, I 500, v4z]) rfl Try.underlying43 Al43 rfl (Bd43 Try.underlying43) (.cons (cs := [I 1900]) rfl rfl rfl rfl rfl <| .cons (cs := [I 1904]) rfl rfl rfl rfl rfl <| .cons (cs := [I 500]) rfl rfl rfl rfl rfl <| .cons (cs := [v4z]) (Sl.cells (ownSl (H.get (k := 0) rfl))) rfl rfl rfl rfl <| .nil)) ?_
 obtain ⟨Bs_4, H⟩ := H.emptyE
 obtain ⟨Bs_5, H, hs7z⟩ := H.freezeE (k := 1) rfl
 replace H : St w w5z [cRo Bs_4, cRo Bs_5, cOwn (α := Yr) 41 v2z ([(⟨(1905 : Int), (400 : Int), (420 : Int)⟩ : Yr), (⟨(1906 : Int), (250 : Int), (250 : Int)⟩ : Yr)]), cBlk b_1 [.slice none 0 0, .slice none 0 0, I 0, I 0] 26] R := H
 have hq6z := hs7z
 obtain ⟨Bs_6, H, le8z, le9z⟩ := H.joinE (i := 0) (j := 1) rfl rfl
 replace hq6z := hq6z.mono le9z
 obtain ⟨rw10z, hrw_rw10z⟩ : ∃ r : Raw 3, r.cs = [I 1900, I 1904, I 500, v4z] := ⟨Raw.of [I 1900, I 1904, I 500, v4z] rfl (by simp only [List.all_cons, List.all_nil, Bool.true_and, Bool.and_true, Sl.oc hq6z]; try rfl), rfl⟩
 have hr11z : RepR (α := Old10) Bs_6.cells [rw10z] [(⟨(1900 : Int), (1904 : Int), (500 : Int), ([(1902 : Int)])⟩ : Old10)] := .cons (by rw [hrw_rw10z]; exact ⟨_, rfl, hq6z⟩) <| .nil
 refine t_bs (α := Raw 3) T24 [.agg #[I 1900, I 1904, I 500, v4z]] [rw10z] H rfl (.cons (by rw [show (Flat.enc rw10z : List Value) = rw10z.cs from rfl, hrw_rw10z]; rfl) (Flat.rep_enc _ _) <| .nil) rfl rfl rfl ?_
 intro v12z w13z H
 replace H : St w w13z [cOwn (α := Raw 3) 43 v12z ([rw10z]), cRo Bs_6, cRo Bs_4, cRo Bs_5, cOwn (α := Yr) 41 v2z ([(⟨(1905 : Int), (400 : Int), (420 : Int)⟩ : Yr), (⟨(1906 : Int), (250 : Int), (250 : Int)⟩ : Yr)]), cBlk b_1 [.slice none 0 0, .slice none 0 0, I 0, I 0] 26] R := H
 refine s_val (x_bld (ps := [(2, I 1900), (3, I 1909), (0, v2z), (1, v12z)]) (zs := [.slice none 0 0, .slice none 0 0, I 0, I 0]) (L' := [v2z, v12z, I 1900, I 1909]) rfl Try.underlying26 Al26 rfl (Bd26 Try.underlying26) (.cons (cs := [I 1900]) rfl rfl rfl rfl rfl <| .cons (cs := [I 1909]) rfl rfl rfl rfl rfl <| .cons (cs := [v2z]) (Sl.cells (ownSl (H.get (k := 4) rfl))) rfl rfl rfl rfl <| .cons (cs := [v12z]) (Sl.cells (rowSl rfl (H.get (k := 0) rfl) (roLe _ (H.get (k := 1) rfl)) hr11z)) rfl rfl rfl rfl <| .nil)) ?_
 refine t_st (k := 5) (b := b_1) (off := 0) (cs := [.slice none 0 0, .slice none 0 0, I 0, I 0]) (vs := [v2z, v12z, I 1900, I 1909]) (cs' := [v2z, v12z, I 1900, I 1909]) (v := .agg #[v2z, v12z, I 1900, I 1909]) (L' := [cOwn (α := Raw 3) 43 v12z ([rw10z]), cRo Bs_6, cRo Bs_4, cRo Bs_5, cOwn (α := Yr) 41 v2z ([(⟨(1905 : Int), (400 : Int), (420 : Int)⟩ : Yr), (⟨(1906 : Int), (250 : Int), (250 : Int)⟩ : Yr)]), cBlk b_1 [v2z, v12z, I 1900, I 1909] 26]) H rfl rfl rfl Sz26 rfl rfl rfl (by simp only [List.all_cons, List.all_nil, Bool.true_and, Bool.and_true, Sl.oc (ownSl (H.get (k := 4) rfl)), Sl.oc (rowSl rfl (H.get (k := 0) rfl) (roLe _ (H.get (k := 1) rfl)) hr11z)]; try rfl) rfl rfl ?_
 intro w14z H
 refine s_nil ?_
 refine W.ret ?_
 have hb15z := (H.blk (k := 5) rfl)
 have hr_ := M.e_pure hM
 exact ⟨_, (resE_of1 (v := .agg #[v2z, v12z, I 1900, I 1909]) rfl (.cell (v := .agg #[v2z, v12z, I 1900, I 1909]) rfl (run_loadVar_ag (ds := [v2z, v12z, I 1900, I 1909]) Ag26 Sz26 hb15z rfl rfl) <| .nil)), ⟨([(⟨(1905 : Int), (400 : Int), (420 : Int)⟩ : Yr), (⟨(1906 : Int), (250 : Int), (250 : Int)⟩ : Yr)]), ([(⟨(1900 : Int), (1904 : Int), (500 : Int), ([(1902 : Int)])⟩ : Old10)]), 1900, 1909, v2z, v12z, [rw10z], Bs_6, hr_, rfl, (H.pick [4, 0, 1] (by decide) rfl), hr11z⟩⟩

end Go.Proofs.Ytcgalcbkkijkhaa
end
