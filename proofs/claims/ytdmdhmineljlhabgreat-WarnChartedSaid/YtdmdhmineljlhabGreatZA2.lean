/- Part 2 of the texts on which the proof rests. Conditions: none. -/
import Derived.Test.YtdmdhmineljlhabGreatProg
import Derived.Shelf.SlIterI.Nil
import Derived.Shelf.SortM.Plain
import Derived.Shelf.SortM.SortNone
import Derived.WideKeyRuns
import Derived.Ground.NamesProg
import Derived.Shelf.Bits.Mul64
import Derived.Test.YtdmdhmineljlhabGreatZA1
set_option linter.unusedVariables false
set_option linter.unusedSimpArgs false
set_option linter.unusedSectionVars false
namespace Go.Proofs
open Go.RowKit Go.Maps Go.Sort Go.Shelf
def Tryz.sortA_ren:Go.Shelf.Ren:=⟨fun | 5=>64 | 7=>80 | 8=>81 | 10=>96 | 11=>97 | 12=>98 | 13=>99 | 14=>100 | 15=>101 | 16=>102 | 17=>103 | 18=>104 | 19=>105 | 20=>106 | 30=>117 | 31=>118 | 32=>119 | 33=>120 | 34=>121 | 35=>79 | 40=>127 | n=>n,fun | 0=>0 | 3=>3 | 4=>4 | 5=>5 | 9=>9 | 22=>29 | 23=>29 | 25=>3 | 32=>143 | 35=>158 | 36=>159 | 41=>163 | 44=>166 | 46=>168 | 53=>176 | 57=>180 | 63=>187 | 64=>188 | n=>n,fun | n=>n⟩
theorem Tryz.sortA:Go.Proofs.SlLaysM.n5 Tryz.prog Tryz.sortA_ren:={
  mixed:=by kernel_rfl
  f5 := ⟨"slices.Sort[[]int,int]", by kernel_rfl, Tryz.func64.trans (congrArg some (by kernel_rfl))⟩
  f7 := ⟨"slices.pdqsortOrdered[int]", by kernel_rfl, Tryz.func80.trans (congrArg some (by kernel_rfl))⟩
  f8:=Tryz.func81.trans (congrArg some (by kernel_rfl))
  f10 := ⟨"slices.insertionSortOrdered[int]", by kernel_rfl, Tryz.func96.trans (congrArg some (by kernel_rfl))⟩
  f11 := ⟨"slices.heapSortOrdered[int]", by kernel_rfl, Tryz.func97.trans (congrArg some (by kernel_rfl))⟩
  f12 := ⟨"slices.breakPatternsOrdered[int]", by kernel_rfl, Tryz.func98.trans (congrArg some (by kernel_rfl))⟩
  f13 := ⟨"slices.choosePivotOrdered[int]", by kernel_rfl, Tryz.func99.trans (congrArg some (by kernel_rfl))⟩
  f14 := ⟨"slices.reverseRangeOrdered[int]", by kernel_rfl, Tryz.func100.trans (congrArg some (by kernel_rfl))⟩
  f15 := ⟨"slices.partialInsertionSortOrdered[int]", by kernel_rfl, Tryz.func101.trans (congrArg some (by kernel_rfl))⟩
  f16 := ⟨"cmp.Less[int]", by kernel_rfl, Tryz.func102.trans (congrArg some (by kernel_rfl))⟩
  f17 := ⟨"slices.partitionEqualOrdered[int]", by kernel_rfl, Tryz.func103.trans (congrArg some (by kernel_rfl))⟩
  f18 := ⟨"slices.partitionOrdered[int]", by kernel_rfl, Tryz.func104.trans (congrArg some (by kernel_rfl))⟩
  f19:=Tryz.func105.trans (congrArg some (by kernel_rfl))
  f20:=Tryz.func106.trans (congrArg some (by kernel_rfl))
  f30 := ⟨"slices.siftDownOrdered[int]", by kernel_rfl, Tryz.func117.trans (congrArg some (by kernel_rfl))⟩
  f31:=Tryz.func118.trans (congrArg some (by kernel_rfl))
  f32:=Tryz.func119.trans (congrArg some (by kernel_rfl))
  f33 := ⟨"slices.medianAdjacentOrdered[int]", by kernel_rfl, Tryz.func120.trans (congrArg some (by kernel_rfl))⟩
  f34 := ⟨"slices.medianOrdered[int]", by kernel_rfl, Tryz.func121.trans (congrArg some (by kernel_rfl))⟩
  f35 := ⟨"cmp.isNaN[int]", by kernel_rfl, Tryz.func79.trans (congrArg some (by kernel_rfl))⟩
  f40 := ⟨"slices.order2Ordered[int]", by kernel_rfl, Tryz.func127.trans (congrArg some (by kernel_rfl))⟩
  t0:=Tryz.underlying0
  a0:=Tryz.isAgg0
  z0:=Tryz.sizeOf0
  v0:=Tryz.zeroValue0
  t3:=Tryz.underlying3
  a3:=Tryz.isAgg3
  z3:=Tryz.sizeOf3
  v3:=Tryz.zeroValue3
  t4:=Tryz.underlying4
  a4:=Tryz.isAgg4
  z4:=Tryz.sizeOf4
  v4:=Tryz.zeroValue4
  t5:=Tryz.underlying5
  a5:=Tryz.isAgg5
  z5:=Tryz.sizeOf5
  v5:=Tryz.zeroValue5
  t9:=Tryz.underlying9
  a9:=Tryz.isAgg9
  z9:=Tryz.sizeOf9
  v9:=Tryz.zeroValue9
  t22:=Tryz.underlying29
  a22:=Tryz.isAgg29
  z22:=Tryz.sizeOf29
  v22:=Tryz.zeroValue29
  t23:=Tryz.underlying29
  a23:=Tryz.isAgg29
  z23:=Tryz.sizeOf29
  v23:=Tryz.zeroValue29
  t25:=Tryz.underlying3
  a25:=Tryz.isAgg3
  z25:=Tryz.sizeOf3
  v25:=Tryz.zeroValue3
  t32:=Tryz.underlying143
  a32:=Tryz.isAgg143
  z32:=Tryz.sizeOf143
  v32:=Tryz.zeroValue143
  t35:=Tryz.underlying158
  a35:=Tryz.isAgg158
  z35:=Tryz.sizeOf158
  v35:=Tryz.zeroValue158
  t36:=Tryz.underlying159
  a36:=Tryz.isAgg159
  z36:=Tryz.sizeOf159
  v36:=Tryz.zeroValue159
  t41:=Tryz.underlying163
  a41:=Tryz.isAgg163
  z41:=Tryz.sizeOf163
  v41:=Tryz.zeroValue163
  t44:=Tryz.underlying166
  a44:=Tryz.isAgg166
  z44:=Tryz.sizeOf166
  v44:=Tryz.zeroValue166
  t46:=Tryz.underlying168
  a46:=Tryz.isAgg168
  z46:=Tryz.sizeOf168
  v46:=Tryz.zeroValue168
  t53:=Tryz.underlying176
  a53:=Tryz.isAgg176
  z53:=Tryz.sizeOf176
  v53:=Tryz.zeroValue176
  t57:=Tryz.underlying180
  a57:=Tryz.isAgg180
  z57:=Tryz.sizeOf180
  v57:=Tryz.zeroValue180
  t63:=Tryz.underlying187
  a63:=Tryz.isAgg187
  z63:=Tryz.sizeOf187
  v63:=Tryz.zeroValue187
  t64:=Tryz.underlying188
  a64:=Tryz.isAgg188
  z64:=Tryz.sizeOf188
  v64:=Tryz.zeroValue188 }
end Go.Proofs
namespace Go.Nm
open Go
theorem OwnF.row {B:Nat} {e:TypeId} {w:World} {l:List Int} {g cap:Nat} {cur:Array Value} (ho:OwnF B e w (.slice (some ⟨g,0,none⟩) l.length cap) l) (hg:w.heap[g]?=some (.cells cur e (0,0)))
    (hcs:l.length<=cap) (hsz:cur.size=cap) (hb:B<=g) (hm:cap<=maxLen) (d:Array Int) (hl:d.size=l.length) (q:Nat) :
    OwnF B e (Sort.putRow (Value.int .i64) (Sort.ahead w q) g 0 d) (.slice (some ⟨g,0,none⟩) l.length cap) d.toList/\Grow B (.slice (some ⟨g,0,none⟩) l.length cap) w (Sort.putRow (Value.int .i64) (Sort.ahead w q) g 0 d):=by
  have hs1:Elt.sz Int=1:=rfl
  have h1:(Sort.putRow (Value.int .i64) (Sort.ahead w q) g 0 d).heap[g]?=some (.cells (Sort.putCells (Value.int .i64) 0 d cur) e (0,0)):=by
    show (w.heap.modify g _)[g]?=_
    rw [Array.getElem?_modify,if_pos rfl,hg]
    rfl
  have h2:∀ k,k ≠ g->(Sort.putRow (Value.int .i64) (Sort.ahead w q) g 0 d).heap[k]?=w.heap[k]?:=by
    intro k hk
    show (w.heap.modify g _)[k]?=_
    rw [Array.getElem?_modify,if_neg (fun h=>hk h.symm)]
  refine ⟨⟨by rw [enc_ints]; simp [hs1],.inr ⟨g,cap,_,by simp [hl],hb,h1,by simp [hl]; omega,hm,by simp [hs1,Sort.putCells]; omega,?_⟩⟩,⟨rfl,rfl,by simp [Sort.putRow,Sort.mapBlock,Sort.ahead],fun k _ hk=>?_,fun g' hg'=>(ho.lt g' hg').1,fun a=>by simp⟩⟩
  · rw [enc_ints,hs1]
    apply List.ext_getElem?
    intro i
    rw [List.getElem?_take,List.getElem?_map]
    by_cases hi:i<d.toList.length*1
    · rw [if_pos hi]
      have hi':i<d.size:=by simpa using hi
      have hc:i<cur.size:=by omega
      simp [Sort.putCells,hi',hc]
    · rw [if_neg hi,List.getElem?_eq_none (by simpa using hi)]
      rfl
  · refine h2 k (fun e'=>hk ?_)
    rw [e']
    rfl
end Go.Nm
namespace Go.Proofs.YtdmdhmineljlhabGreat
open Go Go.Nm Go.Proofs
theorem sort_any {w:World} {v:Value} {l:List Int} (ho:OwnF 0 3 w v l) (hl:l.length<=1000000):Ret Tryz.prog 64 #[v] w fun u w'=>u = .tuple #[]/\OwnF 0 3 w' v (isort l)/\Keep w w'/\∀ b,b<w.heap.size->v.ownBlock ≠ some b->w'.heap[b]?=w.heap[b]?:=by
  have ho':=ho
  rcases ho.2 with ⟨rfl,hn⟩ | ⟨g,cap,cur,rfl,hb,hg,hc,hm,hcs,htake⟩
  · obtain rfl:=List.length_eq_zero_iff.1 hn
    have h:=AnyM.slices_Sort_int_none Tryz.sortA none 0 w
    refine Calls.mono h ?_
    rintro _ w' ⟨rfl,rfl⟩
    exact ⟨_,rfl,rfl,ho,Keep.refl _,fun _ _ _=>rfl⟩
  · have hs1:Elt.sz Int=1:=rfl
    rw [hs1] at hcs htake
    rw [enc_ints] at htake
    have hcell:∀ j,j<l.length->w.cell? ⟨g,0+j,none⟩=some (.int .i64 (l.getD j 0)):=by
      intro j hj
      rw [Nat.zero_add,cell_of_row w g j cur 3 (0,0) hg]
      have h1:(cur.toList.take (l.length*1))[j]?=(l.map I)[j]?:=by rw [htake]
      rw [List.getElem?_take,if_pos (by omega),List.getElem?_map,getD_some l hj 0] at h1
      simpa using h1
    have hH:Sort.Holds (Value.int .i64) w g 0 l.toArray:=by
      intro j hj
      have hj:j<l.length:=by simpa using hj
      refine ⟨?_,by simp [World.frozen?,hg]⟩
      rw [hcell j hj]
      have:l.getD j 0=l.toArray[j]!:=by
        rw [List.getD_eq_getElem?_getD,List.getElem?_eq_getElem hj]
        simp [getElem!_pos,hj]
      rw [this]
    have h:=AnyM.slices_Sort_int Tryz.sortA g 0 cap l w hH (heap_lt hg) (by omega)
    refine Calls.mono h ?_
    rintro _ w' ⟨rfl,q,os,rfl⟩
    rw [merge_isort (List.Perm.refl l)]
    have hlen:(isort l).length=l.length:=(isort_perm l).length_eq
    obtain ⟨h1,h2⟩:=OwnF.row ho hg hc (by omega) hb hm (isort l).toArray (by simp [hlen]) q
    have hlt:g<(Sort.putRow (Value.int .i64) (Sort.ahead w q) g 0 (isort l).toArray).heap.size:=Nat.lt_of_lt_of_le (heap_lt hg) h2.size
    refine ⟨_,rfl,rfl,?_,⟨h2.os,h2.out,by rw [Sort.size_grow]; exact Nat.le_trans h2.size (Nat.le_add_right _ _)⟩,fun b hb' hne=>?_⟩
    · rcases h1 with ⟨h3,h4 | ⟨g',cap',cur',h5,h6,h7,h8⟩⟩
      · exact absurd h4.1 (by simp)
      · simp only [Value.slice.injEq,Option.some.injEq,Addr.mk.injEq,and_true] at h5
        obtain ⟨rfl,_,rfl⟩:=h5
        refine ⟨h3,.inr ⟨g,cap,cur',by simp [hlen],h6,by rw [Sort.heap_grow_old _ _ hlt]; exact h7,h8⟩⟩
    · rw [Sort.heap_grow_old _ _ (Nat.lt_of_lt_of_le hb' h2.size)]
      exact h2.blk b hb' hne
end Go.Proofs.YtdmdhmineljlhabGreat
namespace Go.Nm
open Go
theorem St.sorted {w0 w w':World} {L L' R:List Chunk} {k:Nat} {v:Value} {l l':List Int} {e:TypeId} (H:St w0 w L R) (hk:L[k]?=some (cOwn (α:=Int) e v l)) (ho:OwnF 0 e w' v l') (kp:Keep w w') (hs:∀ b,b<w.heap.size->v.ownBlock ≠ some b->w'.heap[b]?=w.heap[b]?)
    (hl:L.set k (cOwn (α:=Int) e v l')=L'):St w0 w' L' R :=
  H.set (c':=cOwn (α:=Int) e v l') hk rfl kp hs (fun b hb=>.inl hb) ho hl
end Go.Nm
namespace Go.Nm
open Go
end Go.Nm
namespace Go.Nm
open Go
section
variable {P:Program} {w:World} {σ:Env} {d:Nat} {ty:TypeId} {pos:String} {af:Array Edge} {g:Option (Nat × Bool)}
end
end Go.Nm
namespace Go.Nm
open Go
section
variable {P:Program} {ops:Array Oper} {md:Region.Mode} {C:World->Prop} {z:Nat}
end
section
variable {P:Program} {all:List Oper} {C:World->Prop} {z:Nat} {Q:Post} {r:List Nat} {σ:Env} {w:World}
end
end Go.Nm
namespace Go.Nm
open Go
section
variable {P:Program} {ops:Array Oper} {md:Region.Mode} {C:World->Prop} {z:Nat}
end
section
variable {P:Program} {all:List Oper} {C:World->Prop} {z:Nat} {Q:Post} {r r2:Ord} {σ:Env} {w:World}
end
end Go.Nm
namespace Go.Nm
open Go
section
variable {P:Program} {ops:Array Oper} {md:Region.Mode} {C:World->Prop} {zs:List Nat}
def onOf (md:Region.Mode) (ops:Array Oper) (j:Nat):List Nat:=match ops[j]? with
  | some o=>(o.after.toList.filter (Region.binds md)).map (·.on)
  | none=>[]
def downs (md:Region.Mode) (ops:Array Oper) (z:Nat):List Nat:=(List.range ops.size).reverse.foldl (fun acc j=>bif acc.contains j then onOf md ops j++acc else acc) (onOf md ops z)
/-- What an operation that is listed comes behind is listed, too. -/
def ClosedL (md:Region.Mode) (ops:Array Oper) (listed:Array Bool):Prop:=∀ j,listed.getD j false=true->∀ i∈onOf md ops j,listed.getD i false=true
theorem onOf_ready {listed:Array Bool} {j:Nat} (hj:j∈Region.ready md ops listed):∀ i∈onOf md ops j,listed.getD i false=true:=by
  obtain ⟨_,o,ho,hall⟩:=mem_ready.1 hj
  intro i hi
  unfold onOf at hi
  simp only [ho] at hi
  obtain ⟨e,he,rfl⟩:=List.mem_map.1 hi
  rw [List.mem_filter] at he
  exact hall e (by simpa using he.1) he.2
theorem ClosedL.set {listed:Array Bool} {j:Nat} (h:ClosedL md ops listed) (hj:j∈Region.ready md ops listed):ClosedL md ops (listed.setIfInBounds j true):=fun k hk i hi=>by
  refine getD_set_true ?_
  by_cases e:j=k
  · subst e
    exact onOf_ready hj i hi
  · rw [getD_set_ne false e] at hk
    exact h k hk i hi
theorem downs_listed {listed:Array Bool} {z:Nat} (h:ClosedL md ops listed) (hz:z∈Region.ready md ops listed):∀ i∈downs md ops z,listed.getD i false=true:=by
  unfold downs
  generalize hacc:onOf md ops z=acc
  have h0:∀ i∈acc,listed.getD i false=true:=fun i hi=>onOf_ready hz i (by rw [hacc]; exact hi)
  clear hacc
  generalize (List.range ops.size).reverse=l
  induction l generalizing acc with
  | nil=>exact h0
  | cons j r ih =>
    rw [List.foldl_cons]
    refine ih _ fun i hi=>?_
    cases hc:acc.contains j with
    | false=>rw [hc] at hi; exact h0 i hi
    | true =>
      rw [hc] at hi
      rcases List.mem_append.1 hi with hi | hi
      · exact h j (h0 j (by simpa using hc)) i hi
      · exact h0 i hi
def wpAnyS (P:Program) (md:Region.Mode) (ops:Array Oper) (C:World->Prop) (zs:List Nat) (Q:Act->World->Prop):Nat->Array Bool->Act->World->Prop
  | 0,listed,a,w=>Region.ready md ops listed=[]/\Q a w
  | fuel+1,listed,a,w =>
    (Region.ready md ops listed=[]->Q a w) ∧
    ∀ i∈Region.ready md ops listed,lOp P ops i (fun a' w'=>(i ∉ zs->C w')/\wpAnyS P md ops C zs Q fuel (listed.setIfInBounds i true) a' w') a w
theorem wpAny_of_S {r:Option Nat} {Q:Act->World->Prop} {Q':Exit->Act->World->Prop} (hQ:∀ a w,Q a w->Q' .normal a w):∀ (fuel:Nat) (listed:Array Bool) (a:Act) (w:World),
    wpAnyS P md ops C zs Q fuel listed a w->wpAnyIn (FR r) 0 P md ops Q' fuel listed a w
  | 0,_,_,_,h=>⟨h.1,hQ _ _ h.2⟩
  | fuel+1,_,_,_,h=>⟨fun h0=>hQ _ _ (h.1 h0),fun i hi=>lOp_wpOp (lOp_mono (fun a' w' hh=>wpAny_of_S hQ fuel _ a' w' hh.2) (h.2 i hi))⟩
theorem wpAnyS_first {Q:Act->World->Prop} {i:Nat} {oi:Oper} {v:Value} (hi:ops[i]?=some oi) (hz:i ∉ zs) (hb:∀ z∈zs,i∈downs md ops z) (hsel:∀ (j:Nat) (o:Oper) cs b,ops[j]?=some o->o.op ≠ .select cs b) :
    ∀ (fuel:Nat) (listed:Array Bool) (a:Act) (w:World),C w->ClosedL md ops listed →
      (∀ j oj,ops[j]?=some oj->j ≠ i->listed.getD j true=false->(∀ e∈oj.after,Region.binds md e=true->e.on ≠ i)->oi.apart ops oj=true) →
      i∈Region.ready md ops listed->YV P ops C oi v a →
      wpAnyS P md ops C zs Q fuel (listed.setIfInBounds i true) (a.put oi.dst v) w->wpAnyS P md ops C zs Q (fuel+1) listed a w:=by
  intro fuel
  induction fuel with
  | zero =>
    intro listed a w hC _ _ hr hy H
    refine ⟨fun h=>(by rw [h] at hr; cases hr),fun j hj=>?_⟩
    by_cases hji:j=i
    · subst hji; exact hy.lOp hi hC ⟨fun _=>hC,H⟩
    · have:=ready_mono hj hji
      rw [H.1] at this
      cases this
  | succ fuel ih =>
    intro listed a w hC hcl hfree hr hy H
    refine ⟨fun h=>(by rw [h] at hr; cases hr),fun j hj=>?_⟩
    by_cases hji:j=i
    · subst hji; exact hy.lOp hi hC ⟨fun _=>hC,H⟩
    · have h1:=H.2 j (ready_mono hj hji)
      obtain ⟨hjun,oj,hoj,hall⟩:=mem_ready.1 hj
      have hno:¬ listed.getD i false=true:=fun h1=>by
        have h0:=(mem_ready.1 hr).1
        rcases Nat.lt_or_ge i listed.size with h' | h'
        · simp [h'] at h0 h1; rw [h0] at h1; cases h1
        · simp [Array.getElem?_eq_none h'] at h1
      have hnot:∀ e∈oj.after,Region.binds md e=true->e.on ≠ i:=fun e he hb heq=>by
        have h1:=hall e he hb
        rw [heq] at h1
        exact hno h1
      have hjz:j ∉ zs:=fun e=>hno (downs_listed hcl hj i (hb j e))
      have h2:=lOp_put hoj (hfree j oj hoj hji hjun hnot) (fun cs b=>hsel i oi cs b hi) (fun cs b=>hsel j oj cs b hoj) hy h1
      have hfree':∀ k ok,ops[k]?=some ok->k ≠ i->(listed.setIfInBounds j true).getD k true=false →
          (∀ e∈ok.after,Region.binds md e=true->e.on ≠ i)->oi.apart ops ok=true:=fun k ok hk hki hun hno=>by
        refine hfree k ok hk hki ?_ hno
        by_cases hjk:j=k
        · subst hjk; exact hjun
        · rw [getD_set_ne true hjk] at hun; exact hun
      refine lOp_mono (fun a' w' h3=>⟨fun _=>h3.2.1 hjz,ih (listed.setIfInBounds j true) a' w' (h3.2.1 hjz) (hcl.set hj) hfree' (ready_mono hr (Ne.symm hji)) h3.1 ?_⟩) h2
      rw [Array.setIfInBounds_comm _ _ hji]
      exact h3.2.2
def canonRow (md:Region.Mode) (ops:Array Oper):List Nat->Array Bool->Bool
  | [],listed=>(Region.ready md ops listed).isEmpty
  | z :: r,listed=>(Region.ready md ops listed==[z])&&canonRow md ops r (listed.setIfInBounds z true)
def canonTS (md:Region.Mode) (ops:Array Oper) (zs:List Nat):Ord->Nat->Array Bool->Bool
  | .nil,0,listed=>canonRow md ops zs listed
  | .q k r,n+1,listed=>(Region.ready md ops listed).contains k&&Region.free md ops listed k&&!zs.contains k&&zs.all (fun z=>(downs md ops z).contains k)&&canonTS md ops zs r n (listed.setIfInBounds k true)
  | .l k r,n+1,listed=>(Region.ready md ops listed==[k])&&!zs.contains k&&canonTS md ops zs r n (listed.setIfInBounds k true)
  | .l2 k1 r1 k2 r2,n+1,listed=>(Region.ready md ops listed==[k1,k2])&&!zs.contains k1&&!zs.contains k2&&canonTS md ops zs r1 n (listed.setIfInBounds k1 true)&&canonTS md ops zs r2 n (listed.setIfInBounds k2 true)
  | .l3 k1 r1 k2 r2 k3 r3,n+1,listed=>(Region.ready md ops listed==[k1,k2,k3])&&canonTS md ops zs r1 n (listed.setIfInBounds k1 true)&&canonTS md ops zs r2 n (listed.setIfInBounds k2 true)&&canonTS md ops zs r3 n (listed.setIfInBounds k3 true)
  | _,_,_=>false
def runRow (P:Program) (ops:Array Oper) (Q:Act->World->Prop):List Nat->Act->World->Prop
  | [],a,w=>Q a w
  | z :: r,a,w=>lOp P ops z (fun a' w'=>runRow P ops Q r a' w') a w
def runTS (P:Program) (ops:Array Oper) (C:World->Prop) (zs:List Nat) (Q:Act->World->Prop):Ord->Act->World->Prop
  | .nil,a,w=>runRow P ops Q zs a w
  | .q k r,a,w=>∃ o v,ops[k]?=some o/\YV P ops C o v a/\runTS P ops C zs Q r (a.put o.dst v) w
  | .l k r,a,w=>lOp P ops k (fun a' w'=>C w'/\runTS P ops C zs Q r a' w') a w
  | .l2 k1 r1 k2 r2,a,w=>lOp P ops k1 (fun a' w'=>C w'/\runTS P ops C zs Q r1 a' w') a w/\lOp P ops k2 (fun a' w'=>C w'/\runTS P ops C zs Q r2 a' w') a w
  | .l3 k1 r1 k2 r2 k3 r3,a,w=>lOp P ops k1 (fun a' w'=>C w'/\runTS P ops C zs Q r1 a' w') a w/\lOp P ops k2 (fun a' w'=>C w'/\runTS P ops C zs Q r2 a' w') a w/\lOp P ops k3 (fun a' w'=>C w'/\runTS P ops C zs Q r3 a' w') a w
theorem wpAnyS_row {Q:Act->World->Prop}:∀ (l:List Nat),(∀ z∈l,z∈zs)->∀ (listed:Array Bool) (a:Act) (w:World),canonRow md ops l listed=true->runRow P ops Q l a w->wpAnyS P md ops C zs Q l.length listed a w
  | [],_,_,_,_,hB,h=>⟨by simpa [canonRow] using hB,h⟩
  | z :: r,hz,listed,a,w,hB,h=>by
    simp only [canonRow,Bool.and_eq_true,beq_iff_eq] at hB
    obtain ⟨hr,hB'⟩:=hB
    refine ⟨fun h0=>by rw [hr] at h0; simp at h0,fun i hi=>?_⟩
    rw [hr] at hi
    obtain rfl:i=z:=by simpa using hi
    exact lOp_mono (fun a' w' hh=>⟨fun h=>absurd (hz i (by simp)) h,wpAnyS_row r (fun y hy=>hz y (by simp [hy])) _ _ _ hB' hh⟩) h
theorem wpAnyS_canonT {Q:Act->World->Prop} (hs:Region.noSelect ops=true):∀ (l:Ord) (n:Nat) (listed:Array Bool) (a:Act) (w:World),C w->ClosedL md ops listed →
    canonTS md ops zs l n listed=true->runTS P ops C zs Q l a w->wpAnyS P md ops C zs Q (n+zs.length) listed a w
  | .nil,0,listed,a,w,_,_,hB,h=>by
    rw [Nat.zero_add]
    exact wpAnyS_row zs (fun _ h=>h) _ _ _ (by simpa only [canonTS] using hB) h
  | .q k r,n+1,listed,a,w,hC,hcl,hB,h=>by
    simp only [canonTS,Bool.and_eq_true,Bool.not_eq_true',List.all_eq_true] at hB
    obtain ⟨⟨⟨⟨hr,hf⟩,hz⟩,hb⟩,hB'⟩:=hB
    obtain ⟨o,v,h0,hy,hK⟩:=h
    have hr':k∈Region.ready md ops listed:=by simpa using hr
    rw [Nat.succ_add]
    exact wpAnyS_first h0 (by simpa using hz) (fun z hz=>by simpa using hb z hz) (Region.noSelect_spec hs) (n+zs.length) listed a w hC hcl (Region.free_spec h0 hf) hr' hy (wpAnyS_canonT hs r n _ _ _ hC (hcl.set hr') hB' hK)
  | .l k r,n+1,listed,a,w,hC,hcl,hB,h=>by
    simp only [canonTS,Bool.and_eq_true,beq_iff_eq] at hB
    obtain ⟨⟨hr,_⟩,hB'⟩:=hB
    rw [Nat.succ_add]
    refine ⟨fun h0=>by rw [hr] at h0; simp at h0,fun i hi=>?_⟩
    have hc:=hcl.set hi
    rw [hr] at hi
    obtain rfl:i=k:=by simpa using hi
    exact lOp_mono (fun a' w' hh=>⟨fun _=>hh.1,wpAnyS_canonT hs r n _ _ _ hh.1 hc hB' hh.2⟩) h
  | .l2 k1 r1 k2 r2,n+1,listed,a,w,hC,hcl,hB,h=>by
    simp only [canonTS,Bool.and_eq_true,beq_iff_eq] at hB
    obtain ⟨⟨⟨⟨hr,_⟩,_⟩,hB1⟩,hB2⟩:=hB
    rw [Nat.succ_add]
    refine ⟨fun h0=>by rw [hr] at h0; simp at h0,fun i hi=>?_⟩
    have hc:=hcl.set hi
    rw [hr] at hi
    rcases List.mem_cons.1 hi with rfl | hi
    · exact lOp_mono (fun a' w' hh=>⟨fun _=>hh.1,wpAnyS_canonT hs r1 n _ _ _ hh.1 hc hB1 hh.2⟩) h.1
    · obtain rfl:i=k2:=by simpa using hi
      exact lOp_mono (fun a' w' hh=>⟨fun _=>hh.1,wpAnyS_canonT hs r2 n _ _ _ hh.1 hc hB2 hh.2⟩) h.2
  | .l3 k1 r1 k2 r2 k3 r3,n+1,listed,a,w,hC,hcl,hB,h=>by
    simp only [canonTS,Bool.and_eq_true,beq_iff_eq] at hB
    obtain ⟨⟨⟨hr,hB1⟩,hB2⟩,hB3⟩:=hB
    rw [Nat.succ_add]
    refine ⟨fun h0=>by rw [hr] at h0; simp at h0,fun i hi=>?_⟩
    have hc:=hcl.set hi
    rw [hr] at hi
    rcases List.mem_cons.1 hi with rfl | hi
    · exact lOp_mono (fun a' w' hh=>⟨fun _=>hh.1,wpAnyS_canonT hs r1 n _ _ _ hh.1 hc hB1 hh.2⟩) h.1
    · rcases List.mem_cons.1 hi with rfl | hi
      · exact lOp_mono (fun a' w' hh=>⟨fun _=>hh.1,wpAnyS_canonT hs r2 n _ _ _ hh.1 hc hB2 hh.2⟩) h.2.1
      · obtain rfl:i=k3:=by simpa using hi
        exact lOp_mono (fun a' w' hh=>⟨fun _=>hh.1,wpAnyS_canonT hs r3 n _ _ _ hh.1 hc hB3 hh.2⟩) h.2.2
  | .nil,_+1,_,_,_,_,_,hB,_=>by simp [canonTS] at hB
  | .q _ _,0,_,_,_,_,_,hB,_=>by simp [canonTS] at hB
  | .l _ _,0,_,_,_,_,_,hB,_=>by simp [canonTS] at hB
  | .l2 _ _ _ _,0,_,_,_,_,_,hB,_=>by simp [canonTS] at hB
  | .l3 _ _ _ _ _ _,0,_,_,_,_,_,hB,_=>by simp [canonTS] at hB
theorem ClosedL.none (n:Nat):ClosedL md ops (Array.replicate n false):=fun j h=>by
  rcases Nat.lt_or_ge j n with h' | h'
  · simp [h'] at h
  · simp [Array.getElem?_replicate,Nat.not_lt.2 h'] at h
end
def SLR (P:Program) (all:List Oper) (Q:Post):List Nat->Env->World->Prop
  | [],σ,w=>Q .normal σ w
  | z :: r,σ,w=>∃ o,all[z]?=some o/\SL P all (loudQ (fun _=>True) (SLR P all Q r)) [o] σ w
def SLTS (P:Program) (all:List Oper) (C:World->Prop) (zs:List Nat) (Q:Post):Ord->Env->World->Prop
  | .nil,σ,w=>SLR P all Q zs σ w
  | .q k r,σ,w=>∃ o v,all[k]?=some o/\(bif wantedE all o σ then ∀ w',C w'->(execOp (ev σ) o).run P w' = .ok (.value v) w' else v=undef)/\SLTS P all C zs Q r (updo σ o.dst v) w
  | .l k r,σ,w=>∃ o,all[k]?=some o/\SL P all (loudQ C (SLTS P all C zs Q r)) [o] σ w
  | .l2 k1 r1 k2 r2,σ,w=>(∃ o,all[k1]?=some o/\SL P all (loudQ C (SLTS P all C zs Q r1)) [o] σ w)/\∃ o,all[k2]?=some o/\SL P all (loudQ C (SLTS P all C zs Q r2)) [o] σ w
  | .l3 k1 r1 k2 r2 k3 r3,σ,w=>(∃ o,all[k1]?=some o/\SL P all (loudQ C (SLTS P all C zs Q r1)) [o] σ w)/\(∃ o,all[k2]?=some o/\SL P all (loudQ C (SLTS P all C zs Q r2)) [o] σ w)/\∃ o,all[k3]?=some o/\SL P all (loudQ C (SLTS P all C zs Q r3)) [o] σ w
theorem SLR_run {P:Program} {ds:List Deferred} {n:Nat} {Q:Post} (all:List Oper) (hok:∀ o∈all,∀ d,o.dst=some d->d<n):∀ (l:List Nat) (σ:Env) (w:World) (a:Act),Fr ds n σ a →
    SLR P all Q l σ w->runRow P all.toArray (fun a' w'=>∃ σ',Fr ds n σ' a'/\Q .normal σ' w') l a w
  | [],σ,_,_,ha,h=>⟨σ,ha,h⟩
  | _ :: r,_,_,_,ha,⟨_,ho,h⟩=>lOp_mono (fun _ _ hh=>hh.2) (SL_lOp all hok (fun σ' w' a' ha' h'=>SLR_run all hok r σ' w' a' ha' h') ho ha h)
theorem SLTS_runTS {P:Program} {ds:List Deferred} {n:Nat} {C:World->Prop} {zs:List Nat} {Q:Post} (all:List Oper) (hok:∀ o∈all,∀ d,o.dst=some d->d<n):∀ (l:Ord) (σ:Env) (w:World) (a:Act),Fr ds n σ a →
    SLTS P all C zs Q l σ w->runTS P all.toArray C zs (fun a' w'=>∃ σ',Fr ds n σ' a'/\Q .normal σ' w') l a w
  | .nil,σ,w,a,ha,h=>SLR_run all hok zs σ w a ha h
  | .q k r,σ,w,a,ha,⟨o,v,ho,hv,hK⟩=>by
    have hmem:o∈all:=List.mem_of_getElem? ho
    refine ⟨o,v,by simpa using ho,?_,SLTS_runTS all hok r _ _ _ (ha.puto (hok o hmem) v) hK⟩
    unfold YV
    rw [wanted_eq ha all hok,ha.eval]
    cases hw:wantedE all o σ with
    | true=>rw [hw] at hv; exact .inl ⟨rfl,hv⟩
    | false=>rw [hw] at hv; exact .inr ⟨rfl,hv⟩
  | .l k r,σ,w,a,ha,⟨o,ho,h⟩=>SL_lOp all hok (fun σ' w' a' ha' h'=>SLTS_runTS all hok r σ' w' a' ha' h') ho ha h
  | .l2 k1 r1 k2 r2,σ,w,a,ha,⟨⟨o,ho,h⟩,⟨o',ho',h'⟩⟩ =>
    ⟨SL_lOp all hok (fun σ' w' a' ha' h'=>SLTS_runTS all hok r1 σ' w' a' ha' h') ho ha h,SL_lOp all hok (fun σ' w' a' ha' h'=>SLTS_runTS all hok r2 σ' w' a' ha' h') ho' ha h'⟩
  | .l3 k1 r1 k2 r2 k3 r3,σ,w,a,ha,⟨⟨o,ho,h⟩,⟨o',ho',h'⟩,⟨o'',ho'',h''⟩⟩ =>
    ⟨SL_lOp all hok (fun σ' w' a' ha' h'=>SLTS_runTS all hok r1 σ' w' a' ha' h') ho ha h,SL_lOp all hok (fun σ' w' a' ha' h'=>SLTS_runTS all hok r2 σ' w' a' ha' h') ho' ha h',SL_lOp all hok (fun σ' w' a' ha' h'=>SLTS_runTS all hok r3 σ' w' a' ha' h') ho'' ha h''⟩
theorem W.drawTS {r:Option Nat} {P:Program} {n:Nat} {Q:Post} {σ:Env} {w:World} {id:Nat} {l:List Oper} (C:World->Prop) (order:Ord) (m:Nat) (zs:List Nat) (hm:P.follows .mixedOrders=true)
    (hB:(Region.noSelect l.toArray&&Nat.beq (m+zs.length) l.length&&canonTS .any l.toArray zs order m (Array.replicate l.length false))=true)
    (hok:okDst n l=true) (h:∀ w1,Ext w w1->C w1/\SLTS P l C zs Q order σ w1):WR r P n (.region id l.toArray true) Q σ w:=by
  intro ds a ha
  simp only [Bool.and_eq_true] at hB
  obtain ⟨⟨hs,hl⟩,hB⟩:=hB
  have hl':=Nat.eq_of_beq_eq_true hl
  obtain ⟨hC,hS⟩:=h w.drew (.drew w)
  refine wpIn_region_any hm (wpAny_of_S (C:=C) (zs:=zs) (Q:=fun a' w'=>∃ σ',Fr ds n σ' a'/\Q .normal σ' w') (fun _ _ h=>h) _ _ _ _ ?_)
  have:=wpAnyS_canonT (P:=P) (md:=.any) (Q:=fun a' w'=>∃ σ',Fr ds n σ' a'/\Q .normal σ' w') hs order m (Array.replicate l.length false) a w.drew hC (ClosedL.none _) hB (SLTS_runTS l (okDst_spec hok) order σ w.drew a ha hS)
  rw [hl'] at this
  simpa using this
section
variable {P:Program} {all:List Oper} {C:World->Prop} {zs:List Nat} {z:Nat} {Q:Post} {r r2:Ord} {σ:Env} {w:World}
theorem ts_nil (h:SLR P all Q zs σ w):SLTS P all C zs Q .nil σ w:=h
theorem sr_l {o:Oper} (ho:all[z]?=some o) (h:SL P all (loudQ (fun _=>True) (SLR P all Q zs)) [o] σ w):SLR P all Q (z :: zs) σ w:=⟨o,ho,h⟩
theorem sr_nil (h:Q .normal σ w):SLR P all Q [] σ w:=h
theorem ts_q {k d:Nat} {op:Op} {ty:TypeId} {pos:String} {af:Array Edge} {v:Value} (ho:all[k]?=some ⟨some d,op,ty,pos,af,none⟩)
    (h:∀ w',C w'->(execOp (ev σ) ⟨some d,op,ty,pos,af,none⟩).run P w' = .ok (.value v) w') (hk:SLTS P all C zs Q r (upd σ d v) w):SLTS P all C zs Q (.q k r) σ w :=
  ⟨_,v,ho,h,hk⟩
theorem ts_l {k:Nat} {o:Oper} (ho:all[k]?=some o) (h:SL P all (loudQ C (SLTS P all C zs Q r)) [o] σ w):SLTS P all C zs Q (.l k r) σ w:=⟨o,ho,h⟩
theorem ts_l2 {k k2:Nat} {o o2:Oper} (ho:all[k]?=some o) (ho2:all[k2]?=some o2) (h:SL P all (loudQ C (SLTS P all C zs Q r)) [o] σ w) (h2:SL P all (loudQ C (SLTS P all C zs Q r2)) [o2] σ w) :
    SLTS P all C zs Q (.l2 k r k2 r2) σ w:=⟨⟨o,ho,h⟩,⟨o2,ho2,h2⟩⟩
end
end Go.Nm
namespace Go.Nm
open Go
section
set_option linter.unusedSectionVars false
variable {α β:Type} [Flat α] [Flat β] [Inhabited β] {iv:β->Value} {e1 e2:TypeId} {v:Value} {us:List β} {T:List (List α)} {w0 w:World} {L L' R:List Chunk}
variable {P:Program} {all rest:List Oper} {Q:Post} {σ:Env} {d:Nat} {ty:TypeId} {pos:String} {af:Array Edge}
end
end Go.Nm
namespace Go.Nm
open Go
/-- A map of slices, with the rows to which they lead (they are read on only). -/
def cMem {κ:Type} [DecidableEq κ] (kenc:κ->Value) (b:Nat) (B:Base) (F:κ->M (List Int)):Chunk where
  D k:=k=b∨(B.D k/\k<B.w.heap.size)
  ex:=true
  ok w:=(∃ f:κ->Option Value,(cMap kenc id b f).ok w/\∀ k v,f k=some v->∃ l,(F k).Ends l/\Sl B.cells v l)/\(cRo B).ok w/\¬ (B.D b/\b<B.w.heap.size)
  st w w' h hs k:=by
    obtain ⟨⟨f,h1,h2⟩,h3,h4⟩:=h
    exact ⟨⟨f,(cMap kenc id b f).st w w' h1 hs fun j hj=>k j (.inl hj),h2⟩,(cRo B).st w w' h3 hs fun j hj=>k j (.inr hj),h4⟩
  bd w k h e:=by
    obtain ⟨⟨f,h1,h2⟩,h3,h4⟩:=h
    rcases e with e | e
    · exact (cMap kenc id b f).bd w k h1 e
    · exact (cRo B).bd w k h3 e
/-- A base that nothing else knows. -/
def cRx (B:Base):Chunk where
  D b:=B.D b/\b<B.w.heap.size
  ex:=true
  ok w:=(cRo B).ok w
  st w w' h hs k:=(cRo B).st w w' h hs k
  bd w b h hb:=(cRo B).bd w b h hb
section
variable {κ:Type} [DecidableEq κ] {kenc:κ->Value} {b:Nat} {B:Base} {F:κ->M (List Int)} {P:Program} {w w0:World} {L L' R:List Chunk} {kt et t:TypeId}
variable {all rest:List Oper} {Q:Post} {σ:Env} {d:Nat} {ty:TypeId} {pos:String} {af:Array Edge}
theorem memLe:∀ w,(cMem kenc b B F).ok w->B.cells.Le w.cell?:=fun w h=>roLe w h.2.1
/-- A new one. -/
theorem t_mkmem {t':TypeId} (kenc:κ->Value) (F:κ->M (List Int)) (H:St w0 w L R) (k:∀ b B w',St w0 w' (cMem kenc b B F :: L) R->SL P all Q rest (upd σ d (.map (some b))) w'):SL P all Q (⟨some d,.makeMap t' none,ty,pos,af,none⟩ :: rest) σ w :=
  s_mkmap fun b w' hn=>k b ⟨w',fun _=>False⟩ w' (H.push (c:=cMem kenc b ⟨w',fun _=>False⟩ F) hn.ext
    ⟨⟨fun _=>none,⟨_,_,hn.same,MapR.nil kenc id 0⟩,fun k v h=>by cases h⟩,⟨Nat.le_refl _,fun _ h=>h.elim⟩,fun h=>h.1.elim⟩ (fun j hj=>by
      rcases hj with hj | hj
      · rw [hj]; exact hn.ge
      · exact hj.1.elim))
/-- The map by itself, the rows beside it. -/
theorem St.memOpen {i:Nat} (H:St w0 w L R) (hk:L[i]?=some (cMem kenc b B F)):∃ f:κ->Option Value,St w0 w (cMap kenc id b f :: cRx B :: L.eraseIdx i) R/\∀ k v,f k=some v->∃ l,(F k).Ends l/\Sl B.cells v l:=by
  have hlt:=(List.getElem?_eq_some_iff.1 hk).1
  have hp:(cMem kenc b B F :: L.eraseIdx i).Perm L:=by
    have e:L.take i++cMem kenc b B F :: L.drop (i+1)=L:=by
      rw [← (List.getElem?_eq_some_iff.1 hk).2,← List.drop_eq_getElem_cons hlt,List.take_append_drop]
    rw [List.eraseIdx_eq_take_drop_succ]
    exact List.Perm.trans List.perm_middle.symm (by rw [e])
  have hS:Sep w (cMem kenc b B F :: (L.eraseIdx i++R)):=H.sep.perm (by rw [← List.cons_append]; exact hp.append_right R)
  obtain ⟨⟨⟨f,h1,h2⟩,h3,h4⟩,ha,hr⟩:=hS
  refine ⟨f,⟨H.kp,h1,?_,h3,?_,hr⟩,h2⟩
  · intro c hc _ j hj hj'
    rcases List.mem_cons.1 hc with rfl | hc
    · rw [show j=b from hj] at hj'
      exact h4 hj'
    · exact ha c hc (by simp [cMem]) j (.inl hj) hj'
  · intro c hc _ j hj hj'
    exact ha c hc (by simp [cMem]) j (.inr hj) hj'
theorem St.memShut {f:κ->Option Value} (H:St w0 w (cMap kenc id b f :: cRx B :: L) R) (hF:∀ k v,f k=some v->∃ l,(F k).Ends l/\Sl B.cells v l):St w0 w (cMem kenc b B F :: L) R:=by
  obtain ⟨h1,ha,h3,hb,hr⟩:=H.sep
  refine ⟨H.kp,⟨⟨f,h1,hF⟩,h3,fun h=>ha (cRx B) (by simp) (by simp [cMap]) b rfl h⟩,fun c hc _ j hj hj'=>?_,hr⟩
  rcases hj with hj | hj
  · exact ha c (List.mem_cons_of_mem _ hc) (by simp [cMap]) j hj hj'
  · exact hb c hc (by simp [cRx]) j hj hj'
theorem St.memShut1 {f:κ->Option Value} {k:κ} {e:TypeId} {v:Value} {l:List Int} (H:St w0 w (cMap kenc id b (updF f k v) :: cRx B :: cOwn (α:=Int) e v l :: L) R) (hF:∀ k v,f k=some v->∃ l,(F k).Ends l/\Sl B.cells v l) (hE:(F k).Ends l) :
    ∃ B',B.cells.Le B'.cells/\Sl B'.cells v l/\St w0 w (cMem kenc b B' F :: L) R:=by
  have hS:=H.sep
  obtain ⟨h1,ha,h3,hb,hown,hc,hr⟩:=hS
  have hlt:∀ j,B.D j/\j<B.w.heap.size->(cRo B).D j:=fun j hj=>hj
  have hBB:B.cells.Le (Base.cells ⟨w,fun j=>(B.D j/\j<B.w.heap.size)∨v.ownBlock=some j⟩):=fun a c hc=>by
    have hd:B.D a.block:=by
      unfold Base.cells at hc
      split at hc
      · assumption
      · cases hc
    have hlt:a.block<B.w.heap.size:=by
      unfold Base.cells at hc
      rw [if_pos hd] at hc
      exact World.block_lt_of_cell? B.w a hc
    unfold Base.cells
    rw [if_pos (show (B.D a.block/\a.block<B.w.heap.size)∨v.ownBlock=some a.block from .inl ⟨hd,hlt⟩)]
    exact roLe w h3 a c hc
  have hvl:Sl (Base.cells ⟨w,fun j=>(B.D j/\j<B.w.heap.size)∨v.ownBlock=some j⟩) v l:=(ownSl hown).mono fun a c hc=>by
    have h1:=ownLe w hown a c hc
    unfold Base.cells
    rw [if_pos (Or.inr ?_)]
    · exact h1
    · unfold rowC at hc
      split at hc
      · rename_i p _ _
        split at hc
        · rename_i ha
          rw [ha]; rfl
        · cases hc
      · cases hc
  refine ⟨⟨w,fun j=>(B.D j/\j<B.w.heap.size)∨v.ownBlock=some j⟩,hBB,hvl,H.kp,⟨⟨updF f k v,h1,fun k' v' hk'=>?_⟩,⟨Nat.le_refl _,fun _ _ _=>rfl⟩,fun h=>?_⟩,fun c hc' _ j hj hj'=>?_,hr⟩
  · unfold updF at hk'
    split at hk'
    · rename_i ek
      subst ek
      obtain rfl:=Option.some.inj hk'
      exact ⟨l,hE,hvl⟩
    · obtain ⟨l',e1,e2⟩:=hF k' v' hk'
      exact ⟨l',e1,e2.mono hBB⟩
  · rcases h.1 with h | h
    · exact ha (cRx B) (by simp) (by simp [cMap]) b rfl h
    · exact ha (cOwn (α:=Int) e v l) (by simp) (by simp [cMap]) b rfl h
  · rcases hj with hj | ⟨hj | hj,_⟩
    · exact ha c (List.mem_cons_of_mem _ (List.mem_cons_of_mem _ hc')) (by simp [cMap]) j hj hj'
    · exact hb c (List.mem_cons_of_mem _ hc') (by simp [cRx]) j hj hj'
    · exact hc c hc' (by simp [cOwn]) j hj hj'
end
end Go.Nm
namespace Go.Nm
open Go
section
variable {P:Program} {w:World}
variable {all rest:List Oper} {Q:Post} {σ:Env} {w0:World} {L R:List Chunk} {ty:TypeId} {pos:String} {af:Array Edge}
end
end Go.Nm
namespace Go.Nm
open Go
universe u
abbrev Pq (b:Nat):Value:=.pointer (some ⟨b,0,none⟩)
abbrev Oq (b o:Nat):Value:=.pointer (some ⟨b,o,none⟩)
class NthR {α:Type u} (l:List α) (i:Nat) (x:outParam α):Prop where
  is:l[i]?=some x
instance {α:Type u} {l:List α} {x:α}:NthR (x :: l) 0 x:=⟨rfl⟩
instance {α:Type u} {l:List α} {x y:α} {i:Nat} [h:NthR l i x]:NthR (y :: l) (i+1) x:=⟨h.is⟩
instance (priority:=high) {α:Type u} {l:List α} {x a b c d:α} {i:Nat} [h:NthR l i x]:NthR (a :: b :: c :: d :: l) (i+4) x:=⟨h.is⟩
class PickR {α:Type u} (l:List α) (i:List Nat) (o:outParam (List α)):Prop where
  is:i.mapM (fun j=>l[j]?)=some o
instance {α:Type u} {l:List α}:PickR l [] []:=⟨rfl⟩
instance {α:Type u} {l o:List α} {i:Nat} {is:List Nat} {x:α} [h:NthR l i x] [k:PickR l is o]:PickR l (i :: is) (x :: o):=⟨by rw [List.mapM_cons,h.is,k.is]; rfl⟩
class AppR {α:Type u} (a b:List α) (o:outParam (List α)):Prop where
  is:a++b=o
instance {α:Type u} {b:List α}:AppR [] b b:=⟨rfl⟩
instance {α:Type u} {x:α} {a b o:List α} [h:AppR a b o]:AppR (x :: a) b (x :: o):=⟨by rw [List.cons_append,h.is]⟩
class LenR {α:Type u} (l:List α) (n:Nat):Prop where
  is:l.length=n
instance {α:Type u}:LenR ([]:List α) 0:=⟨rfl⟩
instance {α:Type u} {l:List α} {x:α} {n:Nat} [h:LenR l n]:LenR (x :: l) (n+1):=⟨by rw [List.length_cons,h.is]⟩
class EndR {α:Type u} (n:Nat) (l:List α) (a b:outParam (List α)):Prop where
  is:a++b=l
instance (priority:=low) {α:Type u} {x:α} {n:Nat} {l a b:List α} [h:EndR n l a b]:EndR n (x :: l) (x :: a) b:=⟨by rw [List.cons_append,h.is]⟩
instance {α:Type u} {n:Nat} {l:List α} [LenR l n]:EndR n l [] l:=⟨rfl⟩
class SetR {α:Type u} (l:List α) (k:Nat) (x:α) (o:outParam (List α)):Prop where
  is:l.set k x=o
instance {α:Type u} {l:List α} {x y:α}:SetR (y :: l) 0 x (x :: l):=⟨rfl⟩
instance {α:Type u} {l o:List α} {x y:α} {k:Nat} [h:SetR l k x o]:SetR (y :: l) (k+1) x (y :: o):=⟨by rw [List.set_cons_succ,h.is]⟩
class NfR {α:Type u} (l:List α) (o:outParam (List α)):Prop where
  is:l=o
instance {α:Type u}:NfR ([]:List α) []:=⟨rfl⟩
instance {α:Type u} {x:α} {l o:List α} [h:NfR l o]:NfR (x :: l) (x :: o):=⟨by rw [← h.is]⟩
instance {α:Type u} {l o p:List α} {k:Nat} {x:α} [h:NfR l o] [s:SetR o k x p]:NfR (l.set k x) p:=⟨by rw [h.is,s.is]⟩
instance {α:Type u} {a b a' b' o:List α} [h:NfR a a'] [h':NfR b b'] [s:AppR a' b' o]:NfR (a++b) o:=⟨by rw [h.is,h'.is,s.is]⟩
instance {α:Type u} {x:α} {l o:List α} [h:NfR l o]:NfR ((x :: l).eraseIdx 0) o:=⟨by rw [← h.is]; rfl⟩
instance {α:Type u} {x:α} {l o:List α} {k:Nat} [h:NfR (l.eraseIdx k) o]:NfR ((x :: l).eraseIdx (k+1)) (x :: o):=⟨by rw [List.eraseIdx_cons_succ,h.is]⟩
class OverR {α:Type u} (cs:List α) (off:Nat) (vs:List α) (o:outParam (List α)):Prop where
  is:cs.take off++vs++cs.drop (off+vs.length)=o
instance {α:Type u} {cs:List α}:OverR cs 0 [] cs:=⟨by simp⟩
instance {α:Type u} {c v:α} {cs vs o:List α} [h:OverR cs 0 vs o]:OverR (c :: cs) 0 (v :: vs) (v :: o):=⟨by
  have:=h.is
  simp only [List.take_zero,List.nil_append,Nat.zero_add] at this ⊢
  simp [this]⟩
instance {α:Type u} {c:α} {cs vs o:List α} {n:Nat} [h:OverR cs n vs o]:OverR (c :: cs) (n+1) vs (c :: o):=⟨by
  have:=h.is
  rw [List.take_succ_cons,show n+1+vs.length=n+vs.length+1 by omega,List.drop_succ_cons,List.cons_append,List.cons_append,this]⟩
section
variable {w0 w w':World} {L L' L1 R A T:List Chunk}
theorem St.os {α:Type} [Flat α] {e:TypeId} {v:Value} {l:List α} (h:St w0 w L R) (k:Nat) [n:NthR L k (cOwn e v l)]:Sl (rowC v (l.flatMap Flat.enc)) v l:=ownSl (h.get n.is)
theorem St.ol {α:Type} [Flat α] {e:TypeId} {v:Value} {l:List α} (h:St w0 w L R) (k:Nat) [n:NthR L k (cOwn e v l)]:(rowC v (l.flatMap Flat.enc)).Le w.cell?:=ownLe w (h.get n.is)
theorem rdo {α:Type} [Flat α] {e:TypeId} {v:Value} {l:List α} (k:Nat) [n:NthR L k (cOwn e v l)]:Reads (L++R) (rowC v (l.flatMap Flat.enc)):=Reads.of n.is ownLe
theorem St.bl {b:Nat} {cs:List Value} {t:TypeId} (h:St w0 w L R) (k:Nat) [n:NthR L k (cBlk b cs t)]:w.heap[b]?=some (.cells cs.toArray t (0,0)):=h.blk n.is
theorem St.nf (h:St w0 w L R) [n:NfR L L']:St w0 w L' R:=by
  have:=n.is
  subst this
  exact h
theorem St.pk (h:St w0 w L R) (i:List Nat) [n:NfR L L1] [p:PickR L1 i L'] (hn:i.Nodup:=by decide):St w0 w L' R:=h.nf.pick i hn p.is
theorem St.bk (h:St w0 w L R) (h':St w w' A (T++R)) [a:NfR (A++T) L']:St w0 w' L' R:=h.back h' a.is
theorem St.gt (h:St w0 w L R) (k:Nat) [n:NfR L L1] [s:EndR k L1 A T]:St w w A (T++R):=h.nf.give s.is
end
section
variable {P:Program} {all rest:List Oper} {Q:Post} {σ:Env} {w0 w:World} {L L' R:List Chunk} {ty:TypeId} {pos:String} {af:Array Edge}
theorem zR {d:Nat} {op:BinOp} {t yt:TypeId} {x y:Operand} (a b r:Int) (hx:ev σ x = .int .i64 a) (hy:ev σ y = .int .i64 b) (hr:ariV op a b=some r) (h:-9223372036854775808<=r/\r<=9223372036854775807) (k:SL P all Q rest (upd σ d (.int .i64 r)) w):SL P all Q (⟨some d,.binOp op t x y yt,ty,pos,af,none⟩ :: rest) σ w:=s_val (x_ari hx hy hr h) k
theorem t_sw {dst:Option Nat} {t:TypeId} {x y:Operand} {b n:Nat} {cs cs':List Value} {et:TypeId} (k off:Nat) (vs:List Value) (v:Value) (H:St w0 w L R) [hk:NthR L k (cBlk b cs et)] [hc:OverR cs off vs cs'] [hL:SetR L k (cBlk b cs' et) L'] (hx:ev σ x = .pointer (some ⟨b,off,none⟩)) (hy:ev σ y=v)
    (hs:(P.info? t).map (·.size)=some n) (hv:v.cells=vs.toArray) (hn:vs.length=n) (hl:Nat.ble (off+n) cs.length=true) (h1:vs.all (·.oneCell')=true)
    (kk:∀ w',St w0 w' L' R->SL P all Q rest (updo σ dst undef) w'):SL P all Q (⟨dst,.store t x y,ty,pos,af,none⟩ :: rest) σ w :=
  t_st H hk.is hx hy hs hv hn hl h1 (by rw [← hn]; exact hc.is) hL.is kk
end
/-- What a test says, as a proposition. -/
class DcB (b c:Bool) (p:outParam Prop):Prop where
  to:b=c->p
instance (priority:=low) {b c:Bool}:DcB b c (b=c):=⟨fun h=>h⟩
instance {p:Prop} [Decidable p]:DcB (decide p) true p:=⟨of_decide_eq_true⟩
instance {p:Prop} [Decidable p]:DcB (decide p) false (¬p):=⟨of_decide_eq_false⟩
instance {α:Type _} [BEq α] [LawfulBEq α] {a b:α}:DcB (a==b) true (a=b):=⟨beq_iff_eq.1⟩
instance {α:Type _} [BEq α] [LawfulBEq α] {a b:α}:DcB (a==b) false (a ≠ b):=⟨beq_eq_false_iff_ne.1⟩
instance {α:Type _} [BEq α] [LawfulBEq α] {a b:α}:DcB (a != b) true (a ≠ b):=⟨bne_iff_ne.1⟩
instance {α:Type _} [BEq α] [LawfulBEq α] {a b:α}:DcB (a != b) false (a=b):=⟨bne_eq_false_iff_eq.1⟩
theorem dI {b c:Bool} {p:Prop} [h:DcB b c p] (x:b=c):p:=h.to x
section
variable {P:Program} {all rest:List Oper} {Q:Post} {σ:Env} {w0 w:World} {L L' R:List Chunk} {ty:TypeId} {pos:String} {af:Array Edge}
theorem t_bx {d:Nat} {e:TypeId} {x:Operand} (cs:List Value) (H:St w0 w L R) (hx:ev σ x = .agg cs.toArray)
    (k:∀ b w',St w0 w' (cBlk b cs e :: L) R->SL P all Q rest (upd σ d (.pointer (some ⟨b,0,none⟩))) w'):SL P all Q (⟨some d,.box e x,ty,pos,af,none⟩ :: rest) σ w:=t_box H hx rfl k
theorem t_b1 {d:Nat} {e:TypeId} {x:Operand} (v:Value) (H:St w0 w L R) (hx:ev σ x=v) (hv:v.cells=[v].toArray)
    (k:∀ b w',St w0 w' (cBlk b [v] e :: L) R->SL P all Q rest (upd σ d (.pointer (some ⟨b,0,none⟩))) w'):SL P all Q (⟨some d,.box e x,ty,pos,af,none⟩ :: rest) σ w:=t_box H hx hv k
end
end Go.Nm
namespace Go.Nm
open Go
universe u
/-- What a test says, as a proposition. -/
class DcQ (b c:Bool) (p:outParam Prop):Prop where
  to:b=c->p
instance (priority:=low) {b c:Bool}:DcQ b c (b=c):=⟨fun h=>h⟩
instance {p:Prop} [Decidable p]:DcQ (decide p) true p:=⟨of_decide_eq_true⟩
instance {p:Prop} [Decidable p]:DcQ (decide p) false (¬p):=⟨of_decide_eq_false⟩
instance {α:Type _} [BEq α] [LawfulBEq α] {a b:α}:DcQ (a==b) true (a=b):=⟨beq_iff_eq.1⟩
instance {α:Type _} [BEq α] [LawfulBEq α] {a b:α}:DcQ (a==b) false (a ≠ b):=⟨beq_eq_false_iff_ne.1⟩
instance {α:Type _} [BEq α] [LawfulBEq α] {a b:α}:DcQ (a != b) true (a ≠ b):=⟨bne_iff_ne.1⟩
instance {α:Type _} [BEq α] [LawfulBEq α] {a b:α}:DcQ (a != b) false (a=b):=⟨bne_eq_false_iff_eq.1⟩
/-- What a guard says, as a proposition. -/
class DeQ (b:Bool) (p:outParam Prop):Prop where
  iff:b=true↔p
instance (priority:=low) {b:Bool}:DeQ b (b=true):=⟨Iff.rfl⟩
instance {p:Prop} [Decidable p]:DeQ (decide p) p:=⟨decide_eq_true_iff⟩
instance {a b:Bool} {p q:Prop} [ha:DeQ a p] [hb:DeQ b q]:DeQ (a&&b) (p/\q):=⟨by rw [Bool.and_eq_true,ha.iff,hb.iff]⟩
/-! ### Facts on types, found by their numbers -/
class FdC (P:Program) (s k:Nat) (off ft:outParam Nat):Prop where
  h:(P.underlying s).bind (fun d=>match d with | .struct fs=>(fs[k]?).map (fun f=>(f.offset,f.type)) | _=>none)=some (off,ft)
class ScC (P:Program) (t:Nat):Prop where
  h:isSc (P.underlying t)=true
class AgC (P:Program) (t:Nat):Prop where
  h:isAg (P.underlying t)=true
class SzC (P:Program) (t:Nat) (n:outParam Nat):Prop where
  h:(P.info? t).map (·.size)=some n
class TlC (P:Program) (t:Nat) (e sz by':outParam Nat) (z:outParam Value):Prop where
  h:SlT P t e sz by' z
class AlC (P:Program) (t:Nat) (z:outParam Value):Prop where
  h:(P.info? t).map (·.zero)=some (some z)
class BdC (P:Program) (t:Nat) (pl:outParam (List (Nat × Nat))):Prop where
  h:∃ fs:Array Field,P.underlying t=some (.struct fs)/\fs.toList.mapM (fun f=>(P.info? f.type).map fun i=>(f.offset,i.size))=some pl
class CfC (P:Program) (f:FuncId):Prop where
  h:CF P f
class AddC (a b:Nat) (c:outParam Nat):Prop where
  h:a+b=c
instance (priority:=low) {a b:Nat}:AddC a b (a+b):=⟨rfl⟩
instance {a:Nat}:AddC a 0 a:=⟨rfl⟩
instance {b:Nat}:AddC 0 b b:=⟨Nat.zero_add b⟩
/-- An index as a number. -/
class IxC (i:Int) (n:outParam Nat):Prop where
  h:i.toNat=n
instance (priority:=low) {i:Int}:IxC i i.toNat:=⟨rfl⟩
instance {n:Nat}:IxC (n:Int) n:=⟨rfl⟩
instance:IxC 0 0:=⟨rfl⟩
instance:IxC 1 1:=⟨rfl⟩
instance:IxC 2 2:=⟨rfl⟩
instance:IxC 3 3:=⟨rfl⟩
instance:IxC 4 4:=⟨rfl⟩
instance:IxC 5 5:=⟨rfl⟩
instance:IxC 6 6:=⟨rfl⟩
instance:IxC 7 7:=⟨rfl⟩
instance:IxC 8 8:=⟨rfl⟩
instance:IxC 9 9:=⟨rfl⟩
/-- What is read beyond a list's end. -/
class DfC (α:Type) (d:outParam α):Prop where
  h:True
instance (priority:=low) {α:Type} [Inhabited α]:DfC α default:=⟨trivial⟩
instance:DfC Int 0:=⟨trivial⟩
instance:DfC Bool false:=⟨trivial⟩
/-- The cells of a thing, written out. -/
class EncL {α:Type} [Flat α] (x:α) (ds:outParam (List Value)):Prop where
  h:Flat.enc x=ds
/-- Some of a list's entries. -/
class SubR {α:Type u} (l:List α) (k n:Nat) (o:outParam (List α)):Prop where
  h:(l.drop k).take n=o
instance {α:Type u} {l:List α}:SubR l 0 0 []:=⟨rfl⟩
instance {α:Type u} {l o:List α} {x:α} {n:Nat} [h:SubR l 0 n o]:SubR (x :: l) 0 (n+1) (x :: o):=⟨by have:=h.h; simp at this; simp [this]⟩
instance {α:Type u} {l o:List α} {x:α} {k n:Nat} [h:SubR l k n o]:SubR (x :: l) (k+1) n o:=⟨by rw [List.drop_succ_cons]; exact h.h⟩
/-- A block among the parts. -/
class BlkR (L:List Chunk) (b:Nat) (cs:outParam (List Value)) (t:outParam TypeId):Prop where
  h:∃ k:Nat,L[k]?=some (cBlk b cs t)
instance {c:Chunk} {L:List Chunk} {b:Nat} {cs:List Value} {t:TypeId} [h:BlkR L b cs t]:BlkR (c :: L) b cs t:=⟨by obtain ⟨k,h⟩:=h.h; exact ⟨k+1,by simpa using h⟩⟩
instance {L:List Chunk} {b:Nat} {cs:List Value} {t:TypeId}:BlkR (cBlk b cs t :: L) b cs t:=⟨⟨0,rfl⟩⟩
/-- A block among the parts that is changed. -/
class BlkW (L:List Chunk) (b:Nat) (cs:List Value) (cs':List Value) (t:TypeId) (o:outParam (List Chunk)):Prop where
  h:∃ k:Nat,L[k]?=some (cBlk b cs t)/\L.set k (cBlk b cs' t)=o
instance {c:Chunk} {L o:List Chunk} {b:Nat} {cs cs':List Value} {t:TypeId} [h:BlkW L b cs cs' t o]:BlkW (c :: L) b cs cs' t (c :: o):=⟨by obtain ⟨k,h1,h2⟩:=h.h; exact ⟨k+1,by simpa using h1,by rw [List.set_cons_succ,h2]⟩⟩
instance {L:List Chunk} {b:Nat} {cs cs':List Value} {t:TypeId}:BlkW (cBlk b cs t :: L) b cs cs' t (cBlk b cs' t :: L):=⟨⟨0,rfl,rfl⟩⟩
/-- A field of an element. -/
class FldC (α:Type) [Elt α] (k:Nat) (e:outParam α) (f:outParam (α->Value)):Prop where
  h:∀ {C:Cells} {v:Value} {l:List α} {n:Nat},Sl C v l->n<l.length->At C (fat (vat v (Elt.sz α) n) k) [f (l.getD n e)]
section
variable {w0 w:World} {L R:List Chunk}
theorem St.bq {b:Nat} {cs:List Value} {t:TypeId} (H:St w0 w L R) [h:BlkR L b cs t]:w.heap[b]?=some (.cells cs.toArray t (0,0)):=by
  obtain ⟨k,hk⟩:=h.h
  exact H.get hk
end
section
variable {P:Program} {w:World} {σ:Env} {d:Nat} {ty:TypeId} {pos:String} {af:Array Edge} {g:Option (Nat × Bool)}
theorem pos_succ {m:Nat} (h:Nat.blt 0 m=true):∃ n,m=n+1:=by
  cases m with
  | zero=>cases h
  | succ n=>exact ⟨n,rfl⟩
theorem y_fab {s k off ft m b o c:Nat} {x:Operand} (hx:ev σ x = .pointer (some ⟨b,o,none⟩)) [f:FdC P s k off ft] [z:SzC P ft m] (a:AddC o off c) (hm:Nat.blt 0 m=true) :
    (execOp (ev σ) ⟨some d,.fieldAddr s x k,ty,pos,af,g⟩).run P w = .ok (.value (.pointer (some ⟨b,c,none⟩))) w:=by
  obtain ⟨n,rfl⟩:=pos_succ hm
  have:=fa_blk (w:=w) (b:=b) (o:=o) f.h z.h
  rw [a.h] at this
  exact x_fa hx this
theorem y_fap {s k off ft m:Nat} {x:Operand} {p:Value} (hx:ev σ x=p) [f:FdC P s k off ft] [z:SzC P ft m] (hm:Nat.blt 0 m=true) (hp:∃ b o,p = .pointer (some ⟨b,o,none⟩)) :
    (execOp (ev σ) ⟨some d,.fieldAddr s x k,ty,pos,af,g⟩).run P w = .ok (.value (fat p off)) w:=by
  obtain ⟨n,rfl⟩:=pos_succ hm
  exact x_fa hx (fa_pl f.h z.h hp)
theorem y_fav {α:Type} {_:Elt α} {s k off ft m sz n:Nat} {x:Operand} {C:Cells} {v:Value} {l:List α} (hx:ev σ x=vat v sz n) [f:FdC P s k off ft] [z:SzC P ft m] (hm:Nat.blt 0 m=true) (hs:Sl C v l) (hz:Elt.sz α=sz) (h1:n<l.length) :
    (execOp (ev σ) ⟨some d,.fieldAddr s x k,ty,pos,af,g⟩).run P w = .ok (.value (fat (vat v sz n) off)) w:=by
  subst hz
  have:=Sl.pl hs (i:=(n:Int)) (by omega) (by omega)
  exact y_fap hx hm (by simpa using this)
theorem y_faw {α:Type} {_:Elt α} {s k off ft m sz n a c:Nat} {x:Operand} {C:Cells} {v:Value} {l:List α} (hx:ev σ x=fat (vat v sz n) a) [f:FdC P s k off ft] [z:SzC P ft m] (ad:AddC a off c) (hm:Nat.blt 0 m=true) (hs:Sl C v l) (hz:Elt.sz α=sz) (h1:n<l.length) :
    (execOp (ev σ) ⟨some d,.fieldAddr s x k,ty,pos,af,g⟩).run P w = .ok (.value (fat (vat v sz n) c)) w:=by
  subst hz
  obtain ⟨b,o,hp⟩:=Sl.pl hs (i:=(n:Int)) (by omega) (by omega)
  have e:vat v (Elt.sz α) n = .pointer (some ⟨b,o,none⟩):=by simpa using hp
  have:=y_fap (P:=P) (w:=w) (d:=d) (ty:=ty) (pos:=pos) (af:=af) (g:=g) hx (f:=f) (z:=z) hm ⟨b,o+a,by rw [e]; simp [fat,add_lit]⟩
  rw [this,e,← ad.h]
  simp [fat,add_lit,Nat.add_assoc]
theorem y_ldb {t:TypeId} {b off:Nat} {cs:List Value} {et:TypeId} {fr:Nat × Nat} {x:Operand} {v:Value} (hx:ev σ x = .pointer (some ⟨b,off,none⟩)) [s:ScC P t] (h:w.heap[b]?=some (.cells cs.toArray et fr)) (hv:(cs.drop off).take 1=[v]) :
    (execOp (ev σ) ⟨some d,.load t x,ty,pos,af,g⟩).run P w = .ok (.value v) w:=x_ld hx (ldb_sc s.h h hv)
theorem y_lda {t:TypeId} {b off n:Nat} {cs ds:List Value} {et:TypeId} {fr:Nat × Nat} {x:Operand} (hx:ev σ x = .pointer (some ⟨b,off,none⟩)) [s:AgC P t] [z:SzC P t n] (h:w.heap[b]?=some (.cells cs.toArray et fr)) (q:SubR cs off n ds) (hn:ds.length=n) :
    (execOp (ev σ) ⟨some d,.load t x,ty,pos,af,g⟩).run P w = .ok (.value (.agg ds.toArray)) w:=x_ld hx (ldb_ag s.h z.h h q.h hn)
theorem At.flat {α:Type} [Flat α] {C:Cells} {v:Value} {l:List α} (hs:Sl C v l) {n:Nat} (h1:n<l.length) (e:α):At C (vat v (Elt.sz α) n) (Flat.enc (l.getD n e)):=by
  obtain ⟨cs,ha,hr⟩:=hs.atI (i:=(n:Int)) (by omega) (by omega) e
  rw [Flat.rep_iff] at hr
  subst hr
  simpa using ha
theorem y_lds {α:Type} {_:Flat α} {t sz n:Nat} {x:Operand} {C:Cells} {v u:Value} {l:List α} {e:α} (hx:ev σ x=vat v sz n) [s:ScC P t] (hs:Sl C v l) {ds:List Value} (de:DfC α e) (en:EncL (l.getD n e) ds) (hz:Elt.sz α=sz) (hu:ds=[u]) (hle:C.Le w.cell?) (h1:n<l.length) :
    (execOp (ev σ) ⟨some d,.load t x,ty,pos,af,g⟩).run P w = .ok (.value u) w:=by
  subst hz
  have:=(At.flat hs h1 e).mono hle
  rw [en.h,hu] at this
  exact x_ld hx (ld_sc s.h this)
theorem y_ldf {α:Type} {_:Flat α} {t sz n k:Nat} {x:Operand} {C:Cells} {v u:Value} {l:List α} {e:α} (hx:ev σ x=fat (vat v sz n) k) [s:ScC P t] (hs:Sl C v l) {ds:List Value} (de:DfC α e) (en:EncL (l.getD n e) ds) (hz:Elt.sz α=sz) (hu:(ds.drop k).take 1=[u]) (hle:C.Le w.cell?) (h1:n<l.length) :
    (execOp (ev σ) ⟨some d,.load t x,ty,pos,af,g⟩).run P w = .ok (.value u) w:=by
  subst hz
  have:=((At.flat hs h1 e).mono hle).fld k 1
  rw [en.h,hu] at this
  exact x_ld hx (ld_sc s.h this)
theorem y_ldA {α:Type} {_:Flat α} {t sz n:Nat} {x:Operand} {C:Cells} {v:Value} {l:List α} {e:α} (hx:ev σ x=vat v sz n) [s:AgC P t] [z:SzC P t sz] (hs:Sl C v l) {ds:List Value} (de:DfC α e) (en:EncL (l.getD n e) ds) (hz:Elt.sz α=sz) (hle:C.Le w.cell?) (h1:n<l.length) :
    (execOp (ev σ) ⟨some d,.load t x,ty,pos,af,g⟩).run P w = .ok (.value (.agg ds.toArray)) w:=by
  subst hz
  have:=(At.flat hs h1 e).mono hle
  rw [en.h] at this
  refine x_ld hx (ld_ag s.h ?_ this)
  rw [z.h,← en.h,Flat.enc_len]
theorem y_ldg {α:Type} {_:Elt α} {t sz n k:Nat} {x:Operand} {C:Cells} {v:Value} {l:List α} {e:α} {f:α->Value} (hx:ev σ x=fat (vat v sz n) k) [s:ScC P t] (hs:Sl C v l) (fc:FldC α k e f) (hz:Elt.sz α=sz) (hle:C.Le w.cell?) (h1:n<l.length) :
    (execOp (ev σ) ⟨some d,.load t x,ty,pos,af,g⟩).run P w = .ok (.value (f (l.getD n e))) w:=by
  subst hz
  exact x_ld hx (ld_sc s.h ((fc.h hs h1).mono hle))
theorem y_ldp {t:TypeId} {x:Operand} {p v:Value} (hx:ev σ x=p) [s:ScC P t] (ha:At w.cell? p [v]) :
    (execOp (ev σ) ⟨some d,.load t x,ty,pos,af,g⟩).run P w = .ok (.value v) w:=x_ld hx (ld_sc s.h ha)
theorem y_len {α:Type} {_:Elt α} {t e sz by':Nat} {z:Value} {x:Operand} {C:Cells} {v:Value} {l:List α} [T:TlC P t e sz by' z] (h:ev σ x=v) (hs:Sl C v l) :
    (execOp (ev σ) ⟨some d,.call ⟨.builtin .len,#[x],#[t]⟩,ty,pos,af,g⟩).run P w = .ok (.value (.int .i64 l.length)) w:=x_lenS T.h.und h hs
theorem y_ix {α:Type} {_:Elt α} {t e sz by' n:Nat} {z:Value} {x y:Operand} {C:Cells} {v:Value} {l:List α} {kd:IntKind} {i:Int} [T:TlC P t e sz by' z] (hx:ev σ x=v) (hy:ev σ y = .int kd i) (ix:IxC i n) (hs:Sl C v l) (hz:Elt.sz α=sz) (h0:0<=i) (h1:i<l.length) :
    (execOp (ev σ) ⟨some d,.indexAddr t x y,ty,pos,af,g⟩).run P w = .ok (.value (vat v sz n)) w:=by
  subst hz
  have:=Sl.ix (w:=w) (kd:=kd) T.h.und T.h.size hs h0 h1
  rw [ix.h] at this
  exact x_ix hx hy this
end
section
variable {P:Program} {all rest:List Oper} {Q:Post} {σ:Env} {w0 w:World} {L L' R:List Chunk} {ty:TypeId} {pos:String} {af:Array Edge}
end
instance {x:Int}:EncL x [I x]:=⟨rfl⟩
instance {x:Bool}:EncL x [B x]:=⟨rfl⟩
/-- A slice that reads as a list. -/
theorem jS {A:Prop} (h:A:=by first | assumption | exact H.os 0 | exact H.os 1 | exact H.os 2 | exact H.os 3 | exact H.os 4 | exact H.os 5 | exact H.os 6 | exact H.os 7 | exact H.os 8 | exact H.os 9 | exact (by assumption:_=true->Sl _ _ _) hg):A:=h
/-- Cells that can be read. -/
theorem jL {A:Prop} (h:A:=by first | exact Reads.at (by assumption) H | exact H.ol 0 | exact H.ol 1 | exact H.ol 2 | exact H.ol 3 | exact H.ol 4 | exact H.ol 5 | exact H.ol 6 | exact H.ol 7 | exact H.ol 8 | exact H.ol 9):A:=h
/-- A bound. -/
theorem jO {A:Prop} (h:A:=by first | omega | (have hx_:=hg; simp at hx_; omega) | (have hx_:=hg; simp at hx_; simp only [hg,Bool.true_eq_false,Bool.false_eq_true,reduceCtorEq,false_or,true_or,Bool.not_true,Bool.not_false] at *; omega) | (simp only [hg,Bool.true_eq_false,Bool.false_eq_true,reduceCtorEq,false_or,true_or,Bool.not_true,Bool.not_false] at *; omega)):A:=h
/-- A guard. -/
theorem jB {A:Prop} (h:A:=by first | exact hb | (rw [hb]; rfl) | simp_all):A:=h
/-- A value under a guard, or none. -/
theorem jG {A:Prop} (h:A:=by first | exact gd_of hg _ | ((conv=>lhs; whnf) <;> rfl)):A:=h
/-- A value. -/
theorem jE {A:Prop} (h:A:=by ((conv=>lhs; whnf) <;> rfl)):A:=h
/-- One operation. -/
theorem jU {A:Prop} (h:A:=by 
    first
      | (apply x_mv; exact jE)
      | (apply x_as; exact jE)
      | (apply y_fab; rfl; exact inferInstance; rfl)
      | (apply y_ldb; rfl; exact H.bq; rfl)
      | (apply x_cmp; rfl; rfl; rfl)
      | (apply y_len; exact jE; exact jS)
      | (apply y_ix; exact jE; rfl; exact inferInstance; exact jS; rfl; exact jO; exact jO)
      | (apply y_fav; rfl; rfl; exact jS; rfl; exact jO)
      | (apply y_faw; rfl; exact inferInstance; rfl; exact jS; rfl; exact jO)
      | (apply y_lds; rfl; exact jS; exact inferInstance; exact inferInstance; rfl; rfl; exact jL; exact jO)
      | (apply y_ldf; rfl; exact jS; exact inferInstance; exact inferInstance; rfl; rfl; exact jL; exact jO)
      | (apply y_ldg; rfl; exact jS; exact inferInstance; rfl; exact jL; exact jO)
      | (apply y_ldA; rfl; exact jS; exact inferInstance; exact inferInstance; rfl; exact jL; exact jO)
      | (apply y_ldp; rfl; exact At.mono (by assumption) jL)
      | (apply x_ari; rfl; rfl; rfl; exact jO)
      | (apply x_ext; rfl; rfl)
      | (apply x_nc; rfl)
      | (apply y_lda; rfl; exact H.bq; exact inferInstance; rfl)
      | (apply y_ldb; rfl; exact (by assumption:Has _ (cBlk _ _ _)).blk H; rfl)
      | (apply x_not; rfl)
      | (apply x_max; rfl; rfl)
      | (apply x_min; rfl; rfl)
      | (apply x_quo; rfl; rfl; exact jO)
      | (apply x_por; rfl; rfl; exact fun hb=>gd_of jB _)
      | (apply x_pand; rfl; exact fun hb=>gd_of jB _; rfl)):A:=h
/-- One operation under a guard. -/
theorem jV {A:Prop} (h:A:=by 
    first
      | (apply x_mv; exact jG)
      | (apply x_as; exact jG)
      | (apply y_fab; exact jG; exact inferInstance; rfl)
      | (apply y_ldb; exact jG; exact H.bq; rfl)
      | (apply x_cmp; exact jG; exact jG; rfl)
      | (apply y_len; exact jG; exact jS)
      | (apply y_ix; exact jG; exact jG; exact inferInstance; exact jS; rfl; exact jO; exact jO)
      | (apply y_fav; exact jG; rfl; exact jS; rfl; exact jO)
      | (apply y_faw; exact jG; exact inferInstance; rfl; exact jS; rfl; exact jO)
      | (apply y_lds; exact jG; exact jS; exact inferInstance; exact inferInstance; rfl; rfl; exact jL; exact jO)
      | (apply y_ldf; exact jG; exact jS; exact inferInstance; exact inferInstance; rfl; rfl; exact jL; exact jO)
      | (apply y_ldg; exact jG; exact jS; exact inferInstance; rfl; exact jL; exact jO)
      | (apply y_ldA; exact jG; exact jS; exact inferInstance; exact inferInstance; rfl; exact jL; exact jO)
      | (apply y_ldp; exact jG; exact At.mono (by assumption) jL)
      | (apply x_ari; exact jG; exact jG; rfl; exact jO)
      | (apply x_ext; exact jG; rfl)
      | (apply x_nc; exact jG)
      | (apply y_lda; exact jG; exact H.bq; exact inferInstance; rfl)
      | (apply y_ldb; exact jG; exact (by assumption:Has _ (cBlk _ _ _)).blk H; rfl)
      | (apply x_not; exact jG)
      | (apply x_max; exact jG; exact jG)
      | (apply x_min; exact jG; exact jG)
      | (apply x_quo; exact jG; exact jG; exact jO)
      | (apply x_por; exact jG; exact jG; exact fun hb=>gd_of jB _)
      | (apply x_pand; exact jG; exact fun hb=>gd_of jB _; exact jG)):A:=h
/-- What is left. -/
structure Left (B:Prop):Prop where
  h:B
/-- How many steps are left. -/
structure Cnt (n:Nat):Prop where
  h:n=n
theorem Cnt.dn {n:Nat} (c:Cnt (n+1)):Cnt n:=⟨rfl⟩
/-- So many plain steps. -/
theorem kg {A B:Prop} (n:Nat) (q:B) (f:Cnt n->Left B->A:=by
    intro cnt q
    (repeat (replace cnt:=Cnt.dn cnt; first
      | (apply s_val; exact jU)
      | refine s_nil ?_
      | refine W.seq ?_
      | refine W.region rfl ?_
      | refine W.skip ?_
      | refine W.block ?_
      | (apply d_q; rfl; (intro w' H; exact jU))
      | (apply t_q; rfl; (intro w' H; exact jU))
      | (apply g_val; (first | exact gy_t rfl | exact gy_f rfl | exact gy_gt rfl rfl | exact gy_gf rfl rfl); (intro hg; exact jV))
      | (apply d_qg; rfl; (first | exact gy_t rfl | exact gy_f rfl | exact gy_gt rfl rfl | exact gy_gf rfl rfl); (intro hg w' H; exact jV))
      | (apply t_qg; rfl; (first | exact gy_t rfl | exact gy_f rfl | exact gy_gt rfl rfl | exact gy_gf rfl rfl); (intro hg w' H; exact jV))
      | refine t_nil ?_
      | refine d_nil ?_))
    exact q.h):A:=f ⟨rfl⟩ ⟨q⟩
end Go.Nm
namespace Go.Nm
open Go
section
variable {P:Program} {w:World} {σ:Env} {d:Nat} {ty:TypeId} {pos:String} {af:Array Edge} {g:Option (Nat × Bool)}
theorem x_pand0 {c x y:Operand} {b:Bool} (hc:ev σ c = .bool b) (hx:b=true->ev σ x = .bool false) (hy:ev σ y = .bool false) :
    (execOp (ev σ) ⟨some d,.pick c x y,ty,pos,af,g⟩).run P w = .ok (.value (.bool false)) w:=by
  have:=x_pand (P:=P) (w:=w) (d:=d) (ty:=ty) (pos:=pos) (af:=af) (g:=g) hc hx hy
  rwa [Bool.and_false] at this
end
end Go.Nm
namespace Go.Nm
open Go
instance {x:Span}:EncL x [I x.lo,I x.hi]:=⟨rfl⟩
instance {x:Dem}:EncL x [I x.spring,I x.town]:=⟨rfl⟩
instance {x:Town}:EncL x [I x.station,I x.lead,I x.alarm]:=⟨rfl⟩
instance:FldC Flood 0 default (fun x=>I x.spring):=⟨fun hs h1=>by have:=Flood_at0 hs (i:=(_:Nat)) (Int.natCast_nonneg _) (Int.ofNat_lt.2 h1); exact this⟩
instance {x:Rpt}:EncL x [I x.watch,I x.stage,B x.danger]:=⟨rfl⟩
instance {x:CMk}:EncL x [I x.place,I x.height]:=⟨rfl⟩
instance {x:CNt}:EncL x [I x.mark,I x.tlo,I x.thi,I x.slo,I x.shi]:=⟨rfl⟩
end Go.Nm
namespace Go.Proofs.YtdmdhmineljlhabGreat
open Go Go.Nm
theorem keyIntCN:KeyL (ν:=CNt) Tryz.prog 3 I:=KeyL.int Tryz.underlying3
theorem cf4:CF Tryz.prog 4:=⟨_,Tryz.func4,rfl,by decide +kernel⟩
theorem cf5:CF Tryz.prog 5:=⟨_,Tryz.func5,rfl,by decide +kernel⟩
theorem cf6:CF Tryz.prog 6:=⟨_,Tryz.func6,rfl,by decide +kernel⟩
theorem cf7:CF Tryz.prog 7:=⟨_,Tryz.func7,rfl,by decide +kernel⟩
theorem cf8:CF Tryz.prog 8:=⟨_,Tryz.func8,rfl,by decide +kernel⟩
theorem cf9:CF Tryz.prog 9:=⟨_,Tryz.func9,rfl,by decide +kernel⟩
theorem cf10:CF Tryz.prog 10:=⟨_,Tryz.func10,rfl,by decide +kernel⟩
theorem cf11:CF Tryz.prog 11:=⟨_,Tryz.func11,rfl,by decide +kernel⟩
theorem cf12:CF Tryz.prog 12:=⟨_,Tryz.func12,rfl,by decide +kernel⟩
theorem cf13:CF Tryz.prog 13:=⟨_,Tryz.func13,rfl,by decide +kernel⟩
theorem cf14:CF Tryz.prog 14:=⟨_,Tryz.func14,rfl,by decide +kernel⟩
theorem cf15:CF Tryz.prog 15:=⟨_,Tryz.func15,rfl,by decide +kernel⟩
theorem cf16:CF Tryz.prog 16:=⟨_,Tryz.func16,rfl,by decide +kernel⟩
theorem cf17:CF Tryz.prog 17:=⟨_,Tryz.func17,rfl,by decide +kernel⟩
theorem cf18:CF Tryz.prog 18:=⟨_,Tryz.func18,rfl,by decide +kernel⟩
theorem cf19:CF Tryz.prog 19:=⟨_,Tryz.func19,rfl,by decide +kernel⟩
theorem cf20:CF Tryz.prog 20:=⟨_,Tryz.func20,rfl,by decide +kernel⟩
theorem cf21:CF Tryz.prog 21:=⟨_,Tryz.func21,rfl,by decide +kernel⟩
theorem cf22:CF Tryz.prog 22:=⟨_,Tryz.func22,rfl,by decide +kernel⟩
theorem cf23:CF Tryz.prog 23:=⟨_,Tryz.func23,rfl,by decide +kernel⟩
theorem cf24:CF Tryz.prog 24:=⟨_,Tryz.func24,rfl,by decide +kernel⟩
theorem cf25:CF Tryz.prog 25:=⟨_,Tryz.func25,rfl,by decide +kernel⟩
theorem cf26:CF Tryz.prog 26:=⟨_,Tryz.func26,rfl,by decide +kernel⟩
theorem cf27:CF Tryz.prog 27:=⟨_,Tryz.func27,rfl,by decide +kernel⟩
theorem cf28:CF Tryz.prog 28:=⟨_,Tryz.func28,rfl,by decide +kernel⟩
theorem cf29:CF Tryz.prog 29:=⟨_,Tryz.func29,rfl,by decide +kernel⟩
theorem cf30:CF Tryz.prog 30:=⟨_,Tryz.func30,rfl,by decide +kernel⟩
theorem cf31:CF Tryz.prog 31:=⟨_,Tryz.func31,rfl,by decide +kernel⟩
theorem cf32:CF Tryz.prog 32:=⟨_,Tryz.func32,rfl,by decide +kernel⟩
theorem cf33:CF Tryz.prog 33:=⟨_,Tryz.func33,rfl,by decide +kernel⟩
theorem cf34:CF Tryz.prog 34:=⟨_,Tryz.func34,rfl,by decide +kernel⟩
theorem cf35:CF Tryz.prog 35:=⟨_,Tryz.func35,rfl,by decide +kernel⟩
theorem cf36:CF Tryz.prog 36:=⟨_,Tryz.func36,rfl,by decide +kernel⟩
theorem cf37:CF Tryz.prog 37:=⟨_,Tryz.func37,rfl,by decide +kernel⟩
theorem cf38:CF Tryz.prog 38:=⟨_,Tryz.func38,rfl,by decide +kernel⟩
theorem cf39:CF Tryz.prog 39:=⟨_,Tryz.func39,rfl,by decide +kernel⟩
theorem cf40:CF Tryz.prog 40:=⟨_,Tryz.func40,rfl,by decide +kernel⟩
theorem cf41:CF Tryz.prog 41:=⟨_,Tryz.func41,rfl,by decide +kernel⟩
theorem cf42:CF Tryz.prog 42:=⟨_,Tryz.func42,rfl,by decide +kernel⟩
theorem cf43:CF Tryz.prog 43:=⟨_,Tryz.func43,rfl,by decide +kernel⟩
theorem cf44:CF Tryz.prog 44:=⟨_,Tryz.func44,rfl,by decide +kernel⟩
theorem cf45:CF Tryz.prog 45:=⟨_,Tryz.func45,rfl,by decide +kernel⟩
theorem cf46:CF Tryz.prog 46:=⟨_,Tryz.func46,rfl,by decide +kernel⟩
theorem cf47:CF Tryz.prog 47:=⟨_,Tryz.func47,rfl,by decide +kernel⟩
theorem cf48:CF Tryz.prog 48:=⟨_,Tryz.func48,rfl,by decide +kernel⟩
theorem cf49:CF Tryz.prog 49:=⟨_,Tryz.func49,rfl,by decide +kernel⟩
theorem cf50:CF Tryz.prog 50:=⟨_,Tryz.func50,rfl,by decide +kernel⟩
theorem cf51:CF Tryz.prog 51:=⟨_,Tryz.func51,rfl,by decide +kernel⟩
theorem cf52:CF Tryz.prog 52:=⟨_,Tryz.func52,rfl,by decide +kernel⟩
theorem cf53:CF Tryz.prog 53:=⟨_,Tryz.func53,rfl,by decide +kernel⟩
theorem cf54:CF Tryz.prog 54:=⟨_,Tryz.func54,rfl,by decide +kernel⟩
theorem cf55:CF Tryz.prog 55:=⟨_,Tryz.func55,rfl,by decide +kernel⟩
theorem cf56:CF Tryz.prog 56:=⟨_,Tryz.func56,rfl,by decide +kernel⟩
theorem cf57:CF Tryz.prog 57:=⟨_,Tryz.func57,rfl,by decide +kernel⟩
theorem cf58:CF Tryz.prog 58:=⟨_,Tryz.func58,rfl,by decide +kernel⟩
theorem cf59:CF Tryz.prog 59:=⟨_,Tryz.func59,rfl,by decide +kernel⟩
theorem cf60:CF Tryz.prog 60:=⟨_,Tryz.func60,rfl,by decide +kernel⟩
theorem cf61:CF Tryz.prog 61:=⟨_,Tryz.func61,rfl,by decide +kernel⟩
theorem cf62:CF Tryz.prog 62:=⟨_,Tryz.func62,rfl,by decide +kernel⟩
theorem cf63:CF Tryz.prog 63:=⟨_,Tryz.func63,rfl,by decide +kernel⟩
theorem cf64:CF Tryz.prog 64:=⟨_,Tryz.func64,rfl,by decide +kernel⟩
theorem cf65:CF Tryz.prog 65:=⟨_,Tryz.func65,rfl,by decide +kernel⟩
theorem cf66:CF Tryz.prog 66:=⟨_,Tryz.func66,rfl,by decide +kernel⟩
theorem cf67:CF Tryz.prog 67:=⟨_,Tryz.func67,rfl,by decide +kernel⟩
theorem cf68:CF Tryz.prog 68:=⟨_,Tryz.func68,rfl,by decide +kernel⟩
theorem cf69:CF Tryz.prog 69:=⟨_,Tryz.func69,rfl,by decide +kernel⟩
theorem cf70:CF Tryz.prog 70:=⟨_,Tryz.func70,rfl,by decide +kernel⟩
theorem cf71:CF Tryz.prog 71:=⟨_,Tryz.func71,rfl,by decide +kernel⟩
theorem cf72:CF Tryz.prog 72:=⟨_,Tryz.func72,rfl,by decide +kernel⟩
theorem cf73:CF Tryz.prog 73:=⟨_,Tryz.func73,rfl,by decide +kernel⟩
theorem cf74:CF Tryz.prog 74:=⟨_,Tryz.func74,rfl,by decide +kernel⟩
theorem cf75:CF Tryz.prog 75:=⟨_,Tryz.func75,rfl,by decide +kernel⟩
theorem cf76:CF Tryz.prog 76:=⟨_,Tryz.func76,rfl,by decide +kernel⟩
theorem cf77:CF Tryz.prog 77:=⟨_,Tryz.func77,rfl,by decide +kernel⟩
theorem cf78:CF Tryz.prog 78:=⟨_,Tryz.func78,rfl,by decide +kernel⟩
theorem cf79:CF Tryz.prog 79:=⟨_,Tryz.func79,rfl,by decide +kernel⟩
theorem cf82:CF Tryz.prog 82:=⟨_,Tryz.func82,rfl,by decide +kernel⟩
theorem cf83:CF Tryz.prog 83:=⟨_,Tryz.func83,rfl,by decide +kernel⟩
theorem cf84:CF Tryz.prog 84:=⟨_,Tryz.func84,rfl,by decide +kernel⟩
theorem cf85:CF Tryz.prog 85:=⟨_,Tryz.func85,rfl,by decide +kernel⟩
theorem cf86:CF Tryz.prog 86:=⟨_,Tryz.func86,rfl,by decide +kernel⟩
theorem cf87:CF Tryz.prog 87:=⟨_,Tryz.func87,rfl,by decide +kernel⟩
theorem cf88:CF Tryz.prog 88:=⟨_,Tryz.func88,rfl,by decide +kernel⟩
theorem cf89:CF Tryz.prog 89:=⟨_,Tryz.func89,rfl,by decide +kernel⟩
theorem cf90:CF Tryz.prog 90:=⟨_,Tryz.func90,rfl,by decide +kernel⟩
theorem cf92:CF Tryz.prog 92:=⟨_,Tryz.func92,rfl,by decide +kernel⟩
theorem cf93:CF Tryz.prog 93:=⟨_,Tryz.func93,rfl,by decide +kernel⟩
theorem cf94:CF Tryz.prog 94:=⟨_,Tryz.func94,rfl,by decide +kernel⟩
theorem cf95:CF Tryz.prog 95:=⟨_,Tryz.func95,rfl,by decide +kernel⟩
theorem cf107:CF Tryz.prog 107:=⟨_,Tryz.func107,rfl,by decide +kernel⟩
theorem cf108:CF Tryz.prog 108:=⟨_,Tryz.func108,rfl,by decide +kernel⟩
theorem cf109:CF Tryz.prog 109:=⟨_,Tryz.func109,rfl,by decide +kernel⟩
theorem cf110:CF Tryz.prog 110:=⟨_,Tryz.func110,rfl,by decide +kernel⟩
theorem cf111:CF Tryz.prog 111:=⟨_,Tryz.func111,rfl,by decide +kernel⟩
theorem cf112:CF Tryz.prog 112:=⟨_,Tryz.func112,rfl,by decide +kernel⟩
theorem cf113:CF Tryz.prog 113:=⟨_,Tryz.func113,rfl,by decide +kernel⟩
theorem cf115:CF Tryz.prog 115:=⟨_,Tryz.func115,rfl,by decide +kernel⟩
theorem cf116:CF Tryz.prog 116:=⟨_,Tryz.func116,rfl,by decide +kernel⟩
theorem cf122:CF Tryz.prog 122:=⟨_,Tryz.func122,rfl,by decide +kernel⟩
theorem cf123:CF Tryz.prog 123:=⟨_,Tryz.func123,rfl,by decide +kernel⟩
theorem cf126:CF Tryz.prog 126:=⟨_,Tryz.func126,rfl,by decide +kernel⟩
theorem T22:SlT Tryz.prog 22 5 1 1 (.int .u8 0):=⟨Tryz.underlying22,by kernel_rfl,rfl,by decide⟩
theorem T25:SlT Tryz.prog 25 57 2 16 (.agg #[I 0,I 0]):=⟨Tryz.underlying25,by kernel_rfl,rfl,by decide⟩
theorem T26:SlT Tryz.prog 26 59 5 40 (.agg #[I 0,I 0,I 0,I 0,I 0]):=⟨Tryz.underlying26,by kernel_rfl,rfl,by decide⟩
theorem T29:SlT Tryz.prog 29 3 1 8 (I 0):=⟨Tryz.underlying29,by kernel_rfl,rfl,by decide⟩
theorem T36:SlT Tryz.prog 36 24 2 16 (.agg #[I 0,I 0]):=⟨Tryz.underlying36,by kernel_rfl,rfl,by decide⟩
theorem T37:SlT Tryz.prog 37 44 3 24 (.agg #[I 0,I 0,I 0]):=⟨Tryz.underlying37,by kernel_rfl,rfl,by decide⟩
theorem T38:SlT Tryz.prog 38 99 2 32 (.agg #[I 0,.slice none 0 0]):=⟨Tryz.underlying38,by kernel_rfl,rfl,by decide⟩
theorem T92:SlT Tryz.prog 92 49 2 16 (.agg #[I 0,I 0]):=⟨Tryz.underlying92,by kernel_rfl,rfl,by decide⟩
theorem Sc3:isSc (Tryz.prog.underlying 3)=true:=by rw [Tryz.underlying3]; rfl
theorem Sc4:isSc (Tryz.prog.underlying 4)=true:=by rw [Tryz.underlying4]; rfl
theorem Sc5:isSc (Tryz.prog.underlying 5)=true:=by rw [Tryz.underlying5]; rfl
theorem Sc22:isSc (Tryz.prog.underlying 22)=true:=by rw [Tryz.underlying22]; rfl
theorem Sc25:isSc (Tryz.prog.underlying 25)=true:=by rw [Tryz.underlying25]; rfl
theorem Sc26:isSc (Tryz.prog.underlying 26)=true:=by rw [Tryz.underlying26]; rfl
theorem Sc29:isSc (Tryz.prog.underlying 29)=true:=by rw [Tryz.underlying29]; rfl
theorem Sc36:isSc (Tryz.prog.underlying 36)=true:=by rw [Tryz.underlying36]; rfl
theorem Sc37:isSc (Tryz.prog.underlying 37)=true:=by rw [Tryz.underlying37]; rfl
theorem Sc38:isSc (Tryz.prog.underlying 38)=true:=by rw [Tryz.underlying38]; rfl
theorem Sc62:isSc (Tryz.prog.underlying 62)=true:=by rw [Tryz.underlying62]; rfl
theorem Sc65:isSc (Tryz.prog.underlying 65)=true:=by rw [Tryz.underlying65]; rfl
theorem Sc67:isSc (Tryz.prog.underlying 67)=true:=by rw [Tryz.underlying67]; rfl
theorem Sc75:isSc (Tryz.prog.underlying 75)=true:=by rw [Tryz.underlying75]; rfl
theorem Sc82:isSc (Tryz.prog.underlying 82)=true:=by rw [Tryz.underlying82]; rfl
theorem Sc88:isSc (Tryz.prog.underlying 88)=true:=by rw [Tryz.underlying88]; rfl
theorem Sc109:isSc (Tryz.prog.underlying 109)=true:=by rw [Tryz.underlying109]; rfl
theorem Sc120:isSc (Tryz.prog.underlying 120)=true:=by rw [Tryz.underlying120]; rfl
theorem Sc123:isSc (Tryz.prog.underlying 123)=true:=by rw [Tryz.underlying123]; rfl
theorem Sc126:isSc (Tryz.prog.underlying 126)=true:=by rw [Tryz.underlying126]; rfl
theorem Sc134:isSc (Tryz.prog.underlying 134)=true:=by rw [Tryz.underlying134]; rfl
theorem Sc171:isSc (Tryz.prog.underlying 171)=true:=by rw [Tryz.underlying171]; rfl
theorem Sz3:(Tryz.prog.info? 3).map (·.size)=some 1:=by kernel_rfl
theorem Sz4:(Tryz.prog.info? 4).map (·.size)=some 1:=by kernel_rfl
theorem Sz22:(Tryz.prog.info? 22).map (·.size)=some 1:=by kernel_rfl
theorem Ag24:isAg (Tryz.prog.underlying 24)=true:=by rw [Tryz.underlying24]; rfl
theorem Sz24:(Tryz.prog.info? 24).map (·.size)=some 2:=by kernel_rfl
theorem Sz25:(Tryz.prog.info? 25).map (·.size)=some 1:=by kernel_rfl
theorem Sz26:(Tryz.prog.info? 26).map (·.size)=some 1:=by kernel_rfl
theorem Ag28:isAg (Tryz.prog.underlying 28)=true:=by rw [Tryz.underlying28]; rfl
theorem Sz28:(Tryz.prog.info? 28).map (·.size)=some 7:=by kernel_rfl
theorem Sz29:(Tryz.prog.info? 29).map (·.size)=some 1:=by kernel_rfl
theorem Ag31:isAg (Tryz.prog.underlying 31)=true:=by rw [Tryz.underlying31]; rfl
theorem Sz31:(Tryz.prog.info? 31).map (·.size)=some 3:=by kernel_rfl
theorem Sz36:(Tryz.prog.info? 36).map (·.size)=some 1:=by kernel_rfl
theorem Sz37:(Tryz.prog.info? 37).map (·.size)=some 1:=by kernel_rfl
theorem Sz38:(Tryz.prog.info? 38).map (·.size)=some 1:=by kernel_rfl
theorem Ag40:isAg (Tryz.prog.underlying 40)=true:=by rw [Tryz.underlying40]; rfl
theorem Sz40:(Tryz.prog.info? 40).map (·.size)=some 7:=by kernel_rfl
theorem Ag44:isAg (Tryz.prog.underlying 44)=true:=by rw [Tryz.underlying44]; rfl
theorem Sz44:(Tryz.prog.info? 44).map (·.size)=some 3:=by kernel_rfl
theorem Ag49:isAg (Tryz.prog.underlying 49)=true:=by rw [Tryz.underlying49]; rfl
theorem Sz49:(Tryz.prog.info? 49).map (·.size)=some 2:=by kernel_rfl
theorem Ag57:isAg (Tryz.prog.underlying 57)=true:=by rw [Tryz.underlying57]; rfl
theorem Sz57:(Tryz.prog.info? 57).map (·.size)=some 2:=by kernel_rfl
theorem Ag59:isAg (Tryz.prog.underlying 59)=true:=by rw [Tryz.underlying59]; rfl
theorem Sz59:(Tryz.prog.info? 59).map (·.size)=some 5:=by kernel_rfl
theorem Sz67:(Tryz.prog.info? 67).map (·.size)=some 1:=by kernel_rfl
theorem Sz88:(Tryz.prog.info? 88).map (·.size)=some 1:=by kernel_rfl
theorem Ag99:isAg (Tryz.prog.underlying 99)=true:=by rw [Tryz.underlying99]; rfl
theorem Sz99:(Tryz.prog.info? 99).map (·.size)=some 2:=by kernel_rfl
theorem Ag103:isAg (Tryz.prog.underlying 103)=true:=by rw [Tryz.underlying103]; rfl
theorem Sz103:(Tryz.prog.info? 103).map (·.size)=some 12:=by kernel_rfl
theorem Ag108:isAg (Tryz.prog.underlying 108)=true:=by rw [Tryz.underlying108]; rfl
theorem Sz108:(Tryz.prog.info? 108).map (·.size)=some 3:=by kernel_rfl
theorem Sz109:(Tryz.prog.info? 109).map (·.size)=some 1:=by kernel_rfl
theorem Sz126:(Tryz.prog.info? 126).map (·.size)=some 1:=by kernel_rfl
theorem Sz134:(Tryz.prog.info? 134).map (·.size)=some 1:=by kernel_rfl
theorem Ag135:isAg (Tryz.prog.underlying 135)=true:=by rw [Tryz.underlying135]; rfl
theorem Sz135:(Tryz.prog.info? 135).map (·.size)=some 40:=by kernel_rfl
theorem Fd24_0:(Tryz.prog.underlying 24).bind (fun d=>match d with | .struct fs=>(fs[0]?).map (fun f=>(f.offset,f.type)) | _=>none)=some (0,3):=by rw [Tryz.underlying24]; rfl
theorem Fd24_1:(Tryz.prog.underlying 24).bind (fun d=>match d with | .struct fs=>(fs[1]?).map (fun f=>(f.offset,f.type)) | _=>none)=some (1,3):=by rw [Tryz.underlying24]; rfl
theorem Fd28_0:(Tryz.prog.underlying 28).bind (fun d=>match d with | .struct fs=>(fs[0]?).map (fun f=>(f.offset,f.type)) | _=>none)=some (0,24):=by rw [Tryz.underlying28]; rfl
theorem Fd28_1:(Tryz.prog.underlying 28).bind (fun d=>match d with | .struct fs=>(fs[1]?).map (fun f=>(f.offset,f.type)) | _=>none)=some (2,3):=by rw [Tryz.underlying28]; rfl
theorem Fd28_2:(Tryz.prog.underlying 28).bind (fun d=>match d with | .struct fs=>(fs[2]?).map (fun f=>(f.offset,f.type)) | _=>none)=some (3,3):=by rw [Tryz.underlying28]; rfl
theorem Fd28_3:(Tryz.prog.underlying 28).bind (fun d=>match d with | .struct fs=>(fs[3]?).map (fun f=>(f.offset,f.type)) | _=>none)=some (4,3):=by rw [Tryz.underlying28]; rfl
theorem Fd28_4:(Tryz.prog.underlying 28).bind (fun d=>match d with | .struct fs=>(fs[4]?).map (fun f=>(f.offset,f.type)) | _=>none)=some (5,25):=by rw [Tryz.underlying28]; rfl
theorem Fd28_5:(Tryz.prog.underlying 28).bind (fun d=>match d with | .struct fs=>(fs[5]?).map (fun f=>(f.offset,f.type)) | _=>none)=some (6,26):=by rw [Tryz.underlying28]; rfl
theorem Fd31_0:(Tryz.prog.underlying 31).bind (fun d=>match d with | .struct fs=>(fs[0]?).map (fun f=>(f.offset,f.type)) | _=>none)=some (0,29):=by rw [Tryz.underlying31]; rfl
theorem Fd31_1:(Tryz.prog.underlying 31).bind (fun d=>match d with | .struct fs=>(fs[1]?).map (fun f=>(f.offset,f.type)) | _=>none)=some (1,29):=by rw [Tryz.underlying31]; rfl
theorem Fd31_2:(Tryz.prog.underlying 31).bind (fun d=>match d with | .struct fs=>(fs[2]?).map (fun f=>(f.offset,f.type)) | _=>none)=some (2,29):=by rw [Tryz.underlying31]; rfl
theorem Fd40_0:(Tryz.prog.underlying 40).bind (fun d=>match d with | .struct fs=>(fs[0]?).map (fun f=>(f.offset,f.type)) | _=>none)=some (0,29):=by rw [Tryz.underlying40]; rfl
theorem Fd40_1:(Tryz.prog.underlying 40).bind (fun d=>match d with | .struct fs=>(fs[1]?).map (fun f=>(f.offset,f.type)) | _=>none)=some (1,36):=by rw [Tryz.underlying40]; rfl
theorem Fd40_2:(Tryz.prog.underlying 40).bind (fun d=>match d with | .struct fs=>(fs[2]?).map (fun f=>(f.offset,f.type)) | _=>none)=some (2,29):=by rw [Tryz.underlying40]; rfl
theorem Fd40_3:(Tryz.prog.underlying 40).bind (fun d=>match d with | .struct fs=>(fs[3]?).map (fun f=>(f.offset,f.type)) | _=>none)=some (3,37):=by rw [Tryz.underlying40]; rfl
theorem Fd40_4:(Tryz.prog.underlying 40).bind (fun d=>match d with | .struct fs=>(fs[4]?).map (fun f=>(f.offset,f.type)) | _=>none)=some (4,24):=by rw [Tryz.underlying40]; rfl
theorem Fd40_5:(Tryz.prog.underlying 40).bind (fun d=>match d with | .struct fs=>(fs[5]?).map (fun f=>(f.offset,f.type)) | _=>none)=some (6,38):=by rw [Tryz.underlying40]; rfl
theorem Fd44_0:(Tryz.prog.underlying 44).bind (fun d=>match d with | .struct fs=>(fs[0]?).map (fun f=>(f.offset,f.type)) | _=>none)=some (0,3):=by rw [Tryz.underlying44]; rfl
theorem Fd44_1:(Tryz.prog.underlying 44).bind (fun d=>match d with | .struct fs=>(fs[1]?).map (fun f=>(f.offset,f.type)) | _=>none)=some (1,3):=by rw [Tryz.underlying44]; rfl
theorem Fd44_2:(Tryz.prog.underlying 44).bind (fun d=>match d with | .struct fs=>(fs[2]?).map (fun f=>(f.offset,f.type)) | _=>none)=some (2,3):=by rw [Tryz.underlying44]; rfl
theorem Fd49_0:(Tryz.prog.underlying 49).bind (fun d=>match d with | .struct fs=>(fs[0]?).map (fun f=>(f.offset,f.type)) | _=>none)=some (0,3):=by rw [Tryz.underlying49]; rfl
theorem Fd49_1:(Tryz.prog.underlying 49).bind (fun d=>match d with | .struct fs=>(fs[1]?).map (fun f=>(f.offset,f.type)) | _=>none)=some (1,3):=by rw [Tryz.underlying49]; rfl
theorem Fd57_0:(Tryz.prog.underlying 57).bind (fun d=>match d with | .struct fs=>(fs[0]?).map (fun f=>(f.offset,f.type)) | _=>none)=some (0,3):=by rw [Tryz.underlying57]; rfl
theorem Fd57_1:(Tryz.prog.underlying 57).bind (fun d=>match d with | .struct fs=>(fs[1]?).map (fun f=>(f.offset,f.type)) | _=>none)=some (1,3):=by rw [Tryz.underlying57]; rfl
theorem Fd59_0:(Tryz.prog.underlying 59).bind (fun d=>match d with | .struct fs=>(fs[0]?).map (fun f=>(f.offset,f.type)) | _=>none)=some (0,3):=by rw [Tryz.underlying59]; rfl
theorem Fd59_1:(Tryz.prog.underlying 59).bind (fun d=>match d with | .struct fs=>(fs[1]?).map (fun f=>(f.offset,f.type)) | _=>none)=some (1,24):=by rw [Tryz.underlying59]; rfl
theorem Fd59_2:(Tryz.prog.underlying 59).bind (fun d=>match d with | .struct fs=>(fs[2]?).map (fun f=>(f.offset,f.type)) | _=>none)=some (3,24):=by rw [Tryz.underlying59]; rfl
theorem Fd61_0:(Tryz.prog.underlying 61).bind (fun d=>match d with | .struct fs=>(fs[0]?).map (fun f=>(f.offset,f.type)) | _=>none)=some (0,22):=by rw [Tryz.underlying61]; rfl
theorem Fd61_1:(Tryz.prog.underlying 61).bind (fun d=>match d with | .struct fs=>(fs[1]?).map (fun f=>(f.offset,f.type)) | _=>none)=some (1,3):=by rw [Tryz.underlying61]; rfl
theorem Fd61_2:(Tryz.prog.underlying 61).bind (fun d=>match d with | .struct fs=>(fs[2]?).map (fun f=>(f.offset,f.type)) | _=>none)=some (2,3):=by rw [Tryz.underlying61]; rfl
theorem Fd79_0:(Tryz.prog.underlying 79).bind (fun d=>match d with | .struct fs=>(fs[0]?).map (fun f=>(f.offset,f.type)) | _=>none)=some (0,24):=by rw [Tryz.underlying79]; rfl
theorem Fd79_1:(Tryz.prog.underlying 79).bind (fun d=>match d with | .struct fs=>(fs[1]?).map (fun f=>(f.offset,f.type)) | _=>none)=some (2,4):=by rw [Tryz.underlying79]; rfl
theorem Fd90_0:(Tryz.prog.underlying 90).bind (fun d=>match d with | .struct fs=>(fs[0]?).map (fun f=>(f.offset,f.type)) | _=>none)=some (0,40):=by rw [Tryz.underlying90]; rfl
theorem Fd90_1:(Tryz.prog.underlying 90).bind (fun d=>match d with | .struct fs=>(fs[1]?).map (fun f=>(f.offset,f.type)) | _=>none)=some (7,88):=by rw [Tryz.underlying90]; rfl
theorem Fd99_0:(Tryz.prog.underlying 99).bind (fun d=>match d with | .struct fs=>(fs[0]?).map (fun f=>(f.offset,f.type)) | _=>none)=some (0,3):=by rw [Tryz.underlying99]; rfl
theorem Fd99_1:(Tryz.prog.underlying 99).bind (fun d=>match d with | .struct fs=>(fs[1]?).map (fun f=>(f.offset,f.type)) | _=>none)=some (1,29):=by rw [Tryz.underlying99]; rfl
theorem Fd108_0:(Tryz.prog.underlying 108).bind (fun d=>match d with | .struct fs=>(fs[0]?).map (fun f=>(f.offset,f.type)) | _=>none)=some (0,3):=by rw [Tryz.underlying108]; rfl
theorem Fd108_1:(Tryz.prog.underlying 108).bind (fun d=>match d with | .struct fs=>(fs[1]?).map (fun f=>(f.offset,f.type)) | _=>none)=some (1,3):=by rw [Tryz.underlying108]; rfl
theorem Fd108_2:(Tryz.prog.underlying 108).bind (fun d=>match d with | .struct fs=>(fs[2]?).map (fun f=>(f.offset,f.type)) | _=>none)=some (2,4):=by rw [Tryz.underlying108]; rfl
theorem Fd111_0:(Tryz.prog.underlying 111).bind (fun d=>match d with | .struct fs=>(fs[0]?).map (fun f=>(f.offset,f.type)) | _=>none)=some (0,109):=by rw [Tryz.underlying111]; rfl
theorem Fd137_0:(Tryz.prog.underlying 137).bind (fun d=>match d with | .struct fs=>(fs[0]?).map (fun f=>(f.offset,f.type)) | _=>none)=some (0,28):=by rw [Tryz.underlying137]; rfl
theorem Fd137_1:(Tryz.prog.underlying 137).bind (fun d=>match d with | .struct fs=>(fs[1]?).map (fun f=>(f.offset,f.type)) | _=>none)=some (7,134):=by rw [Tryz.underlying137]; rfl
theorem Fd137_2:(Tryz.prog.underlying 137).bind (fun d=>match d with | .struct fs=>(fs[2]?).map (fun f=>(f.offset,f.type)) | _=>none)=some (8,135):=by rw [Tryz.underlying137]; rfl
theorem Al3:(Tryz.prog.info? 3).map (·.zero)=some (some (I 0)):=by kernel_rfl
theorem Al4:(Tryz.prog.info? 4).map (·.zero)=some (some (B false)):=by kernel_rfl
theorem Al24:(Tryz.prog.info? 24).map (·.zero)=some (some (.agg #[I 0,I 0])):=by kernel_rfl
theorem Al28:(Tryz.prog.info? 28).map (·.zero)=some (some (.agg #[I 0,I 0,I 0,I 0,I 0,.slice none 0 0,.slice none 0 0])):=by kernel_rfl
theorem Al29:(Tryz.prog.info? 29).map (·.zero)=some (some (.slice none 0 0)):=by kernel_rfl
theorem Al31:(Tryz.prog.info? 31).map (·.zero)=some (some (.agg #[.slice none 0 0,.slice none 0 0,.slice none 0 0])):=by kernel_rfl
theorem Al36:(Tryz.prog.info? 36).map (·.zero)=some (some (.slice none 0 0)):=by kernel_rfl
theorem Al40:(Tryz.prog.info? 40).map (·.zero)=some (some (.agg #[.slice none 0 0,.slice none 0 0,.slice none 0 0,.slice none 0 0,I 0,I 0,.slice none 0 0])):=by kernel_rfl
theorem Al44:(Tryz.prog.info? 44).map (·.zero)=some (some (.agg #[I 0,I 0,I 0])):=by kernel_rfl
theorem Al49:(Tryz.prog.info? 49).map (·.zero)=some (some (.agg #[I 0,I 0])):=by kernel_rfl
theorem Al57:(Tryz.prog.info? 57).map (·.zero)=some (some (.agg #[I 0,I 0])):=by kernel_rfl
theorem Al59:(Tryz.prog.info? 59).map (·.zero)=some (some (.agg #[I 0,I 0,I 0,I 0,I 0])):=by kernel_rfl
theorem Al61:(Tryz.prog.info? 61).map (·.zero)=some (some (.agg #[.slice none 0 0,I 0,I 0])):=by kernel_rfl
theorem Al67:(Tryz.prog.info? 67).map (·.zero)=some (some (.nilFunc)):=by kernel_rfl
theorem Al79:(Tryz.prog.info? 79).map (·.zero)=some (some (.agg #[I 0,I 0,B false])):=by kernel_rfl
theorem Al90:(Tryz.prog.info? 90).map (·.zero)=some (some (.agg #[.slice none 0 0,.slice none 0 0,.slice none 0 0,.slice none 0 0,I 0,I 0,.slice none 0 0,.map none])):=by kernel_rfl
theorem Al99:(Tryz.prog.info? 99).map (·.zero)=some (some (.agg #[I 0,.slice none 0 0])):=by kernel_rfl
theorem Al103:(Tryz.prog.info? 103).map (·.zero)=some (some (.agg #[B false,B false,B false,B false,B false,B false,B false,B false,B false,B false,B false,B false])):=by kernel_rfl
theorem Al108:(Tryz.prog.info? 108).map (·.zero)=some (some (.agg #[I 0,I 0,B false])):=by kernel_rfl
theorem Al109:(Tryz.prog.info? 109).map (·.zero)=some (some (.nilFunc)):=by kernel_rfl
theorem Al111:(Tryz.prog.info? 111).map (·.zero)=some (some (.agg #[.nilFunc])):=by kernel_rfl
theorem Al126:(Tryz.prog.info? 126).map (·.zero)=some (some (.nilFunc)):=by kernel_rfl
theorem Bd24 {fs:Array Field} (h:Tryz.prog.underlying 24=some (.struct fs)):fs.toList.mapM (fun f=>(Tryz.prog.info? f.type).map fun i=>(f.offset,i.size))=some [(0,1),(1,1)]:=by rw [Tryz.underlying24] at h; simp only [Option.some.injEq,TypeDesc.struct.injEq] at h; subst h; kernel_rfl
theorem Bd28 {fs:Array Field} (h:Tryz.prog.underlying 28=some (.struct fs)):fs.toList.mapM (fun f=>(Tryz.prog.info? f.type).map fun i=>(f.offset,i.size))=some [(0,2),(2,1),(3,1),(4,1),(5,1),(6,1)]:=by rw [Tryz.underlying28] at h; simp only [Option.some.injEq,TypeDesc.struct.injEq] at h; subst h; kernel_rfl
theorem Bd40 {fs:Array Field} (h:Tryz.prog.underlying 40=some (.struct fs)):fs.toList.mapM (fun f=>(Tryz.prog.info? f.type).map fun i=>(f.offset,i.size))=some [(0,1),(1,1),(2,1),(3,1),(4,2),(6,1)]:=by rw [Tryz.underlying40] at h; simp only [Option.some.injEq,TypeDesc.struct.injEq] at h; subst h; kernel_rfl
theorem Bd44 {fs:Array Field} (h:Tryz.prog.underlying 44=some (.struct fs)):fs.toList.mapM (fun f=>(Tryz.prog.info? f.type).map fun i=>(f.offset,i.size))=some [(0,1),(1,1),(2,1)]:=by rw [Tryz.underlying44] at h; simp only [Option.some.injEq,TypeDesc.struct.injEq] at h; subst h; kernel_rfl
theorem Bd49 {fs:Array Field} (h:Tryz.prog.underlying 49=some (.struct fs)):fs.toList.mapM (fun f=>(Tryz.prog.info? f.type).map fun i=>(f.offset,i.size))=some [(0,1),(1,1)]:=by rw [Tryz.underlying49] at h; simp only [Option.some.injEq,TypeDesc.struct.injEq] at h; subst h; kernel_rfl
theorem Bd57 {fs:Array Field} (h:Tryz.prog.underlying 57=some (.struct fs)):fs.toList.mapM (fun f=>(Tryz.prog.info? f.type).map fun i=>(f.offset,i.size))=some [(0,1),(1,1)]:=by rw [Tryz.underlying57] at h; simp only [Option.some.injEq,TypeDesc.struct.injEq] at h; subst h; kernel_rfl
theorem Bd59 {fs:Array Field} (h:Tryz.prog.underlying 59=some (.struct fs)):fs.toList.mapM (fun f=>(Tryz.prog.info? f.type).map fun i=>(f.offset,i.size))=some [(0,1),(1,2),(3,2)]:=by rw [Tryz.underlying59] at h; simp only [Option.some.injEq,TypeDesc.struct.injEq] at h; subst h; kernel_rfl
theorem Bd61 {fs:Array Field} (h:Tryz.prog.underlying 61=some (.struct fs)):fs.toList.mapM (fun f=>(Tryz.prog.info? f.type).map fun i=>(f.offset,i.size))=some [(0,1),(1,1),(2,1)]:=by rw [Tryz.underlying61] at h; simp only [Option.some.injEq,TypeDesc.struct.injEq] at h; subst h; kernel_rfl
theorem Bd90 {fs:Array Field} (h:Tryz.prog.underlying 90=some (.struct fs)):fs.toList.mapM (fun f=>(Tryz.prog.info? f.type).map fun i=>(f.offset,i.size))=some [(0,7),(7,1)]:=by rw [Tryz.underlying90] at h; simp only [Option.some.injEq,TypeDesc.struct.injEq] at h; subst h; kernel_rfl
theorem Bd99 {fs:Array Field} (h:Tryz.prog.underlying 99=some (.struct fs)):fs.toList.mapM (fun f=>(Tryz.prog.info? f.type).map fun i=>(f.offset,i.size))=some [(0,1),(1,1)]:=by rw [Tryz.underlying99] at h; simp only [Option.some.injEq,TypeDesc.struct.injEq] at h; subst h; kernel_rfl
theorem Bd108 {fs:Array Field} (h:Tryz.prog.underlying 108=some (.struct fs)):fs.toList.mapM (fun f=>(Tryz.prog.info? f.type).map fun i=>(f.offset,i.size))=some [(0,1),(1,1),(2,1)]:=by rw [Tryz.underlying108] at h; simp only [Option.some.injEq,TypeDesc.struct.injEq] at h; subst h; kernel_rfl
theorem Bd111 {fs:Array Field} (h:Tryz.prog.underlying 111=some (.struct fs)):fs.toList.mapM (fun f=>(Tryz.prog.info? f.type).map fun i=>(f.offset,i.size))=some [(0,1)]:=by rw [Tryz.underlying111] at h; simp only [Option.some.injEq,TypeDesc.struct.injEq] at h; subst h; kernel_rfl
theorem Bd137 {fs:Array Field} (h:Tryz.prog.underlying 137=some (.struct fs)):fs.toList.mapM (fun f=>(Tryz.prog.info? f.type).map fun i=>(f.offset,i.size))=some [(0,7),(7,1),(8,40)]:=by rw [Tryz.underlying137] at h; simp only [Option.some.injEq,TypeDesc.struct.injEq] at h; subst h; kernel_rfl
theorem mixed:Tryz.prog.follows .mixedOrders=true:=by kernel_rfl
theorem Al137:(Tryz.prog.info? 137).map (·.zero)=some (some (.agg (List.flatten [[I 0,I 0,I 0,I 0,I 0,.slice none 0 0,.slice none 0 0,.map none],encF (α:=Bool) (List.replicate 40 false)]).toArray)):=by kernel_rfl

instance:TlC Tryz.prog 22 5 1 1 (.int .u8 0):=⟨T22⟩
instance:TlC Tryz.prog 25 57 2 16 (.agg #[I 0,I 0]):=⟨T25⟩
instance:TlC Tryz.prog 26 59 5 40 (.agg #[I 0,I 0,I 0,I 0,I 0]):=⟨T26⟩
instance:TlC Tryz.prog 29 3 1 8 (I 0):=⟨T29⟩
instance:TlC Tryz.prog 36 24 2 16 (.agg #[I 0,I 0]):=⟨T36⟩
instance:TlC Tryz.prog 37 44 3 24 (.agg #[I 0,I 0,I 0]):=⟨T37⟩
instance:TlC Tryz.prog 38 99 2 32 (.agg #[I 0,.slice none 0 0]):=⟨T38⟩
instance:TlC Tryz.prog 92 49 2 16 (.agg #[I 0,I 0]):=⟨T92⟩
instance:ScC Tryz.prog 3:=⟨Sc3⟩
instance:ScC Tryz.prog 4:=⟨Sc4⟩
instance:ScC Tryz.prog 5:=⟨Sc5⟩
instance:ScC Tryz.prog 22:=⟨Sc22⟩
instance:ScC Tryz.prog 25:=⟨Sc25⟩
instance:ScC Tryz.prog 26:=⟨Sc26⟩
instance:ScC Tryz.prog 29:=⟨Sc29⟩
instance:ScC Tryz.prog 36:=⟨Sc36⟩
instance:ScC Tryz.prog 37:=⟨Sc37⟩
instance:ScC Tryz.prog 38:=⟨Sc38⟩
instance:ScC Tryz.prog 62:=⟨Sc62⟩
instance:ScC Tryz.prog 65:=⟨Sc65⟩
instance:ScC Tryz.prog 67:=⟨Sc67⟩
instance:ScC Tryz.prog 75:=⟨Sc75⟩
instance:ScC Tryz.prog 82:=⟨Sc82⟩
instance:ScC Tryz.prog 88:=⟨Sc88⟩
instance:ScC Tryz.prog 109:=⟨Sc109⟩
instance:ScC Tryz.prog 120:=⟨Sc120⟩
instance:ScC Tryz.prog 123:=⟨Sc123⟩
instance:ScC Tryz.prog 126:=⟨Sc126⟩
instance:ScC Tryz.prog 134:=⟨Sc134⟩
instance:ScC Tryz.prog 171:=⟨Sc171⟩
instance:SzC Tryz.prog 3 1:=⟨Sz3⟩
instance:SzC Tryz.prog 4 1:=⟨Sz4⟩
instance:SzC Tryz.prog 22 1:=⟨Sz22⟩
instance:AgC Tryz.prog 24:=⟨Ag24⟩
instance:SzC Tryz.prog 24 2:=⟨Sz24⟩
instance:SzC Tryz.prog 25 1:=⟨Sz25⟩
instance:SzC Tryz.prog 26 1:=⟨Sz26⟩
instance:AgC Tryz.prog 28:=⟨Ag28⟩
instance:SzC Tryz.prog 28 7:=⟨Sz28⟩
instance:SzC Tryz.prog 29 1:=⟨Sz29⟩
instance:AgC Tryz.prog 31:=⟨Ag31⟩
instance:SzC Tryz.prog 31 3:=⟨Sz31⟩
instance:SzC Tryz.prog 36 1:=⟨Sz36⟩
instance:SzC Tryz.prog 37 1:=⟨Sz37⟩
instance:SzC Tryz.prog 38 1:=⟨Sz38⟩
instance:AgC Tryz.prog 40:=⟨Ag40⟩
instance:SzC Tryz.prog 40 7:=⟨Sz40⟩
instance:AgC Tryz.prog 44:=⟨Ag44⟩
instance:SzC Tryz.prog 44 3:=⟨Sz44⟩
instance:AgC Tryz.prog 49:=⟨Ag49⟩
instance:SzC Tryz.prog 49 2:=⟨Sz49⟩
instance:AgC Tryz.prog 57:=⟨Ag57⟩
instance:SzC Tryz.prog 57 2:=⟨Sz57⟩
instance:AgC Tryz.prog 59:=⟨Ag59⟩
instance:SzC Tryz.prog 59 5:=⟨Sz59⟩
instance:SzC Tryz.prog 67 1:=⟨Sz67⟩
instance:SzC Tryz.prog 88 1:=⟨Sz88⟩
instance:AgC Tryz.prog 99:=⟨Ag99⟩
instance:SzC Tryz.prog 99 2:=⟨Sz99⟩
instance:AgC Tryz.prog 103:=⟨Ag103⟩
instance:SzC Tryz.prog 103 12:=⟨Sz103⟩
instance:AgC Tryz.prog 108:=⟨Ag108⟩
instance:SzC Tryz.prog 108 3:=⟨Sz108⟩
instance:SzC Tryz.prog 109 1:=⟨Sz109⟩
instance:SzC Tryz.prog 126 1:=⟨Sz126⟩
instance:SzC Tryz.prog 134 1:=⟨Sz134⟩
instance:AgC Tryz.prog 135:=⟨Ag135⟩
instance:SzC Tryz.prog 135 40:=⟨Sz135⟩
instance:FdC Tryz.prog 24 0 0 3:=⟨Fd24_0⟩
instance:FdC Tryz.prog 24 1 1 3:=⟨Fd24_1⟩
instance:FdC Tryz.prog 28 0 0 24:=⟨Fd28_0⟩
instance:FdC Tryz.prog 28 1 2 3:=⟨Fd28_1⟩
instance:FdC Tryz.prog 28 2 3 3:=⟨Fd28_2⟩
instance:FdC Tryz.prog 28 3 4 3:=⟨Fd28_3⟩
instance:FdC Tryz.prog 28 4 5 25:=⟨Fd28_4⟩
instance:FdC Tryz.prog 28 5 6 26:=⟨Fd28_5⟩
instance:FdC Tryz.prog 31 0 0 29:=⟨Fd31_0⟩
instance:FdC Tryz.prog 31 1 1 29:=⟨Fd31_1⟩
instance:FdC Tryz.prog 31 2 2 29:=⟨Fd31_2⟩
instance:FdC Tryz.prog 40 0 0 29:=⟨Fd40_0⟩
instance:FdC Tryz.prog 40 1 1 36:=⟨Fd40_1⟩
instance:FdC Tryz.prog 40 2 2 29:=⟨Fd40_2⟩
instance:FdC Tryz.prog 40 3 3 37:=⟨Fd40_3⟩
instance:FdC Tryz.prog 40 4 4 24:=⟨Fd40_4⟩
instance:FdC Tryz.prog 40 5 6 38:=⟨Fd40_5⟩
instance:FdC Tryz.prog 44 0 0 3:=⟨Fd44_0⟩
instance:FdC Tryz.prog 44 1 1 3:=⟨Fd44_1⟩
instance:FdC Tryz.prog 44 2 2 3:=⟨Fd44_2⟩
instance:FdC Tryz.prog 49 0 0 3:=⟨Fd49_0⟩
instance:FdC Tryz.prog 49 1 1 3:=⟨Fd49_1⟩
instance:FdC Tryz.prog 57 0 0 3:=⟨Fd57_0⟩
instance:FdC Tryz.prog 57 1 1 3:=⟨Fd57_1⟩
instance:FdC Tryz.prog 59 0 0 3:=⟨Fd59_0⟩
instance:FdC Tryz.prog 59 1 1 24:=⟨Fd59_1⟩
instance:FdC Tryz.prog 59 2 3 24:=⟨Fd59_2⟩
instance:FdC Tryz.prog 61 0 0 22:=⟨Fd61_0⟩
instance:FdC Tryz.prog 61 1 1 3:=⟨Fd61_1⟩
instance:FdC Tryz.prog 61 2 2 3:=⟨Fd61_2⟩
instance:FdC Tryz.prog 79 0 0 24:=⟨Fd79_0⟩
instance:FdC Tryz.prog 79 1 2 4:=⟨Fd79_1⟩
instance:FdC Tryz.prog 90 0 0 40:=⟨Fd90_0⟩
instance:FdC Tryz.prog 90 1 7 88:=⟨Fd90_1⟩
instance:FdC Tryz.prog 99 0 0 3:=⟨Fd99_0⟩
instance:FdC Tryz.prog 99 1 1 29:=⟨Fd99_1⟩
instance:FdC Tryz.prog 108 0 0 3:=⟨Fd108_0⟩
instance:FdC Tryz.prog 108 1 1 3:=⟨Fd108_1⟩
instance:FdC Tryz.prog 108 2 2 4:=⟨Fd108_2⟩
instance:FdC Tryz.prog 111 0 0 109:=⟨Fd111_0⟩
instance:FdC Tryz.prog 137 0 0 28:=⟨Fd137_0⟩
instance:FdC Tryz.prog 137 1 7 134:=⟨Fd137_1⟩
instance:FdC Tryz.prog 137 2 8 135:=⟨Fd137_2⟩
instance:AlC Tryz.prog 3 (I 0):=⟨Al3⟩
instance:AlC Tryz.prog 4 (B false):=⟨Al4⟩
instance:AlC Tryz.prog 24 (.agg #[I 0,I 0]):=⟨Al24⟩
instance:AlC Tryz.prog 28 (.agg #[I 0,I 0,I 0,I 0,I 0,.slice none 0 0,.slice none 0 0]):=⟨Al28⟩
instance:AlC Tryz.prog 29 (.slice none 0 0):=⟨Al29⟩
instance:AlC Tryz.prog 31 (.agg #[.slice none 0 0,.slice none 0 0,.slice none 0 0]):=⟨Al31⟩
instance:AlC Tryz.prog 36 (.slice none 0 0):=⟨Al36⟩
instance:AlC Tryz.prog 40 (.agg #[.slice none 0 0,.slice none 0 0,.slice none 0 0,.slice none 0 0,I 0,I 0,.slice none 0 0]):=⟨Al40⟩
instance:AlC Tryz.prog 44 (.agg #[I 0,I 0,I 0]):=⟨Al44⟩
instance:AlC Tryz.prog 49 (.agg #[I 0,I 0]):=⟨Al49⟩
instance:AlC Tryz.prog 57 (.agg #[I 0,I 0]):=⟨Al57⟩
instance:AlC Tryz.prog 59 (.agg #[I 0,I 0,I 0,I 0,I 0]):=⟨Al59⟩
instance:AlC Tryz.prog 61 (.agg #[.slice none 0 0,I 0,I 0]):=⟨Al61⟩
instance:AlC Tryz.prog 67 (.nilFunc):=⟨Al67⟩
instance:AlC Tryz.prog 79 (.agg #[I 0,I 0,B false]):=⟨Al79⟩
instance:AlC Tryz.prog 90 (.agg #[.slice none 0 0,.slice none 0 0,.slice none 0 0,.slice none 0 0,I 0,I 0,.slice none 0 0,.map none]):=⟨Al90⟩
instance:AlC Tryz.prog 99 (.agg #[I 0,.slice none 0 0]):=⟨Al99⟩
instance:AlC Tryz.prog 103 (.agg #[B false,B false,B false,B false,B false,B false,B false,B false,B false,B false,B false,B false]):=⟨Al103⟩
instance:AlC Tryz.prog 108 (.agg #[I 0,I 0,B false]):=⟨Al108⟩
instance:AlC Tryz.prog 109 (.nilFunc):=⟨Al109⟩
instance:AlC Tryz.prog 111 (.agg #[.nilFunc]):=⟨Al111⟩
instance:AlC Tryz.prog 126 (.nilFunc):=⟨Al126⟩
instance:BdC Tryz.prog 24 [(0,1),(1,1)]:=⟨_,Tryz.underlying24,Bd24 Tryz.underlying24⟩
instance:BdC Tryz.prog 28 [(0,2),(2,1),(3,1),(4,1),(5,1),(6,1)]:=⟨_,Tryz.underlying28,Bd28 Tryz.underlying28⟩
instance:BdC Tryz.prog 40 [(0,1),(1,1),(2,1),(3,1),(4,2),(6,1)]:=⟨_,Tryz.underlying40,Bd40 Tryz.underlying40⟩
instance:BdC Tryz.prog 44 [(0,1),(1,1),(2,1)]:=⟨_,Tryz.underlying44,Bd44 Tryz.underlying44⟩
instance:BdC Tryz.prog 49 [(0,1),(1,1)]:=⟨_,Tryz.underlying49,Bd49 Tryz.underlying49⟩
instance:BdC Tryz.prog 57 [(0,1),(1,1)]:=⟨_,Tryz.underlying57,Bd57 Tryz.underlying57⟩
instance:BdC Tryz.prog 59 [(0,1),(1,2),(3,2)]:=⟨_,Tryz.underlying59,Bd59 Tryz.underlying59⟩
instance:BdC Tryz.prog 61 [(0,1),(1,1),(2,1)]:=⟨_,Tryz.underlying61,Bd61 Tryz.underlying61⟩
instance:BdC Tryz.prog 90 [(0,7),(7,1)]:=⟨_,Tryz.underlying90,Bd90 Tryz.underlying90⟩
instance:BdC Tryz.prog 99 [(0,1),(1,1)]:=⟨_,Tryz.underlying99,Bd99 Tryz.underlying99⟩
instance:BdC Tryz.prog 108 [(0,1),(1,1),(2,1)]:=⟨_,Tryz.underlying108,Bd108 Tryz.underlying108⟩
instance:BdC Tryz.prog 111 [(0,1)]:=⟨_,Tryz.underlying111,Bd111 Tryz.underlying111⟩
instance:BdC Tryz.prog 137 [(0,7),(7,1),(8,40)]:=⟨_,Tryz.underlying137,Bd137 Tryz.underlying137⟩
instance:AlC Tryz.prog 137 (.agg (List.flatten [[I 0,I 0,I 0,I 0,I 0,.slice none 0 0,.slice none 0 0,.map none],encF (α:=Bool) (List.replicate 40 false)]).toArray):=⟨Al137⟩
end Go.Proofs.YtdmdhmineljlhabGreat
namespace Go.Nm
open Go
abbrev encDm (d:Dem):Value:=.agg #[I d.spring,I d.town]
end Go.Nm
namespace Go.Proofs.YtdmdhmineljlhabGreat
open Go Go.Nm Go.Proofs
theorem findAskDm {ν:Type} (k:Dem) (w:World):∀ (es:List MapEntry) (m:List (Dem × ν)) (venc:ν->Value) (j:Nat),es.map (fun e=>(e.key,e.val))=m.map (fun p=>(encDm p.1,venc p.2)) →
    (Instr.findAsking 49 (encDm k) es j).run Tryz.prog w = .ok ((idxM m k).bind fun i=>(es[i]?).map fun e=>(i+j,e.val)) w
  | [],[],_,_,_=>rfl
  | [],_ :: _,_,_,h=>by simp at h
  | _ :: _,[],_,_,h=>by simp at h
  | e :: es,p :: m,venc,j,h=>by
    simp only [List.map_cons,List.cons.injEq,Prod.mk.injEq] at h
    have ih:=findAskDm k w es m venc (j+1) h.2
    unfold Instr.findAsking
    rw [h.1.1]
    have he:=eqT49 k p.1 w
    unfold idxM
    by_cases hp:p.1=k
    · rw [if_pos hp]
      have:decide (k=p.1)=true:=by simp [hp]
      rw [this] at he
      simp [Op.equal,Op.maxDepth,he]
    · rw [if_neg hp]
      have:decide (k=p.1)=false:=by simp; exact fun e=>hp e.symm
      rw [this] at he
      simp only [Op.equal,Op.maxDepth,Sem.run_bind,he,Result.andThen_ok,Bool.false_eq_true,if_false,ih]
      cases hi:idxM m k with
      | none=>rfl
      | some i =>
        simp only [Option.map_some,Option.bind_some,List.getElem?_cons_succ]
        cases es[i]? with
        | none=>rfl
        | some e'=>simp; omega
theorem keyDem {ν:Type}:KeyL (ν:=ν) Tryz.prog 49 encDm:=by
  refine ⟨fun e w k=>?_,fun w es m venc k h=>?_,fun k=>?_⟩
  · have u3:=Tryz.underlying3
    have a3:=Tryz.isAgg3
    have z3:=Tryz.sizeOf3
    have h1:∀ (n:Nat) (x:Int),(Instr.checkKey e (n+1) 3 (I x)).run Tryz.prog w = .ok () w:=fun n x=>MapKept.run_checkKey u3 (show MapKept.IsKey (.int .i64) (I x) from rfl) e n
    have key:∀ n:Nat,(Instr.checkKey e (n+1+1) 49 (encDm k)).run Tryz.prog w = .ok () w:=by
      intro n
      rw [Instr.checkKey]
      simp only [Sem.run_bind,run_underlying Tryz.underlying49,Result.andThen_ok]
      rw [← Array.forIn_toList]
      simp only [List.forIn_cons,List.forIn_nil]
      go_simp
    exact key 9998
  · rw [run_findKey_eq w (by rw [Tryz.underlying49]),findAskDm k w es m venc 0 h]
    rfl
  · simp [Instr.sameBits]
end Go.Proofs.YtdmdhmineljlhabGreat
section
set_option maxRecDepth 100000
set_option maxHeartbeats 16000000
namespace Go.Proofs.YtdmdhmineljlhabGreat
open Go Go.Nm
attribute [local irreducible] gd execOp SL SLD SLT WR
def zbo (l:List Span):(Int × Int × Nat)->M ((Int × Int × Nat) ⊕ (Int × Int)):=fun (s,s2,s3) =>
  bif decide ((s3:Int)<(l.length:Int)) then (
  M.grd (decide ((s3:Int)<(l.length:Int))) <|
  M.pure (.inl (max s ((l.getD s3 default).lo),min s2 ((l.getD s3 default).hi),s3+1)))
  else (
  M.pure (.inr (s,s2)))
def zbr (first:Span) (l:List Span):M (Int × Int) :=
  M.bind (M.iter (zbo l) (first.lo,first.hi,0)) fun (s4,s5) =>
  M.pure (s4,s5)
theorem zb1 {R:List Chunk} {ae:Cells} {ab:Value} (first:Span) (l:List Span) (aw:Reads R ae) (ak:Sl ae ab l) {r:(Int × Int)} (hM:(zbr first l).Ends r) (w:World) (H:St w w [] R):Ret Tryz.prog 89 #[.agg #[I first.lo,I first.hi],ab] w fun v w'=>∃ (y0:Int) (y1:Int),(y0,y1)=r/\v = .agg #[I y0,I y1]/\St w w' [] R:=by
 refine ret_of_W Tryz.func89 rfl rfl rfl ?_;refine kg 2 ?_;refine t_bx [I first.lo,I first.hi] H rfl ?_;intro ag ax H;refine t_alloc (cs:=[I 0,I 0]) H Al24 rfl ?_;intro ah ay H
 have az:=(ak).len_le
 refine kg 9 ?_;obtain ⟨al,ac,am⟩:=M.e_bind hM
 obtain ⟨aA,ac⟩:=M.e_iter ac
 refine W.loop (fun m σ W=>∃ (s:Int) (s2:Int) (s3:Nat) (ρ:Env),σ=upds ρ [(2,Pq ag),(4,Pq ah),(7,ab),(8,I (l.length:Int)),(9,I (s3:Int))]/\M.iterN (zbo l) m (s,s2,s3)=some al/\St w W [cBlk ah [I 0,I 0] 24,cBlk ag [I s,I s2] 24] R) ?_ ?_
 ·exact ⟨_,first.lo,first.hi,0,_,upds_of _ _ ⟨rfl,rfl,rfl,rfl,rfl,trivial⟩,ac,H⟩
 rintro aB σ aC ⟨s,s2,s3,ρ,rfl,ai,H⟩
 obtain ⟨ao,ap,aD,hM,aj⟩:=M.e_iterN ai
 simp only [zbo] at hM
 clear ai;refine kg 5 ?_
 refine W.cond (decide ((s3:Int)<(l.length:Int))) rfl (fun aa=>?_) (fun aa=>?_)
 ·replace hM:=M.e_t hM aa
  replace aa:=dI aa
  obtain ⟨aE,hM⟩:=M.e_gd hM;refine kg 7 ?_;refine t_alloc (cs:=[I 0,I 0]) H Al24 rfl ?_;intro aF aG H;refine t_sw 0 0 [I ((l.getD s3 default).lo),I ((l.getD s3 default).hi)] (.agg #[I ((l.getD s3 default).lo),I ((l.getD s3 default).hi)]) H rfl rfl Sz24 rfl rfl rfl rfl ?_;intro aH H;refine kg 12 ?_;refine s_val (x_bld (ps:=[(0,I (max s ((l.getD s3 default).lo))),(1,I (min s2 ((l.getD s3 default).hi)))]) (zs:=[I 0,I 0]) (L':=[I (max s ((l.getD s3 default).lo)),I (min s2 ((l.getD s3 default).hi))]) rfl Tryz.underlying24 Al24 rfl (Bd24 Tryz.underlying24) (.cons (cs:=[I (max s ((l.getD s3 default).lo))]) rfl rfl rfl rfl rfl<|.cons (cs:=[I (min s2 ((l.getD s3 default).hi))]) rfl rfl rfl rfl rfl<|.nil)) ?_;refine t_sw 2 0 [I (max s ((l.getD s3 default).lo)),I (min s2 ((l.getD s3 default).hi))] (.agg #[I (max s ((l.getD s3 default).lo)),I (min s2 ((l.getD s3 default).hi))]) H rfl rfl Sz24 rfl rfl rfl rfl ?_;intro aI H;refine kg 5 ?_
  exact ⟨ao,ap,max s ((l.getD s3 default).lo),min s2 ((l.getD s3 default).hi),s3+1,_,upds_of _ _ ⟨rfl,rfl,rfl,rfl,rfl,trivial⟩,M.e_inl hM aj,(H.pk [1,2])⟩
 replace hM:=M.e_f hM aa
 replace aa:=dI aa
 refine W.exit ?_
 have aq:=M.e_inr hM aj
 subst aq;replace hM:=am;(try dsimp only at hM);refine kg 3 ?_;refine t_sw 0 0 [I s,I s2] (.agg #[I s,I s2]) H rfl rfl Sz24 rfl rfl rfl rfl ?_;intro aJ H;refine s_nil ?_;refine W.ret ?_
 have au:=(H.bl 0)
 have av:=M.e_pure hM
 exact ⟨_,(resE_of1 (v:=.agg #[I s,I s2]) rfl (.cell (v:=.agg #[I s,I s2]) rfl (run_loadVar_ag (ds:=[I s,I s2]) Ag24 Sz24 au rfl rfl)<|.nil)),⟨s,s2,av,rfl,(H.pk [])⟩⟩

def zbE (ah ai ac ab ae:Int) (aa:List CMk) (aj:List CNt) (ag:List (Int × CNt)) (mark:Int):M (Int × Int) :=
  M.grd (decide ((0:Int)<=mark)&&decide (mark<(aa.length:Int))) <|
  M.grd (decide ((-9223372036854775808:Int)<=(ab*((aa.getD (Int.toNat mark) default).height)))&&decide ((ab*((aa.getD (Int.toNat mark) default).height))<=(9223372036854775807:Int))) <|
  M.grd (decide ((-9223372036854775808:Int)<=(ac+(ab*((aa.getD (Int.toNat mark) default).height))))&&decide ((ac+(ab*((aa.getD (Int.toNat mark) default).height)))<=(9223372036854775807:Int))) <|
  M.grd (decide ((-9223372036854775808:Int)<=((ac+(ab*((aa.getD (Int.toNat mark) default).height)))-ae))&&decide (((ac+(ab*((aa.getD (Int.toNat mark) default).height)))-ae)<=(9223372036854775807:Int))) <|
  M.grd (decide ((-9223372036854775808:Int)<=((ac+(ab*((aa.getD (Int.toNat mark) default).height)))+ae))&&decide (((ac+(ab*((aa.getD (Int.toNat mark) default).height)))+ae)<=(9223372036854775807:Int))) <|
  bif (lookM ag (mark:Int)).isSome then (
  M.bind (zbr (⟨((ac+(ab*((aa.getD (Int.toNat mark) default).height)))-ae:Int),((ac+(ab*((aa.getD (Int.toNat mark) default).height)))+ae:Int)⟩:Span) ([(⟨(((lookM ag (mark:Int)).getD default).slo:Int),(((lookM ag (mark:Int)).getD default).shi:Int)⟩:Span)])) fun (r0,r1) =>
  M.pure (r0,r1))
  else (
  M.pure (((ac+(ab*((aa.getD (Int.toNat mark) default).height)))-ae),((ac+(ab*((aa.getD (Int.toNat mark) default).height)))+ae)))
theorem zej {R:List Chunk} {au:Nat} {av:Cells} {ah:Value} {aw:Cells} {aj:Value} {ai:Nat} (ak:Int) (al:Int) (ab:Int) (ac:Int) (aa:Int) (ae:List CMk) (ax:List CNt) (ag:List (Int × CNt)) (mark:Int) (aA:Reads R av) (aB:Sl av ah ae) (aH:Reads R aw) (aI:Sl aw aj ax) (aC:Has R (cMl I encCN ai ag)) (am:Fld R au [I ak,I al,I ab,I ac,I aa,ah,aj,.map (some ai)]) {r:(Int × Int)} (hM:(zbE ak al ab ac aa ae ax ag mark).Ends r) (w:World) (H:St w w [] R):Ret Tryz.prog 73 #[Pq au,I mark] w fun v w'=>∃ (y0:Int) (y1:Int),(y0,y1)=r/\v = .agg #[I y0,I y1]/\St w w' [] R:=by
 refine ret_of_W Tryz.func73 rfl rfl rfl ?_;refine kg 2 ?_;refine t_alloc (cs:=[I 0,I 0]) H Al24 rfl ?_;intro ay aJ H;refine kg 2 ?_;refine W.draw (fun W=>St w W [cBlk ay [I 0,I 0] 24] R) [(0,true),(1,true),(2,true),(3,true),(4,true),(5,true),(6,true),(7,true),(8,true),(9,true),(10,true),(11,true),(12,true),(13,true),(14,true),(15,true),(16,true),(17,true),(18,true),(19,true),(20,true),(21,true)] mixed (by decide +kernel) rfl ?_;intro aK ao;replace H:=H.ext ao;clear ao
 refine ⟨(H.pk [0]),?_⟩
 refine kg 4 ?_;refine d_q rfl (fun w' H=>x_ld (v:=I ab) rfl (fld_sc (pre:=[I ak,I al,I ab,I ac,I aa,ah,aj,.map (some ai)]) (i:=2) Sc3 (am.at H) rfl)) ?_;refine kg 4 ?_;refine d_q rfl (fun w' H=>x_ld (v:=I ac) rfl (fld_sc (pre:=[I ak,I al,I ab,I ac,I aa,ah,aj,.map (some ai)]) (i:=3) Sc3 (am.at H) rfl)) ?_;refine kg 4 ?_;refine d_q rfl (fun w' H=>x_ld (v:=ah) rfl (fld_sc (pre:=[I ak,I al,I ab,I ac,I aa,ah,aj,.map (some ai)]) (i:=5) Sc25 (am.at H) rfl)) ?_;obtain ⟨aL,hM⟩:=M.e_gd hM;refine kg 3 ?_;refine d_q rfl (fun w' H=>x_ld (v:=I ((ae.getD (Int.toNat mark) default).height)) rfl (ld_sc Sc3 (At.mono (CMk_at1 aB (i:=mark) (by omega) (by omega)) (aA.at H)))) ?_;obtain ⟨aM,hM⟩:=M.e_gd hM;obtain ⟨aN,hM⟩:=M.e_gd hM;refine kg 5 ?_;refine W.draw (fun W=>St w W [cBlk ay [I 0,I 0] 24] R) [(0,true),(1,true),(2,true),(3,true),(4,true),(5,true),(6,true),(7,true),(8,true),(9,true),(10,true),(11,true),(12,true),(13,true),(14,true),(15,false),(16,false)] mixed (by decide +kernel) rfl ?_;intro aO ao;replace H:=H.ext ao;clear ao
 refine ⟨(H.pk [0]),?_⟩
 refine kg 5 ?_;refine d_q rfl (fun w' H=>x_ld (v:=I aa) rfl (fld_sc (pre:=[I ak,I al,I ab,I ac,I aa,ah,aj,.map (some ai)]) (i:=4) Sc3 (am.at H) rfl)) ?_;obtain ⟨aP,hM⟩:=M.e_gd hM;refine kg 6 ?_;refine d_q rfl (fun w' H=>x_ld (v:=I aa) rfl (fld_sc (pre:=[I ak,I al,I ab,I ac,I aa,ah,aj,.map (some ai)]) (i:=4) Sc3 (am.at H) rfl)) ?_;obtain ⟨aQ,hM⟩:=M.e_gd hM;refine kg 1 ?_;refine d_q rfl (fun w' H=>x_bld (ps:=[(0,I ((ab+(ac*((ae.getD (Int.toNat mark) default).height)))-aa)),(1,I ((ab+(ac*((ae.getD (Int.toNat mark) default).height)))+aa))]) (zs:=[I 0,I 0]) (L':=[I ((ab+(ac*((ae.getD (Int.toNat mark) default).height)))-aa),I ((ab+(ac*((ae.getD (Int.toNat mark) default).height)))+aa)]) rfl Tryz.underlying24 Al24 rfl (Bd24 Tryz.underlying24) (.cons (cs:=[I ((ab+(ac*((ae.getD (Int.toNat mark) default).height)))-aa)]) rfl rfl rfl rfl rfl<|.cons (cs:=[I ((ab+(ac*((ae.getD (Int.toNat mark) default).height)))+aa)]) rfl rfl rfl rfl rfl<|.nil))<|d_l rfl ?_;refine t_alloc (cs:=[I 0,I 0]) H Al24 rfl ?_;intro aR aS H
 refine s_nil ⟨(H.pk [1]),?_⟩
 refine d_l rfl ?_;refine t_sw 0 0 [I ((ab+(ac*((ae.getD (Int.toNat mark) default).height)))-aa),I ((ab+(ac*((ae.getD (Int.toNat mark) default).height)))+aa)] (.agg #[I ((ab+(ac*((ae.getD (Int.toNat mark) default).height)))-aa),I ((ab+(ac*((ae.getD (Int.toNat mark) default).height)))+aa)]) H rfl rfl Sz24 rfl rfl rfl rfl ?_;intro aT H
 refine s_nil ⟨(H.pk [1]),?_⟩
 refine kg 7 ?_;refine s_val (x_ld (v:=.map (some ai)) rfl (fld_sc (pre:=[I ak,I al,I ab,I ac,I aa,ah,aj,.map (some ai)]) (i:=7) Sc134 (am.at H) rfl)) ?_;refine kg 1 ?_;refine s_val (q_look (kenc:=I) (venc:=encCN) (f:=lookM ag) (k:=(mark:Int)) (v:=.tuple #[.agg #[I (((lookM ag (mark:Int)).getD default).mark),I (((lookM ag (mark:Int)).getD default).tlo),I (((lookM ag (mark:Int)).getD default).thi),I (((lookM ag (mark:Int)).getD default).slo),I (((lookM ag (mark:Int)).getD default).shi)],B ((lookM ag (mark:Int)).isSome)]) keyIntCN Tryz.underlying134 Al59 rfl rfl (mlMap (aC.at H)) true (by rw [if_pos rfl,cnt_val])) ?_;refine kg 3 ?_;refine t_alloc (cs:=[I 0,I 0,I 0,I 0,I 0]) H Al59 rfl ?_;intro aU aV H;refine t_sw 0 0 [I (((lookM ag (mark:Int)).getD default).mark),I (((lookM ag (mark:Int)).getD default).tlo),I (((lookM ag (mark:Int)).getD default).thi),I (((lookM ag (mark:Int)).getD default).slo),I (((lookM ag (mark:Int)).getD default).shi)] (.agg #[I (((lookM ag (mark:Int)).getD default).mark),I (((lookM ag (mark:Int)).getD default).tlo),I (((lookM ag (mark:Int)).getD default).thi),I (((lookM ag (mark:Int)).getD default).slo),I (((lookM ag (mark:Int)).getD default).shi)]) H rfl rfl Sz59 rfl rfl rfl rfl ?_;intro aW H;refine kg 6 ?_
 refine W.cond ((lookM ag (mark:Int)).isSome) rfl (fun ap=>?_) (fun ap=>?_)
 ·replace hM:=M.e_t hM ap;refine kg 4 ?_;refine t_bs (α:=Span) T36 [.agg #[I (((lookM ag (mark:Int)).getD default).slo),I (((lookM ag (mark:Int)).getD default).shi)]] [(⟨(((lookM ag (mark:Int)).getD default).slo:Int),(((lookM ag (mark:Int)).getD default).shi:Int)⟩:Span)] H rfl (.cons rfl (Flat.rep_enc _ (⟨(((lookM ag (mark:Int)).getD default).slo:Int),(((lookM ag (mark:Int)).getD default).shi:Int)⟩:Span))<|.nil) rfl rfl rfl ?_;intro aD aX H;obtain ⟨aY,aE,hM⟩:=M.e_bind hM;refine s_call cf89 [.agg #[I ((ab+(ac*((ae.getD (Int.toNat mark) default).height)))-aa),I ((ab+(ac*((ae.getD (Int.toNat mark) default).height)))+aa)],aD] rfl (zb1 (⟨((ab+(ac*((ae.getD (Int.toNat mark) default).height)))-aa:Int),((ab+(ac*((ae.getD (Int.toNat mark) default).height)))+aa:Int)⟩:Span) ([(⟨(((lookM ag (mark:Int)).getD default).slo:Int),(((lookM ag (mark:Int)).getD default).shi:Int)⟩:Span)]) (rdo 0) (H.os 0) aE _ (H.gt 4)) ?_
  rintro vq aZ ⟨r0,r1,rfl,hvq,az⟩
  subst vq;(try dsimp only at hM);replace H:=H.bk az;clear az;refine t_sw 2 0 [I r0,I r1] (.agg #[I r0,I r1]) H rfl rfl Sz24 rfl rfl rfl rfl ?_;intro a6 H;refine s_nil ?_;replace H:=H.pk [2,3];refine kg 3 ?_;refine t_sw 1 0 [I r0,I r1] (.agg #[I r0,I r1]) H rfl rfl Sz24 rfl rfl rfl rfl ?_;intro a7 H;refine s_nil ?_;refine W.ret ?_
  have aF:=(H.bl 1)
  have aq:=M.e_pure hM
  exact ⟨_,(resE_of1 (v:=.agg #[I r0,I r1]) rfl (.cell (v:=.agg #[I r0,I r1]) rfl (run_loadVar_ag (ds:=[I r0,I r1]) Ag24 Sz24 aF rfl rfl)<|.nil)),⟨r0,r1,aq,rfl,(H.pk [])⟩⟩
 replace hM:=M.e_f hM ap;refine kg 4 ?_;refine t_sw 2 0 [I ((ab+(ac*((ae.getD (Int.toNat mark) default).height)))-aa),I ((ab+(ac*((ae.getD (Int.toNat mark) default).height)))+aa)] (.agg #[I ((ab+(ac*((ae.getD (Int.toNat mark) default).height)))-aa),I ((ab+(ac*((ae.getD (Int.toNat mark) default).height)))+aa)]) H rfl rfl Sz24 rfl rfl rfl rfl ?_;intro a8 H;refine s_nil ?_;replace H:=H.pk [2];refine W.ret ?_
 have aG:=(H.bl 0)
 have aq:=M.e_pure hM
 exact ⟨_,(resE_of1 (v:=.agg #[I ((ab+(ac*((ae.getD (Int.toNat mark) default).height)))-aa),I ((ab+(ac*((ae.getD (Int.toNat mark) default).height)))+aa)]) rfl (.cell (v:=.agg #[I ((ab+(ac*((ae.getD (Int.toNat mark) default).height)))-aa),I ((ab+(ac*((ae.getD (Int.toNat mark) default).height)))+aa)]) rfl (run_loadVar_ag (ds:=[I ((ab+(ac*((ae.getD (Int.toNat mark) default).height)))-aa),I ((ab+(ac*((ae.getD (Int.toNat mark) default).height)))+aa)]) Ag24 Sz24 aG rfl rfl)<|.nil)),⟨((ab+(ac*((ae.getD (Int.toNat mark) default).height)))-aa),((ab+(ac*((ae.getD (Int.toNat mark) default).height)))+aa),aq,rfl,(H.pk [])⟩⟩

def zaT (s:List Span) (f:Span->M Bool):Nat->M (Nat ⊕ (Int ⊕ Unit)):=fun s2 =>
  bif decide ((s2:Int)<(s.length:Int)) then (
  M.grd (decide ((s2:Int)<(s.length:Int))) <|
  M.bind (f (s.getD s2 default)) fun r2 =>
  bif r2 then (
  M.pure (.inr (.inl (s2:Int))))
  else (
  M.pure (.inl (s2+1))))
  else (
  M.pure (.inr (.inr ())))
def zcy (s:List Span) (f:Span->M Bool):M Int :=
  M.bind (M.iter (zaT s f) 0) fun x_=>match x_ with
  | (.inl s3)=>(
  M.pure s3)
  | (.inr (_:Unit))=>(
  M.pure (-1))
theorem zdT {R:List Chunk} {aj:Cells} {ab:Value} {ac:Value} (s:List Span) (f:Span->M Bool) (ay:Reads R aj) (am:Sl aj ab s) (ao:FnM Tryz.prog R ac f) {r:Int} (hM:(zcy s f).Ends r) (w:World) (H:St w w [] R):Ret Tryz.prog 115 #[ab,ac] w fun v w'=>∃ (y0:Int),y0=r/\v=I y0/\St w w' [] R:=by
 refine ret_of_W Tryz.func115 rfl rfl rfl ?_
 have az:=(am).len_le
 refine kg 12 ?_;obtain ⟨ap,ae,ak⟩:=M.e_bind hM
 obtain ⟨aA,ae⟩:=M.e_iter ae
 refine W.loop (fun m σ W=>∃ (s2:Nat) (ρ:Env),σ=upds ρ [(0,ab),(1,ac),(7,I (s.length:Int)),(8,I (s2:Int))]/\M.iterN (zaT s f) m s2=some ap/\St w W [] R) ?_ ?_
 ·exact ⟨_,0,_,upds_of _ _ ⟨rfl,rfl,rfl,rfl,trivial⟩,ae,H⟩
 rintro aB σ aC ⟨s2,ρ,rfl,al,H⟩
 obtain ⟨aq,au,aD,hM,ag⟩:=M.e_iterN al
 simp only [zaT] at hM
 clear al;refine kg 5 ?_
 refine W.cond (decide ((s2:Int)<(s.length:Int))) rfl (fun aa=>?_) (fun aa=>?_)
 ·replace hM:=M.e_t hM aa
  replace aa:=dI aa
  obtain ⟨aE,hM⟩:=M.e_gd hM;refine kg 15 ?_;obtain ⟨r2,av,hM⟩:=M.e_bind hM;refine t_callM H ao rfl rfl (s.getD s2 default) Reads.none ⟨_,rfl,rfl⟩ av ?_;intro aF H;refine s_nil ?_
  refine W.cond r2 rfl (fun ah=>?_) (fun ah=>?_)
  ·replace hM:=M.e_t hM ah;refine kg 5 ?_;refine W.ret ?_
   have aw:=M.e_inr hM ag
   subst aw;replace hM:=ak;(try dsimp only at hM)
   have ai:=M.e_pure hM
   exact ⟨_,resE_tmp rfl,⟨(s2:Int),ai,rfl,H⟩⟩
  replace hM:=M.e_f hM ah;refine kg 5 ?_
  exact ⟨aq,au,s2+1,_,upds_of _ _ ⟨rfl,rfl,rfl,rfl,trivial⟩,M.e_inl hM ag,H⟩
 replace hM:=M.e_f hM aa
 replace aa:=dI aa
 refine W.exit ?_
 have ax:=M.e_inr hM ag
 subst ax;replace hM:=ak;(try dsimp only at hM);refine kg 4 ?_;refine W.ret ?_
 have ai:=M.e_pure hM
 exact ⟨_,resE_tmp rfl,⟨(-1),ai,rfl,H⟩⟩

def zcv (s:List Span) (f:Span->M Bool):M Bool :=
  M.bind (zcy s f) fun r2 =>
  M.pure (decide (0<=r2))
theorem zd2 {R:List Chunk} {ac:Cells} {aa:Value} {ab:Value} (s:List Span) (f:Span->M Bool) (ag:Reads R ac) (ah:Sl ac aa s) (ai:FnM Tryz.prog R ab f) {r:Bool} (hM:(zcv s f).Ends r) (w:World) (H:St w w [] R):Ret Tryz.prog 92 #[aa,ab] w fun v w'=>∃ (y0:Bool),y0=r/\v=B y0/\St w w' [] R:=by
 refine ret_of_W Tryz.func92 rfl rfl rfl ?_;refine kg 8 ?_;obtain ⟨al,aj,hM⟩:=M.e_bind hM;refine s_call cf115 [aa,ab] rfl (zdT s f (ag.app _) ah (ai.app _) aj _ (H.gt 0)) ?_
 rintro vq am ⟨r2,rfl,hvq,ae⟩
 subst vq;(try dsimp only at hM);replace H:=H.bk ae;clear ae;refine kg 3 ?_;refine W.ret ?_
 have ak:=M.e_pure hM
 exact ⟨_,resE_tmp rfl,⟨(decide (0<=r2)),ak,rfl,H⟩⟩

def zbz (x:Span) (aa:Span->M Bool):M Bool :=
  M.bind (aa x) fun r2 =>
  M.pure (!r2)
theorem zeu {R:List Chunk} {aa:Nat} {ab:Value} (x:Span) (ac:Span->M Bool) (ae:FnM Tryz.prog R ab ac) (ai:Has R (cBlk aa [ab] 120)) {r:Bool} (hM:(zbz x ac).Ends r) (w:World) (H:St w w [] R):Ret Tryz.prog 93 #[.agg #[I x.lo,I x.hi],Pq aa] w fun v w'=>∃ (y0:Bool),y0=r/\v=B y0/\St w w' [] R:=by
 refine ret_of_W Tryz.func93 rfl rfl rfl ?_;refine kg 2 ?_;refine t_bx [I x.lo,I x.hi] H rfl ?_;intro aj ak H;refine kg 6 ?_;obtain ⟨r2,ag,hM⟩:=M.e_bind hM;refine t_callM H ae rfl rfl x Reads.none ⟨_,rfl,rfl⟩ ag ?_;intro al H;refine kg 3 ?_;refine W.ret ?_
 have ah:=M.e_pure hM
 exact ⟨_,resE_tmp rfl,⟨(!r2),ah,rfl,(H.pk [])⟩⟩

def zbt (l:List Span) (so:Span->M Bool):M Bool :=
  M.bind (zcv l (fun aa=>zbz aa so)) fun r2 =>
  M.pure (!r2)
theorem zdh {R:List Chunk} {ag:Cells} {ab:Value} {aa:Value} (l:List Span) (so:Span->M Bool) (ak:Reads R ag) (al:Sl ag ab l) (ah:FnM Tryz.prog R aa so) {r:Bool} (hM:(zbt l so).Ends r) (w:World) (H:St w w [] R):Ret Tryz.prog 74 #[ab,aa] w fun v w'=>∃ (y0:Bool),y0=r/\v=B y0/\St w w' [] R:=by
 refine ret_of_W Tryz.func74 rfl rfl rfl ?_;refine kg 2 ?_;refine t_box (v:=aa) (cs:=[aa]) H rfl (FnM.cells ah) ?_;intro ac az H;refine kg 5 ?_;refine s_val (x_mf (fs:=[]) (cs:=[Pq ac]) rfl rfl) ?_;obtain ⟨aA,am,hM⟩:=M.e_bind hM;refine s_call cf92 [ab,.func (.func 93) #[] #[Pq ac]] rfl (zd2 l (fun ae=>zbz ae so) (ak.app _) al ⟨93,[Pq ac],rfl,cf93,fun ai aB aC ao ae aD ap aE aq au=>by obtain rfl:=Span_arg aq; exact (zeu ae so (FnM.app (ah.app _) _) (Has.app (Has.here (k:=0) rfl) _) au ai (St.refl ap)).mono fun ao ai ⟨aF,av,aw,ax⟩=>by subst av; exact ⟨aw,ax⟩⟩ am _ (H.gt 1)) ?_
 rintro vq aG ⟨r2,rfl,hvq,aj⟩
 subst vq;(try dsimp only at hM);replace H:=H.bk aj;clear aj;refine kg 3 ?_;refine W.ret ?_
 have ay:=M.e_pure hM
 exact ⟨_,resE_tmp rfl,⟨(!r2),ay,rfl,(H.pk [])⟩⟩

def zcf (s:Span):M Bool :=
  M.pure (decide (s.lo<=s.hi))
theorem zep {R:List Chunk}  (s:Span)  {r:Bool} (hM:(zcf s).Ends r) (w:World) (H:St w w [] R):Ret Tryz.prog 75 #[.agg #[I s.lo,I s.hi]] w fun v w'=>∃ (y0:Bool),y0=r/\v=B y0/\St w w' [] R:=by
 refine ret_of_W Tryz.func75 rfl rfl rfl ?_;refine kg 2 ?_;refine t_bx [I s.lo,I s.hi] H rfl ?_;intro ab ac H;refine kg 11 ?_;refine W.ret ?_
 have aa:=M.e_pure hM
 exact ⟨_,resE_tmp rfl,⟨(decide (s.lo<=s.hi)),aa,rfl,(H.pk [])⟩⟩

def za1 (ab ac ae ag ah:Int) (aa:List CMk) (ai:List CNt) (aj:List (Int × CNt)):(Nat × (List Span))->M ((Nat × (List Span)) ⊕ ((List Span) × (List Span))):=fun (s,l) =>
  bif decide ((s:Int)<(aa.length:Int)) then (
  M.bind (zbE ab ac ae ag ah aa ai aj (s:Int)) fun (r0,r1) =>
  M.grd (decide ((l.length+([(⟨(r0:Int),(r1:Int)⟩:Span)]).length)*16<=140737488355328)) <|
  M.pure (.inl (s+1,l++([(⟨(r0:Int),(r1:Int)⟩:Span)]))))
  else (
  M.pure (.inr (l,l)))
def za9 (aa ab ac ae ag:Int) (ah:List CMk) (ai:List CNt) (aj:List (Int × CNt)):M ((List Span) × Bool) :=
  M.bind (M.iter (za1 aa ab ac ae ag ah ai aj) (0,[])) fun (l2,l3) =>
  M.bind (zbt l3 (fun ak=>zcf ak)) fun r2 =>
  M.pure (l3,r2)
theorem zdn {R:List Chunk} {al:Nat} {ax:Cells} {am:Value} {ay:Cells} {aq:Value} {au:Nat} (ac:Int) (ae:Int) (ag:Int) (ah:Int) (ai:Int) (ab:List CMk) (ao:List CNt) (ap:List (Int × CNt)) (aE:Reads R ax) (az:Sl ax am ab) (aF:Reads R ay) (aG:Sl ay aq ao) (aH:Has R (cMl I encCN au ap)) (aA:Fld R al [I ac,I ae,I ag,I ah,I ai,am,aq,.map (some au)]) {r:((List Span) × Bool)} (hM:(za9 ac ae ag ah ai ab ao ap).Ends r) (w:World) (H:St w w [] R):Ret Tryz.prog 48 #[Pq al] w fun v w'=>∃ (y0:List Span) (y1:Bool) (u0:Value),(y0,y1)=r/\v = .tuple #[u0,B y1]/\St w w' [cOwn (α:=Span) 24 u0 y0] R:=by
 refine ret_of_W Tryz.func48 rfl rfl rfl ?_;refine kg 16 ?_;refine s_val (x_ld (v:=am) rfl (fld_sc (pre:=[I ac,I ae,I ag,I ah,I ai,am,aq,.map (some au)]) (i:=5) Sc25 (aA.at H) rfl)) ?_
 have aZ:=(az).len_le
 refine kg 4 ?_
 replace H:=H.nilOwn (α:=Span) 24
 obtain ⟨aI,av,aJ⟩:=M.e_bind hM
 obtain ⟨a6,av⟩:=M.e_iter av
 refine W.loop (fun m σ W=>∃ (s:Nat) (l:List Span) (aj:Value) (ρ:Env),σ=upds ρ [(0,Pq al),(4,aj),(11,I (ab.length:Int)),(12,I (s:Int))]/\M.iterN (za1 ac ae ag ah ai ab ao ap) m (s,l)=some aI/\St w W [cOwn (α:=Span) 24 aj l] R) ?_ ?_
 ·exact ⟨_,0,[],(.slice none 0 0),_,upds_of _ _ ⟨rfl,rfl,rfl,rfl,trivial⟩,av,H⟩
 rintro a7 σ a8 ⟨s,l,aj,ρ,rfl,aB,H⟩
 obtain ⟨aK,aL,ba,hM,aC⟩:=M.e_iterN aB
 simp only [za1] at hM
 clear aB;refine kg 5 ?_
 refine W.cond (decide ((s:Int)<(ab.length:Int))) rfl (fun aa=>?_) (fun aa=>?_)
 ·replace hM:=M.e_t hM aa
  replace aa:=dI aa
  refine kg 12 ?_;obtain ⟨bb,aM,hM⟩:=M.e_bind hM;refine s_call cf73 [Pq al,I (s:Int)] rfl (zej ac ae ag ah ai ab ao ap (s:Int) (aE.app _) az (aF.app _) aG (aH.app _) (aA.app _) aM _ (H.gt 1)) ?_
  rintro vq bc ⟨r0,r1,rfl,hvq,ak⟩
  subst vq;(try dsimp only at hM);replace H:=H.bk ak;clear ak;refine t_bs (α:=Span) T36 [.agg #[I r0,I r1]] [(⟨(r0:Int),(r1:Int)⟩:Span)] H rfl (.cons rfl (Flat.rep_enc _ (⟨(r0:Int),(r1:Int)⟩:Span))<|.nil) rfl rfl rfl ?_;intro aN bf H;obtain ⟨bg,hM⟩:=M.e_gd hM;refine t_app (α:=Span) (k:=1) (l:=l) (l2:=[(⟨(r0:Int),(r1:Int)⟩:Span)]) (l':=l++([(⟨(r0:Int),(r1:Int)⟩:Span)])) (vy:=aN) T36 rfl H rfl rfl rfl (H.os 0) (H.ol 0) (rfl) (by first | omega | (simp only [List.length_nil] at *; omega)) ?_;intro aO bh H;replace H:=H.nf;refine kg 6 ?_
  exact ⟨aK,aL,s+1,l++([(⟨(r0:Int),(r1:Int)⟩:Span)]),aO,_,upds_of _ _ ⟨rfl,rfl,rfl,rfl,trivial⟩,M.e_inl hM aC,(H.pk [1])⟩
 replace hM:=M.e_f hM aa
 replace aa:=dI aa
 refine W.exit ?_
 have aP:=M.e_inr hM aC
 subst aP;replace hM:=aJ;(try dsimp only at hM);refine kg 4 ?_;obtain ⟨bi,aQ,hM⟩:=M.e_bind hM;refine s_call cf74 [aj,.func (.func 75) #[] #[]] rfl (zdh l (fun aw=>zcf aw) (rdo 0) (H.os 0) ⟨75,[],rfl,cf75,fun aD bj bm aR aw bn aS bo aT aU=>by obtain rfl:=Span_arg aT; exact (zep aw aU aD (St.refl aS)).mono fun aR aD ⟨bp,aV,aW,aX⟩=>by subst aV; exact ⟨aW,aX⟩⟩ aQ _ (H.gt 1)) ?_
 rintro vq br ⟨r2,rfl,hvq,ak⟩
 subst vq;(try dsimp only at hM);replace H:=H.bk ak;clear ak;refine kg 3 ?_;refine W.ret ?_
 have aY:=M.e_pure hM
 exact ⟨_,resE_tmp2 rfl,⟨l,r2,aj,aY,rfl,H⟩⟩

def zdw (s:List Span):M (List Span) :=
  M.grd (decide (0<s.length)) <|
  M.grd (decide ((([]:List Span).length+s.length)*16<=140737488355328)) <|
  M.pure s
theorem zek {R:List Chunk} {ab:Cells} {aa:Value} (s:List Span) (ag:Reads R ab) (ac:Sl ab aa s) {r:(List Span)} (hM:(zdw s).Ends r) (w:World) (H:St w w [] R):Ret Tryz.prog 86 #[aa] w fun v w'=>∃ (y0:List Span) (u0:Value),y0=r/\v=u0/\St w w' [cOwn (α:=Span) 24 u0 y0] R:=by
 refine ret_of_W Tryz.func86 rfl rfl rfl ?_;obtain ⟨aj,hM⟩:=M.e_gd hM;refine kg 8 ?_;refine s_val (x_eqnilp (α:=Span) T36.und rfl rfl ac (by omega))<|s_nil ?_
 refine W.cond false rfl (fun ae=>?_) (fun ae=>?_)
 ·skip
  exact absurd ae (by decide)
 skip
 refine kg 3 ?_;refine t_bs0 (α:=Span) T36 H ?_;intro ak al H;obtain ⟨am,hM⟩:=M.e_gd hM;refine kg 1 ?_;refine t_app (α:=Span) (k:=0) (l:=[]) (l2:=s) (l':=s) (vy:=aa) T36 rfl H rfl rfl rfl ac (ag.at H) (List.nil_append _) (by first | omega | (simp only [List.length_nil] at *; omega)) ?_;intro ah ao H;replace H:=H.nf;refine kg 2 ?_;refine W.ret ?_
 have ai:=M.e_pure hM
 exact ⟨_,resE_tmp rfl,⟨s,ah,ai,rfl,H⟩⟩

end Go.Proofs.YtdmdhmineljlhabGreat
end
namespace Go.Proofs
open Go.Shelf
def Tryz.layMul_ren:Go.Shelf.Ren:=⟨fun | 212=>114 | 263=>124 | 264=>125 | n=>n,fun | 46=>143 | 51=>166 | 146=>183 | 53=>168 | 148=>185 | n=>n,fun | n=>n⟩
theorem Tryz.layMul:Go.Proofs.Lays.n212 Tryz.prog Tryz.layMul_ren:={
  mixed:=by kernel_rfl
  f212:=Tryz.func114.trans (congrArg some (by kernel_rfl))
  f263:=Tryz.func124.trans (congrArg some (by kernel_rfl))
  f264:=Tryz.func125.trans (congrArg some (by kernel_rfl))
  t46:=Tryz.underlying143
  a46:=Tryz.isAgg143
  z46:=Tryz.sizeOf143
  v46:=Tryz.zeroValue143
  t51:=Tryz.underlying166
  a51:=Tryz.isAgg166
  z51:=Tryz.sizeOf166
  v51:=Tryz.zeroValue166
  t53:=Tryz.underlying168
  a53:=Tryz.isAgg168
  z53:=Tryz.sizeOf168
  v53:=Tryz.zeroValue168
  t146:=Tryz.underlying183
  a146:=Tryz.isAgg183
  z146:=Tryz.sizeOf183
  v146:=Tryz.zeroValue183
  t148:=Tryz.underlying185
  a148:=Tryz.isAgg185
  z148:=Tryz.sizeOf185
  v148:=Tryz.zeroValue185 }
end Go.Proofs
namespace Go.Proofs.YtdmdhmineljlhabGreat
open Go Go.Nm Go.Proofs
theorem mul_any {n:Int} (h0:0<=n) (h1:n<=9223372036854775807) (w:World):Ret Tryz.prog 114 #[.int .u64 1,.int .u64 n] w fun v w'=>v = .tuple #[.int .u64 0,.int .u64 n]/\Ext w w':=by
  have h:=Any.bits_Mul Tryz.layMul 1 n.toNat (by omega) (by omega) w
  have e:((n.toNat:Nat):Int)=n:=Int.toNat_of_nonneg h0
  rw [Nat.one_mul,Nat.div_eq_of_lt (by omega),Nat.mod_eq_of_lt (by omega),e] at h
  refine Calls.mono h ?_
  rintro _ w' ⟨rfl,rfl⟩
  exact ⟨_,rfl,rfl,Ext.refl w'⟩
end Go.Proofs.YtdmdhmineljlhabGreat
namespace Go.Nm
open Go
theorem fm_take {α:Type} [Flat α]:∀ (l:List α) (n:Nat),(l.flatMap Flat.enc:List Value).take (n*Elt.sz α)=(l.take n).flatMap Flat.enc
  | [],n=>by simp
  | x :: l,0=>by simp
  | x :: l,n+1=>by
    have hx:(Flat.enc x:List Value).length=Elt.sz α:=Flat.enc_len x
    rw [List.flatMap_cons,List.take_append,List.take_of_length_le (by rw [hx,Nat.succ_mul]; omega),hx,show (n+1)*Elt.sz α-Elt.sz α=n*Elt.sz α by rw [Nat.succ_mul]; omega,fm_take l n]
    rfl
theorem fm_drop {α:Type} [Flat α]:∀ (l:List α) (n:Nat),(l.flatMap Flat.enc:List Value).drop (n*Elt.sz α)=(l.drop n).flatMap Flat.enc
  | [],n=>by simp
  | x :: l,0=>by simp
  | x :: l,n+1=>by
    have hx:(Flat.enc x:List Value).length=Elt.sz α:=Flat.enc_len x
    rw [List.flatMap_cons,List.drop_append,List.drop_eq_nil_of_le (by rw [hx,Nat.succ_mul]; omega),hx,show (n+1)*Elt.sz α-Elt.sz α=n*Elt.sz α by rw [Nat.succ_mul]; omega,fm_drop l n]
    rfl
theorem run_copy_rowS {P:Program} (w:World) (dT sT ty elem:TypeId) (g o dLen dCap:Nat) (a:Addr) (sLen sCap:Nat) (cur:Array Value) (t:TypeId) (cs:List Value) (s:Nat)
    (hu:P.underlying dT=some (.slice elem)) (hs:(P.info? elem).map (·.size)=some s)
    (hg:w.heap[g]?=some (.cells cur t (0,0))) (hn:cs.length=Nat.min sLen dLen*s)
    (hsrc:∀ j v,cs[j]?=some v->w.cell? (a.add j)=some v) (hfit:o+cs.length<=cur.size) (h1:∀ v∈cs,v.oneCell'=true) :
    (Builtin.copy_ #[dT,sT] ty #[.slice (some ⟨g,o,none⟩) dLen dCap,.slice (some a) sLen sCap]).run P w =
      .ok (goInt (Nat.min sLen dLen)) (w.setRow g (cur.toList.take o++cs++cur.toList.drop (o+cs.length)).toArray):=by
  have hl:=run_loadCells_list (P:=P) w a cs hsrc
  have hst:=run_storeCells_at P g o t cs 0 cur w hg (by simpa using hfit) h1
  cases hq:P.info? elem with
  | none=>simp [hq] at hs
  | some i =>
    have hi:i.size=s:=by simpa [hq] using hs
    subst hi
    rw [hn] at hl
    simp [Builtin.copy_,run_underlying hu,Builtin.lenOf,Builtin.firstCells,sizeOf,typeInfo,hq,hl,hst]
section
variable {P:Program} {w:World} {α:Type} [Flat α]
theorem run_copyF {t ty e by':Nat} {z:Value} (T:SlT P t e (Elt.sz α) by' z) {B:Nat} {v vy:Value} {l l2:List α} (ho:OwnF B e w v l) {o:Nat} (h1:o<l.length) {C:Cells} (hs:Sl C vy l2) (hle:C.Le w.cell?) (h2:0<l2.length) :
    ∃ w',(Builtin.copy_ #[t,t] ty #[sufV (Elt.sz α) v o,vy]).run P w = .ok (I (min l2.length (l.length-o):Nat)) w'/\OwnF B e w' v (l.take o++l2.take (l.length-o)++l.drop (o+min l2.length (l.length-o)))/\Grow B v w w':=by
  obtain ⟨a,c,hvy,hc2,hm2,hh⟩:=hs.ex
  obtain ⟨b,o2,cs0,ha,_,_⟩:=hh 0 l2[0] (by simp)
  subst ha
  have ho':=ho
  unfold OwnF World.ownsRow at ho
  rcases ho.2 with ⟨_,hn⟩ | ⟨g,cap,cur,hv,hb,hg,hc,hm,hcs,htake⟩
  · omega
  · have hsz:(P.info? e).map (·.size)=some (Elt.sz α):=T.size
    have hd:sufV (Elt.sz α) v o = .slice (some ⟨g,o*Elt.sz α,none⟩) (l.length-o) (cap-o):=by
      rw [hv]
      simp only [sufV]
      rw [if_neg (by omega)]
      simp [add_lit]
    have hlen2:((l2.take (l.length-o)).flatMap Flat.enc:List Value).length=Nat.min l2.length (l.length-o)*Elt.sz α:=by
      rw [flat_len,List.length_take,Nat.min_comm]
    have hcur:cur.toList.length=cap*Elt.sz α:=by rw [Array.length_toList,hcs]
    have hmin:Nat.min l2.length (l.length-o)<=l.length-o:=Nat.min_le_right _ _
    have hAB:o*Elt.sz α+Nat.min l2.length (l.length-o)*Elt.sz α<=l.length*Elt.sz α:=by rw [← Nat.add_mul]; exact Nat.mul_le_mul_right _ (by omega)
    have hNc:l.length*Elt.sz α<=cap*Elt.sz α:=Nat.mul_le_mul_right _ hc
    have hr:=run_copy_rowS (P:=P) w t t ty e g (o*Elt.sz α) (l.length-o) (cap-o) ⟨b,o2,none⟩ l2.length c cur e ((l2.take (l.length-o)).flatMap Flat.enc) (Elt.sz α) T.und hsz hg hlen2 (by
        intro j u hj
        obtain ⟨k,x,j',hk,hj',rfl⟩:=flat_inv _ _ _ hj
        rw [List.getElem?_take] at hk
        split at hk
        · obtain ⟨b',o',cs,hab,hrep,hy⟩:=hh k x hk
          simp only [Option.some.injEq,Addr.mk.injEq,and_true] at hab
          obtain ⟨rfl,rfl⟩:=hab
          have hcs:=Flat.rep_iff.1 hrep
          subst hcs
          rw [add_lit,← Nat.add_assoc]
          exact hle _ _ (hy j' u hj')
        · cases hk) (by rw [hlen2,← Array.length_toList,hcur]; omega) (flat_one _)
    rw [← hvy,← hd] at hr
    refine ⟨_,hr,?_,?_⟩
    · have hlen:(l.take o++l2.take (l.length-o)++l.drop (o+min l2.length (l.length-o))).length=l.length:=by simp; omega
      unfold OwnF World.ownsRow
      rw [hlen]
      have e1:cur.toList.take (o*Elt.sz α)=(l.take o).flatMap Flat.enc:=by
        rw [← fm_take,← htake,List.take_take,Nat.min_eq_left (by omega)]
      have e2:(cur.toList.drop (o*Elt.sz α+Nat.min l2.length (l.length-o)*Elt.sz α)).take (l.length*Elt.sz α-(o*Elt.sz α+Nat.min l2.length (l.length-o)*Elt.sz α))=(l.drop (o+min l2.length (l.length-o))).flatMap Flat.enc:=by
        rw [← List.drop_take,htake,← Nat.add_mul,fm_drop]
      refine ⟨by rw [flat_len,hlen],.inr ⟨g,cap,_,hv,hb,setRow_heap w g cur _ e (0,0) hg,hc,hm,?_,?_⟩⟩
      · simp only [List.size_toArray,List.length_append,List.length_take,List.length_drop,hlen2,hcur]
        omega
      · rw [List.flatMap_append,List.flatMap_append,← e1,← e2,hlen2]
        show List.take (l.length*Elt.sz α) (_++_++_)=_
        rw [List.append_assoc,List.take_append,List.take_append,List.length_take,hcur,hlen2]
        rw [Nat.min_eq_left (show o*Elt.sz α<=cap*Elt.sz α by omega)]
        rw [List.take_take,Nat.min_eq_right (show o*Elt.sz α<=l.length*Elt.sz α by omega)]
        rw [List.take_of_length_le (l:=(l2.take (l.length-o)).flatMap Flat.enc) (by rw [hlen2]; omega)]
        rw [Nat.sub_sub,List.append_assoc]
    · refine ⟨rfl,rfl,by simp,fun k _ hk=>?_,fun g' hg'=>(ho'.lt g' hg').1,frozen_setRow _ _ _⟩
      apply setRow_other
      intro e'
      apply hk
      rw [hv,e']
      rfl
variable {all rest:List Oper} {Q:Post} {σ:Env} {d:Nat} {ty:TypeId} {pos:String} {af:Array Edge} {g:Option (Nat × Bool)}
theorem s_copyF {t e by':Nat} {z:Value} {x y:Operand} (T:SlT P t e (Elt.sz α) by' z) {B:Nat} {v vy:Value} {l l2:List α} {o:Nat} {C:Cells} (hx:ev σ x=sufV (Elt.sz α) v o) (hy:ev σ y=vy)
    (ho:OwnF B e w v l) (h1:o<l.length) (hs:Sl C vy l2) (hle:C.Le w.cell?) (h2:0<l2.length)
    (k:∀ w',OwnF B e w' v (l.take o++l2.take (l.length-o)++l.drop (o+min l2.length (l.length-o)))->Grow B v w w'->SL P all Q rest (upd σ d (I (min l2.length (l.length-o):Nat))) w') :
    SL P all Q (⟨some d,.call ⟨.builtin .copy,#[x,y],#[t,t]⟩,ty,pos,af,none⟩ :: rest) σ w:=by
  obtain ⟨w',hr,ho',hg⟩:=run_copyF (ty:=ty) T ho h1 hs hle h2
  refine s_any (v:=I (min l2.length (l.length-o):Nat)) (w':=w') ?_ (k w' ho' hg)
  simp [execOp,resolve,invoke,builtin,hx,hy,hr]
end
end Go.Nm
namespace Go.Nm
open Go
theorem repS_step {l:List Span} {x:Span} {k z:Nat} (h:∀ y∈l.take k,y=x) (hk:k<=l.length) :
    ∀ y∈(l.take (Int.toNat k)++(l.take k).take (l.length-Int.toNat k)++l.drop z).take (k+min (l.take k).length (l.length-Int.toNat k)),y=x:=by
  intro y hy
  rw [List.take_append_of_le_length (by simp; omega)] at hy
  have hy:=List.mem_of_mem_take hy
  rw [show Int.toNat (k:Int)=k from by omega] at hy
  rcases List.mem_append.1 hy with h1 | h1
  · exact h y h1
  · exact h y (List.mem_of_mem_take h1)
theorem repS_done {l:List Span} {x:Span} {n k:Nat} (hl:l.length=n) (h:∀ y∈l.take k,y=x) (hk:n<=k):l=List.replicate n x:=by
  rw [List.take_of_length_le (by omega)] at h
  exact List.eq_replicate_iff.2 ⟨hl,h⟩
theorem repS_init {n:Nat} (x:Span) (h:1<=n):(List.replicate n (⟨0,0⟩:Span)).take 0++[x].take ((List.replicate n (⟨0,0⟩:Span)).length-0)++(List.replicate n (⟨0,0⟩:Span)).drop (0+min [x].length ((List.replicate n (⟨0,0⟩:Span)).length-0))=[x]++List.replicate (n-1) (⟨0,0⟩:Span):=by
  obtain ⟨m,rfl⟩:∃ m,n=m+1:=⟨n-1,by omega⟩
  simp [show min 1 (m+1)=1 from by omega]
end Go.Nm
namespace Go.Proofs.YtdmdhmineljlhabGreat
open Go Go.Nm
theorem cf114:CF Tryz.prog 114:=⟨_,Tryz.func114,rfl,by decide +kernel⟩
theorem cf91:CF Tryz.prog 91:=⟨_,Tryz.func91,rfl,by decide +kernel⟩
set_option maxRecDepth 100000 in
theorem repeat_span {vx:Value} {x:Span} {n:Int} (w:World) (hx:Sl w.cell? vx [x]) (h1:1<=n) (h2:n<=1000):Ret Tryz.prog 91 #[vx,I n] w fun v w'=>OwnF w.heap.size 24 w' v (List.replicate (Int.toNat n) x)/\Ext w w':=by
 refine ret_of_W Tryz.func91 rfl rfl rfl ?_
 have E:=Ext.refl w
 have K1:=KF.refl 0 w
 have hl_hx:=hx.len_le
 have hx:=hx.par
 refine W.seq ?_
 refine W.region rfl ?_
 refine s_val (x_as (v:=.slice none 0 0) rfl) ?_
 refine s_nil ?_
 refine W.seq ?_
 refine W.seq ?_
 refine W.region rfl ?_
 refine s_val (x_mv (v:=I n) rfl) ?_
 refine s_val (x_cmp (kd:=.i64) (a:=n) (b:=0) (r:=decide ((n:Int)<0)) rfl rfl rfl) ?_
 refine s_nil ?_
 refine W.cond (decide ((n:Int)<0)) rfl (fun c2=>?_) (fun c2=>?_)
 ·simp only [decide_eq_true_eq,decide_eq_false_iff_not,beq_iff_eq,bne_iff_ne,beq_eq_false_iff_ne,bne_eq_false_iff_eq,ne_eq,Decidable.not_not] at c2
  exfalso; omega
 ·simp only [decide_eq_true_eq,decide_eq_false_iff_not,beq_iff_eq,bne_iff_ne,beq_eq_false_iff_ne,bne_eq_false_iff_eq,ne_eq,Decidable.not_not] at c2
  refine W.skip ?_
  refine W.seq ?_
  refine W.region rfl ?_
  refine s_val (x_mv (v:=vx) rfl) ?_
  refine s_val (x_lenS T36.und rfl (hx.to K1)) ?_
  refine s_val (x_convU (kd:=.i64) (a:=([x]).length) Tryz.underlying3 Tryz.underlying143 rfl (by omega)) ?_
  refine s_val (x_mv (v:=I n) rfl) ?_
  refine s_val (x_convU (kd:=.i64) (a:=n) Tryz.underlying3 Tryz.underlying143 rfl (by omega)) ?_
  refine s_call cf114 [.int .u64 (([x]).length),.int .u64 n] rfl (mul_any (by omega) (by omega) _) ?_
  rintro _ w3 ⟨rfl,x4⟩
  replace E:=E.trans x4
  replace K1:=K1.ext x4
  clear x4
  refine s_val (x_mv (v:=.tuple #[.int .u64 0,.int .u64 n]) rfl) ?_
  refine s_val (x_ext (vs:=[.int .u64 0,.int .u64 n]) (v:=.int .u64 0) rfl rfl) ?_
  refine s_val (x_ext (vs:=[.int .u64 0,.int .u64 n]) (v:=.int .u64 n) rfl rfl) ?_
  refine s_val (x_as (v:=.int .u64 0) rfl) ?_
  refine s_val (x_as (v:=.int .u64 n) rfl) ?_
  refine s_nil ?_
  refine W.seq ?_
  refine W.seq ?_
  refine W.region rfl ?_
  refine s_val (x_mv (v:=.int .u64 0) rfl) ?_
  refine s_val (x_cmp (kd:=.u64) (a:=0) (b:=0) (r:=decide ((0:Int)<0)) rfl rfl rfl) ?_
  refine s_val (x_mv (v:=B (decide ((0:Int)<0))) rfl) ?_
  refine g_val (!(decide ((0:Int)<0))) (gy_f rfl) (fun hg=>x_mv (v:=.int .u64 n) rfl) ?_
  refine g_val (!(decide ((0:Int)<0))) (gy_f rfl) (fun hg=>x_cmp (kd:=.u64) (a:=n) (b:=9223372036854775807) (r:=decide ((9223372036854775807:Int)<n)) (gd_of (c:=!(decide ((0:Int)<0))) hg (.int .u64 n)) rfl rfl) ?_
  refine s_val (x_por (b:=decide ((0:Int)<0)) (r:=decide ((9223372036854775807:Int)<n)) rfl rfl (fun hb=>gd_of (c:=!(decide ((0:Int)<0))) (by simp_all) (B (decide ((9223372036854775807:Int)<n))))) ?_
  refine s_nil ?_
  refine W.cond (((decide ((0:Int)<0))||(decide ((9223372036854775807:Int)<n)))) rfl (fun c5=>?_) (fun c5=>?_)
  ·skip
   exfalso; simp at c5; omega
  ·skip
   refine W.skip ?_
   refine W.seq ?_
   refine W.region rfl ?_
   refine s_val (x_mv (v:=.int .u64 n) rfl) ?_
   refine s_val (x_conv64 (kd:=.u64) (a:=n) Tryz.underlying143 Tryz.underlying3 rfl (by omega)) ?_
   refine s_mk (α:=Span) T36 ⟨0,0⟩ rfl (n:=n) rfl rfl (by omega) (by omega) (by omega) ?_
   intro v6 w7 ho8 x9
   have z10:=Nat.le_refl w3.heap.size
   have B_v6:=E.size
   have B_v6_K1:=K1.size
   replace E:=E.trans x9
   replace z10:=Nat.le_trans z10 x9.size
   replace K1:=K1.ext x9
   refine s_val (x_as (v:=v6) rfl) ?_
   refine s_nil ?_
   refine W.seq ?_
   refine W.region rfl ?_
   refine s_val (x_mv (v:=v6) rfl) ?_
   refine s_val (x_mv (v:=vx) rfl) ?_
   refine s_copyF (v:=v6) (l:=List.replicate (Int.toNat n) (⟨0,0⟩:Span)) (l2:=[x]) (o:=0) (vy:=vx) T36 ((sufV_zero ho8 2).symm) rfl ho8 (by first | omega | (simp; done) | (simp; omega)) (hx.to K1) (Cells.Le.refl _) (by first | omega | (simp; done) | (simp; omega)) ?_
   intro w11 ho13 g12
   replace E:=E.grow g12 (by omega)
   replace z10:=Nat.le_trans z10 g12.size
   replace K1:=K1.grow g12 (by omega)
   replace ho8:=ho13
   clear g12
   refine s_val (x_as (v:=I ((min ([x]).length ((List.replicate (Int.toNat n) (⟨0,0⟩:Span)).length-0):Nat))) rfl) ?_
   refine s_nil ?_
   refine W.seq ?_
   refine W.block ?_
   refine W.loop (fun m σ W=>∃ (k:Nat) (l:List Span) (vo:Value) (ρ:Env),σ=upds ρ [(7,vo),(8,I k)]/\m=Int.toNat n-k/\Ext w W/\w3.heap.size<=W.heap.size/\OwnF w3.heap.size 24 W vo l/\l.length=Int.toNat n/\1<=k/\k<=Int.toNat n/\(∀ y∈l.take k,y=x)) ?_ ?_
   ·exact ⟨_,1,([x]++List.replicate (Int.toNat n-1) (⟨0,0⟩:Span)),v6,_,upds_of _ _ ⟨rfl,(eqI (by simp; omega)),trivial⟩,rfl,E,z10,(by have hq:=ho8; rw [repS_init (n:=Int.toNat n) x (by omega)] at hq; exact hq),(by simp; omega),(Nat.le_refl _),(by omega),(by simp)⟩
   ·rintro m σ w14 ⟨k,l,vo,ρ,rfl,rfl,E,z10,ho_vo,iv0_0,iv0_1,iv0_2,iv0_3⟩
    refine W.seq ?_
    refine W.seq ?_
    refine W.region rfl ?_
    refine s_val (x_mv (v:=I k) rfl) ?_
    refine s_val (x_mv (v:=vo) rfl) ?_
    refine s_val (x_lenS T36.und rfl (ho_vo.sl.mono (frm_le _ _))) ?_
    refine s_val (x_cmp (kd:=.i64) (a:=k) (b:=l.length) (r:=decide ((k:Int)<l.length)) rfl rfl rfl) ?_
    refine s_nil ?_
    refine W.cond (decide ((k:Int)<l.length)) rfl (fun c15=>?_) (fun c15=>?_)
    ·simp only [decide_eq_true_eq,decide_eq_false_iff_not,beq_iff_eq,bne_iff_ne,beq_eq_false_iff_ne,bne_eq_false_iff_eq,ne_eq,Decidable.not_not] at c15
     refine W.skip ?_
     refine W.block ?_
     refine W.draw (fun W=>Ext w W) [(0,true),(1,true),(2,true),(3,true),(4,true),(5,true),(6,true),(7,false),(8,true),(9,true)] mixed (by decide +kernel) rfl ?_
     intro w16 x17
     replace E:=E.trans x17
     replace z10:=Nat.le_trans z10 x17.size
     replace ho_vo:=ho_vo.ext x17
     clear x17
     refine ⟨E,?_⟩
     refine d_q rfl (fun w' hC=>by have E:=hC; exact x_mv (v:=I k) rfl) ?_
     refine d_q rfl (fun w' hC=>by have E:=hC; exact x_mv (v:=vo) rfl) ?_
     refine d_q rfl (fun w' hC=>by have E:=hC; exact x_mv (v:=I k) rfl) ?_
     refine d_q rfl (fun w' hC=>by have E:=hC; exact x_sl (v:=vo) (u:=sufV 2 vo (Int.toNat k)) (lo':=some (I k)) (hi':=none) (mx':=none) rfl rfl rfl rfl (OwnF.suf (i:=k) T36.und T36.size ho_vo (by omega) (by omega) _)) ?_
     refine d_q rfl (fun w' hC=>by have E:=hC; exact x_mv (v:=vo) rfl) ?_
     refine d_q rfl (fun w' hC=>by have E:=hC; exact x_mv (v:=I k) rfl) ?_
     obtain ⟨u18,hr_u18,hs19⟩:=sl_hi T36.und T36.size ho_vo.sl (j:=k) (by omega) (by omega)
     replace hs19:=hs19.mono (frm_le _ _)
     replace hs19:Sl _ u18 (l.take k):=hs19
     refine d_q rfl (fun w' hC=>by have E:=hC; exact x_sl (v:=vo) (u:=u18) (lo':=none) (hi':=some (I k)) (mx':=none) rfl rfl rfl rfl (hr_u18 _)) ?_
     refine d_l rfl ?_
     refine s_copyF (v:=vo) (l:=l) (l2:=l.take k) (o:=(Int.toNat k)) (vy:=u18) T36 rfl rfl ho_vo (by first | omega | (simp; done) | (simp; omega)) hs19 (Cells.Le.refl _) (by first | omega | (simp; done) | (simp; omega)) ?_
     intro w20 ho22 g21
     replace E:=E.grow g21 (by omega)
     replace z10:=Nat.le_trans z10 g21.size
     replace ho_vo:=ho22
     clear g21
     refine s_nil ⟨E,?_⟩
     refine d_q rfl (fun w' hC=>by have E:=hC; exact x_ari (a:=k) (b:=(min (l.take k).length ((l).length-(Int.toNat k)):Nat)) (r:=k+((min (l.take k).length ((l).length-(Int.toNat k)):Nat))) rfl rfl rfl (by omega)) ?_
     refine d_q rfl (fun w' hC=>by have E:=hC; exact x_as (v:=I (k+((min (l.take k).length ((l).length-(Int.toNat k)):Nat)))) rfl) ?_
     refine d_nil ?_
     have hmk:(l.take k).length=k:=by simp; omega
     exact ⟨_,(by omega),(k+min (l.take k).length (l.length-Int.toNat k)),_,vo,_,upds_of _ _ ⟨rfl,(eqI (by omega)),trivial⟩,rfl,E,z10,(by first | exact ho_vo | simpa using ho_vo),(by simp only [List.length_append,List.length_take,List.length_drop]; omega),(by omega),(by omega),(repS_step iv0_3 (by omega))⟩
    ·simp only [decide_eq_true_eq,decide_eq_false_iff_not,beq_iff_eq,bne_iff_ne,beq_eq_false_iff_ne,bne_eq_false_iff_eq,ne_eq,Decidable.not_not] at c15
     refine W.exit ?_
     refine W.seq ?_
     refine W.region rfl ?_
     refine s_val (x_mv (v:=vo) rfl) ?_
     refine s_val (x_as (v:=vo) rfl) ?_
     refine s_nil ?_
     refine W.ret ?_
     exact ⟨_,resE_tmp rfl,((repS_done iv0_0 iv0_3 (by omega)) ▸ ho_vo.dn (by omega)),E⟩

end Go.Proofs.YtdmdhmineljlhabGreat
namespace Go.Nm
open Go
/-- The times that a note tells. -/
def CNt.time (n:CNt):Span:=⟨n.tlo,n.thi⟩
/-- The times of all marks, by notes. -/
def notedE (k:Nat) (m:List (Int × CNt)):List Span:=(List.range k).map fun i:Nat=>match lookM m (i:Int) with
  | some n=>n.time
  | none=>⟨-100000000,100000000⟩
theorem lookM_at {κ ν:Type} [DecidableEq κ]:∀ {m:List (κ × ν)} {q:Nat} {k:κ} {v:ν},(m.map Prod.fst).Nodup->m[q]?=some (k,v)->lookM m k=some v
  | [],q,k,v,_,h=>by simp at h
  | p :: m,q,k,v,hn,h=>by
    rw [List.map_cons,List.nodup_cons] at hn
    unfold lookM
    cases q with
    | zero =>
      simp only [List.getElem?_cons_zero,Option.some.injEq] at h
      rw [if_pos (by rw [h]),h]
    | succ q =>
      simp only [List.getElem?_cons_succ] at h
      rw [if_neg (fun e=>hn.1 (by rw [e]; exact List.mem_map.2 ⟨_,List.mem_of_getElem? h,rfl⟩))]
      exact lookM_at hn.2 h
theorem lookM_of {κ ν:Type} [DecidableEq κ]:∀ {m:List (κ × ν)} {k:κ} {v:ν},lookM m k=some v->∃ q:Nat,m[q]?=some (k,v)
  | [],k,v,h=>by simp [lookM] at h
  | p :: m,k,v,h=>by
    unfold lookM at h
    split at h
    · rename_i e
      injection h with h
      exact ⟨0,by rw [← e,← h]; rfl⟩
    · obtain ⟨q,hq⟩:=lookM_of h
      exact ⟨q+1,by simpa using hq⟩
/-- What has been told so far. -/
structure NtI (k:Nat) (m:List (Int × CNt)) (left:List Bool) (l:List Span):Prop where
  len:l.length=k
  lf:left.length=m.length
  told:∀ (q:Nat) key v,m[q]?=some (key,v)->left.getD q false=false->l.getD (Int.toNat key) default=v.time
  rest:∀ i,i<k->(∀ (q:Nat) v,m[q]?=some ((i:Int),v)->left.getD q false=true)->l.getD i default=⟨-100000000,100000000⟩
theorem NtI.zero (k:Nat) (m:List (Int × CNt)):NtI k m (List.replicate m.length true) (List.replicate k ⟨-100000000,100000000⟩):=by
  refine ⟨by simp,by simp,fun q key v hq hf=>?_,fun i hi _=>?_⟩
  · have hl:q<m.length:=(List.getElem?_eq_some_iff.1 hq).1
    rw [List.getD_eq_getElem?_getD,List.getElem?_replicate,if_pos hl] at hf
    simp at hf
  · rw [List.getD_eq_getElem?_getD,List.getElem?_replicate,if_pos hi]
    rfl
theorem NtI.step {k:Nat} {m:List (Int × CNt)} {left:List Bool} {l:List Span} (h:NtI k m left l) (hn:(m.map Prod.fst).Nodup) {j:Nat} {key:Int} {v:CNt} (hj:m[j]?=some (key,v)) (hr:∀ (q:Nat) key v,m[q]?=some (key,v)->0<=key/\key<(k:Int)) :
    NtI k m (left.set j false) (l.set (Int.toNat key) v.time):=by
  have hlen:=h.len
  have hlf:=h.lf
  have hjl:j<m.length:=(List.getElem?_eq_some_iff.1 hj).1
  have rj:=hr _ _ _ hj
  refine ⟨by simp [hlen],by simp [hlf],fun q key' v' hq hf=>?_,fun i hi hall=>?_⟩
  · by_cases e:j=q
    · subst e
      rw [hj] at hq
      injection hq with hq
      injection hq with e1 e2
      subst e1 e2
      rw [List.getD_eq_getElem?_getD,List.getElem?_set_self (by omega)]
      rfl
    · rw [List.getD_eq_getElem?_getD,List.getElem?_set_ne e,← List.getD_eq_getElem?_getD] at hf
      have hk:key ≠ key':=fun e2=>by
        subst e2
        have a1:=idxM_at hn hj
        have a2:=idxM_at hn hq
        rw [a1] at a2
        injection a2 with a2
        exact e a2
      have:=h.told q key' v' hq hf
      have r1:=hr _ _ _ hj
      have r2:=hr _ _ _ hq
      have e3:Int.toNat key ≠ Int.toNat key':=fun e3=>hk (by omega)
      rw [List.getD_eq_getElem?_getD,List.getElem?_set_ne e3,← List.getD_eq_getElem?_getD]
      exact this
  · have r1:=hr _ _ _ hj
    have hne:Int.toNat key ≠ i:=fun e=>by
      have:=hall j v (by rw [hj,show ((i:Nat):Int)=key by omega])
      rw [List.getD_eq_getElem?_getD,List.getElem?_set_self (by omega)] at this
      simp at this
    rw [List.getD_eq_getElem?_getD,List.getElem?_set_ne hne,← List.getD_eq_getElem?_getD]
    refine h.rest i hi fun q v' hq=>?_
    have:=hall q v' hq
    by_cases e:j=q
    · subst e
      rw [List.getD_eq_getElem?_getD,List.getElem?_set_self (by omega)] at this
      simp at this
    · rw [List.getD_eq_getElem?_getD,List.getElem?_set_ne e,← List.getD_eq_getElem?_getD] at this
      exact this
theorem NtI.done {k:Nat} {m:List (Int × CNt)} {left:List Bool} {l:List Span} (h:NtI k m left l) (hn:(m.map Prod.fst).Nodup) (h0:∀ j,left.getD j false=false):l=notedE k m:=by
  apply List.ext_getElem?
  intro i
  by_cases hi:i<k
  · have hl:l[i]?=some (l.getD i default):=by rw [List.getD_eq_getElem?_getD,List.getElem?_eq_getElem (by rw [h.len]; exact hi)]; rfl
    rw [hl]
    unfold notedE
    rw [List.getElem?_map,List.getElem?_range hi]
    simp only [Option.map_some]
    congr 1
    cases hm:lookM m (i:Int) with
    | none =>
      refine h.rest i hi fun q v hq=>?_
      rw [lookM_at hn hq] at hm
      cases hm
    | some v =>
      obtain ⟨q,hq⟩:=lookM_of hm
      have:=h.told q i v hq (h0 q)
      simpa using this
  · rw [List.getElem?_eq_none (by rw [h.len]; omega),List.getElem?_eq_none (by unfold notedE; simp; omega)]
end Go.Nm
namespace Go.Nm
theorem cnt_set:∀ (l:List Bool) (j:Nat),l.getD j false=true->(l.set j false).countP id<l.countP id
  | [],j,h=>by simp at h
  | b :: l,0,h=>by
    have h:b=true:=by simpa using h
    subst h
    simp
  | b :: l,j+1,h=>by
    have:=cnt_set l j (by simpa using h)
    simp only [List.set_cons_succ,List.countP_cons]
    omega
end Go.Nm
namespace Go.Proofs.YtdmdhmineljlhabGreat
open Go Go.Nm
def zbP (w__Chart_Pace_Lo:Int) (w__Chart_Pace_Hi:Int) (w__Chart_Base:Int) (w__Chart_Scale:Int) (w__Chart_Off:Int) (w__Chart_Marks:List CMk) (w__Chart_Notes:List CNt) (w__notes:List (Int × CNt)):M (List Span) :=
  M.grd (decide (1<=(w__Chart_Marks.length:Int))&&decide ((w__Chart_Marks.length:Int)<=1000)) <|
  M.grd (w__notes.all fun p=>decide (0<=p.1)&&decide (p.1<(w__Chart_Marks.length:Int))) <|
  M.pure (notedE w__Chart_Marks.length w__notes)
set_option maxRecDepth 100000 in
theorem zdL {R:List Chunk} {b_w_:Nat} {C_w__Chart_Marks:Cells} {v_w__Chart_Marks:Value} {C_w__Chart_Notes:Cells} {v_w__Chart_Notes:Value} {b_w__notes:Nat} (w__Chart_Pace_Lo:Int) (w__Chart_Pace_Hi:Int) (w__Chart_Base:Int) (w__Chart_Scale:Int) (w__Chart_Off:Int) (w__Chart_Marks:List CMk) (w__Chart_Notes:List CNt) (w__notes:List (Int × CNt)) (hC_w__Chart_Marks:Reads R C_w__Chart_Marks) (hs_w__Chart_Marks:Sl C_w__Chart_Marks v_w__Chart_Marks w__Chart_Marks) (hC_w__Chart_Notes:Reads R C_w__Chart_Notes) (hs_w__Chart_Notes:Sl C_w__Chart_Notes v_w__Chart_Notes w__Chart_Notes) (h_b_w__notes:Has R (cMl I encCN b_w__notes w__notes)) (h_b_w_:Fld R b_w_ [I w__Chart_Pace_Lo,I w__Chart_Pace_Hi,I w__Chart_Base,I w__Chart_Scale,I w__Chart_Off,v_w__Chart_Marks,v_w__Chart_Notes,.map (some b_w__notes)]) {r:(List Span)} (hM:(zbP w__Chart_Pace_Lo w__Chart_Pace_Hi w__Chart_Base w__Chart_Scale w__Chart_Off w__Chart_Marks w__Chart_Notes w__notes).Ends r) (w:World) (H:St w w [] R):Ret Tryz.prog 72 #[.pointer (some ⟨b_w_,0,none⟩)] w fun v w'=>∃ (y0:List Span) (u0:Value),y0=r/\v=u0/\St w w' [cOwn (α:=Span) 24 u0 y0] R:=by
 obtain ⟨sd1,hM⟩:=M.e_grd hM
 obtain ⟨sd2,hM⟩:=M.e_grd hM
 have hr_:=M.e_pure hM
 simp only [Bool.and_eq_true,decide_eq_true_eq] at sd1
 have hkr:∀ (q:Nat) key v,w__notes[q]?=some (key,v)->0<=key/\key<(w__Chart_Marks.length:Int):=fun q key v hq=>by
  have:=List.all_eq_true.1 sd2 _ (List.mem_of_getElem? hq)
  simpa using this
 obtain ⟨es,n,hmp,hnd,hE⟩:=h_b_w__notes.map H.sep
 replace H:=H.pin
 have hf:=h_b_w_.pin (w:=w)
 refine Ret.mono (R:=fun v w'=>∃ (y0:List Span) (u0:Value),y0=r/\v=u0/\St w w' [cOwn (α:=Span) 24 u0 y0] (R.map (pin w))) ?_ (fun v w' ⟨y,u,h1,h2,h3⟩=>⟨y,u,h1,h2,h3.unpin⟩)
 refine ret_of_W Tryz.func72 rfl rfl rfl ?_
 refine W.seq ?_
 refine W.region rfl ?_
 refine s_val (x_as (v:=.slice none 0 0) rfl) ?_
 refine s_nil ?_
 refine W.seq ?_
 refine W.region rfl ?_
 refine s_val (x_bld (ps:=[(0,I (-100000000)),(1,I 100000000)]) (zs:=[I 0,I 0]) (L':=[I (-100000000),I 100000000]) rfl Tryz.underlying24 Al24 rfl (Bd24 Tryz.underlying24) (.cons (cs:=[I (-100000000)]) rfl rfl rfl rfl rfl<|.cons (cs:=[I 100000000]) rfl rfl rfl rfl rfl<|.nil)) ?_
 refine t_bs (α:=Span) T36 [.agg #[I (-100000000),I 100000000]] [(⟨-100000000,100000000⟩:Span)] H rfl (.cons rfl (Flat.rep_enc _ (⟨-100000000,100000000⟩:Span))<|.nil) rfl rfl rfl ?_
 intro v1 w1 H
 refine s_val (x_mv (v:=.pointer (some ⟨b_w_,0,none⟩)) rfl) ?_
 refine s_val (x_nc (a:=⟨b_w_,0,none⟩) rfl) ?_
 refine s_val (x_fa (a:=.pointer (some ⟨b_w_,0,none⟩)) (v:=.pointer (some ⟨b_w_,0,none⟩)) rfl (fa_blk (o:=0) Fd137_0 Sz28)) ?_
 refine s_val (x_fa (a:=.pointer (some ⟨b_w_,0,none⟩)) (v:=.pointer (some ⟨b_w_,5,none⟩)) rfl (fa_blk (o:=0) Fd28_4 Sz25)) ?_
 refine s_val (x_ld (p:=.pointer (some ⟨b_w_,5,none⟩)) (v:=v_w__Chart_Marks) rfl (fld_sc (pre:=[I w__Chart_Pace_Lo,I w__Chart_Pace_Hi,I w__Chart_Base,I w__Chart_Scale,I w__Chart_Off,v_w__Chart_Marks,v_w__Chart_Notes,.map (some b_w__notes)]) (i:=5) Sc25 (hf.at H) rfl)) ?_
 refine s_val (x_lenS T25.und rfl hs_w__Chart_Marks) ?_
 refine s_call cf91 [v1,I (w__Chart_Marks.length:Int)] rfl (repeat_span _ ((ownSl (H.get (k:=0) rfl)).mono (ownLe _ (H.get (k:=0) rfl))) (by omega) (by omega)) ?_
 rintro v2 w2 ⟨ho_,hx_⟩
 replace H:St w w2 [cOwn (α:=Span) 24 v2 (List.replicate (Int.toNat (w__Chart_Marks.length:Int)) (⟨-100000000,100000000⟩:Span)),cOwn (α:=Span) 24 v1 [(⟨-100000000,100000000⟩:Span)]] (R.map (pin w)):=H.ownOf hx_ ho_
 rw [Int.toNat_natCast] at H
 clear ho_ hx_
 refine s_val (x_as (v:=v2) rfl) ?_
 refine s_nil ?_
 refine W.seq ?_
 refine W.seq ?_
 refine W.region rfl ?_
 refine s_val (x_mv (v:=.pointer (some ⟨b_w_,0,none⟩)) rfl) ?_
 refine s_val (x_nc (a:=⟨b_w_,0,none⟩) rfl) ?_
 refine s_val (x_fa (a:=.pointer (some ⟨b_w_,0,none⟩)) (v:=.pointer (some ⟨b_w_,7,none⟩)) rfl (fa_blk (o:=0) Fd137_1 Sz134)) ?_
 refine s_val (x_ld (p:=.pointer (some ⟨b_w_,7,none⟩)) (v:=.map (some b_w__notes)) rfl (fld_sc (pre:=[I w__Chart_Pace_Lo,I w__Chart_Pace_Hi,I w__Chart_Base,I w__Chart_Scale,I w__Chart_Off,v_w__Chart_Marks,v_w__Chart_Notes,.map (some b_w__notes)]) (i:=7) Sc134 (hf.at H) rfl)) ?_
 refine t_rangeR (kt:=3) (et:=59) Tryz.underlying134 H (hE.at H) hmp rfl ?_
 intro rq w3 H
 refine s_nil ?_
 refine W.block ?_
 refine W.loop (fun m σ W=>∃ (left:List Bool) (last:Option Nat) (l:List Span) (ρ:Env),σ=upds ρ [(3,v2),(19,.pointer (some ⟨rq,0,none⟩))]/\m=left.countP id/\NtI w__Chart_Marks.length w__notes left l/\St w W [cIr b_w__notes rq es n left last,cOwn (α:=Span) 24 v2 l,cOwn (α:=Span) 24 v1 [(⟨-100000000,100000000⟩:Span)]] (R.map (pin w))) ?_ ?_
 ·exact ⟨_,_,_,_,_,upds_of _ _ ⟨rfl,rfl,trivial⟩,rfl,NtI.zero _ _,H⟩
 ·rintro m σ w4 ⟨left,last,l,ρ,rfl,rfl,hI,H⟩
  refine W.seq ?_
  refine W.region rfl ?_
  refine t_nextR (i:=0) H (hE.at H) hmp rfl rfl ?_ ?_
  ·intro hall
   refine s_val (x_ext (vs:=[.bool false]) (v:=B false) rfl rfl) ?_
   refine s_nil ?_
   refine W.seq ?_
   refine W.cond false rfl (fun c=>absurd c (by decide)) (fun _=>?_)
   refine W.exit ?_
   refine W.seq ?_
   refine W.region rfl ?_
   refine s_val (x_mv (v:=v2) rfl) ?_
   refine s_val (x_as (v:=v2) rfl) ?_
   refine s_nil ?_
   refine W.ret ?_
   exact ⟨_,resE_tmp rfl,⟨l,v2,(hI.done hnd hall).trans hr_,rfl,(H.pick [1] (by decide) rfl)⟩⟩
  ·intro j key v w5 hlj hmj H
   have hkk:=hkr _ _ _ hmj
   have hll:=hI.len
   refine s_val (x_ext (vs:=[.bool true,I key,encCN v]) (v:=B true) rfl rfl) ?_
   refine s_nil ?_
   refine W.seq ?_
   refine W.cond true rfl (fun _=>?_) (fun c=>absurd c (by decide))
   refine W.skip ?_
   refine W.block ?_
   refine W.seq ?_
   refine W.region rfl ?_
   refine s_val (x_entryR (H.get (k:=0) rfl) (hE.at H) hmp hmj rfl) ?_
   refine s_val (x_ext (vs:=[I key,encCN v]) (v:=I key) rfl rfl) ?_
   refine s_val (x_ext (vs:=[I key,encCN v]) (v:=encCN v) rfl rfl) ?_
   refine t_alloc (cs:=[I 0,I 0,I 0,I 0,I 0]) H Al59 rfl ?_
   intro b5 w6 H
   refine s_val (x_as (v:=I key) rfl) ?_
   refine t_st (k:=0) (b:=b5) (off:=0) (cs:=[I 0,I 0,I 0,I 0,I 0]) (vs:=[I v.mark,I v.tlo,I v.thi,I v.slo,I v.shi]) (cs':=[I v.mark,I v.tlo,I v.thi,I v.slo,I v.shi]) (v:=encCN v) (L':=[cBlk b5 [I v.mark,I v.tlo,I v.thi,I v.slo,I v.shi] 59,cIr b_w__notes rq es n (left.set j false) (some j),cOwn (α:=Span) 24 v2 l,cOwn (α:=Span) 24 v1 [(⟨-100000000,100000000⟩:Span)]]) H rfl rfl rfl Sz59 rfl rfl rfl rfl rfl rfl ?_
   intro w7 H
   refine s_nil ?_
   refine W.region rfl ?_
   refine s_val (x_mv (v:=v2) rfl) ?_
   refine s_val (x_mv (v:=I key) rfl) ?_
   refine s_val (x_fa (a:=.pointer (some ⟨b5,0,none⟩)) (v:=.pointer (some ⟨b5,1,none⟩)) rfl (fa_blk (o:=0) Fd59_1 Sz24)) ?_
   refine s_val (x_ld (p:=.pointer (some ⟨b5,1,none⟩)) (v:=.agg #[I v.tlo,I v.thi]) rfl (ldb_ag (ds:=[I v.tlo,I v.thi]) Ag24 Sz24 (H.blk (k:=0) rfl) rfl rfl)) ?_
   refine s_val (x_ix (a:=v2) (b:=I key) (v:=vat v2 2 (Int.toNat key)) rfl rfl (Sl.ix (α:=Span) T36.und T36.size (ownSl (H.get (k:=2) rfl)) (by omega) (by omega))) ?_
   refine t_ost (k:=2) (i:=key) (l:=l) (l':=l.set (Int.toNat key) v.time) (val:=.agg #[I v.tlo,I v.thi]) (L':=[cBlk b5 [I v.mark,I v.tlo,I v.thi,I v.slo,I v.shi] 59,cIr b_w__notes rq es n (left.set j false) (some j),cOwn (α:=Span) 24 v2 (l.set (Int.toNat key) v.time),cOwn (α:=Span) 24 v1 [(⟨-100000000,100000000⟩:Span)]]) H rfl Sz24 (by omega) (by omega) v.time rfl rfl rfl rfl rfl ?_
   intro w8 H
   refine s_nil ?_
   exact ⟨_,cnt_set left j hlj,left.set j false,some j,l.set (Int.toNat key) v.time,_,upds_of _ _ ⟨rfl,rfl,trivial⟩,rfl,hI.step hnd hmj hkr,(H.pick [1,2,3] (by decide) rfl)⟩
end Go.Proofs.YtdmdhmineljlhabGreat
section
set_option maxRecDepth 100000
set_option maxHeartbeats 16000000
namespace Go.Proofs.YtdmdhmineljlhabGreat
open Go Go.Nm
attribute [local irreducible] gd execOp SL SLD SLT WR
def zai (n aa greatest:Int):M Bool :=
  M.pure ((decide (aa<=n))&&(decide (n<=greatest)))
theorem zam {R:List Chunk}  (n:Int) (aa:Int) (greatest:Int)  {r:Bool} (hM:(zai n aa greatest).Ends r) (w:World) (H:St w w [] R):Ret Tryz.prog 85 #[I n,I aa,I greatest] w fun v w'=>∃ (y0:Bool),y0=r/\v=B y0/\St w w' [] R:=by
 refine ret_of_W Tryz.func85 rfl rfl rfl ?_;refine kg 16 ?_;refine W.ret ?_
 have ab:=M.e_pure hM
 exact ⟨_,resE_tmp rfl,⟨((decide (aa<=n))&&(decide (n<=greatest))),ab,rfl,H⟩⟩

def zaO (s:Span) (aa greatest:Int):M Bool :=
  M.bind (zai s.lo aa greatest) fun r2 =>
  M.bind (M.opt r2 (zai s.hi s.lo greatest) false) fun r3 =>
  M.pure (r2&&r3)
theorem zcn {R:List Chunk}  (s:Span) (aa:Int) (greatest:Int)  {r:Bool} (hM:(zaO s aa greatest).Ends r) (w:World) (H:St w w [] R):Ret Tryz.prog 107 #[.agg #[I s.lo,I s.hi],I aa,I greatest] w fun v w'=>∃ (y0:Bool),y0=r/\v=B y0/\St w w' [] R:=by
 refine ret_of_W Tryz.func107 rfl rfl rfl ?_;refine kg 2 ?_;refine t_bx [I s.lo,I s.hi] H rfl ?_;intro ai aj H;refine kg 8 ?_;obtain ⟨ak,ae,hM⟩:=M.e_bind hM;refine s_call cf85 [I s.lo,I aa,I greatest] rfl (zam s.lo aa greatest ae _ (H.gt 1)) ?_
 rintro vq al ⟨r2,rfl,hvq,ac⟩
 subst vq;(try dsimp only at hM);replace H:=H.bk ac;clear ac;refine kg 6 ?_;obtain ⟨r3,ag,hM⟩:=M.e_bind hM;refine t_gcall r2 (gy_t rfl) cf85 (B r3) (fun _=>[I s.hi,I s.lo,I greatest]) (fun hg=>lst3 (gd_of hg (I s.hi)) (gd_of hg (I s.lo)) (gd_of hg (I greatest))) H (fun hg=>(zam s.hi s.lo greatest (M.e_opt ag hg) _ (H.give (A:=[]) rfl)).mono fun v_ w_ ⟨y_,ab,ah,H_⟩=>by subst ab; exact ⟨ah,H.via H_⟩) ?_;intro am H;refine kg 3 ?_;refine W.ret ?_
 have ab:=M.e_pure hM
 exact ⟨_,resE_tmp rfl,⟨(r2&&r3),ab,rfl,(H.pk [])⟩⟩

def zat (s:List CNt) (f:CNt->M Bool):Nat->M (Nat ⊕ (Int ⊕ Unit)):=fun s2 =>
  bif decide ((s2:Int)<(s.length:Int)) then (
  M.grd (decide ((s2:Int)<(s.length:Int))) <|
  M.bind (f (s.getD s2 default)) fun r2 =>
  bif r2 then (
  M.pure (.inr (.inl (s2:Int))))
  else (
  M.pure (.inl (s2+1))))
  else (
  M.pure (.inr (.inr ())))
def zb5 (s:List CNt) (f:CNt->M Bool):M Int :=
  M.bind (M.iter (zat s f) 0) fun x_=>match x_ with
  | (.inl s3)=>(
  M.pure s3)
  | (.inr (_:Unit))=>(
  M.pure (-1))
theorem zd8 {R:List Chunk} {aj:Cells} {ab:Value} {ac:Value} (s:List CNt) (f:CNt->M Bool) (ao:Reads R aj) (ak:Sl aj ab s) (ap:FnM Tryz.prog R ac f) {r:Int} (hM:(zb5 s f).Ends r) (w:World) (H:St w w [] R):Ret Tryz.prog 123 #[ab,ac] w fun v w'=>∃ (y0:Int),y0=r/\v=I y0/\St w w' [] R:=by
 refine ret_of_W Tryz.func123 rfl rfl rfl ?_
 have az:=(ak).len_le
 refine kg 12 ?_;obtain ⟨aq,ae,al⟩:=M.e_bind hM
 obtain ⟨aA,ae⟩:=M.e_iter ae
 refine W.loop (fun m σ W=>∃ (s2:Nat) (ρ:Env),σ=upds ρ [(0,ab),(1,ac),(7,I (s.length:Int)),(8,I (s2:Int))]/\M.iterN (zat s f) m s2=some aq/\St w W [] R) ?_ ?_
 ·exact ⟨_,0,_,upds_of _ _ ⟨rfl,rfl,rfl,rfl,trivial⟩,ae,H⟩
 rintro aB σ aC ⟨s2,ρ,rfl,am,H⟩
 obtain ⟨au,av,aD,hM,ag⟩:=M.e_iterN am
 simp only [zat] at hM
 clear am;refine kg 5 ?_
 refine W.cond (decide ((s2:Int)<(s.length:Int))) rfl (fun aa=>?_) (fun aa=>?_)
 ·replace hM:=M.e_t hM aa
  replace aa:=dI aa
  obtain ⟨aE,hM⟩:=M.e_gd hM;refine kg 14 ?_;refine s_val (x_ld (v:=.agg #[I ((s.getD s2 default).mark),I ((s.getD s2 default).tlo),I ((s.getD s2 default).thi),I ((s.getD s2 default).slo),I ((s.getD s2 default).shi)]) rfl (ld_ag Ag59 Sz59 (At.mono (CNt_atA ak (i:=(s2:Int)) (by omega) (by omega)) (ao.at H)))) ?_;obtain ⟨r2,aw,hM⟩:=M.e_bind hM;refine t_callM H ap rfl rfl (s.getD s2 default) Reads.none ⟨_,rfl,rfl⟩ aw ?_;intro aF H;refine s_nil ?_
  refine W.cond r2 rfl (fun ah=>?_) (fun ah=>?_)
  ·replace hM:=M.e_t hM ah;refine kg 5 ?_;refine W.ret ?_
   have ax:=M.e_inr hM ag
   subst ax;replace hM:=al;(try dsimp only at hM)
   have ai:=M.e_pure hM
   exact ⟨_,resE_tmp rfl,⟨(s2:Int),ai,rfl,H⟩⟩
  replace hM:=M.e_f hM ah;refine kg 5 ?_
  exact ⟨au,av,s2+1,_,upds_of _ _ ⟨rfl,rfl,rfl,rfl,trivial⟩,M.e_inl hM ag,H⟩
 replace hM:=M.e_f hM aa
 replace aa:=dI aa
 refine W.exit ?_
 have ay:=M.e_inr hM ag
 subst ay;replace hM:=al;(try dsimp only at hM);refine kg 4 ?_;refine W.ret ?_
 have ai:=M.e_pure hM
 exact ⟨_,resE_tmp rfl,⟨(-1),ai,rfl,H⟩⟩

def zaC (s:List CNt) (f:CNt->M Bool):M Bool :=
  M.bind (zb5 s f) fun r2 =>
  M.pure (decide (0<=r2))
theorem zdx {R:List Chunk} {ac:Cells} {aa:Value} {ab:Value} (s:List CNt) (f:CNt->M Bool) (ag:Reads R ac) (ah:Sl ac aa s) (ai:FnM Tryz.prog R ab f) {r:Bool} (hM:(zaC s f).Ends r) (w:World) (H:St w w [] R):Ret Tryz.prog 111 #[aa,ab] w fun v w'=>∃ (y0:Bool),y0=r/\v=B y0/\St w w' [] R:=by
 refine ret_of_W Tryz.func111 rfl rfl rfl ?_;refine kg 8 ?_;obtain ⟨al,aj,hM⟩:=M.e_bind hM;refine s_call cf123 [aa,ab] rfl (zd8 s f (ag.app _) ah (ai.app _) aj _ (H.gt 0)) ?_
 rintro vq am ⟨r2,rfl,hvq,ae⟩
 subst vq;(try dsimp only at hM);replace H:=H.bk ae;clear ae;refine kg 3 ?_;refine W.ret ?_
 have ak:=M.e_pure hM
 exact ⟨_,resE_tmp rfl,⟨(decide (0<=r2)),ak,rfl,H⟩⟩

def zb2 (x:CNt) (aa:CNt->M Bool):M Bool :=
  M.bind (aa x) fun r2 =>
  M.pure (!r2)
theorem zdy {R:List Chunk} {aa:Nat} {ab:Value} (x:CNt) (ac:CNt->M Bool) (ae:FnM Tryz.prog R ab ac) (ai:Has R (cBlk aa [ab] 171)) {r:Bool} (hM:(zb2 x ac).Ends r) (w:World) (H:St w w [] R):Ret Tryz.prog 122 #[.agg #[I x.mark,I x.tlo,I x.thi,I x.slo,I x.shi],Pq aa] w fun v w'=>∃ (y0:Bool),y0=r/\v=B y0/\St w w' [] R:=by
 refine ret_of_W Tryz.func122 rfl rfl rfl ?_;refine kg 2 ?_;refine t_bx [I x.mark,I x.tlo,I x.thi,I x.slo,I x.shi] H rfl ?_;intro aj ak H;refine kg 6 ?_;obtain ⟨r2,ag,hM⟩:=M.e_bind hM;refine t_callM H ae rfl rfl x Reads.none ⟨_,rfl,rfl⟩ ag ?_;intro al H;refine kg 3 ?_;refine W.ret ?_
 have ah:=M.e_pure hM
 exact ⟨_,resE_tmp rfl,⟨(!r2),ah,rfl,(H.pk [])⟩⟩

def zbH (l:List CNt) (so:CNt->M Bool):M Bool :=
  M.bind (zaC l (fun aa=>zb2 aa so)) fun r2 =>
  M.pure (!r2)
theorem zdR {R:List Chunk} {ag:Cells} {ab:Value} {aa:Value} (l:List CNt) (so:CNt->M Bool) (ak:Reads R ag) (al:Sl ag ab l) (ah:FnM Tryz.prog R aa so) {r:Bool} (hM:(zbH l so).Ends r) (w:World) (H:St w w [] R):Ret Tryz.prog 108 #[ab,aa] w fun v w'=>∃ (y0:Bool),y0=r/\v=B y0/\St w w' [] R:=by
 refine ret_of_W Tryz.func108 rfl rfl rfl ?_;refine kg 2 ?_;refine t_box (v:=aa) (cs:=[aa]) H rfl (FnM.cells ah) ?_;intro ac az H;refine kg 5 ?_;refine s_val (x_mf (fs:=[]) (cs:=[Pq ac]) rfl rfl) ?_;obtain ⟨aA,am,hM⟩:=M.e_bind hM;refine s_call cf111 [ab,.func (.func 122) #[] #[Pq ac]] rfl (zdx l (fun ae=>zb2 ae so) (ak.app _) al ⟨122,[Pq ac],rfl,cf122,fun ai aB aC ao ae aD ap aE aq au=>by obtain rfl:=CNt_arg aq; exact (zdy ae so (FnM.app (ah.app _) _) (Has.app (Has.here (k:=0) rfl) _) au ai (St.refl ap)).mono fun ao ai ⟨aF,av,aw,ax⟩=>by subst av; exact ⟨aw,ax⟩⟩ am _ (H.gt 1)) ?_
 rintro vq aG ⟨r2,rfl,hvq,aj⟩
 subst vq;(try dsimp only at hM);replace H:=H.bk aj;clear aj;refine kg 3 ?_;refine W.ret ?_
 have ay:=M.e_pure hM
 exact ⟨_,resE_tmp rfl,⟨(!r2),ay,rfl,(H.pk [])⟩⟩

def zcu (n:CNt) (marks:Int):M Bool :=
  M.grd (decide ((-9223372036854775808:Int)<=(marks-1))&&decide ((marks-1)<=(9223372036854775807:Int))) <|
  M.bind (zai n.mark 0 (marks-1)) fun r2 =>
  M.bind (M.opt r2 (zaO (⟨(n.tlo:Int),(n.thi:Int)⟩:Span) 0 10000000) false) fun r3 =>
  M.bind (M.opt (r2&&r3) (zaO (⟨(n.slo:Int),(n.shi:Int)⟩:Span) (-3000000) 3000000) false) fun r4 =>
  M.pure ((r2&&r3)&&r4)
theorem zdH {R:List Chunk}  (n:CNt) (marks:Int)  {r:Bool} (hM:(zcu n marks).Ends r) (w:World) (H:St w w [] R):Ret Tryz.prog 110 #[.agg #[I n.mark,I n.tlo,I n.thi,I n.slo,I n.shi],I marks] w fun v w'=>∃ (y0:Bool),y0=r/\v=B y0/\St w w' [] R:=by
 refine ret_of_W Tryz.func110 rfl rfl rfl ?_;refine kg 2 ?_;refine t_bx [I n.mark,I n.tlo,I n.thi,I n.slo,I n.shi] H rfl ?_;intro ai aj H;obtain ⟨ak,hM⟩:=M.e_gd hM;refine kg 8 ?_;obtain ⟨al,ae,hM⟩:=M.e_bind hM;refine s_call cf85 [I n.mark,I 0,I (marks-1)] rfl (zam n.mark 0 (marks-1) ae _ (H.gt 1)) ?_
 rintro vq am ⟨r2,rfl,hvq,ac⟩
 subst vq;(try dsimp only at hM);replace H:=H.bk ac;clear ac;refine kg 3 ?_;obtain ⟨r3,ag,hM⟩:=M.e_bind hM;refine t_gcall r2 (gy_t rfl) cf107 (B r3) (fun _=>[.agg #[I n.tlo,I n.thi],I 0,I 10000000]) (fun hg=>lst3 (gd_of hg (.agg #[I n.tlo,I n.thi])) rfl rfl) H (fun hg=>(zcn (⟨(n.tlo:Int),(n.thi:Int)⟩:Span) 0 10000000 (M.e_opt ag hg) _ (H.give (A:=[]) rfl)).mono fun v_ w_ ⟨y_,aa,ab,H_⟩=>by subst aa; exact ⟨ab,H.via H_⟩) ?_;intro ao H;refine kg 4 ?_;obtain ⟨r4,ah,hM⟩:=M.e_bind hM;refine t_gcall (r2&&r3) (gy_t rfl) cf107 (B r4) (fun _=>[.agg #[I n.slo,I n.shi],I (-3000000),I 3000000]) (fun hg=>lst3 (gd_of hg (.agg #[I n.slo,I n.shi])) rfl rfl) H (fun hg=>(zcn (⟨(n.slo:Int),(n.shi:Int)⟩:Span) (-3000000) 3000000 (M.e_opt ah hg) _ (H.give (A:=[]) rfl)).mono fun v_ w_ ⟨y_,aa,ab,H_⟩=>by subst aa; exact ⟨ab,H.via H_⟩) ?_;intro ap H;refine kg 3 ?_;refine W.ret ?_
 have aa:=M.e_pure hM
 exact ⟨_,resE_tmp rfl,⟨((r2&&r3)&&r4),aa,rfl,(H.pk [])⟩⟩

def zbW (n:CNt) (ab ac ae ag ah:Int) (aa:List CMk) (ai:List CNt):M Bool :=
  M.bind (zcu n (aa.length:Int)) fun r2 =>
  M.pure r2
theorem zes {R:List Chunk} {ab:Nat} {ac:Cells} {ae:Value} {ag:Cells} {ah:Value} (n:CNt) (ai:Int) (aj:Int) (ak:Int) (al:Int) (am:Int) (aa:List CMk) (ao:List CNt) (aw:Reads R ac) (aq:Sl ac ae aa) (ax:Reads R ag) (ay:Sl ag ah ao) (az:Has R (cBlk ab [I ai,I aj,I ak,I al,I am,ae,ah] 28)) {r:Bool} (hM:(zbW n ai aj ak al am aa ao).Ends r) (w:World) (H:St w w [] R):Ret Tryz.prog 109 #[.agg #[I n.mark,I n.tlo,I n.thi,I n.slo,I n.shi],Pq ab] w fun v w'=>∃ (y0:Bool),y0=r/\v=B y0/\St w w' [] R:=by
 refine ret_of_W Tryz.func109 rfl rfl rfl ?_;refine kg 2 ?_;refine t_bx [I n.mark,I n.tlo,I n.thi,I n.slo,I n.shi] H rfl ?_;intro aA aB H
 have aC:=(aq).len_le
 refine kg 8 ?_;obtain ⟨aD,au,hM⟩:=M.e_bind hM;refine s_call cf110 [.agg #[I n.mark,I n.tlo,I n.thi,I n.slo,I n.shi],I (aa.length:Int)] rfl (zdH n (aa.length:Int) au _ (H.gt 1)) ?_
 rintro vq aE ⟨r2,rfl,hvq,ap⟩
 subst vq;(try dsimp only at hM);replace H:=H.bk ap;clear ap;refine kg 2 ?_;refine W.ret ?_
 have av:=M.e_pure hM
 exact ⟨_,resE_tmp rfl,⟨r2,av,rfl,(H.pk [])⟩⟩

def zbL (o:CNt) (aa ab ac ae ag:Int):M Bool :=
  M.pure (o.mark==aa)
theorem zeg {R:List Chunk} {ab:Nat} (o:CNt) (aa:Int) (ac:Int) (ae:Int) (ag:Int) (ah:Int) (aj:Has R (cBlk ab [I aa,I ac,I ae,I ag,I ah] 59)) {r:Bool} (hM:(zbL o aa ac ae ag ah).Ends r) (w:World) (H:St w w [] R):Ret Tryz.prog 112 #[.agg #[I o.mark,I o.tlo,I o.thi,I o.slo,I o.shi],Pq ab] w fun v w'=>∃ (y0:Bool),y0=r/\v=B y0/\St w w' [] R:=by
 refine ret_of_W Tryz.func112 rfl rfl rfl ?_;refine kg 2 ?_;refine t_bx [I o.mark,I o.tlo,I o.thi,I o.slo,I o.shi] H rfl ?_;intro ak al H;refine kg 11 ?_;refine W.ret ?_
 have ai:=M.e_pure hM
 exact ⟨_,resE_tmp rfl,⟨(o.mark==aa),ai,rfl,(H.pk [])⟩⟩

def za2 (c_Marks:List CMk):(Int × Nat)->M ((Int × Nat) ⊕ (Int ⊕ Unit)):=fun (last,s) =>
  bif decide ((s:Int)<(c_Marks.length:Int)) then (
  M.grd (decide ((s:Int)<(c_Marks.length:Int))) <|
  M.bind (zai ((c_Marks.getD s default).place) 0 10000) fun r7 =>
  M.bind (M.opt (!(!r7)) (zai ((c_Marks.getD s default).height) 0 1000) false) fun r8 =>
  bif ((!r7)||(!r8)) then (
  M.pure (.inr (.inl 30)))
  else (
  bif decide (((c_Marks.getD s default).place)<=last) then (
  M.pure (.inr (.inl 9)))
  else (
  M.pure (.inl ((c_Marks.getD s default).place,s+1)))))
  else (
  M.pure (.inr (.inr ())))
def zbs (c_Notes:List CNt):Nat->M (Nat ⊕ (Unit ⊕ Unit)):=fun s3 =>
  bif decide ((s3:Int)<(c_Notes.length:Int)) then (
  M.grd (decide ((s3:Int)<(c_Notes.length:Int))) <|
  M.bind (zaC (c_Notes.take s3) (fun aa=>zbL aa ((c_Notes.getD s3 default).mark) ((c_Notes.getD s3 default).tlo) ((c_Notes.getD s3 default).thi) ((c_Notes.getD s3 default).slo) ((c_Notes.getD s3 default).shi))) fun ab =>
  bif ab then (
  M.pure (.inr (.inl ())))
  else (
  M.pure (.inl (s3+1))))
  else (
  M.pure (.inr (.inr ())))
def zbG (c_Pace_Lo c_Pace_Hi c_Base c_Scale c_Off:Int) (c_Marks:List CMk) (c_Notes:List CNt):M Int :=
  M.bind (zai (c_Marks.length:Int) 1 40) fun r2 =>
  bif ((!r2)||(decide (20<(c_Notes.length:Int)))) then (
  M.pure 3)
  else (
  M.bind (zaO (⟨(c_Pace_Lo:Int),(c_Pace_Hi:Int)⟩:Span) 1 600) fun r3 =>
  M.bind (M.opt (!(!r3)) (zai c_Base (-1000000) 1000000) false) fun r4 =>
  M.bind (M.opt (!((!r3)||(!r4))) (zai c_Scale 0 1000) false) fun r5 =>
  M.bind (M.opt (!(((!r3)||(!r4))||(!r5))) (zai c_Off 0 1000) false) fun r6 =>
  bif ((((!r3)||(!r4))||(!r5))||(!r6)) then (
  M.pure 30)
  else (
  M.bind (M.iter (za2 c_Marks) (-1,0)) fun x_=>match x_ with
  | (.inl s2)=>(
  M.pure s2)
  | (.inr (_:Unit))=>(
  M.bind (zbH c_Notes (fun aa=>zbW aa c_Pace_Lo c_Pace_Hi c_Base c_Scale c_Off c_Marks c_Notes)) fun r9 =>
  bif !r9 then (
  M.pure 30)
  else (
  M.bind (M.iter (zbs c_Notes) 0) fun x_=>match x_ with
  | (.inl (_:Unit))=>(
  M.pure 10)
  | (.inr (_:Unit))=>(
  M.pure 0)))))
theorem zd1 {R:List Chunk} {aO:Cells} {al:Value} {aP:Cells} {ac:Value} (c_Pace_Lo:Int) (c_Pace_Hi:Int) (c_Base:Int) (c_Scale:Int) (c_Off:Int) (c_Marks:List CMk) (c_Notes:List CNt) (aQ:Reads R aO) (ap:Sl aO al c_Marks) (aq:Reads R aP) (am:Sl aP ac c_Notes) {r:Int} (hM:(zbG c_Pace_Lo c_Pace_Hi c_Base c_Scale c_Off c_Marks c_Notes).Ends r) (w:World) (H:St w w [] R):Ret Tryz.prog 84 #[.agg #[I c_Pace_Lo,I c_Pace_Hi,I c_Base,I c_Scale,I c_Off,al,ac]] w fun v w'=>∃ (y0:Int),y0=r/\v=I y0/\St w w' [] R:=by
 refine ret_of_W Tryz.func84 rfl rfl rfl ?_;refine kg 2 ?_;refine t_bx [I c_Pace_Lo,I c_Pace_Hi,I c_Base,I c_Scale,I c_Off,al,ac] H rfl ?_;intro ae bA H
 have bB:=(ap).len_le
 refine kg 9 ?_;obtain ⟨bC,aU,hM⟩:=M.e_bind hM;refine s_call cf85 [I (c_Marks.length:Int),I 1,I 40] rfl (zam (c_Marks.length:Int) 1 40 aU _ (H.gt 1)) ?_
 rintro vq bD ⟨r2,rfl,hvq,ab⟩
 subst vq;(try dsimp only at hM);replace H:=H.bk ab;clear ab
 have bE:=(am).len_le
 refine kg 9 ?_
 refine W.cond ((!r2)||(decide (20<(c_Notes.length:Int)))) rfl (fun av=>?_) (fun av=>?_)
 ·replace hM:=M.e_t hM av;refine kg 4 ?_;refine W.ret ?_
  have aa:=M.e_pure hM
  exact ⟨_,resE_tmp rfl,⟨3,aa,rfl,(H.pk [])⟩⟩
 replace hM:=M.e_f hM av;refine kg 4 ?_;obtain ⟨bF,aV,hM⟩:=M.e_bind hM;refine s_call cf107 [.agg #[I c_Pace_Lo,I c_Pace_Hi],I 1,I 600] rfl (zcn (⟨(c_Pace_Lo:Int),(c_Pace_Hi:Int)⟩:Span) 1 600 aV _ (H.gt 1)) ?_
 rintro vq bG ⟨r3,rfl,hvq,ab⟩
 subst vq;(try dsimp only at hM);replace H:=H.bk ab;clear ab;refine kg 4 ?_;obtain ⟨r4,aW,hM⟩:=M.e_bind hM;refine t_gcall (!(!r3)) (gy_f rfl) cf85 (B r4) (fun _=>[I c_Base,I (-1000000),I 1000000]) (fun hg=>lst3 (gd_of hg (I c_Base)) rfl rfl) H (fun hg=>(zam c_Base (-1000000) 1000000 (M.e_opt aW hg) _ (H.give (A:=[]) rfl)).mono fun v_ w_ ⟨y_,aa,ag,H_⟩=>by subst aa; exact ⟨ag,H.via H_⟩) ?_;intro bH H;refine kg 5 ?_;obtain ⟨r5,aX,hM⟩:=M.e_bind hM;refine t_gcall (!((!r3)||(!r4))) (gy_f rfl) cf85 (B r5) (fun _=>[I c_Scale,I 0,I 1000]) (fun hg=>lst3 (gd_of hg (I c_Scale)) rfl rfl) H (fun hg=>(zam c_Scale 0 1000 (M.e_opt aX hg) _ (H.give (A:=[]) rfl)).mono fun v_ w_ ⟨y_,aa,ag,H_⟩=>by subst aa; exact ⟨ag,H.via H_⟩) ?_;intro bI H;refine kg 5 ?_;obtain ⟨r6,aY,hM⟩:=M.e_bind hM;refine t_gcall (!(((!r3)||(!r4))||(!r5))) (gy_f rfl) cf85 (B r6) (fun _=>[I c_Off,I 0,I 1000]) (fun hg=>lst3 (gd_of hg (I c_Off)) rfl rfl) H (fun hg=>(zam c_Off 0 1000 (M.e_opt aY hg) _ (H.give (A:=[]) rfl)).mono fun v_ w_ ⟨y_,aa,ag,H_⟩=>by subst aa; exact ⟨ag,H.via H_⟩) ?_;intro bJ H;refine kg 4 ?_
 refine W.cond ((((!r3)||(!r4))||(!r5))||(!r6)) rfl (fun aw=>?_) (fun aw=>?_)
 ·replace hM:=M.e_t hM aw;refine kg 4 ?_;refine W.ret ?_
  have aa:=M.e_pure hM
  exact ⟨_,resE_tmp rfl,⟨30,aa,rfl,(H.pk [])⟩⟩
 replace hM:=M.e_f hM aw
 have bK:=(ap).len_le
 refine kg 14 ?_;obtain ⟨aZ,ax,ay⟩:=M.e_bind hM
 obtain ⟨a6,ax⟩:=M.e_iter ax
 refine W.loop (fun m σ W=>∃ (last:Int) (s:Nat) (ρ:Env),σ=upds ρ [(1,Pq ae),(3,I last),(44,al),(45,I (c_Marks.length:Int)),(46,I (s:Int))]/\M.iterN (za2 c_Marks) m (last,s)=some aZ/\St w W [cBlk ae [I c_Pace_Lo,I c_Pace_Hi,I c_Base,I c_Scale,I c_Off,al,ac] 28] R) ?_ ?_
 ·exact ⟨_,-1,0,_,upds_of _ _ ⟨rfl,rfl,rfl,rfl,rfl,trivial⟩,ax,H⟩
 rintro bL σ bM ⟨last,s,ρ,rfl,aR,H⟩
 obtain ⟨a7,a8,bN,hM,au⟩:=M.e_iterN aR
 simp only [za2] at hM
 clear aR;refine kg 5 ?_
 refine W.cond (decide ((s:Int)<(c_Marks.length:Int))) rfl (fun ah=>?_) (fun ah=>?_)
 ·replace hM:=M.e_t hM ah
  replace ah:=dI ah
  obtain ⟨bO,hM⟩:=M.e_gd hM;refine kg 6 ?_;refine s_val (x_ld (v:=.agg #[I ((c_Marks.getD s default).place),I ((c_Marks.getD s default).height)]) rfl (ld_ag Ag57 Sz57 (At.mono (CMk_atA ap (i:=(s:Int)) (by omega) (by omega)) (aQ.at H)))) ?_;refine t_alloc (cs:=[I 0,I 0]) H Al57 rfl ?_;intro bP bQ H;refine t_sw 0 0 [I ((c_Marks.getD s default).place),I ((c_Marks.getD s default).height)] (.agg #[I ((c_Marks.getD s default).place),I ((c_Marks.getD s default).height)]) H rfl rfl Sz57 rfl rfl rfl rfl ?_;intro bR H;refine kg 7 ?_;obtain ⟨bS,ba,hM⟩:=M.e_bind hM;refine s_call cf85 [I ((c_Marks.getD s default).place),I 0,I 10000] rfl (zam ((c_Marks.getD s default).place) 0 10000 ba _ (H.gt 2)) ?_
  rintro vq bT ⟨r7,rfl,hvq,ab⟩
  subst vq;(try dsimp only at hM);replace H:=H.bk ab;clear ab;refine kg 4 ?_;obtain ⟨r8,bb,hM⟩:=M.e_bind hM;refine t_gcall (!(!r7)) (gy_f rfl) cf85 (B r8) (fun _=>[I ((c_Marks.getD s default).height),I 0,I 1000]) (fun hg=>lst3 (gd_of hg (I ((c_Marks.getD s default).height))) rfl rfl) H (fun hg=>(zam ((c_Marks.getD s default).height) 0 1000 (M.e_opt bb hg) _ (H.give (A:=[]) rfl)).mono fun v_ w_ ⟨y_,aa,ag,H_⟩=>by subst aa; exact ⟨ag,H.via H_⟩) ?_;intro bU H;refine kg 4 ?_
  refine W.cond ((!r7)||(!r8)) rfl (fun az=>?_) (fun az=>?_)
  ·replace hM:=M.e_t hM az;refine kg 4 ?_;refine W.ret ?_
   have bc:=M.e_inr hM au
   subst bc;replace hM:=ay;(try dsimp only at hM)
   have aa:=M.e_pure hM
   exact ⟨_,resE_tmp rfl,⟨30,aa,rfl,(H.pk [])⟩⟩
  replace hM:=M.e_f hM az;refine kg 8 ?_
  refine W.cond (decide (((c_Marks.getD s default).place)<=last)) rfl (fun ai=>?_) (fun ai=>?_)
  ·replace hM:=M.e_t hM ai
   replace ai:=dI ai
   refine kg 4 ?_;refine W.ret ?_
   have bf:=M.e_inr hM au
   subst bf;replace hM:=ay;(try dsimp only at hM)
   have aa:=M.e_pure hM
   exact ⟨_,resE_tmp rfl,⟨9,aa,rfl,(H.pk [])⟩⟩
  replace hM:=M.e_f hM ai
  replace ai:=dI ai
  refine kg 10 ?_
  exact ⟨a7,a8,(c_Marks.getD s default).place,s+1,_,upds_of _ _ ⟨rfl,rfl,rfl,rfl,rfl,trivial⟩,M.e_inl hM au,(H.pk [1])⟩
 replace hM:=M.e_f hM ah
 replace ah:=dI ah
 refine W.exit ?_
 have bg:=M.e_inr hM au
 subst bg;replace hM:=ay;(try dsimp only at hM);refine kg 5 ?_;refine s_val (x_mf (fs:=[]) (cs:=[Pq ae]) rfl rfl) ?_;obtain ⟨bV,bh,hM⟩:=M.e_bind hM;refine s_call cf108 [ac,.func (.func 109) #[] #[Pq ae]] rfl (zdR c_Notes (fun aj=>zbW aj c_Pace_Lo c_Pace_Hi c_Base c_Scale c_Off c_Marks c_Notes) (aq.app _) am ⟨109,[Pq ae],rfl,cf109,fun ao bi bj aA aj bm aB bn aC aD=>by obtain rfl:=CNt_arg aC; exact (zes aj c_Pace_Lo c_Pace_Hi c_Base c_Scale c_Off c_Marks c_Notes (Reads.app (aQ.app _) _) ap (Reads.app (aq.app _) _) am (Has.app (Has.here (k:=0) rfl) _) aD ao (St.refl aB)).mono fun aA ao ⟨bo,aE,aF,aG⟩=>by subst aE; exact ⟨aF,aG⟩⟩ bh _ (H.gt 1)) ?_
 rintro vq bW ⟨r9,rfl,hvq,ab⟩
 subst vq;(try dsimp only at hM);replace H:=H.bk ab;clear ab;refine kg 2 ?_
 refine W.cond (!r9) rfl (fun aH=>?_) (fun aH=>?_)
 ·replace hM:=M.e_t hM aH;refine kg 4 ?_;refine W.ret ?_
  have aa:=M.e_pure hM
  exact ⟨_,resE_tmp rfl,⟨30,aa,rfl,(H.pk [])⟩⟩
 replace hM:=M.e_f hM aH
 have bX:=(am).len_le
 refine kg 10 ?_;obtain ⟨bp,aI,aS⟩:=M.e_bind hM
 obtain ⟨a6,aI⟩:=M.e_iter aI
 refine W.loop (fun m σ W=>∃ (s3:Nat) (ρ:Env),σ=upds ρ [(1,Pq ae),(75,ac),(76,I (c_Notes.length:Int)),(77,I (s3:Int))]/\M.iterN (zbs c_Notes) m s3=some bp/\St w W [cBlk ae [I c_Pace_Lo,I c_Pace_Hi,I c_Base,I c_Scale,I c_Off,al,ac] 28] R) ?_ ?_
 ·exact ⟨_,0,_,upds_of _ _ ⟨rfl,rfl,rfl,rfl,trivial⟩,aI,H⟩
 rintro bY σ bZ ⟨s3,ρ,rfl,aT,H⟩
 obtain ⟨br,bt,b3,hM,aJ⟩:=M.e_iterN aT
 simp only [zbs] at hM
 clear aT;refine kg 5 ?_
 refine W.cond (decide ((s3:Int)<(c_Notes.length:Int))) rfl (fun ak=>?_) (fun ak=>?_)
 ·replace hM:=M.e_t hM ak
  replace ak:=dI ak
  obtain ⟨b4,hM⟩:=M.e_gd hM;refine kg 7 ?_;refine s_val (x_ld (v:=.agg #[I ((c_Notes.getD s3 default).mark),I ((c_Notes.getD s3 default).tlo),I ((c_Notes.getD s3 default).thi),I ((c_Notes.getD s3 default).slo),I ((c_Notes.getD s3 default).shi)]) rfl (ld_ag Ag59 Sz59 (At.mono (CNt_atA am (i:=(s3:Int)) (by omega) (by omega)) (aq.at H)))) ?_;refine t_alloc (cs:=[I 0,I 0,I 0,I 0,I 0]) H Al59 rfl ?_;intro aK b6 H;refine kg 1 ?_;refine t_sw 0 0 [I ((c_Notes.getD s3 default).mark),I ((c_Notes.getD s3 default).tlo),I ((c_Notes.getD s3 default).thi),I ((c_Notes.getD s3 default).slo),I ((c_Notes.getD s3 default).shi)] (.agg #[I ((c_Notes.getD s3 default).mark),I ((c_Notes.getD s3 default).tlo),I ((c_Notes.getD s3 default).thi),I ((c_Notes.getD s3 default).slo),I ((c_Notes.getD s3 default).shi)]) H rfl rfl Sz59 rfl rfl rfl rfl ?_;intro b7 H;refine kg 6 ?_
  obtain ⟨aL,bu,aM⟩:=sl_hi T26.und T26.size am (j:=(s3:Int)) (by omega) (by omega)
  replace aM:Sl _ aL (c_Notes.take s3):=aM
  refine s_val (x_sl (v:=ac) (u:=aL) (lo':=none) (hi':=some (I (s3:Int))) (mx':=none) rfl rfl rfl rfl (bu _))<|s_val (x_mf (fs:=[]) (cs:=[Pq aK]) rfl rfl) ?_;obtain ⟨b8,bv,hM⟩:=M.e_bind hM;refine s_call cf111 [aL,.func (.func 112) #[] #[Pq aK]] rfl (zdx (c_Notes.take s3) (fun aj=>zbL aj ((c_Notes.getD s3 default).mark) ((c_Notes.getD s3 default).tlo) ((c_Notes.getD s3 default).thi) ((c_Notes.getD s3 default).slo) ((c_Notes.getD s3 default).shi)) (aq.app _) aM ⟨112,[Pq aK],rfl,cf112,fun ao bi bj aA aj bm aB bn aC aD=>by obtain rfl:=CNt_arg aC; exact (zeg aj ((c_Notes.getD s3 default).mark) ((c_Notes.getD s3 default).tlo) ((c_Notes.getD s3 default).thi) ((c_Notes.getD s3 default).slo) ((c_Notes.getD s3 default).shi) (Has.app (Has.here (k:=0) rfl) _) aD ao (St.refl aB)).mono fun aA ao ⟨bo,aE,aF,aG⟩=>by subst aE; exact ⟨aF,aG⟩⟩ bv _ (H.gt 2)) ?_
  rintro vq b9 ⟨bw,rfl,hvq,ab⟩
  subst vq;(try dsimp only at hM);replace H:=H.bk ab;clear ab;refine s_nil ?_
  refine W.cond bw rfl (fun aN=>?_) (fun aN=>?_)
  ·replace hM:=M.e_t hM aN;refine kg 4 ?_;refine W.ret ?_
   have bx:=M.e_inr hM aJ
   subst bx;replace hM:=aS;(try dsimp only at hM)
   have aa:=M.e_pure hM
   exact ⟨_,resE_tmp rfl,⟨10,aa,rfl,(H.pk [])⟩⟩
  replace hM:=M.e_f hM aN;refine kg 5 ?_
  exact ⟨br,bt,s3+1,_,upds_of _ _ ⟨rfl,rfl,rfl,rfl,trivial⟩,M.e_inl hM aJ,(H.pk [1])⟩
 replace hM:=M.e_f hM ak
 replace ak:=dI ak
 refine W.exit ?_
 have bz:=M.e_inr hM aJ
 subst bz;replace hM:=aS;(try dsimp only at hM);refine kg 4 ?_;refine W.ret ?_
 have aa:=M.e_pure hM
 exact ⟨_,resE_tmp rfl,⟨0,aa,rfl,(H.pk [])⟩⟩

def zaZ (c_Notes:List CNt):((List (Int × CNt)) × Nat)->M (((List (Int × CNt)) × Nat) ⊕ (List (Int × CNt))):=fun (mp,s) =>
  bif decide ((s:Int)<(c_Notes.length:Int)) then (
  M.grd (decide ((s:Int)<(c_Notes.length:Int))) <|
  M.pure (.inl (setM mp ((c_Notes.getD s default).mark:Int) (c_Notes.getD s default),s+1)))
  else (
  M.pure (.inr mp))
def zbN (c_Pace_Lo c_Pace_Hi c_Base c_Scale c_Off:Int) (c_Marks:List CMk) (c_Notes:List CNt):M (Int ⊕ (Int × Int × Int × Int × Int × (List (Int × CNt)) × (List Bool) × Int)) :=
  M.bind (zbG c_Pace_Lo c_Pace_Hi c_Base c_Scale c_Off c_Marks c_Notes) fun r2 =>
  bif r2 != 0 then (
  M.pure (.inl r2))
  else (
  M.bind (M.iter (zaZ c_Notes) (([]:List (Int × CNt)),0)) fun aa =>
  M.pure (.inr (c_Pace_Lo,c_Pace_Hi,c_Base,c_Scale,c_Off,aa,(List.replicate 40 false),0)))
theorem zeo {R:List Chunk} {am:Cells} {ab:Value} {ao:Cells} {aa:Value} (c_Pace_Lo:Int) (c_Pace_Hi:Int) (c_Base:Int) (c_Scale:Int) (c_Off:Int) (c_Marks:List CMk) (c_Notes:List CNt) (aA:Reads R am) (aB:Sl am ab c_Marks) (ap:Reads R ao) (ai:Sl ao aa c_Notes) {r:(Int ⊕ (Int × Int × Int × Int × Int × (List (Int × CNt)) × (List Bool) × Int))} (hM:(zbN c_Pace_Lo c_Pace_Hi c_Base c_Scale c_Off c_Marks c_Notes).Ends r) (w:World) (H:St w w [] R):Ret Tryz.prog 69 #[.agg #[I c_Pace_Lo,I c_Pace_Hi,I c_Base,I c_Scale,I c_Off,ab,aa]] w fun v w'=>(∃ (y0:Int),(.inl y0)=r/\v = .tuple #[.pointer none,I y0]/\St w w' [] R)∨(∃ (y0:Int) (y1:Int) (y2:Int) (y3:Int) (y4:Int) (y5:List (Int × CNt)) (y6:List Bool) (y7:Int) (aq:Nat) (au:Nat),(.inr (y0,y1,y2,y3,y4,y5,y6,y7))=r/\v = .tuple #[Pq aq,I y7]/\St w w' [cBlk aq (List.flatten [[I y0,I y1,I y2,I y3,I y4,ab,aa,.map (some au)],encF (α:=Bool) y6]) 137,cMl I encCN au y5] R/\y6.length=40):=by
 refine ret_of_W Tryz.func69 rfl rfl rfl ?_;refine kg 2 ?_;refine t_bx [I c_Pace_Lo,I c_Pace_Hi,I c_Base,I c_Scale,I c_Off,ab,aa] H rfl ?_;intro aj aI H;refine kg 7 ?_;obtain ⟨aJ,aC,hM⟩:=M.e_bind hM;refine s_call cf84 [.agg #[I c_Pace_Lo,I c_Pace_Hi,I c_Base,I c_Scale,I c_Off,ab,aa]] rfl (zd1 c_Pace_Lo c_Pace_Hi c_Base c_Scale c_Off c_Marks c_Notes (aA.app _) aB (ap.app _) ai aC _ (H.gt 1)) ?_
 rintro vq aK ⟨r2,rfl,hvq,av⟩
 subst vq;(try dsimp only at hM);replace H:=H.bk av;clear av;refine kg 7 ?_
 refine W.cond (r2 != 0) rfl (fun ae=>?_) (fun ae=>?_)
 ·replace hM:=M.e_t hM ae
  replace ae:=dI ae
  refine kg 6 ?_;refine W.ret ?_
  have ak:=M.e_pure hM
  exact ⟨_,resE_tmp2 rfl,.inl (⟨r2,ak,rfl,(H.pk [])⟩)⟩
 replace hM:=M.e_f hM ae
 replace ae:=dI ae
 refine kg 4 ?_;refine t_mkMl (κ:=Int) (ν:=CNt) I encCN H ?_;intro ac aL H;refine s_val (x_bld (ps:=[(0,.agg #[I c_Pace_Lo,I c_Pace_Hi,I c_Base,I c_Scale,I c_Off,ab,aa]),(1,.map (some ac))]) (zs:=(List.flatten [[I 0,I 0,I 0,I 0,I 0,.slice none 0 0,.slice none 0 0,.map none],encF (α:=Bool) (List.replicate 40 false)])) (L':=(List.flatten [[I c_Pace_Lo,I c_Pace_Hi,I c_Base,I c_Scale,I c_Off,ab,aa,.map (some ac)],encF (α:=Bool) (List.replicate 40 false)])) rfl Tryz.underlying137 Al137 rfl (Bd137 Tryz.underlying137) (.cons (cs:=[I c_Pace_Lo,I c_Pace_Hi,I c_Base,I c_Scale,I c_Off,ab,aa]) rfl rfl rfl (by kernel_rfl) rfl<|.cons (cs:=[.map (some ac)]) rfl rfl rfl (by kernel_rfl) rfl<|.nil)) ?_;refine t_box (v:=.agg (List.flatten [[I c_Pace_Lo,I c_Pace_Hi,I c_Base,I c_Scale,I c_Off,ab,aa,.map (some ac)],encF (α:=Bool) (List.replicate 40 false)]).toArray) (cs:=(List.flatten [[I c_Pace_Lo,I c_Pace_Hi,I c_Base,I c_Scale,I c_Off,ab,aa,.map (some ac)],encF (α:=Bool) (List.replicate 40 false)])) H rfl rfl ?_;intro ah aM H
 have aN:=(ai).len_le
 refine kg 11 ?_;obtain ⟨aD,al,aE⟩:=M.e_bind hM
 obtain ⟨aO,al⟩:=M.e_iter al
 refine W.loop (fun m σ W=>∃ (mp:List (Int × CNt)) (s:Nat) (ρ:Env),σ=upds ρ [(5,Pq ah),(18,aa),(19,I (c_Notes.length:Int)),(20,I (s:Int))]/\M.iterN (zaZ c_Notes) m (mp,s)=some aD/\St w W [cBlk ah (List.flatten [[I c_Pace_Lo,I c_Pace_Hi,I c_Base,I c_Scale,I c_Off,ab,aa,.map (some ac)],encF (α:=Bool) (List.replicate 40 false)]) 137,cMl I encCN ac mp,cBlk aj [I c_Pace_Lo,I c_Pace_Hi,I c_Base,I c_Scale,I c_Off,ab,aa] 28] R) ?_ ?_
 ·exact ⟨_,([]:List (Int × CNt)),0,_,upds_of _ _ ⟨rfl,rfl,rfl,rfl,trivial⟩,al,H⟩
 rintro aP σ aQ ⟨mp,s,ρ,rfl,aw,H⟩
 obtain ⟨aF,aG,aR,hM,ax⟩:=M.e_iterN aw
 simp only [zaZ] at hM
 clear aw;refine kg 5 ?_
 refine W.cond (decide ((s:Int)<(c_Notes.length:Int))) rfl (fun ag=>?_) (fun ag=>?_)
 ·replace hM:=M.e_t hM ag
  replace ag:=dI ag
  obtain ⟨aS,hM⟩:=M.e_gd hM;refine kg 6 ?_;refine s_val (x_ld (v:=.agg #[I ((c_Notes.getD s default).mark),I ((c_Notes.getD s default).tlo),I ((c_Notes.getD s default).thi),I ((c_Notes.getD s default).slo),I ((c_Notes.getD s default).shi)]) rfl (ld_ag Ag59 Sz59 (At.mono (CNt_atA ai (i:=(s:Int)) (by omega) (by omega)) (ap.at H)))) ?_;refine t_alloc (cs:=[I 0,I 0,I 0,I 0,I 0]) H Al59 rfl ?_;intro ay aT H;refine t_sw 0 0 [I ((c_Notes.getD s default).mark),I ((c_Notes.getD s default).tlo),I ((c_Notes.getD s default).thi),I ((c_Notes.getD s default).slo),I ((c_Notes.getD s default).shi)] (.agg #[I ((c_Notes.getD s default).mark),I ((c_Notes.getD s default).tlo),I ((c_Notes.getD s default).thi),I ((c_Notes.getD s default).slo),I ((c_Notes.getD s default).shi)]) H rfl rfl Sz59 rfl rfl rfl rfl ?_;intro aU H;refine s_nil ?_;refine W.draw (fun W=>St w W [cBlk ay [I ((c_Notes.getD s default).mark),I ((c_Notes.getD s default).tlo),I ((c_Notes.getD s default).thi),I ((c_Notes.getD s default).slo),I ((c_Notes.getD s default).shi)] 59,cBlk ah (List.flatten [[I c_Pace_Lo,I c_Pace_Hi,I c_Base,I c_Scale,I c_Off,ab,aa,.map (some ac)],encF (α:=Bool) (List.replicate 40 false)]) 137,cBlk aj [I c_Pace_Lo,I c_Pace_Hi,I c_Base,I c_Scale,I c_Off,ab,aa] 28] R) [(0,true),(1,true),(2,true),(3,true),(4,true),(5,true),(6,true),(7,false)] mixed (by decide +kernel) rfl ?_;intro aV az;replace H:=H.ext az;clear az
  refine ⟨(H.pk [0,1,3]),?_⟩
  refine kg 7 ?_;refine d_l rfl ?_;refine t_putMl (i:=2) (kenc:=I) (venc:=encCN) (m:=mp) (k:=((c_Notes.getD s default).mark:Int)) (v:=(c_Notes.getD s default)) (L':=[cBlk ay [I ((c_Notes.getD s default).mark),I ((c_Notes.getD s default).tlo),I ((c_Notes.getD s default).thi),I ((c_Notes.getD s default).slo),I ((c_Notes.getD s default).shi)] 59,cBlk ah (List.flatten [[I c_Pace_Lo,I c_Pace_Hi,I c_Base,I c_Scale,I c_Off,ab,aa,.map (some ac)],encF (α:=Bool) (List.replicate 40 false)]) 137,cMl I encCN ac (setM mp ((c_Notes.getD s default).mark:Int) (c_Notes.getD s default)),cBlk aj [I c_Pace_Lo,I c_Pace_Hi,I c_Base,I c_Scale,I c_Off,ab,aa] 28]) keyIntCN Tryz.underlying134 H rfl rfl rfl rfl rfl ?_;intro aW H
  refine s_nil ⟨(H.pk [0,1,3]),?_⟩
  refine kg 5 ?_
  exact ⟨aF,aG,setM mp ((c_Notes.getD s default).mark:Int) (c_Notes.getD s default),s+1,_,upds_of _ _ ⟨rfl,rfl,rfl,rfl,trivial⟩,M.e_inl hM ax,(H.pk [1,2,3])⟩
 replace hM:=M.e_f hM ag
 replace ag:=dI ag
 refine W.exit ?_
 have aH:=M.e_inr hM ax
 subst aH;replace hM:=aE;(try dsimp only at hM);refine kg 6 ?_;refine W.ret ?_
 have ak:=M.e_pure hM
 exact ⟨_,resE_tmp2 rfl,.inr (⟨c_Pace_Lo,c_Pace_Hi,c_Base,c_Scale,c_Off,mp,(List.replicate 40 false),0,ah,ac,ak,rfl,(H.pk [0,1]),List.length_replicate⟩)⟩

def zbg (aa:List CMk) (stops:List Int):((List Bool) × Int × Nat)->M (((List Bool) × Int × Nat) ⊕ ((List Bool) ⊕ (List Bool))):=fun (s,last,s2) =>
  bif decide ((s2:Int)<(stops.length:Int)) then (
  M.grd (decide ((s2:Int)<(stops.length:Int))) <|
  M.grd (decide ((-9223372036854775808:Int)<=(last+1))&&decide ((last+1)<=(9223372036854775807:Int))) <|
  M.bind (zai (stops.getD s2 0) (last+1) ((aa.length:Int)-2)) fun r2 =>
  bif !r2 then (
  M.pure (.inr (.inl s)))
  else (
  M.grd (decide ((0:Int)<=(stops.getD s2 0))&&decide ((stops.getD s2 0)<(40:Int))) <|
  M.pure (.inl (s.set (Int.toNat (stops.getD s2 0)) true,stops.getD s2 0,s2+1))))
  else (
  M.pure (.inr (.inr s)))
def zca (ac ae ag ah ai:Int) (aa:List CMk) (aj:List CNt) (ak:List (Int × CNt)) (ab:List Bool) (stops:List Int):M (Bool × (List Bool)) :=
  M.bind (M.iter (zbg aa stops) (ab,-1,0)) fun x_=>match x_ with
  | (.inl l)=>(
  M.pure (false,l))
  | (.inr l2)=>(
  M.pure (true,l2))
theorem zdO {R:List Chunk} {aa:Nat} {ay:Cells} {ab:Value} {az:Cells} {ac:Value} {ae:Nat} {aA:Cells} {aq:Value} (ag:Int) (ah:Int) (ai:Int) (aj:Int) (ak:Int) (am:List CMk) (aB:List CNt) (aC:List (Int × CNt)) (ao:List Bool) (stops:List Int) (aQ:Reads R ay) (aG:Sl ay ab am) (aR:Reads R az) (aS:Sl az ac aB) (aT:Has R (cMl I encCN ae aC)) (aH:ao.length=40) (aU:Reads R aA) (aI:Sl aA aq stops) {r:(Bool × (List Bool))} (hM:(zca ag ah ai aj ak am aB aC ao stops).Ends r) (w:World) (H:St w w [cBlk aa (List.flatten [[I ag,I ah,I ai,I aj,I ak,ab,ac,.map (some ae)],encF (α:=Bool) ao]) 137] R):Ret Tryz.prog 70 #[Pq aa,aq] w fun v w'=>∃ (y0:Bool) (y1:List Bool),(y0,y1)=r/\v=B y0/\St w w' [cBlk aa (List.flatten [[I ag,I ah,I ai,I aj,I ak,ab,ac,.map (some ae)],encF (α:=Bool) y1]) 137] R/\y1.length=40:=by
 refine ret_of_W Tryz.func70 rfl rfl rfl ?_
 have aV:=(aI).len_le
 refine kg 16 ?_;obtain ⟨aJ,au,aD⟩:=M.e_bind hM
 obtain ⟨aW,au⟩:=M.e_iter au
 refine W.loop (fun m σ W=>∃ (s:List Bool) (last:Int) (s2:Nat) (ρ:Env),σ=upds ρ [(0,Pq aa),(5,I last),(8,aq),(9,I (stops.length:Int)),(10,I (s2:Int))]/\M.iterN (zbg am stops) m (s,last,s2)=some aJ/\St w W [cBlk aa (List.flatten [[I ag,I ah,I ai,I aj,I ak,ab,ac,.map (some ae)],encF (α:=Bool) s]) 137] R/\s.length=40) ?_ ?_
 ·exact ⟨_,ao,-1,0,_,upds_of _ _ ⟨rfl,rfl,rfl,rfl,rfl,trivial⟩,au,H,aH⟩
 rintro aX σ aY ⟨s,last,s2,ρ,rfl,aE,H,ap⟩
 obtain ⟨aK,aL,aZ,hM,av⟩:=M.e_iterN aE
 simp only [zbg] at hM
 clear aE;refine kg 5 ?_
 refine W.cond (decide ((s2:Int)<(stops.length:Int))) rfl (fun al=>?_) (fun al=>?_)
 ·replace hM:=M.e_t hM al
  replace al:=dI al
  obtain ⟨a6,hM⟩:=M.e_gd hM;obtain ⟨a7,hM⟩:=M.e_gd hM
  have a8:=(aG).len_le
  refine kg 22 ?_;obtain ⟨ba,aM,hM⟩:=M.e_bind hM;refine s_call cf85 [I (stops.getD s2 0),I (last+1),I ((am.length:Int)-2)] rfl (zam (stops.getD s2 0) (last+1) ((am.length:Int)-2) aM _ (H.gt 1)) ?_
  rintro vq bb ⟨r2,rfl,hvq,aF⟩
  subst vq;(try dsimp only at hM);replace H:=H.bk aF;clear aF;refine kg 2 ?_
  refine W.cond (!r2) rfl (fun aw=>?_) (fun aw=>?_)
  ·replace hM:=M.e_t hM aw;refine kg 4 ?_;refine W.ret ?_
   have aN:=M.e_inr hM av
   subst aN;replace hM:=aD;(try dsimp only at hM)
   have ax:=M.e_pure hM
   exact ⟨_,resE_tmp rfl,⟨false,s,ax,rfl,H,ap⟩⟩
  replace hM:=M.e_f hM aw;obtain ⟨bc,hM⟩:=M.e_gd hM;refine kg 11 ?_;refine s_val (x_ix (v:=.pointer (some ⟨aa,8+Int.toNat (stops.getD s2 0)*1,none⟩)) rfl rfl (run_indexS Tryz.underlying135 Sz4 (by omega) (by omega))) ?_;refine t_stS (α:=Bool) (kc:=0) (b:=aa) (k:=1) (off:=8) (i:=(Int.toNat (stops.getD s2 0))) (f:=0) (sz:=1) (segs:=[[I ag,I ah,I ai,I aj,I ak,ab,ac,.map (some ae)],encF (α:=Bool) s]) (segs':=[[I ag,I ah,I ai,I aj,I ak,ab,ac,.map (some ae)],encF (α:=Bool) (s.set (Int.toNat (stops.getD s2 0)) true)]) (l:=s) (l':=s.set (Int.toNat (stops.getD s2 0)) true) (vs:=[B true]) (L':=[cBlk aa (List.flatten [[I ag,I ah,I ai,I aj,I ak,ab,ac,.map (some ae)],encF (α:=Bool) (s.set (Int.toNat (stops.getD s2 0)) true)]) 137]) H rfl rfl rfl Sz4 rfl rfl rfl rfl (sgo1 rfl) rfl rfl (by have bf:=ap; omega) (by omega) false true rfl rfl rfl rfl ?_;intro bg H
  have aO:(s.set (Int.toNat (stops.getD s2 0)) true).length=40:=List.length_set.trans ap
  refine kg 5 ?_
  exact ⟨aK,aL,s.set (Int.toNat (stops.getD s2 0)) true,stops.getD s2 0,s2+1,_,upds_of _ _ ⟨rfl,rfl,rfl,rfl,rfl,trivial⟩,M.e_inl hM av,H,aO⟩
 replace hM:=M.e_f hM al
 replace al:=dI al
 refine W.exit ?_
 have aP:=M.e_inr hM av
 subst aP;replace hM:=aD;(try dsimp only at hM);refine kg 4 ?_;refine W.ret ?_
 have ax:=M.e_pure hM
 exact ⟨_,resE_tmp rfl,⟨true,s,ax,rfl,H,ap⟩⟩

def zb7 (c_Pace_Lo c_Pace_Hi c_Base c_Scale c_Off:Int) (c_Marks:List CMk) (c_Notes:List CNt) (stops:List Int):M (Int × Int × Int × Int × Int × (List (Int × CNt)) × (List Bool) × Int) :=
  M.bind (zbN c_Pace_Lo c_Pace_Hi c_Base c_Scale c_Off c_Marks c_Notes) fun x_=>match x_ with
  | (.inl r1)=>(
  M.fail)
  | (.inr (aa,ab,ac,ae,ag,ah,aj,ai))=>(
  bif ai==0 then (
  M.bind (zca aa ab ac ae ag c_Marks c_Notes ah aj stops) fun (r2,q8) =>
  bif ((ai==0)&&(!r2)) then (
  M.pure (aa,ab,ac,ae,ag,ah,q8,2))
  else (
  M.pure (aa,ab,ac,ae,ag,ah,q8,ai)))
  else (
  M.pure (aa,ab,ac,ae,ag,ah,aj,ai)))
theorem zey {R:List Chunk} {aw:Cells} {ae:Value} {ax:Cells} {ag:Value} {ay:Cells} {aj:Value} (c_Pace_Lo:Int) (c_Pace_Hi:Int) (c_Base:Int) (c_Scale:Int) (c_Off:Int) (c_Marks:List CMk) (c_Notes:List CNt) (stops:List Int) (az:Reads R aw) (aA:Sl aw ae c_Marks) (aB:Reads R ax) (aC:Sl ax ag c_Notes) (aJ:Reads R ay) (aK:Sl ay aj stops) {r:(Int × Int × Int × Int × Int × (List (Int × CNt)) × (List Bool) × Int)} (hM:(zb7 c_Pace_Lo c_Pace_Hi c_Base c_Scale c_Off c_Marks c_Notes stops).Ends r) (w:World) (H:St w w [] R):Ret Tryz.prog 46 #[.agg #[I c_Pace_Lo,I c_Pace_Hi,I c_Base,I c_Scale,I c_Off,ae,ag],aj] w fun v w'=>∃ (y0:Int) (y1:Int) (y2:Int) (y3:Int) (y4:Int) (y5:List (Int × CNt)) (y6:List Bool) (y7:Int) (aD:Nat) (aE:Nat),(y0,y1,y2,y3,y4,y5,y6,y7)=r/\v = .tuple #[Pq aD,I y7]/\St w w' [cBlk aD (List.flatten [[I y0,I y1,I y2,I y3,I y4,ae,ag,.map (some aE)],encF (α:=Bool) y6]) 137,cMl I encCN aE y5] R/\y6.length=40:=by
 refine ret_of_W Tryz.func46 rfl rfl rfl ?_;refine kg 2 ?_;refine t_bx [I c_Pace_Lo,I c_Pace_Hi,I c_Base,I c_Scale,I c_Off,ae,ag] H rfl ?_;intro aP aQ H;refine kg 6 ?_;obtain ⟨aR,aL,hM⟩:=M.e_bind hM;refine s_call cf69 [.agg #[I c_Pace_Lo,I c_Pace_Hi,I c_Base,I c_Scale,I c_Off,ae,ag]] rfl (zeo c_Pace_Lo c_Pace_Hi c_Base c_Scale c_Off c_Marks c_Notes (az.app _) aA (aB.app _) aC aL _ (H.gt 1)) ?_
 rintro vq aS (⟨r1,aM,hvq,ab⟩ | ⟨ak,al,am,ao,ap,aq,aF,aa,ah,au,aN,hvq,ab,aG⟩)
 ·subst aM;subst vq;(try dsimp only at hM);replace H:=H.bk ab;clear ab;refine kg 14 ?_
  exact (M.e_fail hM).elim
 subst aN;subst vq;(try dsimp only at hM);replace H:=H.bk ab;clear ab;refine kg 14 ?_
 refine g_splitV (aa==0) (B false) (gy_t rfl) (fun ac=>?_) (fun ac=>?_)
 ·replace hM:=M.e_t hM ac;obtain ⟨aT,aO,hM⟩:=M.e_bind hM;refine s_call cf70 [Pq ah,aj] (lst2 (gd_of (c:=aa==0) ac (Pq ah)) (gd_of (c:=aa==0) ac (aj))) (zdO ak al am ao ap c_Marks c_Notes aq aF stops (az.app _) aA (aB.app _) aC (Has.here (k:=0) rfl) aG (aJ.app _) aK aO _ (H.gt 2)) ?_
  rintro vq aU ⟨r2,q8,rfl,hvq,ab,aH⟩
  subst vq;(try dsimp only at hM);replace H:=H.bk ab;clear ab;refine kg 3 ?_
  refine W.cond ((aa==0)&&(!r2)) rfl (fun av=>?_) (fun av=>?_)
  ·replace hM:=M.e_t hM av;refine kg 10 ?_;refine W.ret ?_
   have ai:=M.e_pure hM
   exact ⟨_,resE_tmp2 rfl,⟨ak,al,am,ao,ap,aq,q8,2,ah,au,ai,rfl,(H.pk [0,1]),aH⟩⟩
  replace hM:=M.e_f hM av;refine kg 8 ?_;refine W.ret ?_
  have ai:=M.e_pure hM
  exact ⟨_,resE_tmp2 rfl,⟨ak,al,am,ao,ap,aq,q8,aa,ah,au,ai,rfl,(H.pk [0,1]),aH⟩⟩
 replace hM:=M.e_f hM ac;refine g_val (v:=B false) (aa==0) (gy_t rfl) (fun hg=>Bool.noConfusion (ac.symm.trans hg))<|s_val (x_pand0 (b:=aa==0) rfl (fun hb=>gd_of (c:=aa==0) (by first | exact hb | (rw [hb]; rfl) | simp_all) (B false)) rfl)<|s_nil ?_
 refine W.cond false rfl (fun aI=>?_) (fun aI=>?_)
 ·skip
  exact absurd aI (by decide)
 skip
 refine kg 8 ?_;refine W.ret ?_
 have ai:=M.e_pure hM
 exact ⟨_,resE_tmp2 rfl,⟨ak,al,am,ao,ap,aq,aF,aa,ah,au,ai,rfl,(H.pk [0,1]),aG⟩⟩

def zdl (aa ab ac ae ag:Int) (ah:List CMk) (ai:List CNt) (aj:List (Int × CNt)):M Unit :=
  M.pure ()
theorem zdG {R:List Chunk} {aa:Nat} {ab:Cells} {ac:Value} {ae:Cells} {ag:Value} {ah:Nat} (ai:Int) (aj:Int) (ak:Int) (al:Int) (am:Int) (ao:List CMk) (ap:List CNt) (aq:List (Int × CNt)) (ax:Reads R ab) (ay:Sl ab ac ao) (az:Reads R ae) (aA:Sl ae ag ap) (aB:Has R (cMl I encCN ah aq)) (aC:Fld R aa [I ai,I aj,I ak,I al,I am,ac,ag,.map (some ah)]) {r:Unit} (hM:(zdl ai aj ak al am ao ap aq).Ends r) (w:World) (H:St w w [] R):Ret Tryz.prog 87 #[Pq aa] w fun v w'=>∃ (au:Nat),()=r/\v = .func (.func 113) #[] #[Pq au]/\St w w' [cBlk au [Pq aa] 75] R:=by
 refine ret_of_W Tryz.func87 rfl rfl rfl ?_;refine kg 2 ?_;refine t_b1 (Pq aa) H rfl rfl ?_;intro av aD H;refine kg 4 ?_;refine s_val (x_mf (fs:=[]) (cs:=[Pq av]) rfl rfl) ?_;refine kg 2 ?_;refine W.ret ?_
 have aw:=M.e_pure hM
 exact ⟨_,resE_tmp rfl,⟨av,aw,rfl,H⟩⟩

def za5 {T_:Type} (ae:T_->(Int × Span)->M (Bool × T_)) (ab ac:Int) (aa:List CMk) (ag:List Bool):(Nat × T_)->M ((Nat × T_) ⊕ (T_ ⊕ T_)):=fun (s2,t2) =>
  bif decide ((s2:Int)<((aa.length:Int)-1)) then (
  M.grd (decide ((-9223372036854775808:Int)<=((s2:Int)+1))&&decide (((s2:Int)+1)<=(9223372036854775807:Int))) <|
  M.grd (decide ((0:Int)<=((s2:Int)+1))&&decide (((s2:Int)+1)<(aa.length:Int))) <|
  M.grd (decide ((s2:Int)<(aa.length:Int))) <|
  M.grd (decide ((-9223372036854775808:Int)<=(((aa.getD (Int.toNat ((s2:Int)+1)) default).place)-((aa.getD s2 default).place)))&&decide ((((aa.getD (Int.toNat ((s2:Int)+1)) default).place)-((aa.getD s2 default).place))<=(9223372036854775807:Int))) <|
  M.grd (decide ((-9223372036854775808:Int)<=(ab*(((aa.getD (Int.toNat ((s2:Int)+1)) default).place)-((aa.getD s2 default).place))))&&decide ((ab*(((aa.getD (Int.toNat ((s2:Int)+1)) default).place)-((aa.getD s2 default).place)))<=(9223372036854775807:Int))) <|
  M.grd (decide ((-9223372036854775808:Int)<=(ac*(((aa.getD (Int.toNat ((s2:Int)+1)) default).place)-((aa.getD s2 default).place))))&&decide ((ac*(((aa.getD (Int.toNat ((s2:Int)+1)) default).place)-((aa.getD s2 default).place)))<=(9223372036854775807:Int))) <|
  M.grd (decide ((0:Int)<=(s2:Int))&&decide ((s2:Int)<(40:Int))) <|
  bif ag.getD s2 false then (
  M.bind (ae t2 ((s2:Int),(⟨(ab*(((aa.getD (Int.toNat ((s2:Int)+1)) default).place)-((aa.getD s2 default).place)):Int),(200000000:Int)⟩:Span))) fun (go,t) =>
  bif !go then (
  M.pure (.inr (.inl t)))
  else (
  M.pure (.inl (s2+1,t))))
  else (
  M.bind (ae t2 ((s2:Int),(⟨(ab*(((aa.getD (Int.toNat ((s2:Int)+1)) default).place)-((aa.getD s2 default).place)):Int),(ac*(((aa.getD (Int.toNat ((s2:Int)+1)) default).place)-((aa.getD s2 default).place)):Int)⟩:Span))) fun (go,t) =>
  bif !go then (
  M.pure (.inr (.inl t)))
  else (
  M.pure (.inl (s2+1,t)))))
  else (
  M.pure (.inr (.inr t2)))
def zcd {T_:Type} (aa:T_->(Int × Span)->M (Bool × T_)) (t_:T_) (ab ac ah ai aj:Int) (ae:List CMk) (ak:List CNt) (al:List (Int × CNt)) (ag:List Bool):M T_ :=
  M.bind (M.iter (za5 aa ab ac ae ag) (0,t_)) fun x_=>match x_ with
  | (.inl t3)=>(
  M.pure t3)
  | (.inr t4)=>(
  M.pure t4)
theorem zdA {R:List Chunk} {T_:Type} {Y_:T_->List Chunk->Prop} {ak:Value} {al:List Chunk} {am:Nat} {ao:Nat} {az:Cells} {aA:Value} {aB:Cells} {aC:Value} {aD:Nat} (ap:T_->(Int × Span)->M (Bool × T_)) (t_:T_) (ab:Int) (ac:Int) (aE:Int) (aF:Int) (aG:Int) (aa:List CMk) (aH:List CNt) (aI:List (Int × CNt)) (ag:List Bool) (aJ:YieldC Tryz.prog R arISpan Y_ ak ap) (aT:Y_ t_ al) (aK:Reads R az) (aq:Sl az aA aa) (a8:Reads R aB) (ba:Sl aB aC aH) (bb:Has R (cMl I encCN aD aI)) (aU:ag.length=40) (aV:Has R (cBlk ao (List.flatten [[I ab,I ac,I aE,I aF,I aG,aA,aC,.map (some aD)],encF (α:=Bool) ag]) 137)) (bc:Has R (cBlk am [Pq ao] 75)) {r:T_} (hM:(zcd ap t_ ab ac aE aF aG aa aH aI ag).Ends r) (w:World) (H:St w w [cAll al] R):Ret Tryz.prog 113 #[ak,Pq am] w fun v w'=>∃ (y0:T_) (Ls0:List Chunk),y0=r/\v = .tuple #[]/\St w w' [cAll Ls0] R/\Y_ y0 Ls0:=by
 refine ret_of_W Tryz.func113 rfl rfl rfl ?_
 have bf:=(aq).len_le
 refine kg 12 ?_;obtain ⟨aW,au,av⟩:=M.e_bind hM
 obtain ⟨bg,au⟩:=M.e_iter au
 refine W.loop (fun m σ W=>∃ (s2:Nat) (t2:T_) (Ls_t2:List Chunk) (ρ:Env),σ=upds ρ [(0,ak),(1,Pq am),(12,I ((aa.length:Int)-1)),(13,I (s2:Int))]/\M.iterN (za5 ap ab ac aa ag) m (s2,t2)=some aW/\St w W [cAll Ls_t2] R/\Y_ t2 Ls_t2) ?_ ?_
 ·exact ⟨_,0,t_,al,_,upds_of _ _ ⟨rfl,rfl,rfl,rfl,trivial⟩,au,H,aT⟩
 rintro bh σ bi ⟨s2,t2,Ls_t2,ρ,rfl,aL,H,hY_t2⟩
 obtain ⟨aM,aN,bj,hM,ah⟩:=M.e_iterN aL
 simp only [za5] at hM
 clear aL;refine kg 5 ?_
 refine W.cond (decide ((s2:Int)<((aa.length:Int)-1))) rfl (fun ae=>?_) (fun ae=>?_)
 ·replace hM:=M.e_t hM ae
  replace ae:=dI ae
  refine kg 9 ?_;refine W.draw (fun W=>St w W [cAll Ls_t2] R) [(0,true),(1,true),(2,true),(3,true),(4,true),(5,true),(6,true),(7,true),(8,true),(9,true),(10,true),(11,true),(12,true),(13,true),(14,true),(15,true),(16,true),(17,true),(18,true),(19,true),(20,true)] mixed (by decide +kernel) rfl ?_;intro bm ai;replace H:=H.ext ai;clear ai
  refine ⟨(H.pk [0]),?_⟩
  obtain ⟨bn,hM⟩:=M.e_gd hM;obtain ⟨bo,hM⟩:=M.e_gd hM;refine kg 9 ?_;refine d_q rfl (fun w' H=>x_ld (v:=I ((aa.getD (Int.toNat ((s2:Int)+1)) default).place)) rfl (ld_sc Sc3 (At.mono (CMk_at0 aq (i:=(s2:Int)+1) (by omega) (by omega)) (aK.at H)))) ?_;obtain ⟨bp,hM⟩:=M.e_gd hM;refine kg 8 ?_;refine d_q rfl (fun w' H=>x_ld (v:=I ((aa.getD s2 default).place)) rfl (ld_sc Sc3 (At.mono (CMk_at0 aq (i:=(s2:Int)) (by omega) (by omega)) (aK.at H)))) ?_;obtain ⟨br,hM⟩:=M.e_gd hM;refine kg 4 ?_;refine W.draw (fun W=>St w W [cAll Ls_t2] R) [(0,true),(1,true),(2,true),(3,true),(4,true),(5,true),(6,true),(7,true),(8,true),(9,true),(10,true),(11,true),(12,true),(13,true),(14,true),(15,true),(16,true),(17,false),(18,false)] mixed (by decide +kernel) rfl ?_;intro bt ai;replace H:=H.ext ai;clear ai
  refine ⟨(H.pk [0]),?_⟩
  obtain ⟨bu,hM⟩:=M.e_gd hM;obtain ⟨bv,hM⟩:=M.e_gd hM;refine kg 16 ?_;refine d_q rfl (fun w' H=>x_bld (ps:=[(0,I (ab*(((aa.getD (Int.toNat ((s2:Int)+1)) default).place)-((aa.getD s2 default).place)))),(1,I (ac*(((aa.getD (Int.toNat ((s2:Int)+1)) default).place)-((aa.getD s2 default).place))))]) (zs:=[I 0,I 0]) (L':=[I (ab*(((aa.getD (Int.toNat ((s2:Int)+1)) default).place)-((aa.getD s2 default).place))),I (ac*(((aa.getD (Int.toNat ((s2:Int)+1)) default).place)-((aa.getD s2 default).place)))]) rfl Tryz.underlying24 Al24 rfl (Bd24 Tryz.underlying24) (.cons (cs:=[I (ab*(((aa.getD (Int.toNat ((s2:Int)+1)) default).place)-((aa.getD s2 default).place)))]) rfl rfl rfl rfl rfl<|.cons (cs:=[I (ac*(((aa.getD (Int.toNat ((s2:Int)+1)) default).place)-((aa.getD s2 default).place)))]) rfl rfl rfl rfl rfl<|.nil))<|d_l rfl ?_;refine t_alloc (cs:=[I 0,I 0]) H Al24 rfl ?_;intro aO bw H
  refine s_nil ⟨(H.pk [1]),?_⟩
  refine d_l rfl ?_;refine t_sw 0 0 [I (ab*(((aa.getD (Int.toNat ((s2:Int)+1)) default).place)-((aa.getD s2 default).place))),I (ac*(((aa.getD (Int.toNat ((s2:Int)+1)) default).place)-((aa.getD s2 default).place)))] (.agg #[I (ab*(((aa.getD (Int.toNat ((s2:Int)+1)) default).place)-((aa.getD s2 default).place))),I (ac*(((aa.getD (Int.toNat ((s2:Int)+1)) default).place)-((aa.getD s2 default).place)))]) H rfl rfl Sz24 rfl rfl rfl rfl ?_;intro bx H
  refine s_nil ⟨(H.pk [1]),?_⟩
  obtain ⟨bz,hM⟩:=M.e_gd hM;refine kg 8 ?_;refine s_val (x_ix (v:=.pointer (some ⟨ao,8+Int.toNat (s2:Int)*1,none⟩)) rfl rfl (run_indexS Tryz.underlying135 Sz4 (by omega) (by omega)))<|s_val (x_ld (v:=B (ag.getD s2 false)) rfl (ldS (α:=Bool) (k:=1) (off:=8) (i:=s2) (f:=0) (sz:=1) false Sc4 (aV.blk H) rfl (sgo1 rfl) rfl (by decide) (by have bA:=aU; omega) (by omega) rfl))<|s_nil ?_
  refine W.cond (ag.getD s2 false) rfl (fun aw=>?_) (fun aw=>?_)
  ·replace hM:=M.e_t hM aw;refine kg 2 ?_;refine t_sw 0 1 [I 200000000] (I 200000000) H rfl rfl Sz3 rfl rfl rfl rfl ?_;intro bB H;refine kg 6 ?_
   obtain ⟨⟨go,t⟩,aX,hM⟩:=M.e_bind hM
   (try dsimp only at hM);refine t_yield (L:=[cBlk aO [I (ab*(((aa.getD (Int.toNat ((s2:Int)+1)) default).place)-((aa.getD s2 default).place))),I 200000000] 24]) (H.pk [1,0]) aJ hY_t2 rfl [I (s2:Int),.agg #[I (ab*(((aa.getD (Int.toNat ((s2:Int)+1)) default).place)-((aa.getD s2 default).place))),I 200000000]] rfl ((s2:Int),(⟨(ab*(((aa.getD (Int.toNat ((s2:Int)+1)) default).place)-((aa.getD s2 default).place)):Int),(200000000:Int)⟩:Span)) Reads.none rfl aX ?_;intro aP bC aQ H;replace H:=H.nf;refine kg 2 ?_
   refine W.cond (!go) rfl (fun ax=>?_) (fun ax=>?_)
   ·replace hM:=M.e_t hM ax;refine W.ret ?_
    have aY:=M.e_inr hM ah
    subst aY;replace hM:=av;(try dsimp only at hM)
    have aj:=M.e_pure hM
    exact ⟨_,resE_tmp0 rfl,⟨t,aP,aj,rfl,(H.pk [0]),aQ⟩⟩
   replace hM:=M.e_f hM ax;refine kg 5 ?_
   exact ⟨aM,aN,s2+1,t,aP,_,upds_of _ _ ⟨rfl,rfl,rfl,rfl,trivial⟩,M.e_inl hM ah,(H.pk [0]),aQ⟩
  replace hM:=M.e_f hM aw;refine kg 6 ?_
  obtain ⟨⟨go,t⟩,aZ,hM⟩:=M.e_bind hM
  (try dsimp only at hM);refine t_yield (L:=[cBlk aO [I (ab*(((aa.getD (Int.toNat ((s2:Int)+1)) default).place)-((aa.getD s2 default).place))),I (ac*(((aa.getD (Int.toNat ((s2:Int)+1)) default).place)-((aa.getD s2 default).place)))] 24]) (H.pk [1,0]) aJ hY_t2 rfl [I (s2:Int),.agg #[I (ab*(((aa.getD (Int.toNat ((s2:Int)+1)) default).place)-((aa.getD s2 default).place))),I (ac*(((aa.getD (Int.toNat ((s2:Int)+1)) default).place)-((aa.getD s2 default).place)))]] rfl ((s2:Int),(⟨(ab*(((aa.getD (Int.toNat ((s2:Int)+1)) default).place)-((aa.getD s2 default).place)):Int),(ac*(((aa.getD (Int.toNat ((s2:Int)+1)) default).place)-((aa.getD s2 default).place)):Int)⟩:Span)) Reads.none rfl aZ ?_;intro aR bD aS H;replace H:=H.nf;refine kg 2 ?_
  refine W.cond (!go) rfl (fun ay=>?_) (fun ay=>?_)
  ·replace hM:=M.e_t hM ay;refine W.ret ?_
   have a6:=M.e_inr hM ah
   subst a6;replace hM:=av;(try dsimp only at hM)
   have aj:=M.e_pure hM
   exact ⟨_,resE_tmp0 rfl,⟨t,aR,aj,rfl,(H.pk [0]),aS⟩⟩
  replace hM:=M.e_f hM ay;refine kg 5 ?_
  exact ⟨aM,aN,s2+1,t,aR,_,upds_of _ _ ⟨rfl,rfl,rfl,rfl,trivial⟩,M.e_inl hM ah,(H.pk [0]),aS⟩
 replace hM:=M.e_f hM ae
 replace ae:=dI ae
 refine W.exit ?_
 have a7:=M.e_inr hM ah
 subst a7;replace hM:=av;(try dsimp only at hM)
 have aj:=M.e_pure hM
 exact ⟨_,resE_tmp0 rfl,⟨t2,Ls_t2,aj,rfl,H,hY_t2⟩⟩
def za4 (mark:Int) (s:Span) (aa:List Span):M (List Span) :=
  M.grd (decide ((0:Int)<=mark)&&decide (mark<(aa.length:Int))) <|
  M.bind (zbr (aa.getD (Int.toNat mark) default) ([s])) fun (r0,r1) =>
  M.pure (aa.set (Int.toNat mark) (⟨(r0:Int),(r1:Int)⟩:Span))
theorem zc8 {R:List Chunk} {ae:Nat} {ab:Value} (mark:Int) (s:Span) (aa:List Span)  {r:(List Span)} (hM:(za4 mark s aa).Ends r) (w:World) (H:St w w [cOwn (α:=Span) 24 ab aa,cBlk ae [ab] 36] R):Ret Tryz.prog 88 #[I mark,.agg #[I s.lo,I s.hi],Pq ae] w fun v w'=>∃ (y0:List Span) (u0:Value),y0=r/\v = .tuple #[]/\St w w' [cOwn (α:=Span) 24 u0 y0,cBlk ae [u0] 36] R:=by
 refine ret_of_W Tryz.func88 rfl rfl rfl ?_;refine kg 2 ?_;refine t_bx [I s.lo,I s.hi] H rfl ?_;intro ah aq H;refine s_nil ?_;refine W.drawT (fun W=>St w W [cBlk ah [I s.lo,I s.hi] 24,cBlk ae [ab] 36] R) (.q 0 (.q 1 (.q 2 (.q 3 (.q 6 (.l2 4 (.l2 5 (.l 7 (.l 8 (.l 9 (.l 10 .nil)))) 7 (.l 5 (.l 8 (.l 9 (.l 10 .nil))))) 7 (.l 4 (.l 5 (.l 8 (.l 9 (.l 10 .nil))))))))))) mixed (by decide +kernel) rfl ?_;intro au ai;replace H:=H.ext ai;clear ai
 refine ⟨(H.pk [0,2]),?_⟩
 refine kg 5 ?_;refine t_l2 rfl rfl ?_ ?_
 ·skip
  obtain ⟨av,hM⟩:=M.e_gd hM;refine kg 1 ?_
  have aw:=Sl.cells (H.os 1)
  have ax:=Sl.oc (H.os 1)
  refine s_nil ⟨(H.pk [0,2]),?_⟩
  refine t_l2 rfl rfl ?_ ?_
  ·skip
   refine kg 1 ?_
   refine s_nil ⟨(H.pk [0,2]),?_⟩
   refine t_l rfl ?_;refine t_bs (α:=Span) T36 [.agg #[I s.lo,I s.hi]] [s] H rfl (.cons rfl (Flat.rep_enc _ s)<|.nil) rfl rfl rfl ?_;intro aj ay H
   have az:=Sl.cells (H.os 0)
   have aA:=Sl.oc (H.os 0)
   refine s_nil ⟨(H.pk [1,3]),?_⟩
   refine t_l rfl ?_;obtain ⟨aB,am,hM⟩:=M.e_bind hM;refine s_call cf89 [.agg #[I ((aa.getD (Int.toNat mark) default).lo),I ((aa.getD (Int.toNat mark) default).hi)],aj] rfl (zb1 (aa.getD (Int.toNat mark) default) ([s]) (rdo 0) (H.os 0) am _ (H.gt 4)) ?_
   rintro vq aC ⟨r0,r1,rfl,hvq,ac⟩
   subst vq;(try dsimp only at hM);replace H:=H.bk ac;clear ac
   refine s_nil ⟨(H.pk [1,3]),?_⟩
   refine t_l rfl ?_;refine kg 1 ?_
   refine s_nil ⟨(H.pk [1,3]),?_⟩
   refine t_l rfl ?_;refine t_ost (k:=2) (i:=mark) (l:=aa) (l':=aa.set (Int.toNat mark) (⟨(r0:Int),(r1:Int)⟩:Span)) (val:=.agg #[I r0,I r1]) (L':=[cOwn (α:=Span) 24 aj ([s]),cBlk ah [I s.lo,I s.hi] 24,cOwn (α:=Span) 24 ab (aa.set (Int.toNat mark) (⟨(r0:Int),(r1:Int)⟩:Span)),cBlk ae [ab] 36]) H rfl Sz24 (by omega) (by omega) (⟨(r0:Int),(r1:Int)⟩:Span) rfl rfl rfl rfl rfl ?_;intro aD H
   refine s_nil ⟨(H.pk [1,3]),?_⟩
   refine t_nil ?_
   have ag:=M.e_pure hM
   exact ⟨_,resE_tmp0 rfl,⟨(aa.set (Int.toNat mark) (⟨(r0:Int),(r1:Int)⟩:Span)),ab,ag,rfl,(H.pk [2,3])⟩⟩
  skip
  refine t_bs (α:=Span) T36 [.agg #[I s.lo,I s.hi]] [s] H rfl (.cons rfl (Flat.rep_enc _ s)<|.nil) rfl rfl rfl ?_;intro ak aE H
  have aF:=Sl.cells (H.os 0)
  have aG:=Sl.oc (H.os 0)
  refine s_nil ⟨(H.pk [1,3]),?_⟩
  refine t_l rfl ?_;refine kg 1 ?_
  refine s_nil ⟨(H.pk [1,3]),?_⟩
  refine t_l rfl ?_;obtain ⟨aH,ao,hM⟩:=M.e_bind hM;refine s_call cf89 [.agg #[I ((aa.getD (Int.toNat mark) default).lo),I ((aa.getD (Int.toNat mark) default).hi)],ak] rfl (zb1 (aa.getD (Int.toNat mark) default) ([s]) (rdo 0) (H.os 0) ao _ (H.gt 4)) ?_
  rintro vq aI ⟨r0,r1,rfl,hvq,ac⟩
  subst vq;(try dsimp only at hM);replace H:=H.bk ac;clear ac
  refine s_nil ⟨(H.pk [1,3]),?_⟩
  refine t_l rfl ?_;refine kg 1 ?_
  refine s_nil ⟨(H.pk [1,3]),?_⟩
  refine t_l rfl ?_;refine t_ost (k:=2) (i:=mark) (l:=aa) (l':=aa.set (Int.toNat mark) (⟨(r0:Int),(r1:Int)⟩:Span)) (val:=.agg #[I r0,I r1]) (L':=[cOwn (α:=Span) 24 ak ([s]),cBlk ah [I s.lo,I s.hi] 24,cOwn (α:=Span) 24 ab (aa.set (Int.toNat mark) (⟨(r0:Int),(r1:Int)⟩:Span)),cBlk ae [ab] 36]) H rfl Sz24 (by omega) (by omega) (⟨(r0:Int),(r1:Int)⟩:Span) rfl rfl rfl rfl rfl ?_;intro aJ H
  refine s_nil ⟨(H.pk [1,3]),?_⟩
  refine t_nil ?_
  have ag:=M.e_pure hM
  exact ⟨_,resE_tmp0 rfl,⟨(aa.set (Int.toNat mark) (⟨(r0:Int),(r1:Int)⟩:Span)),ab,ag,rfl,(H.pk [2,3])⟩⟩
 skip
 refine t_bs (α:=Span) T36 [.agg #[I s.lo,I s.hi]] [s] H rfl (.cons rfl (Flat.rep_enc _ s)<|.nil) rfl rfl rfl ?_;intro al aK H
 have aL:=Sl.cells (H.os 0)
 have aM:=Sl.oc (H.os 0)
 have aN:=Sl.cells (H.os 2)
 have aO:=Sl.oc (H.os 2)
 refine s_nil ⟨(H.pk [1,3]),?_⟩
 refine t_l rfl ?_;obtain ⟨aP,hM⟩:=M.e_gd hM;refine kg 1 ?_
 refine s_nil ⟨(H.pk [1,3]),?_⟩
 refine t_l rfl ?_;refine kg 1 ?_
 refine s_nil ⟨(H.pk [1,3]),?_⟩
 refine t_l rfl ?_;obtain ⟨aQ,ap,hM⟩:=M.e_bind hM;refine s_call cf89 [.agg #[I ((aa.getD (Int.toNat mark) default).lo),I ((aa.getD (Int.toNat mark) default).hi)],al] rfl (zb1 (aa.getD (Int.toNat mark) default) ([s]) (rdo 0) (H.os 0) ap _ (H.gt 4)) ?_
 rintro vq aR ⟨r0,r1,rfl,hvq,ac⟩
 subst vq;(try dsimp only at hM);replace H:=H.bk ac;clear ac
 refine s_nil ⟨(H.pk [1,3]),?_⟩
 refine t_l rfl ?_;refine kg 1 ?_
 refine s_nil ⟨(H.pk [1,3]),?_⟩
 refine t_l rfl ?_;refine t_ost (k:=2) (i:=mark) (l:=aa) (l':=aa.set (Int.toNat mark) (⟨(r0:Int),(r1:Int)⟩:Span)) (val:=.agg #[I r0,I r1]) (L':=[cOwn (α:=Span) 24 al ([s]),cBlk ah [I s.lo,I s.hi] 24,cOwn (α:=Span) 24 ab (aa.set (Int.toNat mark) (⟨(r0:Int),(r1:Int)⟩:Span)),cBlk ae [ab] 36]) H rfl Sz24 (by omega) (by omega) (⟨(r0:Int),(r1:Int)⟩:Span) rfl rfl rfl rfl rfl ?_;intro aS H
 refine s_nil ⟨(H.pk [1,3]),?_⟩
 refine t_nil ?_
 have ag:=M.e_pure hM
 exact ⟨_,resE_tmp0 rfl,⟨(aa.set (Int.toNat mark) (⟨(r0:Int),(r1:Int)⟩:Span)),ab,ag,rfl,(H.pk [2,3])⟩⟩

def zbK (s:Span):M Bool :=
  M.pure (decide (s.lo<=s.hi))
theorem zdS {R:List Chunk}  (s:Span)  {r:Bool} (hM:(zbK s).Ends r) (w:World) (H:St w w [] R):Ret Tryz.prog 90 #[.agg #[I s.lo,I s.hi]] w fun v w'=>∃ (y0:Bool),y0=r/\v=B y0/\St w w' [] R:=by
 refine ret_of_W Tryz.func90 rfl rfl rfl ?_;refine kg 2 ?_;refine t_bx [I s.lo,I s.hi] H rfl ?_;intro ab ac H;refine kg 11 ?_;refine W.ret ?_
 have aa:=M.e_pure hM
 exact ⟨_,resE_tmp rfl,⟨(decide (s.lo<=s.hi)),aa,rfl,(H.pk [])⟩⟩

def zap  : (List Span)->(Int × Span)->M ((List Span) ⊕ Unit):=fun l (x,x2) =>
  M.grd (decide ((l.length+([x2]).length)*16<=140737488355328)) <|
  M.pure (.inl (l++([x2])))
def zbf (l:List Span):((List Span) × Nat)->M (((List Span) × Nat) ⊕ ((List Span) × (List Span))):=fun (l2,s) =>
  bif decide ((s:Int)<(l.length:Int)) then (
  M.grd (decide ((s:Int)<(l.length:Int))) <|
  M.grd (decide ((s:Int)<(l2.length:Int))) <|
  M.grd (decide ((-9223372036854775808:Int)<=(((l2.getD s default).lo)+((l.getD s default).lo)))&&decide ((((l2.getD s default).lo)+((l.getD s default).lo))<=(9223372036854775807:Int))) <|
  M.grd (decide ((-9223372036854775808:Int)<=(((l2.getD s default).hi)+((l.getD s default).hi)))&&decide ((((l2.getD s default).hi)+((l.getD s default).hi))<=(9223372036854775807:Int))) <|
  M.bind (za4 ((s:Int)+1) (⟨(((l2.getD s default).lo)+((l.getD s default).lo):Int),(((l2.getD s default).hi)+((l.getD s default).hi):Int)⟩:Span) l2) fun l_k02 =>
  M.pure (.inl (l_k02,s+1)))
  else (
  M.pure (.inr (l2,l2)))
def zaV (l:List Span):((List Span) × Int)->M (((List Span) × Int) ⊕ ((List Span) × (List Span))):=fun (l5,g) =>
  bif decide (0<=g) then (
  M.grd (decide ((-9223372036854775808:Int)<=(g+1))&&decide ((g+1)<=(9223372036854775807:Int))) <|
  M.grd (decide ((0:Int)<=(g+1))&&decide ((g+1)<(l5.length:Int))) <|
  M.grd (decide ((0:Int)<=g)&&decide (g<(l.length:Int))) <|
  M.grd (decide ((-9223372036854775808:Int)<=(((l5.getD (Int.toNat (g+1)) default).lo)-((l.getD (Int.toNat g) default).hi)))&&decide ((((l5.getD (Int.toNat (g+1)) default).lo)-((l.getD (Int.toNat g) default).hi))<=(9223372036854775807:Int))) <|
  M.grd (decide ((-9223372036854775808:Int)<=(((l5.getD (Int.toNat (g+1)) default).hi)-((l.getD (Int.toNat g) default).lo)))&&decide ((((l5.getD (Int.toNat (g+1)) default).hi)-((l.getD (Int.toNat g) default).lo))<=(9223372036854775807:Int))) <|
  M.bind (za4 g (⟨(((l5.getD (Int.toNat (g+1)) default).lo)-((l.getD (Int.toNat g) default).hi):Int),(((l5.getD (Int.toNat (g+1)) default).hi)-((l.getD (Int.toNat g) default).lo):Int)⟩:Span) l5) fun l_k022 =>
  M.grd (decide ((-9223372036854775808:Int)<=(g-1))&&decide ((g-1)<=(9223372036854775807:Int))) <|
  M.pure (.inl (l_k022,g-1)))
  else (
  M.pure (.inr (l5,l5)))
def zaX (aa ab ac ae ag:Int) (ah:List CMk) (ai:List CNt) (aj:List (Int × CNt)) (ak:List Bool) (times:List Span):M ((List Span) × Bool) :=
  M.bind (zdw times) fun r2 =>
  M.bind (zdl aa ab ac ae ag ah ai aj) fun (_:Unit) =>
  M.bind (zcd (M.yl zap) (.inl ([])) aa ab ac ae ag ah ai aj ak) fun x_=>match x_ with
  | .inl l=>(
  M.bind (M.iter (zbf l) (r2,0)) fun (l3,l4) =>
  M.bind (M.iter (zaV l) (l4,(l.length:Int)-1)) fun (l6,l7) =>
  M.bind (zbt l7 (fun al=>zbK al)) fun r3 =>
  M.pure (l7,r3))
  | .inr _=>M.fail
theorem zea {R:List Chunk} {ai:Nat} {aW:Cells} {aX:Value} {aY:Cells} {aZ:Value} {a6:Nat} {a7:Cells} {aK:Value} (au:Int) (av:Int) (aw:Int) (ax:Int) (ay:Int) (az:List CMk) (aA:List CNt) (aB:List (Int × CNt)) (aC:List Bool) (times:List Span) (aD:Reads R aW) (aL:Sl aW aX az) (aE:Reads R aY) (aM:Sl aY aZ aA) (aF:Has R (cMl I encCN a6 aB)) (bi:aC.length=40) (aG:Has R (cBlk ai (List.flatten [[I au,I av,I aw,I ax,I ay,aX,aZ,.map (some a6)],encF (α:=Bool) aC]) 137)) (aN:Reads R a7) (a8:Sl a7 aK times) {r:((List Span) × Bool)} (hM:(zaX au av aw ax ay az aA aB aC times).Ends r) (w:World) (H:St w w [] R):Ret Tryz.prog 71 #[Pq ai,aK] w fun v w'=>∃ (y0:List Span) (y1:Bool) (u0:Value),(y0,y1)=r/\v = .tuple #[u0,B y1]/\St w w' [cOwn (α:=Span) 24 u0 y0] R:=by
 refine ret_of_WD Tryz.func71 rfl rfl rfl ?_
 replace H:St w w [cMk ([])] R:=H.mk0
 have bW:=aL.len_le
 have bX:=aM.len_le
 have bY:=a8.len_le
 unfold zaX at hM
 refine WD.seq<|WD.of ?_;refine kg 4 ?_;refine WD.seq<|WD.of ?_;refine kg 2 ?_;obtain ⟨bZ,bj,hM⟩:=M.e_bind hM;refine s_call cf86 [aK] rfl (zek times (aN.app _) a8 bj _ (H.gt 1)) ?_
 rintro vq b3 ⟨r2,ag,rfl,hvq,ab⟩
 subst vq;(try dsimp only at hM);replace H:=H.bk ab;clear ab;refine t_alloc (cs:=[.slice none 0 0]) H Al36 rfl ?_;intro ac b4 H;refine t_sw 0 0 [ag] ag H rfl rfl Sz36 (Sl.cells (H.os 1)) rfl rfl (by simp only [List.all_cons,List.all_nil,Bool.true_and,Bool.and_true,Sl.oc (H.os 1)]; try rfl) ?_;intro b6 H;refine s_nil<|WD.seq<|WD.of<|W.region rfl ?_;refine t_alloc (cs:=[.slice none 0 0]) H Al36 rfl ?_;intro ah b7 H;refine s_nil<|WD.seq<|WD.seq<|WD.of ?_;refine kg 2 ?_;obtain ⟨b8,bm,hM⟩:=M.e_bind hM;refine s_call cf87 [Pq ai] rfl (zdG au av aw ax ay az aA aB (aD.app _) aL (aE.app _) aM (aF.app _) (Fld.of (aG.app _) rfl) bm _ (H.gt 4)) ?_
 rintro vq b9 ⟨ak,rfl,hvq,ab⟩
 subst vq;(try dsimp only at hM);replace H:=H.bk ab;clear ab;refine s_nil<|WD.block ?_
 replace H:=H.nilOwn (α:=Span) 24
 obtain ⟨ca,bn,hM⟩:=M.e_bind hM;refine WD.range (L:=[cOwn (α:=Span) 24 (.slice none 0 0) ([]),cBlk ah [(.slice none 0 0)] 36,cBlk ak [Pq ai] 75,cBlk ac [ag] 36,cOwn (α:=Span) 24 ag r2]) [Pq ak] (H.pk [5,0,2,1,3,4]) rfl cf113 ?_;intro aH aO aP bo aQ H
 have hYC:YieldC Tryz.prog ([cMk (aO :: ([])),cBlk ak [Pq ai] 75,cBlk ac [ag] 36,cOwn (α:=Span) 24 ag r2]++R) arISpan (yJ aH aP (fun l aI=>∃ (aa:Value),aI=[cOwn (α:=Span) 24 aa l,cBlk ah [aa] 36]) (fun (_:Unit) _=>False) (fun _=>.ret)) (.func (.yield aH) #[] #[]) (M.yl zap):=by
  refine YieldC.mk2 aQ (fun l aI=>∃ (aa:Value),aI=[cOwn (α:=Span) 24 aa l,cBlk ah [aa] 36]) (fun (_:Unit) _=>False) (fun _=>.ret) zap (by rintro l _ h_; obtain ⟨_,rfl⟩:=h_; rfl) (fun _ _ h_=>h_.elim) rfl (arISpan_len rfl) ?_;intro C_ cb x_ bp
  obtain ⟨x,x2⟩:=x_
  obtain rfl:=bp
  intro w R am aI s_ r br hM H
  skip
  obtain ⟨l,bt⟩:∃ y_,y_=s_:=⟨_,rfl⟩
  subst bt
  obtain ⟨aa,rfl⟩:=br
  replace H:=H.nf;refine W.region rfl ?_;refine t_alloc (cs:=[I 0,I 0]) H Al24 rfl ?_;intro bu cc H;refine t_sw 0 0 [I x2.lo,I x2.hi] (.agg #[I x2.lo,I x2.hi]) H rfl rfl Sz24 rfl rfl rfl rfl ?_;intro cd H;refine s_nil ?_
  refine ⟨rfl,[cBlk bu [I x2.lo,I x2.hi] 24],H.pick [0,1,2,3,4,5,6] (by decide) rfl,?_⟩
  clear H am
  intro w R am H
  replace aD:=aD.sub am
  replace aE:=aE.sub am
  replace aF:=aF.sub am
  replace aG:=aG.sub am
  replace aN:=aN.sub am
  replace hM:(zap l (x,x2)).Ends r:=hM
  simp only [zap] at hM
  replace H:=H.nf;refine kg 4 ?_;refine t_bs (α:=Span) T36 [.agg #[I x2.lo,I x2.hi]] [x2] H rfl (.cons rfl (Flat.rep_enc _ x2)<|.nil) rfl rfl rfl ?_;intro bv ce H;obtain ⟨cf,hM⟩:=M.e_gd hM;refine t_app (α:=Span) (k:=2) (l:=l) (l2:=[x2]) (l':=l++([x2])) (vy:=bv) T36 rfl H rfl rfl rfl (H.os 0) (H.ol 0) (rfl) (by first | omega | (simp only [List.length_nil] at *; omega)) ?_;intro aq cg H;replace H:=H.nf;refine t_sw 3 0 [aq] aq H rfl rfl Sz36 (Sl.cells (H.os 2)) rfl rfl (by simp only [List.all_cons,List.all_nil,Bool.true_and,Bool.and_true,Sl.oc (H.os 2)]; try rfl) ?_;intro ch H;refine s_nil ?_
  exact ⟨l++([x2]),[cOwn (α:=Span) 24 aq (l++([x2])),cBlk ah [aq] 36],(M.e_pure hM).symm,⟨aq,rfl⟩,H.pick [2,3,4,5,6,7] (by decide) rfl⟩
 replace H:St w bo (cAll (cObj aH (.loop aP) :: [cOwn (α:=Span) 24 (.slice none 0 0) ([]),cBlk ah [(.slice none 0 0)] 36]) :: [cMk (aO :: ([])),cBlk ak [Pq ai] 75,cBlk ac [ag] 36,cOwn (α:=Span) 24 ag r2]) R:=St.bundleB (A:=cObj aH (.loop aP) :: [cOwn (α:=Span) 24 (.slice none 0 0) ([]),cBlk ah [(.slice none 0 0)] 36]) (T:=[cMk (aO :: ([])),cBlk ak [Pq ai] 75,cBlk ac [ag] 36,cOwn (α:=Span) 24 ag r2]) rfl (H.pk [0,2,3,1,4,5,6])
 refine (zdA (M.yl zap) (.inl ([])) au av aw ax ay az aA aB aC hYC ⟨_,rfl,⟨(.slice none 0 0),rfl⟩⟩ (aD.app _) aL (aE.app _) aM (aF.app _) bi (aG.app _) (Has.here (k:=1) rfl) bn _ (H.gt 4)).mono ?_
 rintro vq ci ⟨bw,cj,rfl,hvq,ab,ba⟩
 replace H:=H.back ab rfl
 clear ab hYC
 rcases bw with l | _
 ·(try dsimp only at hM)
  obtain ⟨_,rfl,aa,rfl⟩:=ba
  refine ⟨_,[cOwn (α:=Span) 24 aa l,cBlk ah [aa] 36,cBlk ak [Pq ai] 75,cBlk ac [ag] 36,cOwn (α:=Span) 24 ag r2],H.unbundle.pick [0,3,1,2,4,5,6] (by decide) rfl,aQ.nb,?_⟩
  intro ck H
  rw [aQ.pd]
  replace H:=H.nf
  try simp only []
  refine WD.seq<|WD.of<|W.region rfl<|s_val (x_mf (fs:=[]) (cs:=[Pq ac]) rfl rfl) ?_;refine kg 2 ?_;refine WD.seq<|WD.seq<|WD.of ?_
  have cl:=((H.os 1)).len_le
  refine kg 5 ?_;refine WD.block ?_;obtain ⟨bx,aR,bz⟩:=M.e_bind hM
  obtain ⟨bA,aR⟩:=M.e_iter aR
  refine WD.loop (fun m aS σ W=>∃ (l2:List Span) (s:Nat) (aj:Value) (ρ:Env),σ=upds ρ [(6,Pq ac),(7,Pq ah),(10,.func (.func 88) #[] #[Pq ac]),(25,aa),(26,I (l.length:Int)),(27,I (s:Int))]/\M.iterN (zbf l) m (l2,s)=some bx/\St w W [cMk aS,cOwn (α:=Span) 24 aa l,cBlk ah [aa] 36,cBlk ak [Pq ai] 75,cBlk ac [aj] 36,cOwn (α:=Span) 24 aj l2] R) ?_ ?_
  ·exact ⟨_,r2,0,ag,_,upds_of _ _ ⟨rfl,rfl,rfl,rfl,rfl,rfl,trivial⟩,aR,H⟩
  rintro cm aS σ cn ⟨l2,s,aj,ρ,rfl,bb,H⟩
  obtain ⟨bB,bC,co,hM,bc⟩:=M.e_iterN bb
  simp only [zbf] at hM
  clear bb;refine WD.seq<|WD.of ?_;refine kg 3 ?_;refine WD.seq ?_
  refine WD.cond (decide ((s:Int)<(l.length:Int))) rfl (fun ao=>?_) (fun ao=>?_)
  ·replace hM:=M.e_t hM ao
   replace ao:=dI ao
   refine WD.of<|W.skip<|WD.seq<|WD.block<|WD.seq<|WD.of ?_;obtain ⟨cp,hM⟩:=M.e_gd hM;refine kg 4 ?_;refine t_alloc (cs:=[I 0,I 0]) H Al24 rfl ?_;intro aT cq H;refine kg 1 ?_;refine t_sw 0 0 [I ((l.getD s default).lo),I ((l.getD s default).hi)] (.agg #[I ((l.getD s default).lo),I ((l.getD s default).hi)]) H rfl rfl Sz24 rfl rfl rfl rfl ?_;intro cr H;refine s_nil<|WD.of ?_;refine W.drawTS (fun W=>St w W [cBlk aT [I ((l.getD s default).lo),I ((l.getD s default).hi)] 24,cMk aS,cOwn (α:=Span) 24 aa l,cBlk ah [aa] 36,cBlk ak [Pq ai] 75,cBlk ac [aj] 36,cOwn (α:=Span) 24 aj l2] R) (.q 0 (.q 1 (.q 2 (.q 3 (.q 4 (.q 5 (.q 6 (.q 7 (.q 8 (.q 9 (.q 10 (.q 11 (.q 12 (.q 13 (.q 14 (.q 15 (.q 16 (.q 17 (.q 18 (.q 19 .nil)))))))))))))))))))) 20 [20] mixed (by decide +kernel) rfl ?_;intro ct al;replace H:=H.ext al;clear al
   refine ⟨(H.pk [0,1,2,3,4,5,6]),?_⟩
   refine ts_q rfl (fun w' H=>x_mv (v:=.func (.func 88) #[] #[Pq ac]) rfl) ?_;refine ts_q rfl (fun w' H=>x_mv (v:=I (s:Int)) rfl) ?_;refine ts_q rfl (fun w' H=>x_ari (r:=(s:Int)+1) rfl rfl rfl (by omega)) ?_;refine ts_q rfl (fun w' H=>x_ld (v:=aj) rfl (ldb_sc Sc36 (H.bl 5) rfl)) ?_;refine ts_q rfl (fun w' H=>x_mv (v:=I (s:Int)) rfl) ?_;obtain ⟨cu,hM⟩:=M.e_gd hM;refine ts_q rfl (fun w' H=>x_ix (v:=vat aj 2 (Int.toNat (s:Int))) rfl rfl (Sl.ix (α:=Span) T36.und T36.size (H.os 6) (by omega) (by omega))) ?_;refine ts_q rfl (fun w' H=>x_fa (v:=fat (vat aj 2 (Int.toNat (s:Int))) 0) rfl (fa_pl Fd24_0 Sz3 (Sl.pl (i:=(s:Int)) (H.os 6) (by omega) (by omega)))) ?_;refine ts_q rfl (fun w' H=>x_ld (v:=I ((l2.getD s default).lo)) rfl (ld_sc Sc3 (At.mono (Span_at0 (H.os 6) (i:=(s:Int)) (by omega) (by omega)) (H.ol 6)))) ?_;refine ts_q rfl (fun w' H=>x_fa (v:=Pq aT) rfl (fa_blk (o:=0) Fd24_0 Sz3)) ?_;refine ts_q rfl (fun w' H=>x_ld (v:=I ((l.getD s default).lo)) rfl (ldb_sc Sc3 (H.bl 0) rfl)) ?_;obtain ⟨cv,hM⟩:=M.e_gd hM;refine ts_q rfl (fun w' H=>x_ari (r:=((l2.getD s default).lo)+((l.getD s default).lo)) rfl rfl rfl (by omega)) ?_;refine ts_q rfl (fun w' H=>x_ld (v:=aj) rfl (ldb_sc Sc36 (H.bl 5) rfl)) ?_;refine ts_q rfl (fun w' H=>x_mv (v:=I (s:Int)) rfl) ?_;refine ts_q rfl (fun w' H=>x_ix (v:=vat aj 2 (Int.toNat (s:Int))) rfl rfl (Sl.ix (α:=Span) T36.und T36.size (H.os 6) (by omega) (by omega))) ?_;refine ts_q rfl (fun w' H=>x_fa (v:=fat (vat aj 2 (Int.toNat (s:Int))) 1) rfl (fa_pl Fd24_1 Sz3 (Sl.pl (i:=(s:Int)) (H.os 6) (by omega) (by omega)))) ?_;refine ts_q rfl (fun w' H=>x_ld (v:=I ((l2.getD s default).hi)) rfl (ld_sc Sc3 (At.mono (Span_at1 (H.os 6) (i:=(s:Int)) (by omega) (by omega)) (H.ol 6)))) ?_;refine ts_q rfl (fun w' H=>x_fa (v:=Oq aT 1) rfl (fa_blk (o:=0) Fd24_1 Sz3)) ?_;refine ts_q rfl (fun w' H=>x_ld (v:=I ((l.getD s default).hi)) rfl (ldb_sc Sc3 (H.bl 0) rfl)) ?_;obtain ⟨cw,hM⟩:=M.e_gd hM;refine ts_q rfl (fun w' H=>x_ari (r:=((l2.getD s default).hi)+((l.getD s default).hi)) rfl rfl rfl (by omega)) ?_;refine ts_q rfl (fun w' H=>x_bld (ps:=[(0,I (((l2.getD s default).lo)+((l.getD s default).lo))),(1,I (((l2.getD s default).hi)+((l.getD s default).hi)))]) (zs:=[I 0,I 0]) (L':=[I (((l2.getD s default).lo)+((l.getD s default).lo)),I (((l2.getD s default).hi)+((l.getD s default).hi))]) rfl Tryz.underlying24 Al24 rfl (Bd24 Tryz.underlying24) (.cons (cs:=[I (((l2.getD s default).lo)+((l.getD s default).lo))]) rfl rfl rfl rfl rfl<|.cons (cs:=[I (((l2.getD s default).hi)+((l.getD s default).hi))]) rfl rfl rfl rfl rfl<|.nil)) ?_;refine ts_nil ?_;refine sr_l rfl ?_;obtain ⟨cx,bD,hM⟩:=M.e_bind hM;refine s_callv (f:=88) rfl cf88 [I ((s:Int)+1),.agg #[I (((l2.getD s default).lo)+((l.getD s default).lo)),I (((l2.getD s default).hi)+((l.getD s default).hi))]] rfl (zc8 ((s:Int)+1) (⟨(((l2.getD s default).lo)+((l.getD s default).lo):Int),(((l2.getD s default).hi)+((l.getD s default).hi):Int)⟩:Span) l2 bD _ ((H.pk [6,5,0,1,2,3,4]).gt 5)) ?_
   rintro vq cy ⟨l_k02,bE,rfl,hvq,ab⟩
   subst vq;(try dsimp only at hM)
   replace H:=H.pk [6,5,0,1,2,3,4] |>.bk ab
   clear ab
   refine s_nil ⟨trivial,?_⟩
   refine sr_nil<|WD.of ?_;refine kg 4 ?_
   exact ⟨bB,bC,l_k02,s+1,bE,_,upds_of _ _ ⟨rfl,rfl,rfl,rfl,rfl,rfl,trivial⟩,M.e_inl hM bc,(H.pk [3,4,5,6,1,0])⟩
  replace hM:=M.e_f hM ao
  replace ao:=dI ao
  refine WD.of ?_;refine W.exit ?_
  have bF:=M.e_inr hM bc
  subst bF;replace hM:=bz;(try dsimp only at hM);refine WD.seq<|WD.seq<|WD.of ?_
  have cz:=((H.os 1)).len_le
  refine kg 6 ?_;refine WD.block ?_;obtain ⟨bG,aU,bH⟩:=M.e_bind hM
  obtain ⟨bA,aU⟩:=M.e_iter aU
  refine WD.loop (fun m aJ σ W=>∃ (l5:List Span) (g:Int) (ae:Value) (ρ:Env),σ=upds ρ [(6,Pq ac),(7,Pq ah),(10,.func (.func 88) #[] #[Pq ac]),(13,I g)]/\M.iterN (zaV l) m (l5,g)=some bG/\St w W [cMk aJ,cOwn (α:=Span) 24 aa l,cBlk ah [aa] 36,cBlk ak [Pq ai] 75,cBlk ac [ae] 36,cOwn (α:=Span) 24 ae l5] R) ?_ ?_
  ·exact ⟨_,l2,(l.length:Int)-1,aj,_,upds_of _ _ ⟨rfl,rfl,rfl,rfl,trivial⟩,aU,H⟩
  rintro cA aJ σ cB ⟨l5,g,ae,ρ,rfl,bf,H⟩
  obtain ⟨bI,bJ,cC,hM,bg⟩:=M.e_iterN bf
  simp only [zaV] at hM
  clear bf;refine WD.seq<|WD.seq<|WD.of ?_;refine kg 4 ?_
  refine WD.cond (decide (0<=g)) rfl (fun ap=>?_) (fun ap=>?_)
  ·replace hM:=M.e_t hM ap
   replace ap:=dI ap
   refine WD.of<|W.skip<|WD.seq<|WD.block<|WD.of ?_;refine W.drawTS (fun W=>St w W [cMk aJ,cOwn (α:=Span) 24 aa l,cBlk ah [aa] 36,cBlk ak [Pq ai] 75,cBlk ac [ae] 36,cOwn (α:=Span) 24 ae l5] R) (.q 0 (.q 1 (.q 2 (.q 3 (.q 4 (.q 5 (.q 6 (.q 7 (.q 8 (.q 9 (.q 10 (.q 11 (.q 12 (.q 13 (.q 14 (.q 15 (.q 16 (.q 17 (.q 18 (.q 19 (.q 20 (.q 21 (.q 22 (.q 23 (.q 24 (.q 25 (.q 26 .nil))))))))))))))))))))))))))) 27 [27] mixed (by decide +kernel) rfl ?_;intro cD al;replace H:=H.ext al;clear al
   refine ⟨(H.pk [0,1,2,3,4,5]),?_⟩
   refine ts_q rfl (fun w' H=>x_mv (v:=.func (.func 88) #[] #[Pq ac]) rfl) ?_;refine ts_q rfl (fun w' H=>x_mv (v:=I g) rfl) ?_;refine ts_q rfl (fun w' H=>x_ld (v:=ae) rfl (ldb_sc Sc36 (H.bl 4) rfl)) ?_;refine ts_q rfl (fun w' H=>x_mv (v:=I g) rfl) ?_;obtain ⟨cE,hM⟩:=M.e_gd hM;refine ts_q rfl (fun w' H=>x_ari (r:=g+1) rfl rfl rfl (by omega)) ?_;obtain ⟨cF,hM⟩:=M.e_gd hM;refine ts_q rfl (fun w' H=>x_ix (v:=vat ae 2 (Int.toNat (g+1))) rfl rfl (Sl.ix (α:=Span) T36.und T36.size (H.os 5) (by omega) (by omega))) ?_;refine ts_q rfl (fun w' H=>x_fa (v:=fat (vat ae 2 (Int.toNat (g+1))) 0) rfl (fa_pl Fd24_0 Sz3 (Sl.pl (i:=g+1) (H.os 5) (by omega) (by omega)))) ?_;refine ts_q rfl (fun w' H=>x_ld (v:=I ((l5.getD (Int.toNat (g+1)) default).lo)) rfl (ld_sc Sc3 (At.mono (Span_at0 (H.os 5) (i:=g+1) (by omega) (by omega)) (H.ol 5)))) ?_;refine ts_q rfl (fun w' H=>x_ld (v:=aa) rfl (ldb_sc Sc36 (H.bl 2) rfl)) ?_;refine ts_q rfl (fun w' H=>x_mv (v:=I g) rfl) ?_;obtain ⟨cG,hM⟩:=M.e_gd hM;refine ts_q rfl (fun w' H=>x_ix (v:=vat aa 2 (Int.toNat g)) rfl rfl (Sl.ix (α:=Span) T36.und T36.size (H.os 1) (by omega) (by omega))) ?_;refine ts_q rfl (fun w' H=>x_fa (v:=fat (vat aa 2 (Int.toNat g)) 1) rfl (fa_pl Fd24_1 Sz3 (Sl.pl (i:=g) (H.os 1) (by omega) (by omega)))) ?_;refine ts_q rfl (fun w' H=>x_ld (v:=I ((l.getD (Int.toNat g) default).hi)) rfl (ld_sc Sc3 (At.mono (Span_at1 (H.os 1) (i:=g) (by omega) (by omega)) (H.ol 1)))) ?_;obtain ⟨cH,hM⟩:=M.e_gd hM;refine ts_q rfl (fun w' H=>x_ari (r:=((l5.getD (Int.toNat (g+1)) default).lo)-((l.getD (Int.toNat g) default).hi)) rfl rfl rfl (by omega)) ?_;refine ts_q rfl (fun w' H=>x_ld (v:=ae) rfl (ldb_sc Sc36 (H.bl 4) rfl)) ?_;refine ts_q rfl (fun w' H=>x_mv (v:=I g) rfl) ?_;refine ts_q rfl (fun w' H=>x_ari (r:=g+1) rfl rfl rfl (by omega)) ?_;refine ts_q rfl (fun w' H=>x_ix (v:=vat ae 2 (Int.toNat (g+1))) rfl rfl (Sl.ix (α:=Span) T36.und T36.size (H.os 5) (by omega) (by omega))) ?_;refine ts_q rfl (fun w' H=>x_fa (v:=fat (vat ae 2 (Int.toNat (g+1))) 1) rfl (fa_pl Fd24_1 Sz3 (Sl.pl (i:=g+1) (H.os 5) (by omega) (by omega)))) ?_;refine ts_q rfl (fun w' H=>x_ld (v:=I ((l5.getD (Int.toNat (g+1)) default).hi)) rfl (ld_sc Sc3 (At.mono (Span_at1 (H.os 5) (i:=g+1) (by omega) (by omega)) (H.ol 5)))) ?_;refine ts_q rfl (fun w' H=>x_ld (v:=aa) rfl (ldb_sc Sc36 (H.bl 2) rfl)) ?_;refine ts_q rfl (fun w' H=>x_mv (v:=I g) rfl) ?_;refine ts_q rfl (fun w' H=>x_ix (v:=vat aa 2 (Int.toNat g)) rfl rfl (Sl.ix (α:=Span) T36.und T36.size (H.os 1) (by omega) (by omega))) ?_;refine ts_q rfl (fun w' H=>x_fa (v:=fat (vat aa 2 (Int.toNat g)) 0) rfl (fa_pl Fd24_0 Sz3 (Sl.pl (i:=g) (H.os 1) (by omega) (by omega)))) ?_;refine ts_q rfl (fun w' H=>x_ld (v:=I ((l.getD (Int.toNat g) default).lo)) rfl (ld_sc Sc3 (At.mono (Span_at0 (H.os 1) (i:=g) (by omega) (by omega)) (H.ol 1)))) ?_;obtain ⟨cI,hM⟩:=M.e_gd hM;refine ts_q rfl (fun w' H=>x_ari (r:=((l5.getD (Int.toNat (g+1)) default).hi)-((l.getD (Int.toNat g) default).lo)) rfl rfl rfl (by omega)) ?_;refine ts_q rfl (fun w' H=>x_bld (ps:=[(0,I (((l5.getD (Int.toNat (g+1)) default).lo)-((l.getD (Int.toNat g) default).hi))),(1,I (((l5.getD (Int.toNat (g+1)) default).hi)-((l.getD (Int.toNat g) default).lo)))]) (zs:=[I 0,I 0]) (L':=[I (((l5.getD (Int.toNat (g+1)) default).lo)-((l.getD (Int.toNat g) default).hi)),I (((l5.getD (Int.toNat (g+1)) default).hi)-((l.getD (Int.toNat g) default).lo))]) rfl Tryz.underlying24 Al24 rfl (Bd24 Tryz.underlying24) (.cons (cs:=[I (((l5.getD (Int.toNat (g+1)) default).lo)-((l.getD (Int.toNat g) default).hi))]) rfl rfl rfl rfl rfl<|.cons (cs:=[I (((l5.getD (Int.toNat (g+1)) default).hi)-((l.getD (Int.toNat g) default).lo))]) rfl rfl rfl rfl rfl<|.nil)) ?_;refine ts_nil ?_;refine sr_l rfl ?_;obtain ⟨cJ,bK,hM⟩:=M.e_bind hM;refine s_callv (f:=88) rfl cf88 [I g,.agg #[I (((l5.getD (Int.toNat (g+1)) default).lo)-((l.getD (Int.toNat g) default).hi)),I (((l5.getD (Int.toNat (g+1)) default).hi)-((l.getD (Int.toNat g) default).lo))]] rfl (zc8 g (⟨(((l5.getD (Int.toNat (g+1)) default).lo)-((l.getD (Int.toNat g) default).hi):Int),(((l5.getD (Int.toNat (g+1)) default).hi)-((l.getD (Int.toNat g) default).lo):Int)⟩:Span) l5 bK _ ((H.pk [5,4,0,1,2,3]).gt 4)) ?_
   rintro vq cK ⟨l_k022,bL,rfl,hvq,ab⟩
   subst vq;(try dsimp only at hM)
   replace H:=H.pk [5,4,0,1,2,3] |>.bk ab
   clear ab
   refine s_nil ⟨trivial,?_⟩
   refine sr_nil<|WD.of ?_;obtain ⟨cL,hM⟩:=M.e_gd hM;refine kg 5 ?_
   exact ⟨bI,bJ,l_k022,g-1,bL,_,upds_of _ _ ⟨rfl,rfl,rfl,rfl,trivial⟩,M.e_inl hM bg,(H.pk [2,3,4,5,1,0])⟩
  replace hM:=M.e_f hM ap
  replace ap:=dI ap
  refine WD.of ?_;refine W.exit ?_
  have bM:=M.e_inr hM bg
  subst bM;replace hM:=bH;(try dsimp only at hM);replace H:=H.pk [0,4,5];refine WD.seq<|WD.of ?_;refine W.draw (fun W=>St w W [cMk aJ,cBlk ac [ae] 36,cOwn (α:=Span) 24 ae l5] R) [(0,true),(1,true),(2,false),(3,true),(4,true)] mixed (by decide +kernel) rfl ?_;intro cM al;replace H:=H.ext al;clear al
  refine ⟨(H.pk [0,1,2]),?_⟩
  refine kg 2 ?_;refine d_l rfl ?_;obtain ⟨cN,bN,hM⟩:=M.e_bind hM;refine s_call cf74 [ae,.func (.func 90) #[] #[]] rfl (zdh l5 (fun aV=>zbK aV) (rdo 2) (H.os 2) ⟨90,[],rfl,cf90,fun bh cO cP bO aV cQ bP cR bQ bR=>by obtain rfl:=Span_arg bQ; exact (zdS aV bR bh (St.refl bP)).mono fun bO bh ⟨cS,bS,bT,bU⟩=>by subst bS; exact ⟨bT,bU⟩⟩ bN _ (H.gt 3)) ?_
  rintro vq cT ⟨r3,rfl,hvq,ab⟩
  subst vq;(try dsimp only at hM);replace H:=H.bk ab;clear ab
  refine s_nil ⟨(H.pk [0,1,2]),?_⟩
  refine kg 3 ?_;refine WD.of ?_;refine W.ret ?_;refine bodyD_r (H.pk [0,1,2]) ?_;intro cU H;replace H:=H.nf
  have bV:=M.e_pure hM
  exact ⟨_,resE_tmp2 rfl,⟨l5,r3,ae,bV,rfl,(H.pk [1])⟩⟩
 obtain ⟨_,_,h_⟩:=ba; exact h_.elim

def zbX (aa ab ac ae ag:Int) (ah:List CMk) (ai:List CNt) (aj:List (Int × CNt)) (ak:List Bool):M ((List Span) × Bool) :=
  M.bind (za9 aa ab ac ae ag ah ai aj) fun (r0,r1) =>
  bif !r1 then (
  M.pure (([]),false))
  else (
  M.bind (zbP aa ab ac ae ag ah ai aj) fun r2 =>
  M.bind (zaX aa ab ac ae ag ah ai aj ak r2) fun (al,am) =>
  M.pure (al,am))
theorem zet {R:List Chunk} {ab:Nat} {az:Cells} {aA:Value} {aB:Cells} {aC:Value} {aD:Nat} (ac:Int) (ae:Int) (ag:Int) (ah:Int) (ai:Int) (aj:List CMk) (ak:List CNt) (al:List (Int × CNt)) (am:List Bool) (ao:Reads R az) (ap:Sl az aA aj) (aq:Reads R aB) (au:Sl aB aC ak) (av:Has R (cMl I encCN aD al)) (aE:am.length=40) (aw:Has R (cBlk ab (List.flatten [[I ac,I ae,I ag,I ah,I ai,aA,aC,.map (some aD)],encF (α:=Bool) am]) 137)) {r:((List Span) × Bool)} (hM:(zbX ac ae ag ah ai aj ak al am).Ends r) (w:World) (H:St w w [] R):Ret Tryz.prog 47 #[Pq ab] w fun v w'=>∃ (y0:List Span) (y1:Bool) (u0:Value),(y0,y1)=r/\v = .tuple #[u0,B y1]/\St w w' [cOwn (α:=Span) 24 u0 y0] R:=by
 refine ret_of_W Tryz.func47 rfl rfl rfl ?_;refine kg 9 ?_;obtain ⟨aM,aF,hM⟩:=M.e_bind hM;refine s_call cf48 [Pq ab] rfl (zdn ac ae ag ah ai aj ak al (ao.app _) ap (aq.app _) au (av.app _) (Fld.of (aw.app _) rfl) aF _ (H.gt 0)) ?_
 rintro vq aN ⟨r0,r1,aO,rfl,hvq,aa⟩
 subst vq;(try dsimp only at hM);replace H:=H.bk aa;clear aa;refine kg 11 ?_
 refine W.cond (!r1) rfl (fun ax=>?_) (fun ax=>?_)
 ·replace hM:=M.e_t hM ax;refine kg 5 ?_;refine W.ret ?_
  have ay:=M.e_pure hM
  replace H:=H.nilOwn (α:=Span) 24
  exact ⟨_,resE_tmp2 rfl,⟨([]),false,(.slice none 0 0),ay,rfl,(H.pk [0])⟩⟩
 replace hM:=M.e_f hM ax;refine kg 5 ?_;obtain ⟨aP,aG,hM⟩:=M.e_bind hM;refine s_call cf72 [Pq ab] rfl (zdL ac ae ag ah ai aj ak al (ao.app _) ap (aq.app _) au (av.app _) (Fld.of (aw.app _) rfl) aG _ (H.gt 1)) ?_
 rintro vq aQ ⟨r2,aH,rfl,hvq,aa⟩
 subst vq;(try dsimp only at hM);replace H:=H.bk aa;clear aa;obtain ⟨aR,aI,hM⟩:=M.e_bind hM;refine s_call cf71 [Pq ab,aH] rfl (zea ac ae ag ah ai aj ak al am r2 (ao.app _) ap (aq.app _) au (av.app _) aE (aw.app _) (rdo 0) (H.os 0) aI _ (H.gt 2)) ?_
 rintro vq aS ⟨aJ,aK,aL,rfl,hvq,aa⟩
 subst vq;(try dsimp only at hM);replace H:=H.bk aa;clear aa;refine kg 5 ?_;replace H:=H.pk [0];refine W.ret ?_
 have ay:=M.e_pure hM
 exact ⟨_,resE_tmp2 rfl,⟨aJ,aK,aL,ay,rfl,H⟩⟩

def zbZ (c_Pace_Lo c_Pace_Hi c_Base c_Scale c_Off:Int) (c_Marks:List CMk) (c_Notes:List CNt) (stops:List Int):M (Int ⊕ (Int × Int × Int × Int × Int × (List (Int × CNt)) × (List Bool) × (List Span) × (List Span) × Int)) :=
  M.bind (zb7 c_Pace_Lo c_Pace_Hi c_Base c_Scale c_Off c_Marks c_Notes stops) fun (aa,ab,ac,ae,ag,ah,ai,r1) =>
  bif r1 != 0 then (
  M.pure (.inl r1))
  else (
  M.bind (zbX aa ab ac ae ag c_Marks c_Notes ah ai) fun (r0,aj) =>
  bif !aj then (
  M.pure (.inl 6))
  else (
  M.bind (za9 aa ab ac ae ag c_Marks c_Notes ah) fun (ak,al) =>
  M.pure (.inr (aa,ab,ac,ae,ag,ah,ai,r0,ak,0))))
theorem zdD {R:List Chunk} {ay:Cells} {ac:Value} {az:Cells} {ae:Value} {aA:Cells} {ah:Value} (c_Pace_Lo:Int) (c_Pace_Hi:Int) (c_Base:Int) (c_Scale:Int) (c_Off:Int) (c_Marks:List CMk) (c_Notes:List CNt) (stops:List Int) (ai:Reads R ay) (aj:Sl ay ac c_Marks) (ak:Reads R az) (al:Sl az ae c_Notes) (aF:Reads R aA) (aG:Sl aA ah stops) {r:(Int ⊕ (Int × Int × Int × Int × Int × (List (Int × CNt)) × (List Bool) × (List Span) × (List Span) × Int))} (hM:(zbZ c_Pace_Lo c_Pace_Hi c_Base c_Scale c_Off c_Marks c_Notes stops).Ends r) (w:World) (H:St w w [] R):Ret Tryz.prog 23 #[.agg #[I c_Pace_Lo,I c_Pace_Hi,I c_Base,I c_Scale,I c_Off,ac,ae],ah] w fun v w'=>(∃ (y0:Int),(.inl y0)=r/\v = .tuple #[.pointer none,.slice none 0 0,.slice none 0 0,I y0]/\St w w' [] R)∨(∃ (y0:Int) (y1:Int) (y2:Int) (y3:Int) (y4:Int) (y5:List (Int × CNt)) (y6:List Bool) (y7:List Span) (y8:List Span) (y9:Int) (aB:Nat) (aC:Nat) (u2:Value) (u3:Value),(.inr (y0,y1,y2,y3,y4,y5,y6,y7,y8,y9))=r/\v = .tuple #[Pq aB,u2,u3,I y9]/\St w w' [cBlk aB (List.flatten [[I y0,I y1,I y2,I y3,I y4,ac,ae,.map (some aC)],encF (α:=Bool) y6]) 137,cMl I encCN aC y5,cOwn (α:=Span) 24 u2 y7,cOwn (α:=Span) 24 u3 y8] R/\y6.length=40):=by
 refine ret_of_W Tryz.func23 rfl rfl rfl ?_;refine kg 2 ?_;refine t_bx [I c_Pace_Lo,I c_Pace_Hi,I c_Base,I c_Scale,I c_Off,ac,ae] H rfl ?_;intro aP aQ H;refine kg 9 ?_;obtain ⟨aR,aH,hM⟩:=M.e_bind hM;refine s_call cf46 [.agg #[I c_Pace_Lo,I c_Pace_Hi,I c_Base,I c_Scale,I c_Off,ac,ae],ah] rfl (zey c_Pace_Lo c_Pace_Hi c_Base c_Scale c_Off c_Marks c_Notes stops (ai.app _) aj (ak.app _) al (aF.app _) aG aH _ (H.gt 1)) ?_
 rintro vq aS ⟨am,ao,ap,aq,au,av,aD,r1,aw,aI,rfl,hvq,aa,aE⟩
 subst vq;(try dsimp only at hM);replace H:=H.bk aa;clear aa;refine kg 12 ?_
 refine W.cond (r1 != 0) rfl (fun ab=>?_) (fun ab=>?_)
 ·replace hM:=M.e_t hM ab
  replace ab:=dI ab
  refine kg 8 ?_;replace H:=H.pk [];refine W.ret ?_
  have ag:=M.e_pure hM
  exact ⟨_,resE_tmp4 rfl,.inl (⟨r1,ag,rfl,H⟩)⟩
 replace hM:=M.e_f hM ab
 replace ab:=dI ab
 refine kg 4 ?_;obtain ⟨aT,aJ,hM⟩:=M.e_bind hM;refine s_call cf47 [Pq aw] rfl (zet am ao ap aq au c_Marks c_Notes av aD (ai.app _) aj (ak.app _) al (Has.here (k:=1) rfl) aE (Has.here (k:=0) rfl) aJ _ (H.gt 3)) ?_
 rintro vq aU ⟨r0,aK,aL,rfl,hvq,aa⟩
 subst vq;(try dsimp only at hM);replace H:=H.bk aa;clear aa;refine kg 12 ?_
 refine W.cond (!aK) rfl (fun ax=>?_) (fun ax=>?_)
 ·replace hM:=M.e_t hM ax;refine kg 7 ?_;replace H:=H.pk [];refine W.ret ?_
  have ag:=M.e_pure hM
  exact ⟨_,resE_tmp4 rfl,.inl (⟨6,ag,rfl,H⟩)⟩
 replace hM:=M.e_f hM ax;refine kg 4 ?_;obtain ⟨aV,aM,hM⟩:=M.e_bind hM;refine s_call cf48 [Pq aw] rfl (zdn am ao ap aq au c_Marks c_Notes av (ai.app _) aj (ak.app _) al (Has.here (k:=2) rfl) (Fld.here (k:=1) rfl rfl) aM _ (H.gt 4)) ?_
 rintro vq aW ⟨aN,aX,aO,rfl,hvq,aa⟩
 subst vq;(try dsimp only at hM);replace H:=H.bk aa;clear aa;refine kg 16 ?_;refine W.ret ?_
 have ag:=M.e_pure hM
 exact ⟨_,resE_tmp4 rfl,.inr (⟨am,ao,ap,aq,au,av,aD,r0,aN,0,aw,aI,aL,aO,ag,rfl,(H.pk [2,3,1,0]),aE⟩)⟩

end Go.Proofs.YtdmdhmineljlhabGreat
end
section
set_option maxRecDepth 100000
set_option maxHeartbeats 16000000
namespace Go.Proofs.YtdmdhmineljlhabGreat
open Go Go.Nm
attribute [local irreducible] gd execOp SL SLD SLT WR
def zcP (h_Span_Lo h_Span_Hi:Int) (aa:Bool) (s:Span):M (Int × Int × Bool) :=
  bif aa then (
  M.pure ((min s.lo h_Span_Lo),(max s.hi h_Span_Hi),true))
  else (
  M.pure (s.lo,s.hi,true))
theorem zdF {R:List Chunk} {ab:Nat} (h_Span_Lo h_Span_Hi:Int) (ac:Bool) (s:Span)  {r:(Int × Int × Bool)} (hM:(zcP h_Span_Lo h_Span_Hi ac s).Ends r) (w:World) (H:St w w [cBlk ab [I h_Span_Lo,I h_Span_Hi,B ac] 79] R):Ret Tryz.prog 24 #[Pq ab,.agg #[I s.lo,I s.hi]] w fun v w'=>∃ (y0:Int) (y1:Int) (y2:Bool),(y0,y1,y2)=r/\v = .tuple #[]/\St w w' [cBlk ab [I y0,I y1,B y2] 79] R:=by
 refine ret_of_W Tryz.func24 rfl rfl rfl ?_;refine kg 2 ?_;refine t_bx [I s.lo,I s.hi] H rfl ?_;intro ah ai H;refine kg 9 ?_
 refine W.cond ac rfl (fun ae=>?_) (fun ae=>?_)
 ·replace hM:=M.e_t hM ae;refine W.drawT (fun W=>St w W [cBlk ab [I h_Span_Lo,I h_Span_Hi,B ac] 79] R) (.q 0 (.q 2 (.q 3 (.q 4 (.q 5 (.q 6 (.q 8 (.q 10 (.q 11 (.q 12 (.q 13 (.q 14 (.l2 1 (.q 7 (.l 9 (.q 15 (.q 16 (.l 17 .nil))))) 9 (.q 15 (.l 1 (.q 7 (.q 16 (.l 17 .nil)))))))))))))))))) mixed (by decide +kernel) rfl ?_;intro aj ag;replace H:=H.ext ag;clear ag
  refine ⟨(H.pk [1]),?_⟩
  refine kg 12 ?_;refine t_l2 rfl rfl ?_ ?_
  ·skip
   refine kg 1 ?_
   refine s_nil ⟨(H.pk [1]),?_⟩
   refine kg 1 ?_;refine t_l rfl ?_;refine kg 1 ?_
   refine s_nil ⟨(H.pk [1]),?_⟩
   refine kg 1 ?_;refine t_q rfl (fun w' H=>x_bld (ps:=[(0,I (min s.lo h_Span_Lo)),(1,I (max s.hi h_Span_Hi))]) (zs:=[I 0,I 0]) (L':=[I (min s.lo h_Span_Lo),I (max s.hi h_Span_Hi)]) rfl Tryz.underlying24 Al24 rfl (Bd24 Tryz.underlying24) (.cons (cs:=[I (min s.lo h_Span_Lo)]) rfl rfl rfl rfl rfl<|.cons (cs:=[I (max s.hi h_Span_Hi)]) rfl rfl rfl rfl rfl<|.nil))<|t_l rfl ?_;refine t_sw 0 0 [I (min s.lo h_Span_Lo),I (max s.hi h_Span_Hi)] (.agg #[I (min s.lo h_Span_Lo),I (max s.hi h_Span_Hi)]) H rfl rfl Sz24 rfl rfl rfl rfl ?_;intro ak H
   refine s_nil ⟨(H.pk [1]),?_⟩
   refine kg 7 ?_;refine t_sw 1 0 [I (min s.lo h_Span_Lo),I (max s.hi h_Span_Hi)] (.agg #[I (min s.lo h_Span_Lo),I (max s.hi h_Span_Hi)]) H rfl rfl Sz24 rfl rfl rfl rfl ?_;intro al H;refine kg 2 ?_;refine t_sw 1 2 [B true] (B true) H rfl rfl Sz4 rfl rfl rfl rfl ?_;intro am H;refine s_nil ?_
   have aa:=M.e_pure hM
   exact ⟨_,resE_tmp0 rfl,⟨(min s.lo h_Span_Lo),(max s.hi h_Span_Hi),true,aa,rfl,(H.pk [1])⟩⟩
  skip
  refine kg 1 ?_
  refine s_nil ⟨(H.pk [1]),?_⟩
  refine kg 1 ?_;refine t_l rfl ?_;refine kg 1 ?_
  refine s_nil ⟨(H.pk [1]),?_⟩
  refine kg 1 ?_;refine t_q rfl (fun w' H=>x_bld (ps:=[(0,I (min s.lo h_Span_Lo)),(1,I (max s.hi h_Span_Hi))]) (zs:=[I 0,I 0]) (L':=[I (min s.lo h_Span_Lo),I (max s.hi h_Span_Hi)]) rfl Tryz.underlying24 Al24 rfl (Bd24 Tryz.underlying24) (.cons (cs:=[I (min s.lo h_Span_Lo)]) rfl rfl rfl rfl rfl<|.cons (cs:=[I (max s.hi h_Span_Hi)]) rfl rfl rfl rfl rfl<|.nil))<|t_l rfl ?_;refine t_sw 0 0 [I (min s.lo h_Span_Lo),I (max s.hi h_Span_Hi)] (.agg #[I (min s.lo h_Span_Lo),I (max s.hi h_Span_Hi)]) H rfl rfl Sz24 rfl rfl rfl rfl ?_;intro ao H
  refine s_nil ⟨(H.pk [1]),?_⟩
  refine kg 7 ?_;refine t_sw 1 0 [I (min s.lo h_Span_Lo),I (max s.hi h_Span_Hi)] (.agg #[I (min s.lo h_Span_Lo),I (max s.hi h_Span_Hi)]) H rfl rfl Sz24 rfl rfl rfl rfl ?_;intro ap H;refine kg 2 ?_;refine t_sw 1 2 [B true] (B true) H rfl rfl Sz4 rfl rfl rfl rfl ?_;intro aq H;refine s_nil ?_
  have aa:=M.e_pure hM
  exact ⟨_,resE_tmp0 rfl,⟨(min s.lo h_Span_Lo),(max s.hi h_Span_Hi),true,aa,rfl,(H.pk [1])⟩⟩
 replace hM:=M.e_f hM ae;refine kg 7 ?_;refine t_sw 1 0 [I s.lo,I s.hi] (.agg #[I s.lo,I s.hi]) H rfl rfl Sz24 rfl rfl rfl rfl ?_;intro au H;refine kg 2 ?_;refine t_sw 1 2 [B true] (B true) H rfl rfl Sz4 rfl rfl rfl rfl ?_;intro av H;refine s_nil ?_
 have aa:=M.e_pure hM
 exact ⟨_,resE_tmp0 rfl,⟨s.lo,s.hi,true,aa,rfl,(H.pk [1])⟩⟩

def zcZ (h_Span_Lo h_Span_Hi:Int) (aa:Bool):M (Int × Int × Int) :=
  bif !aa then (
  M.pure (0,0,5))
  else (
  M.pure (h_Span_Lo,h_Span_Hi,0))
theorem zd0 {R:List Chunk} {ae:Nat} (h_Span_Lo:Int) (h_Span_Hi:Int) (aa:Bool) (ag:Has R (cBlk ae [I h_Span_Lo,I h_Span_Hi,B aa] 79)) {r:(Int × Int × Int)} (hM:(zcZ h_Span_Lo h_Span_Hi aa).Ends r) (w:World) (H:St w w [] R):Ret Tryz.prog 25 #[Pq ae] w fun v w'=>∃ (y0:Int) (y1:Int) (y2:Int),(y0,y1,y2)=r/\v = .tuple #[.agg #[I y0,I y1],I y2]/\St w w' [] R:=by
 refine ret_of_W Tryz.func25 rfl rfl rfl ?_;refine kg 2 ?_;refine t_alloc (cs:=[I 0,I 0]) H Al24 rfl ?_;intro aj ak H;refine kg 11 ?_
 refine W.cond (!aa) rfl (fun ab=>?_) (fun ab=>?_)
 ·replace hM:=M.e_t hM ab;refine kg 2 ?_;refine s_val (x_bld (ps:=[]) (zs:=[I 0,I 0]) (L':=[I 0,I 0]) rfl Tryz.underlying24 Al24 rfl (Bd24 Tryz.underlying24) (.nil)) ?_;refine t_sw 0 0 [I 0,I 0] (.agg #[I 0,I 0]) H rfl rfl Sz24 rfl rfl rfl rfl ?_;intro al H;refine kg 2 ?_;refine W.ret ?_
  have ah:=(H.bl 0)
  have ac:=M.e_pure hM
  exact ⟨_,(resE_ofn (vs:=[.agg #[I 0,I 0],I 5]) rfl rfl (.cell (v:=.agg #[I 0,I 0]) rfl (run_loadVar_ag (ds:=[I 0,I 0]) Ag24 Sz24 ah rfl rfl)<|.tmp (v:=I 5) rfl<|.nil)),⟨0,0,5,ac,rfl,(H.pk [])⟩⟩
 replace hM:=M.e_f hM ab;refine kg 6 ?_;refine s_val (x_ld (v:=.agg #[I h_Span_Lo,I h_Span_Hi]) rfl (ldb_ag (ds:=[I h_Span_Lo,I h_Span_Hi]) Ag24 Sz24 (ag.blk H) rfl rfl)) ?_;refine t_sw 0 0 [I h_Span_Lo,I h_Span_Hi] (.agg #[I h_Span_Lo,I h_Span_Hi]) H rfl rfl Sz24 rfl rfl rfl rfl ?_;intro am H;refine kg 2 ?_;refine W.ret ?_
 have ai:=(H.bl 0)
 have ac:=M.e_pure hM
 exact ⟨_,(resE_ofn (vs:=[.agg #[I h_Span_Lo,I h_Span_Hi],I 0]) rfl rfl (.cell (v:=.agg #[I h_Span_Lo,I h_Span_Hi]) rfl (run_loadVar_ag (ds:=[I h_Span_Lo,I h_Span_Hi]) Ag24 Sz24 ai rfl rfl)<|.tmp (v:=I 0) rfl<|.nil)),⟨h_Span_Lo,h_Span_Hi,0,ac,rfl,(H.pk [])⟩⟩

def zbk (stage:Int) (r1 r2:List Span):(Int × Int × Bool × Bool × Nat)->M ((Int × Int × Bool × Bool × Nat) ⊕ (Int × Int × Bool × Bool)):=fun (s,s2,s3,surely,mark) =>
  bif ((decide ((mark:Int)<(r1.length:Int)))&&(!surely)) then (
  M.grd (decide ((mark:Int)<(r2.length:Int))) <|
  bif decide (stage<=((r2.getD mark default).hi)) then (
  M.grd (decide ((mark:Int)<(r1.length:Int))) <|
  M.bind (zcP s s2 s3 (r1.getD mark default)) fun (q0,q1,q2) =>
  M.pure (.inl (q0,q1,q2,decide (stage<=((r2.getD mark default).lo)),mark+1)))
  else (
  M.pure (.inl (s,s2,s3,surely,mark+1))))
  else (
  M.pure (.inr (s,s2,s3,surely)))
def zbA (c_Pace_Lo c_Pace_Hi c_Base c_Scale c_Off:Int) (c_Marks:List CMk) (c_Notes:List CNt) (stops:List Int) (stage:Int):M (Int × Int × Bool × Int) :=
  M.bind (zbZ c_Pace_Lo c_Pace_Hi c_Base c_Scale c_Off c_Marks c_Notes stops) fun x_=>match x_ with
  | (.inl r3)=>(
  bif r3 != 0 then (
  M.pure (0,0,false,r3))
  else (
  M.fail))
  | (.inr (ag,ah,ai,aj,ak,al,am,r1,r2,ab))=>(
  bif ab != 0 then (
  M.fail)
  else (
  M.bind (M.iter (zbk stage r1 r2) (0,0,false,false,0)) fun (s4,s5,s6,surely2) =>
  M.bind (zcZ s4 s5 s6) fun (ac,ae,aa) =>
  M.pure (ac,ae,(surely2&&(aa==0)),aa)))
theorem zd6 {R:List Chunk} {av:Cells} {aj:Value} {aw:Cells} {ak:Value} {ax:Cells} {am:Value} (c_Pace_Lo:Int) (c_Pace_Hi:Int) (c_Base:Int) (c_Scale:Int) (c_Off:Int) (c_Marks:List CMk) (c_Notes:List CNt) (stops:List Int) (stage:Int) (aE:Reads R av) (aF:Sl av aj c_Marks) (aG:Reads R aw) (aH:Sl aw ak c_Notes) (aI:Reads R ax) (aJ:Sl ax am stops) {r:(Int × Int × Bool × Int)} (hM:(zbA c_Pace_Lo c_Pace_Hi c_Base c_Scale c_Off c_Marks c_Notes stops stage).Ends r) (w:World) (H:St w w [] R):Ret Tryz.prog 11 #[.agg #[I c_Pace_Lo,I c_Pace_Hi,I c_Base,I c_Scale,I c_Off,aj,ak],am,I stage] w fun v w'=>∃ (y0:Int) (y1:Int) (y2:Bool) (y3:Int),(y0,y1,y2,y3)=r/\v = .tuple #[.agg #[I y0,I y1],B y2,I y3]/\St w w' [] R:=by
 refine ret_of_W Tryz.func11 rfl rfl rfl ?_;refine kg 2 ?_;refine t_bx [I c_Pace_Lo,I c_Pace_Hi,I c_Base,I c_Scale,I c_Off,aj,ak] H rfl ?_;intro aW aX H;refine t_alloc (cs:=[I 0,I 0]) H Al24 rfl ?_;intro ay aY H;refine kg 7 ?_;obtain ⟨aZ,aK,hM⟩:=M.e_bind hM;refine s_call cf23 [.agg #[I c_Pace_Lo,I c_Pace_Hi,I c_Base,I c_Scale,I c_Off,aj,ak],am] rfl (zdD c_Pace_Lo c_Pace_Hi c_Base c_Scale c_Off c_Marks c_Notes stops (aE.app _) aF (aG.app _) aH (aI.app _) aJ aK _ (H.gt 2)) ?_
 rintro vq a6 (⟨r3,aL,hvq,aa⟩ | ⟨a7,a8,ba,bb,bc,bf,bg,r1,r2,aM,bh,bi,az,aA,aN,hvq,aa,bj⟩)
 ·subst aL;subst vq;(try dsimp only at hM);replace H:=H.bk aa;clear aa;refine kg 16 ?_
  refine W.cond (r3 != 0) rfl (fun ah=>?_) (fun ah=>?_)
  ·replace hM:=M.e_t hM ah
   replace ah:=dI ah
   refine kg 2 ?_;refine s_val (x_bld (ps:=[]) (zs:=[I 0,I 0]) (L':=[I 0,I 0]) rfl Tryz.underlying24 Al24 rfl (Bd24 Tryz.underlying24) (.nil)) ?_;refine kg 1 ?_;refine t_sw 0 0 [I 0,I 0] (.agg #[I 0,I 0]) H rfl rfl Sz24 rfl rfl rfl rfl ?_;intro bm H;refine kg 3 ?_;refine W.ret ?_
   have aO:=(H.bl 0)
   have ao:=M.e_pure hM
   exact ⟨_,(resE_ofn (vs:=[.agg #[I 0,I 0],B false,I r3]) rfl rfl (.cell (v:=.agg #[I 0,I 0]) rfl (run_loadVar_ag (ds:=[I 0,I 0]) Ag24 Sz24 aO rfl rfl)<|.tmp (v:=B false) rfl<|.tmp (v:=I r3) rfl<|.nil)),⟨0,0,false,r3,ao,rfl,(H.pk [])⟩⟩
  replace hM:=M.e_f hM ah
  exact (M.e_fail hM).elim
 subst aN;subst vq;(try dsimp only at hM);replace H:=H.bk aa;clear aa;refine kg 10 ?_;replace H:=H.pk [2,3,4];refine kg 6 ?_
 refine W.cond (aM != 0) rfl (fun ai=>?_) (fun ai=>?_)
 ·replace hM:=M.e_t hM ai
  exact (M.e_fail hM).elim
 replace hM:=M.e_f hM ai
 replace ai:=dI ai
 refine kg 3 ?_;refine t_alloc (cs:=[I 0,I 0,B false]) H Al79 rfl ?_;intro al bn H;refine kg 11 ?_;obtain ⟨aP,ap,aQ⟩:=M.e_bind hM
 obtain ⟨bo,ap⟩:=M.e_iter ap
 refine W.loop (fun m σ W=>∃ (s:Int) (s2:Int) (s3:Bool) (surely:Bool) (mark:Nat) (ρ:Env),σ=upds ρ [(2,I stage),(6,Pq ay),(10,az),(11,aA),(13,Pq al),(14,B surely),(15,I (mark:Int))]/\M.iterN (zbk stage r1 r2) m (s,s2,s3,surely,mark)=some aP/\St w W [cBlk al [I s,I s2,B s3] 79,cOwn (α:=Span) 24 az r1,cOwn (α:=Span) 24 aA r2,cBlk ay [I 0,I 0] 24] R) ?_ ?_
 ·exact ⟨_,0,0,false,false,0,_,upds_of _ _ ⟨rfl,rfl,rfl,rfl,rfl,rfl,rfl,trivial⟩,ap,H⟩
 rintro bp σ br ⟨s,s2,s3,surely,mark,ρ,rfl,aB,H⟩
 obtain ⟨aC,aD,bt,hM,aq⟩:=M.e_iterN aB
 simp only [zbk] at hM
 clear aB
 have bu:=((H.os 1)).len_le
 refine kg 10 ?_;refine s_val (x_pand (b:=decide ((mark:Int)<(r1.length:Int))) (r:=!surely) rfl (fun hb=>gd_of (c:=decide ((mark:Int)<(r1.length:Int))) (by first | exact hb | (rw [hb]; rfl) | simp_all) (B (!surely))) rfl)<|s_nil ?_
 refine W.cond ((decide ((mark:Int)<(r1.length:Int)))&&(!surely)) rfl (fun au=>?_) (fun au=>?_)
 ·replace hM:=M.e_t hM au;obtain ⟨bv,hM⟩:=M.e_gd hM;refine kg 13 ?_
  refine W.cond (decide (stage<=((r2.getD mark default).hi))) rfl (fun ag=>?_) (fun ag=>?_)
  ·replace hM:=M.e_t hM ag
   replace ag:=dI ag
   obtain ⟨bw,hM⟩:=M.e_gd hM;refine kg 6 ?_;obtain ⟨bx,aR,hM⟩:=M.e_bind hM;refine s_call cf24 [Pq al,.agg #[I ((r1.getD mark default).lo),I ((r1.getD mark default).hi)]] rfl (zdF s s2 s3 (r1.getD mark default) aR _ (H.gt 3)) ?_
   rintro vq bz ⟨q0,q1,q2,rfl,hvq,aa⟩
   subst vq;(try dsimp only at hM);replace H:=H.bk aa;clear aa;refine kg 13 ?_;refine zR (mark:Int) 1 ((mark:Int)+1) rfl rfl rfl (by have aS:=(H.os 2).len_le; omega) ?_;refine kg 2 ?_
   exact ⟨aC,aD,q0,q1,q2,decide (stage<=((r2.getD mark default).lo)),mark+1,_,upds_of _ _ ⟨rfl,rfl,rfl,rfl,rfl,rfl,rfl,trivial⟩,M.e_inl hM aq,H⟩
  replace hM:=M.e_f hM ag
  replace ag:=dI ag
  refine kg 3 ?_;refine zR (mark:Int) 1 ((mark:Int)+1) rfl rfl rfl (by have aS:=(H.os 2).len_le; omega) ?_;refine kg 2 ?_
  exact ⟨aC,aD,s,s2,s3,surely,mark+1,_,upds_of _ _ ⟨rfl,rfl,rfl,rfl,rfl,rfl,rfl,trivial⟩,M.e_inl hM aq,H⟩
 replace hM:=M.e_f hM au;refine W.exit ?_
 have aT:=M.e_inr hM aq
 subst aT;replace hM:=aQ;(try dsimp only at hM);replace H:=H.pk [0,3];refine kg 2 ?_;obtain ⟨bA,aU,hM⟩:=M.e_bind hM;refine s_call cf25 [Pq al] rfl (zd0 s s2 s3 (Has.here (k:=0) rfl) aU _ (H.gt 2)) ?_
 rintro vq bB ⟨ab,ac,ae,rfl,hvq,aa⟩
 subst vq;(try dsimp only at hM);replace H:=H.bk aa;clear aa;refine kg 3 ?_;refine t_alloc (cs:=[I 0,I 0]) H Al24 rfl ?_;intro bC bD H;refine t_sw 0 0 [I ab,I ac] (.agg #[I ab,I ac]) H rfl rfl Sz24 rfl rfl rfl rfl ?_;intro bE H;refine kg 9 ?_;refine s_val (x_pand (b:=surely) (r:=ae==0) rfl (fun hb=>gd_of (c:=surely) (by first | exact hb | (rw [hb]; rfl) | simp_all) (B (ae==0))) rfl) ?_;refine kg 1 ?_;refine t_sw 2 0 [I ab,I ac] (.agg #[I ab,I ac]) H rfl rfl Sz24 rfl rfl rfl rfl ?_;intro bF H;refine kg 3 ?_;replace H:=H.pk [2];refine W.ret ?_
 have aV:=(H.bl 0)
 have ao:=M.e_pure hM
 exact ⟨_,(resE_ofn (vs:=[.agg #[I ab,I ac],B (surely&&(ae==0)),I ae]) rfl rfl (.cell (v:=.agg #[I ab,I ac]) rfl (run_loadVar_ag (ds:=[I ab,I ac]) Ag24 Sz24 aV rfl rfl)<|.tmp (v:=B (surely&&(ae==0))) rfl<|.tmp (v:=I ae) rfl<|.nil)),⟨ab,ac,(surely&&(ae==0)),ae,ao,rfl,(H.pk [])⟩⟩

end Go.Proofs.YtdmdhmineljlhabGreat
end
section
set_option maxRecDepth 100000
set_option maxHeartbeats 16000000
namespace Go.Proofs.YtdmdhmineljlhabGreat
open Go Go.Nm
attribute [local irreducible] gd execOp SL SLD SLT WR
def zbi (bytes:List UInt8):M (Int × Int) :=
  M.pure (0,0)
theorem zcQ {R:List Chunk} {ab:Cells} {aa:Value} (bytes:List UInt8) (ai:Reads R ab) (ae:Sl ab aa bytes) {r:(Int × Int)} (hM:(zbi bytes).Ends r) (w:World) (H:St w w [] R):Ret Tryz.prog 5 #[aa] w fun v w'=>∃ (y0:Int) (y1:Int) (ac:Nat),(y0,y1)=r/\v=Pq ac/\St w w' [cBlk ac [aa,I y0,I y1] 61] R:=by
 refine ret_of_W Tryz.func5 rfl rfl rfl ?_;refine kg 7 ?_;refine s_val (x_bld (ps:=[(0,aa)]) (zs:=[.slice none 0 0,I 0,I 0]) (L':=[aa,I 0,I 0]) rfl Tryz.underlying61 Al61 rfl (Bd61 Tryz.underlying61) (.cons (cs:=[aa]) (Sl.cells ae) rfl rfl rfl rfl<|.nil)) ?_;refine t_bx [aa,I 0,I 0] H rfl ?_;intro ag aj H;refine kg 2 ?_;refine W.ret ?_
 have ah:=M.e_pure hM
 exact ⟨_,resE_tmp rfl,⟨0,0,ag,ah,rfl,H⟩⟩

def zcc (v n:Int):M Int :=
  bif decide (n<1) then (
  M.pure 0)
  else (
  M.grd (decide ((0:Int)<n)) <|
  bif decide ((Int.tmod v n)<0) then (
  M.grd (decide ((-9223372036854775808:Int)<=((Int.tmod v n)+n))&&decide (((Int.tmod v n)+n)<=(9223372036854775807:Int))) <|
  M.pure ((Int.tmod v n)+n))
  else (
  M.pure (Int.tmod v n)))
theorem zex {R:List Chunk}  (v:Int) (n:Int)  {r:Int} (hM:(zcc v n).Ends r) (w:World) (H:St w w [] R):Ret Tryz.prog 9 #[I v,I n] w fun v w'=>∃ (y0:Int),y0=r/\v=I y0/\St w w' [] R:=by
 refine ret_of_W Tryz.func9 rfl rfl rfl ?_;refine kg 10 ?_
 refine W.cond (decide (n<1)) rfl (fun aa=>?_) (fun aa=>?_)
 ·replace hM:=M.e_t hM aa
  replace aa:=dI aa
  refine kg 4 ?_;refine W.ret ?_
  have ac:=M.e_pure hM
  exact ⟨_,resE_tmp rfl,⟨0,ac,rfl,H⟩⟩
 replace hM:=M.e_f hM aa
 replace aa:=dI aa
 obtain ⟨ae,hM⟩:=M.e_gd hM;refine kg 5 ?_;refine s_val (x_rem (a:=v) (b:=n) rfl rfl (by omega)) ?_;refine kg 8 ?_
 refine W.cond (decide ((Int.tmod v n)<0)) rfl (fun ab=>?_) (fun ab=>?_)
 ·replace hM:=M.e_t hM ab
  replace ab:=dI ab
  obtain ⟨ag,hM⟩:=M.e_gd hM;refine kg 11 ?_;refine W.ret ?_
  have ac:=M.e_pure hM
  exact ⟨_,resE_tmp rfl,⟨((Int.tmod v n)+n),ac,rfl,H⟩⟩
 replace hM:=M.e_f hM ab
 replace ab:=dI ab
 refine kg 6 ?_;refine W.ret ?_
 have ac:=M.e_pure hM
 exact ⟨_,resE_tmp rfl,⟨(Int.tmod v n),ac,rfl,H⟩⟩

def zbJ (s_used s_mix n b:Int):M (Int × Int × Int) :=
  M.grd (decide ((-9223372036854775808:Int)<=(5*s_mix))&&decide ((5*s_mix)<=(9223372036854775807:Int))) <|
  M.grd (decide ((-9223372036854775808:Int)<=((5*s_mix)+b))&&decide (((5*s_mix)+b)<=(9223372036854775807:Int))) <|
  M.grd (decide ((-9223372036854775808:Int)<=(((5*s_mix)+b)+1))&&decide ((((5*s_mix)+b)+1)<=(9223372036854775807:Int))) <|
  M.grd (decide ((0:Int)<=(((5*s_mix)+b)+1))&&decide ((0:Int)<251)) <|
  M.grd (decide ((-9223372036854775808:Int)<=(s_used+1))&&decide ((s_used+1)<=(9223372036854775807:Int))) <|
  bif decide (256<n) then (
  M.grd (decide ((-9223372036854775808:Int)<=(256*b))&&decide ((256*b)<=(9223372036854775807:Int))) <|
  M.grd (decide ((-9223372036854775808:Int)<=((256*b)+((((5*s_mix)+b)+1) % 251)))&&decide (((256*b)+((((5*s_mix)+b)+1) % 251))<=(9223372036854775807:Int))) <|
  M.grd (decide ((0:Int)<=((256*b)+((((5*s_mix)+b)+1) % 251)))&&decide ((0:Int)<n)) <|
  M.pure ((((256*b)+((((5*s_mix)+b)+1) % 251)) % n),(s_used+1),((((5*s_mix)+b)+1) % 251)))
  else (
  M.grd (decide ((0:Int)<=b)&&decide ((0:Int)<n)) <|
  M.pure ((b % n),(s_used+1),((((5*s_mix)+b)+1) % 251)))
def zac (s_bytes:List UInt8) (s_used s_mix n:Int):M (Int × Int × Int) :=
  bif ((decide (n<2))||((s_bytes.length:Int)==0)) then (
  M.pure (0,s_used,s_mix))
  else (
  M.grd (decide ((0:Int)<=s_used)&&decide ((0:Int)<(s_bytes.length:Int))) <|
  M.grd (decide ((0:Int)<=(s_used % (s_bytes.length:Int)))&&decide ((s_used % (s_bytes.length:Int))<(s_bytes.length:Int))) <|
  M.grd (decide ((0:Int)<=((s_bytes.getD (Int.toNat (s_used % (s_bytes.length:Int))) 0).toNat:Int))&&decide (((s_bytes.getD (Int.toNat (s_used % (s_bytes.length:Int))) 0).toNat:Int)<(256:Int))) <|
  bif decide ((s_bytes.length:Int)<=s_used) then (
  M.grd (decide ((-9223372036854775808:Int)<=(11*s_mix))&&decide ((11*s_mix)<=(9223372036854775807:Int))) <|
  M.grd (decide (0<=s_used)&&decide (s_used<=(9223372036854775807:Int))&&decide ((0:Int)<(s_bytes.length:Int))) <|
  M.grd (decide ((-9223372036854775808:Int)<=((11*s_mix)+(s_used / (s_bytes.length:Int))))&&decide (((11*s_mix)+(s_used / (s_bytes.length:Int)))<=(9223372036854775807:Int))) <|
  M.grd (decide ((-9223372036854775808:Int)<=(((s_bytes.getD (Int.toNat (s_used % (s_bytes.length:Int))) 0).toNat:Int)+((11*s_mix)+(s_used / (s_bytes.length:Int)))))&&decide ((((s_bytes.getD (Int.toNat (s_used % (s_bytes.length:Int))) 0).toNat:Int)+((11*s_mix)+(s_used / (s_bytes.length:Int))))<=(9223372036854775807:Int))) <|
  zbJ s_used s_mix n (((s_bytes.getD (Int.toNat (s_used % (s_bytes.length:Int))) 0).toNat:Int)+((11*s_mix)+(s_used / (s_bytes.length:Int)))))
  else (
  zbJ s_used s_mix n ((s_bytes.getD (Int.toNat (s_used % (s_bytes.length:Int))) 0).toNat:Int)))
theorem zab {R:List Chunk} {aa:Nat} {ak:Cells} {ac:Value} (s_bytes:List UInt8) (s_used:Int) (s_mix:Int) (n:Int) (al:Reads R ak) (ah:Sl ak ac s_bytes) {r:(Int × Int × Int)} (hM:(zac s_bytes s_used s_mix n).Ends r) (w:World) (H:St w w [cBlk aa [ac,I s_used,I s_mix] 61] R):Ret Tryz.prog 7 #[Pq aa,I n] w fun v w'=>∃ (y0:Int) (y1:Int) (y2:Int),(y0,y1,y2)=r/\v=I y0/\St w w' [cBlk aa [ac,I y1,I y2] 61] R:=by
 refine ret_of_W Tryz.func7 rfl rfl rfl ?_
 have am:=(ah).len_le
 refine kg 18 ?_
 refine W.cond ((decide (n<2))||((s_bytes.length:Int)==0)) rfl (fun aj=>?_) (fun aj=>?_)
 ·replace hM:=M.e_t hM aj;refine kg 4 ?_;refine W.ret ?_
  have ai:=M.e_pure hM
  exact ⟨_,resE_tmp rfl,⟨0,s_used,s_mix,ai,rfl,H⟩⟩
 replace hM:=M.e_f hM aj;refine kg 2 ?_;refine W.draw (fun W=>St w W [cBlk aa [ac,I s_used,I s_mix] 61] R) [(0,true),(1,true),(2,true),(3,true),(4,true),(5,true),(6,true),(7,true),(8,true),(9,true),(10,true),(11,true),(12,true),(13,true),(14,true),(15,true),(16,true),(17,true)] mixed (by decide +kernel) rfl ?_;intro ao ab;replace H:=H.ext ab;clear ab
 refine ⟨(H.pk [0]),?_⟩
 have ap:=(ah).len_le
 obtain ⟨aq,hM⟩:=M.e_gd hM;refine kg 13 ?_;refine d_q rfl (fun w' H=>x_rem' (a:=s_used) (b:=(s_bytes.length:Int)) rfl rfl (by omega)) ?_;obtain ⟨au,hM⟩:=M.e_gd hM;refine kg 1 ?_;refine d_q rfl (fun w' H=>x_ld (v:=.int .u8 (((s_bytes.getD (Int.toNat (s_used % (s_bytes.length:Int))) 0).toNat:Int))) rfl (ld_sc Sc5 (At.mono (UInt8_at ah (i:=s_used % (s_bytes.length:Int)) (by omega) (by omega)) (al.at H)))) ?_;obtain ⟨av,hM⟩:=M.e_gd hM;refine d_q rfl (fun w' H=>x_conv64 (kd:=.u8) (a:=((s_bytes.getD (Int.toNat (s_used % (s_bytes.length:Int))) 0).toNat:Int)) Tryz.underlying5 Tryz.underlying3 rfl (by omega)) ?_;refine kg 2 ?_;refine W.seqJ (fun σ W=>∃ (b:Int) (ρ:Env),σ=upds ρ [(0,Pq aa),(1,I n),(5,I b)]/\(zbJ s_used s_mix n b).Ends r/\St w W [cBlk aa [ac,I s_used,I s_mix] 61] R) ?_ ?_
 ·skip
  refine W.seq ?_;refine W.draw (fun W=>St w W [cBlk aa [ac,I s_used,I s_mix] 61] R) [(0,true),(1,true),(2,true),(3,true),(4,true),(5,true),(6,true),(7,true),(8,true),(9,true)] mixed (by decide +kernel) rfl ?_;intro aw ab;replace H:=H.ext ab;clear ab
  refine ⟨(H.pk [0]),?_⟩
  have ax:=(ah).len_le
  refine kg 11 ?_
  refine W.cond (decide ((s_bytes.length:Int)<=s_used)) rfl (fun ae=>?_) (fun ae=>?_)
  ·replace hM:=M.e_t hM ae
   replace ae:=dI ae
   refine W.draw (fun W=>St w W [cBlk aa [ac,I s_used,I s_mix] 61] R) [(0,true),(1,true),(2,true),(3,true),(4,true),(5,true),(6,true),(7,true),(8,true),(9,true),(10,true),(11,true),(12,true),(13,true),(14,true),(15,true),(16,true),(17,true),(18,true)] mixed (by decide +kernel) rfl ?_;intro ay ab;replace H:=H.ext ab;clear ab
   refine ⟨(H.pk [0]),?_⟩
   obtain ⟨az,hM⟩:=M.e_gd hM
   have aA:=(ah).len_le
   obtain ⟨aB,hM⟩:=M.e_gd hM;obtain ⟨aC,hM⟩:=M.e_gd hM;obtain ⟨aD,hM⟩:=M.e_gd hM;refine kg 20 ?_
   exact ⟨((s_bytes.getD (Int.toNat (s_used % (s_bytes.length:Int))) 0).toNat:Int)+((11*s_mix)+(s_used / (s_bytes.length:Int))),_,upds_of _ _ ⟨rfl,rfl,rfl,trivial⟩,hM,H⟩
  replace hM:=M.e_f hM ae
  replace ae:=dI ae
  refine W.skip ?_
  exact ⟨((s_bytes.getD (Int.toNat (s_used % (s_bytes.length:Int))) 0).toNat:Int),_,upds_of _ _ ⟨rfl,rfl,rfl,trivial⟩,hM,H⟩
 rintro _ aE ⟨b,ρ,rfl,hM,H⟩
 unfold zbJ at hM
 obtain ⟨aF,hM⟩:=M.e_gd hM;obtain ⟨aG,hM⟩:=M.e_gd hM;obtain ⟨aH,hM⟩:=M.e_gd hM;obtain ⟨aI,hM⟩:=M.e_gd hM;refine kg 11 ?_;refine s_val (x_rem' (a:=((5*s_mix)+b)+1) (b:=251) rfl rfl (by omega)) ?_;refine kg 2 ?_;refine t_sw 0 2 [I ((((5*s_mix)+b)+1) % 251)] (I ((((5*s_mix)+b)+1) % 251)) H rfl rfl Sz3 rfl rfl rfl rfl ?_;intro aJ H;obtain ⟨aK,hM⟩:=M.e_gd hM;refine kg 10 ?_;refine t_sw 0 1 [I (s_used+1)] (I (s_used+1)) H rfl rfl Sz3 rfl rfl rfl rfl ?_;intro aL H;refine kg 7 ?_
 refine W.cond (decide (256<n)) rfl (fun ag=>?_) (fun ag=>?_)
 ·replace hM:=M.e_t hM ag
  replace ag:=dI ag
  obtain ⟨aM,hM⟩:=M.e_gd hM;obtain ⟨aN,hM⟩:=M.e_gd hM;obtain ⟨aO,hM⟩:=M.e_gd hM;refine kg 14 ?_;refine s_val (x_rem' (a:=(256*b)+((((5*s_mix)+b)+1) % 251)) (b:=n) rfl rfl (by omega)) ?_;refine kg 2 ?_;refine W.ret ?_
  have ai:=M.e_pure hM
  exact ⟨_,resE_tmp rfl,⟨(((256*b)+((((5*s_mix)+b)+1) % 251)) % n),(s_used+1),((((5*s_mix)+b)+1) % 251),ai,rfl,H⟩⟩
 replace hM:=M.e_f hM ag
 replace ag:=dI ag
 obtain ⟨aP,hM⟩:=M.e_gd hM;refine kg 5 ?_;refine s_val (x_rem' (a:=b) (b:=n) rfl rfl (by omega)) ?_;refine kg 2 ?_;refine W.ret ?_
 have ai:=M.e_pure hM
 exact ⟨_,resE_tmp rfl,⟨(b % n),(s_used+1),((((5*s_mix)+b)+1) % 251),ai,rfl,H⟩⟩

def zag (s_bytes:List UInt8) (s_used s_mix lo hi:Int):M (Int × Int × Int) :=
  M.grd (decide ((-9223372036854775808:Int)<=(hi-lo))&&decide ((hi-lo)<=(9223372036854775807:Int))) <|
  M.grd (decide ((-9223372036854775808:Int)<=((hi-lo)+1))&&decide (((hi-lo)+1)<=(9223372036854775807:Int))) <|
  M.bind (zac s_bytes s_used s_mix ((hi-lo)+1)) fun (r2,q1,q2) =>
  M.grd (decide ((-9223372036854775808:Int)<=(lo+r2))&&decide ((lo+r2)<=(9223372036854775807:Int))) <|
  M.pure ((lo+r2),q1,q2)
theorem zad {R:List Chunk} {aa:Nat} {ac:Cells} {ab:Value} (s_bytes:List UInt8) (s_used:Int) (s_mix:Int) (lo:Int) (hi:Int) (ag:Reads R ac) (ah:Sl ac ab s_bytes) {r:(Int × Int × Int)} (hM:(zag s_bytes s_used s_mix lo hi).Ends r) (w:World) (H:St w w [cBlk aa [ab,I s_used,I s_mix] 61] R):Ret Tryz.prog 6 #[Pq aa,I lo,I hi] w fun v w'=>∃ (y0:Int) (y1:Int) (y2:Int),(y0,y1,y2)=r/\v=I y0/\St w w' [cBlk aa [ab,I y1,I y2] 61] R:=by
 refine ret_of_W Tryz.func6 rfl rfl rfl ?_;obtain ⟨ak,hM⟩:=M.e_gd hM;obtain ⟨al,hM⟩:=M.e_gd hM;refine kg 12 ?_;obtain ⟨am,ai,hM⟩:=M.e_bind hM;refine s_call cf7 [Pq aa,I ((hi-lo)+1)] rfl (zab s_bytes s_used s_mix ((hi-lo)+1) (ag.app _) ah ai _ (H.gt 0)) ?_
 rintro vq ao ⟨r2,q1,q2,rfl,hvq,ae⟩
 subst vq;(try dsimp only at hM);replace H:=H.bk ae;clear ae;obtain ⟨ap,hM⟩:=M.e_gd hM;refine kg 3 ?_;refine W.ret ?_
 have aj:=M.e_pure hM
 exact ⟨_,resE_tmp rfl,⟨(lo+r2),q1,q2,aj,rfl,H⟩⟩

end Go.Proofs.YtdmdhmineljlhabGreat
end
