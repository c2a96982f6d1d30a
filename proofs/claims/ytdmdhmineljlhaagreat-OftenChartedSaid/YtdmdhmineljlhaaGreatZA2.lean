/- Part 2 of the texts on which the proof rests. Conditions: none. -/
import Derived.Maps.RangeRun
import Derived.Test.YtdmdhmineljlhaaGreatProg
import Derived.Shelf.SlIterI.Nil
import Derived.Shelf.SortM.Plain
import Derived.Shelf.SortM.SortNone
import Derived.Test.YtdmdhmineljlhaaGreatZA1
set_option linter.unusedVariables false
set_option linter.unusedSimpArgs false
set_option linter.unusedSectionVars false
namespace Go.Nm
open Go
theorem mm_old (w:World) (o:Obj) {j:Nat} (h:j<w.heap.size):(w.alloc o).heap[j]?=w.heap[j]?:=by
  show (w.heap.push o)[j]?=_
  rw [Array.getElem?_push,if_neg (by omega)]
/-! ### What is reckoned entry by entry -/
namespace M
variable {κ ν:Type}
def mapL (body:κ->ν->M ν):List (κ × ν)->M (List (κ × ν))
  | []=>pure []
  | p :: m=>bind (body p.1 p.2) fun v=>bind (mapL body m) fun m'=>pure ((p.1,v) :: m')
theorem mapL_at {body:κ->ν->M ν}:∀ {m m':List (κ × ν)},(mapL body m).Ends m'->m'.length=m.length/\∀ (i:Nat) (k:κ) (v:ν),m[i]?=some (k,v)->∃ v',(body k v).Ends v'/\m'[i]?=some (k,v')
  | [],m',h=>by
    obtain rfl:=e_pure h
    exact ⟨rfl,fun i k v h=>by simp at h⟩
  | p :: m,m',h=>by
    obtain ⟨v1,h1,h⟩:=e_bind h
    obtain ⟨m1,h2,h⟩:=e_bind h
    obtain rfl:=e_pure h
    obtain ⟨l,ih⟩:=mapL_at h2
    refine ⟨by simp [l],fun i k v hi=>?_⟩
    cases i with
    | zero =>
      simp only [List.getElem?_cons_zero,Option.some.injEq] at hi
      subst hi
      exact ⟨v1,h1,rfl⟩
    | succ i=>exact ih i k v (by simpa using hi)
theorem mapL_ends {body:κ->ν->M ν} {g:κ->ν->ν}:∀ {m:List (κ × ν)},(∀ p∈m,(body p.1 p.2).Ends (g p.1 p.2))->(mapL body m).Ends (m.map fun p=>(p.1,g p.1 p.2))
  | [],_=>i_pure
  | p :: m,h=>i_bind (h p (by simp)) (i_bind (mapL_ends fun q hq=>h q (by simp [hq])) i_pure)
end M
theorem setM_keys {κ ν:Type} [DecidableEq κ]:∀ (m:List (κ × ν)) (k:κ) (v:ν),(setM m k v).map Prod.fst=if k∈m.map Prod.fst then m.map Prod.fst else m.map Prod.fst++[k]
  | [],k,v=>by simp [setM]
  | p :: m,k,v=>by
    have ih:=setM_keys m k v
    unfold setM
    by_cases h:p.1=k
    · rw [if_pos h]; simp [h]
    · rw [if_neg h,List.map_cons,ih]
      simp only [List.map_cons,List.mem_cons,Ne.symm h,false_or]
      split <;> simp
theorem setM_once {κ ν:Type} [DecidableEq κ] {m:List (κ × ν)} (h:(m.map Prod.fst).Nodup) (k:κ) (v:ν):((setM m k v).map Prod.fst).Nodup:=by
  rw [setM_keys]
  split
  · exact h
  · rename_i hk
    rw [List.nodup_append]
    refine ⟨h,by simp,fun a ha b hb e=>?_⟩
    simp only [List.mem_singleton] at hb
    subst hb e
    exact hk ha
theorem idxM_at {κ ν:Type} [DecidableEq κ]:∀ {m:List (κ × ν)} {i:Nat} {k:κ} {v:ν},(m.map Prod.fst).Nodup->m[i]?=some (k,v)->idxM m k=some i
  | [],i,k,v,_,h=>by simp at h
  | p :: m,i,k,v,hn,h=>by
    rw [List.map_cons,List.nodup_cons] at hn
    unfold idxM
    cases i with
    | zero =>
      simp only [List.getElem?_cons_zero,Option.some.injEq] at h
      rw [if_pos (by rw [h])]
    | succ i =>
      simp only [List.getElem?_cons_succ] at h
      have hk:p.1 ≠ k:=fun e=>hn.1 (by rw [e]; exact List.mem_map.2 ⟨_,List.mem_of_getElem? h,rfl⟩)
      rw [if_neg hk,idxM_at hn.2 h]
      rfl
/-! ### In memory -/
section
variable {κ ν:Type} [DecidableEq κ] {kenc:κ->Value} {venc:ν->Value}
def cMl (kenc:κ->Value) (venc:ν->Value) (b:Nat) (m:List (κ × ν)):Chunk where
  D k:=k=b
  ex:=true
  ok w:=∃ es n,w.heap[b]?=some (.map es n)/\MapL kenc venc es n m/\(m.map Prod.fst).Nodup
  st w w':=fun ⟨es,n,h1,h2⟩ _ k=>⟨es,n,(k b rfl).trans h1,h2⟩
  bd w k:=fun ⟨_,_,h,_⟩ e=>by rw [e]; exact heap_lt h
theorem MapL.toR {es:Array MapEntry} {n:Nat} {m:List (κ × ν)} (h:MapL kenc venc es n m):MapR kenc venc es n (lookM m):=⟨⟨m,h.1,fun _=>rfl⟩,h.2⟩
theorem mlMap {w:World} {b:Nat} {m:List (κ × ν)} (h:(cMl kenc venc b m).ok w):(cMap kenc venc b (lookM m)).ok w:=by
  obtain ⟨es,n,h1,h2,_⟩:=h
  exact ⟨es,n,h1,h2.toR⟩
/-- A map that is gone through: which entries are left, and which one came last. -/
def cIt (kenc:κ->Value) (venc:ν->Value) (b r:Nat) (m:List (κ × ν)) (left:List Bool) (last:Option Nat):Chunk where
  D k:=k=b∨k=r
  ex:=true
  ok w:=∃ (es:Array MapEntry) (n since:Nat) (seen:Array Nat) (c0:Nat),w.heap[b]?=some (.map es n)/\w.heap[r]?=some (.mapIter (some b) since seen c0)/\MapL kenc venc es n m/\(m.map Prod.fst).Nodup/\(∀ e∈es.toList,e.born<since)/\since<=c0/\since<=n ∧
    left=es.toList.map (fun e=>!seen.contains e.born)/\∀ i,last=some i->c0=n/\∃ (e:MapEntry) (seen0:Array Nat),es.toList[i]?=some e/\seen=seen0.push e.born
  st w w':=fun ⟨es,n,since,seen,c0,h1,h2,h3⟩ _ k=>⟨es,n,since,seen,c0,(k b (.inl rfl)).trans h1,(k r (.inr rfl)).trans h2,h3⟩
  bd w k:=fun ⟨_,_,_,_,_,h1,h2,_⟩ e=>by
    rcases e with e | e
    · rw [e]; exact heap_lt h1
    · rw [e]; exact heap_lt h2
variable {P:Program} {w w0:World} {L L' R:List Chunk} {t kt et:TypeId} {b r:Nat} {es:Array MapEntry} {clk:Nat} {m:List (κ × ν)}
theorem run_putL (K:KeyL (ν:=ν) P kt kenc) (ht:P.underlying t=some (.map kt et)) (hb:w.heap[b]?=some (.map es clk)) (hm:MapL kenc venc es clk m) (k:κ) (v:ν) :
    ∃ es' clk' w',(Instr.mapUpdate t (.map (some b)) (kenc k) (venc v)).run P w = .ok () w'/\Put w b (.map es' clk') w'/\MapL kenc venc es' clk' (setM m k v)/\(∀ i,idxM m k=some i->es'.toList.map (·.born)=es.toList.map (·.born)/\clk'=clk):=by
  obtain ⟨h1,h3,h4⟩:=hm
  have hf:=K.find w es.toList m venc k h1
  cases hi:idxM m k with
  | none =>
    rw [hi] at hf
    refine ⟨es.push { key:=kenc k,val:=venc v,born:=clk },clk+1,_,?_,Put.setMap _ hb (by simp) rfl,⟨?_,?_,?_⟩,fun i h=>by cases h⟩
    · simp [Instr.mapUpdate,run_underlying ht,MapKept.run_getObj_map hb,K.check,hf,MapKept.run_setObj_map _ hb]
    · rw [setM_none v hi]
      simp [h1]
    · simp only [Array.toList_push,List.map_append,List.map_cons,List.map_nil]
      rw [List.nodup_append]
      refine ⟨h3,by simp,fun a ha c hc=>?_⟩
      simp at hc
      subst hc
      obtain ⟨e,he,rfl⟩:=List.mem_map.1 ha
      have:=h4 e he
      omega
    · intro e he
      simp only [Array.toList_push,List.mem_append,List.mem_singleton] at he
      rcases he with he | rfl
      · have:=h4 e he; omega
      · simp
  | some i =>
    obtain ⟨v0,hv,hl⟩:=idxM_some hi
    have he:∃ e,es.toList[i]?=some e/\e.key=kenc k:=by
      have h3:(es.toList.map (fun e=>(e.key,e.val)))[i]?=(m.map (fun p=>(kenc p.1,venc p.2)))[i]?:=by rw [h1]
      rw [List.getElem?_map,List.getElem?_map,hv] at h3
      cases he:es.toList[i]? with
      | none=>rw [he] at h3; simp at h3
      | some e=>rw [he] at h3; simp at h3; exact ⟨e,rfl,h3.1⟩
    obtain ⟨e,he1,he2⟩:=he
    have he1':es[i]?=some e:=by simpa using he1
    rw [hi] at hf
    simp only [Option.bind_some,he1,Option.map_some] at hf
    have hk:(Instr.keyThatStays (((es[i]?).map (·.key)).getD (kenc k)) (kenc k)).run P w = .ok (kenc k) w:=by
      simp [he1',Instr.keyThatStays,he2,K.same]
    have hbn:(es.modify i fun e=>{ e with key:=kenc k,val:=venc v }).toList.map (·.born)=es.toList.map (·.born):=by
      apply List.ext_getElem?
      intro j
      simp only [List.getElem?_map,Array.getElem?_toList,Array.getElem?_modify]
      by_cases hij:i=j
      · subst hij; simp [he1']
      · simp [hij]
    refine ⟨es.modify i fun e=>{ e with key:=kenc k,val:=venc v },clk,_,?_,Put.setMap _ hb (by simp) rfl,⟨?_,?_,?_⟩,fun _ _=>⟨hbn,rfl⟩⟩
    · simp [Instr.mapUpdate,run_underlying ht,MapKept.run_getObj_map hb,K.check,hf,hk,MapKept.run_setObj_map _ hb]
    · rw [setM_some v hi]
      apply List.ext_getElem?
      intro j
      have hj:(es.toList.map (fun e=>(e.key,e.val)))[j]?=(m.map (fun p=>(kenc p.1,venc p.2)))[j]?:=by rw [h1]
      simp only [List.getElem?_map,Array.getElem?_toList,Array.getElem?_modify,List.getElem?_set] at hj ⊢
      by_cases hij:i=j
      · subst hij
        have hlt:=(List.getElem?_eq_some_iff.1 hv).1
        simp [he1',hlt]
      · simp [hij,hj]
    · rw [hbn]; exact h3
    · intro e' he'
      have:e'.born∈es.toList.map (·.born):=by rw [← hbn]; exact List.mem_map.2 ⟨e',he',rfl⟩
      obtain ⟨e2,h5,h6⟩:=List.mem_map.1 this
      rw [← h6]
      exact h4 e2 h5
variable {all rest:List Oper} {Q:Post} {σ:Env} {d:Nat} {ty:TypeId} {pos:String} {af:Array Edge} {g:Option (Nat × Bool)}
omit [DecidableEq κ] in theorem t_mkMl {t':TypeId} (kenc:κ->Value) (venc:ν->Value) (H:St w0 w L R) (k:∀ b w',St w0 w' (cMl kenc venc b [] :: L) R->SL P all Q rest (upd σ d (.map (some b))) w'):SL P all Q (⟨some d,.makeMap t' none,ty,pos,af,none⟩ :: rest) σ w :=
  s_mkmap fun b w' hn=>k b w' (H.push (c:=cMl kenc venc b []) hn.ext ⟨_,_,hn.same,⟨rfl,List.nodup_nil,fun e h=>by simp at h⟩,List.nodup_nil⟩ (fun j hj=>by rw [show j=b from hj]; exact hn.ge))
theorem t_putMl {dst:Option Nat} {x y u:Operand} {i:Nat} (K:KeyL (ν:=ν) P kt kenc) (ht:P.underlying t=some (.map kt et)) (H:St w0 w L R) (hk:L[i]?=some (cMl kenc venc b m)) (hx:ev σ x = .map (some b)) {k:κ} (hy:ev σ y=kenc k) {v:ν} (hu:ev σ u=venc v)
    (hL:L.set i (cMl kenc venc b (setM m k v))=L') (kk:∀ w',St w0 w' L' R->SL P all Q rest (updo σ dst undef) w'):SL P all Q (⟨dst,.mapUpdate t x y u,ty,pos,af,none⟩ :: rest) σ w:=by
  obtain ⟨es,n,h1,h2,hn⟩:=H.get hk
  obtain ⟨es',clk',w',hr,hp,hm',_⟩:=run_putL (w:=w) K ht h1 h2 k v
  refine s_skp (w':=w') ?_ (kk _ (H.set (c':=cMl kenc venc b (setM m k v)) hk rfl hp.keep (fun i _ hne=>hp.other i hne) (fun i hi=>.inl hi) ⟨es',clk',hp.same,hm',setM_once hn k v⟩ hL))
  simp [execOp,hx,hy,hu,hr]
/-- The loop over a map begins. -/
theorem t_range {x:Operand} {i:Nat} (ht:P.underlying t=some (.map kt et)) (H:St w0 w L R) (hk:L[i]?=some (cMl kenc venc b m)) (hx:ev σ x = .map (some b))
    (kk:∀ r w',St w0 w' (L.set i (cIt kenc venc b r m (List.replicate m.length true) none)) R->SL P all Q rest (upd σ d (.pointer (some ⟨r,0,none⟩))) w'):SL P all Q (⟨some d,.range t x,ty,pos,af,none⟩ :: rest) σ w:=by
  obtain ⟨es,n,h1,h2,hn⟩:=H.get hk
  have hr:=run_range_map (P:=P) w t kt et b es n ht h1
  refine s_any (v:=.pointer (some ⟨w.heap.size,0,none⟩)) (w':=w.alloc (.mapIter (some b) n #[] n)) (by simp [execOp,hx,hr]) (kk _ _ ?_)
  have hx:Ext w (w.alloc (.mapIter (some b) n #[] n)):=⟨rfl,rfl,by show w.heap.size<=(w.heap.push _).size; simp,fun j hj=>mm_old w _ hj,fun a=>by
    unfold World.frozen?
    by_cases e:a.block<w.heap.size
    · rw [mm_old w _ e]
    · by_cases e2:a.block=w.heap.size
      · rw [e2,heap_alloc_new]; simp
      · have:(w.alloc (.mapIter (some b) n #[] n)).heap[a.block]?=none:=by
          rw [Array.getElem?_eq_none]; show (w.heap.push _).size<=_; rw [Array.size_push]; omega
        rw [this,Array.getElem?_eq_none (by omega)]⟩
  have hlen:es.toList.length=m.length:=by have:=congrArg List.length h2.1; simpa using this
  refine H.set (c':=cIt kenc venc b w.heap.size m (List.replicate m.length true) none) hk rfl hx.keep (fun j hj _=>hx.blk j hj) (fun j hj=>?_) ⟨es,n,n,#[],n,(hx.blk b (heap_lt h1)).trans h1,heap_alloc_new w _,h2,hn,h2.2.2,Nat.le_refl _,Nat.le_refl _,?_,fun i h=>by cases h⟩ rfl
  · rcases hj with hj | hj
    · exact .inl hj
    · exact .inr (by omega)
  · rw [← hlen]
    apply List.ext_getElem?
    intro j
    rw [List.getElem?_replicate,List.getElem?_map]
    split
    · rename_i hj
      rw [List.getElem?_eq_getElem hj]
      simp
    · rename_i hj
      rw [List.getElem?_eq_none (by omega)]
      rfl
/-- The next entry: none is left, or one of those that are. -/
theorem t_next {x:Operand} {i:Nat} {left:List Bool} {last:Option Nat} (H:St w0 w L R) (hk:L[i]?=some (cIt kenc venc b r m left last)) (hx:ev σ x = .pointer (some ⟨r,0,none⟩))
    (h0:(∀ j:Nat,left.getD j false=false)->SL P all Q rest (upd σ d (.tuple #[.bool false])) w)
    (h1:∀ (j:Nat) (k:κ) (v:ν) w',left.getD j false=true->m[j]?=some (k,v)->St w0 w' (L.set i (cIt kenc venc b r m (left.set j false) (some j))) R->SL P all Q rest (upd σ d (.tuple #[.bool true,kenc k,venc v])) w') :
    SL P all Q (⟨some d,.next x false,ty,pos,af,none⟩ :: rest) σ w:=by
  obtain ⟨es,n,since,seen,c0,hb,hr,hm,hn,hold,hsc,hsn,hleft,hlast⟩:=H.get hk
  have hlen:es.toList.length=m.length:=by have:=congrArg List.length hm.1; simpa using this
  have hget:∀ j:Nat,left.getD j false=((es.toList[j]?).map fun e=>!seen.contains e.born).getD false:=fun j=>by
    rw [hleft,List.getD_eq_getElem?_getD,List.getElem?_map]
  rcases run_next_at (P:=P) w ty r b since c0 seen es n hr hb hold hsc with ⟨hz,hrun⟩ | ⟨e,he,w1,hw1,hrun⟩
  · refine s_any (v:=.tuple #[.bool false]) (w':=w) (by simp [execOp,hx,hrun]) (h0 fun j=>?_)
    rw [hget]
    cases hj:es.toList[j]? with
    | none=>rfl
    | some e =>
      simp only [Option.map_some,Option.getD_some]
      cases hc:seen.contains e.born with
      | true=>rfl
      | false =>
        have hm:e∈leftOf es seen:=Array.mem_filter.2 ⟨Array.mem_toList_iff.1 (List.mem_of_getElem? hj),by rw [hc]; rfl⟩
        have:=Array.size_pos_of_mem hm
        omega
  · obtain ⟨hes,hse⟩:=mem_left he
    obtain ⟨j,hj⟩:=List.getElem?_of_mem hes
    have hjl:j<es.toList.length:=(List.getElem?_eq_some_iff.1 hj).1
    have hmj:∃ k v,m[j]?=some (k,v)/\e.key=kenc k/\e.val=venc v:=by
      have h3:(es.toList.map (fun e=>(e.key,e.val)))[j]?=(m.map (fun p=>(kenc p.1,venc p.2)))[j]?:=by rw [hm.1]
      rw [List.getElem?_map,List.getElem?_map,hj] at h3
      cases hq:m[j]? with
      | none=>rw [hq] at h3; simp at h3
      | some q=>rw [hq] at h3; simp at h3; exact ⟨q.1,q.2,rfl,h3.1,h3.2⟩
    obtain ⟨k,v,hk1,hk2,hk3⟩:=hmj
    rw [hk2,hk3] at hrun
    refine s_any (v:=.tuple #[.bool true,kenc k,venc v]) (w':=ChangeMaps.setBlock w1 r (.mapIter (some b) since (seen.push e.born) n)) (by simp [execOp,hx,hrun]) (h1 j k v _ ?_ hk1 ?_)
    · rw [hget,hj]
      simp only [Option.map_some,Option.getD_some,hse]
      rfl
    · have hw:w1.heap=w.heap/\w1.os=w.os/\w1.output=w.output:=by rcases hw1 with rfl | rfl <;> exact ⟨rfl,rfl,rfl⟩
      have hrl:=heap_lt hr
      have hsame:(ChangeMaps.setBlock w1 r (.mapIter (some b) since (seen.push e.born) n)).heap[r]?=some (.mapIter (some b) since (seen.push e.born) n):=by
        show (w1.heap.setIfInBounds r _)[r]?=_
        rw [Array.getElem?_setIfInBounds_self_of_lt (by rw [hw.1]; exact hrl)]
      have hoth:∀ q,q ≠ r->(ChangeMaps.setBlock w1 r (.mapIter (some b) since (seen.push e.born) n)).heap[q]?=w.heap[q]?:=fun q hq=>by
        show (w1.heap.setIfInBounds r _)[q]?=_
        rw [Array.getElem?_setIfInBounds_ne (Ne.symm hq),hw.1]
      have hbr:b ≠ r:=fun e=>by rw [e,hr] at hb; cases hb
      refine H.set (c':=cIt kenc venc b r m (left.set j false) (some j)) hk rfl ⟨hw.2.1,hw.2.2,by show _<=(w1.heap.setIfInBounds r _).size; rw [Array.size_setIfInBounds,hw.1]; exact Nat.le_refl _⟩ (fun q _ hq=>hoth q (fun e=>hq (.inr e))) (fun q hq=>.inl hq)
        ⟨es,n,since,seen.push e.born,n,(hoth b hbr).trans hb,hsame,hm,hn,hold,hsn,hsn,?_,fun q hq=>?_⟩ rfl
      · rw [hleft]
        apply List.ext_getElem?
        intro q
        rw [List.getElem?_set,List.getElem?_map,List.getElem?_map,List.length_map]
        by_cases hq:j=q
        · subst hq
          rw [if_pos rfl,if_pos hjl,hj]
          simp
        · rw [if_neg hq]
          cases hq2:es.toList[q]? with
          | none=>rfl
          | some e2 =>
            have hne:e2.born ≠ e.born:=fun h4=>by
              have hnd:=hm.2.1
              have hql:q<es.toList.length:=(List.getElem?_eq_some_iff.1 hq2).1
              have a1:(es.toList.map (·.born))[q]?=(es.toList.map (·.born))[j]?:=by rw [List.getElem?_map,List.getElem?_map,hq2,hj]; simp [h4]
              exact hq ((List.getElem?_inj (by simpa using hql) hnd).1 a1).symm
            simp only [Option.map_some]
            congr 1
            rw [Array.contains_push]
            simp [hne]
      · injection hq with hq
        subst hq
        exact ⟨rfl,e,seen,hj,rfl⟩
/-- The entry that came last. -/
theorem x_entry {x:Operand} {left:List Bool} {j:Nat} {k:κ} {v:ν} (ho:(cIt kenc venc b r m left (some j)).ok w) (hj:m[j]?=some (k,v)) (hx:ev σ x = .pointer (some ⟨r,0,none⟩)) :
    (execOp (ev σ) ⟨some d,.entry x,ty,pos,af,g⟩).run P w = .ok (.value (.tuple #[kenc k,venc v])) w:=by
  obtain ⟨es,n,since,seen,c0,hb,hr,hm,hn,hold,hsc,hsn,hleft,hlast⟩:=ho
  obtain ⟨rfl,e,seen0,he,rfl⟩:=hlast j rfl
  have hrun:=run_entry_at (P:=P) w r b since seen0 es _ e hr hb (List.mem_of_getElem? he) hm.2.1
  have h3:(es.toList.map (fun e=>(e.key,e.val)))[j]?=(m.map (fun p=>(kenc p.1,venc p.2)))[j]?:=by rw [hm.1]
  rw [List.getElem?_map,List.getElem?_map,he,hj] at h3
  simp only [Option.map_some,Option.some.injEq,Prod.mk.injEq] at h3
  rw [h3.1,h3.2] at hrun
  simp [execOp,hx,hrun]
/-- An entry is turned while the map is gone through. -/
theorem t_putIt {dst:Option Nat} {x y u:Operand} {i j:Nat} {left:List Bool} {last:Option Nat} (K:KeyL (ν:=ν) P kt kenc) (ht:P.underlying t=some (.map kt et)) (H:St w0 w L R) (hk:L[i]?=some (cIt kenc venc b r m left last)) (hx:ev σ x = .map (some b)) {k:κ} {v0:ν} (hj:m[j]?=some (k,v0)) (hy:ev σ y=kenc k) {v:ν} (hu:ev σ u=venc v)
    (hL:L.set i (cIt kenc venc b r (m.set j (k,v)) left last)=L') (kk:∀ w',St w0 w' L' R->SL P all Q rest (updo σ dst undef) w'):SL P all Q (⟨dst,.mapUpdate t x y u,ty,pos,af,none⟩ :: rest) σ w:=by
  obtain ⟨es,n,since,seen,c0,hb,hr,hm,hn,hold,hsc,hsn,hleft,hlast⟩:=H.get hk
  obtain ⟨es',clk',w',hrun,hp,hm',hq_⟩:=run_putL (w:=w) K ht hb hm k v
  have hi:=idxM_at hn hj
  obtain ⟨hbn,rfl⟩:=hq_ j hi
  rw [setM_some v hi] at hm'
  have hbr:r ≠ b:=fun e=>by rw [e,hb] at hr; cases hr
  have hmem:∀ e∈es'.toList,e.born<since:=fun e he=>by
    have:e.born∈es.toList.map (·.born):=by rw [← hbn]; exact List.mem_map.2 ⟨e,he,rfl⟩
    obtain ⟨e2,h5,h6⟩:=List.mem_map.1 this
    rw [← h6]
    exact hold e2 h5
  refine s_skp (w':=w') (by simp [execOp,hx,hy,hu,hrun]) (kk _ (H.set (c':=cIt kenc venc b r (m.set j (k,v)) left last) hk rfl hp.keep (fun q _ hq=>hp.other q (fun e=>hq (.inl e))) (fun q hq=>.inl hq)
    ⟨es',clk',since,seen,c0,hp.same,(hp.other r hbr).trans hr,hm',?_,hmem,hsc,hsn,?_,fun q hq=>?_⟩ hL))
  · have:=setM_once hn k v
    rwa [setM_some v hi] at this
  · rw [hleft]
    have e1:∀ l:List MapEntry,l.map (fun e=>!seen.contains e.born)=(l.map (·.born)).map (fun q=>!seen.contains q):=fun l=>by rw [List.map_map]; rfl
    rw [e1,e1,hbn]
  · obtain ⟨h1,e,seen0,h2,h3⟩:=hlast q hq
    have h4:(es'.toList.map (·.born))[q]?=(es.toList.map (·.born))[q]?:=by rw [hbn]
    rw [List.getElem?_map,List.getElem?_map,h2] at h4
    cases h5:es'.toList[q]? with
    | none=>rw [h5] at h4; simp at h4
    | some e2 =>
      rw [h5] at h4
      simp only [Option.map_some,Option.some.injEq] at h4
      exact ⟨h1,e2,seen0,rfl,by rw [h4]; exact h3⟩
/-- The loop is over. -/
theorem St.itEnd {i:Nat} {left:List Bool} {last:Option Nat} (H:St w0 w L R) (hk:L[i]?=some (cIt kenc venc b r m left last)) (hL:L.set i (cMl kenc venc b m)=L'):St w0 w L' R:=by
  obtain ⟨es,n,since,seen,c0,hb,hr,hm,hn,_⟩:=H.get hk
  exact H.set (c':=cMl kenc venc b m) hk rfl (Keep.refl w) (fun _ _ _=>rfl) (fun q hq=>.inl (.inl hq)) ⟨es,n,hb,hm,hn⟩ hL
end
/-- How far a loop over a map has come: what is left is as it was, what was met is as it will be. -/
def ItR {κ ν:Type} (m m' m1:List (κ × ν)) (left:List Bool):Prop:=m1.length=m.length/\m'.length=m.length/\left.length=m.length/\∀ i,i<m.length->m1[i]?=if left.getD i false then m[i]? else m'[i]?
namespace ItR
variable {κ ν:Type} {m m' m1:List (κ × ν)} {left:List Bool} {body:κ->ν->M ν}
theorem init (h:(M.mapL body m).Ends m'):ItR m m' m (List.replicate m.length true) :=
  ⟨rfl,(M.mapL_at h).1,by simp,fun i hi=>by rw [List.getD_eq_getElem?_getD,List.getElem?_replicate,if_pos hi]; rfl⟩
theorem fin (h:ItR m m' m1 left) (hl:∀ j:Nat,left.getD j false=false):m1=m':=by
  apply List.ext_getElem?
  intro i
  by_cases hi:i<m.length
  · rw [h.2.2.2 i hi,hl i]; rfl
  · rw [List.getElem?_eq_none (by have:=h.1; omega),List.getElem?_eq_none (by have:=h.2.1; omega)]
theorem lt (h:ItR m m' m1 left) {j:Nat} (hj:left.getD j false=true):j<m.length:=by
  rw [← h.2.2.1]
  refine Nat.lt_of_not_le fun hn=>?_
  rw [List.getD_eq_getElem?_getD,List.getElem?_eq_none hn] at hj
  cases hj
theorem at_ (h:ItR m m' m1 left) (hb:(M.mapL body m).Ends m') {j:Nat} {k:κ} {v:ν} (hj:left.getD j false=true) (hm:m1[j]?=some (k,v)):∃ v',(body k v).Ends v'/\m'[j]?=some (k,v'):=by
  have:=h.2.2.2 j (h.lt hj)
  rw [hj,hm] at this
  exact (M.mapL_at hb).2 j k v (by simpa using this.symm)
theorem step (h:ItR m m' m1 left) {j:Nat} {k:κ} {v v':ν} (hj:left.getD j false=true) (hm:m1[j]?=some (k,v)) (hv:m'[j]?=some (k,v')):ItR m m' (m1.set j (k,v')) (left.set j false):=by
  have hjl:=h.lt hj
  have hl:=h.2.2.1
  have h1:=h.1
  refine ⟨by rw [List.length_set]; exact h.1,h.2.1,by rw [List.length_set]; exact h.2.2.1,fun i hi=>?_⟩
  by_cases e:j=i
  · subst e
    rw [List.getElem?_set_self (by omega),List.getD_eq_getElem?_getD,List.getElem?_set_self (by omega),hv]
    rfl
  · rw [List.getElem?_set_ne e,List.getD_eq_getElem?_getD,List.getElem?_set_ne e,← List.getD_eq_getElem?_getD]
    exact h.2.2.2 i hi
theorem keep (h:ItR m m' m1 left) {j:Nat} {k:κ} {v:ν} (hj:left.getD j false=true) (hm:m1[j]?=some (k,v)) (hv:m'[j]?=some (k,v)):ItR m m' m1 (left.set j false):=by
  have:=h.step hj hm hv
  rwa [show m1.set j (k,v)=m1 from by
    obtain ⟨hl,e⟩:=List.getElem?_eq_some_iff.1 hm
    rw [← e,List.set_getElem_self]] at this
theorem less {j:Nat} (hj:left.getD j false=true):(left.set j false).count true<left.count true:=by
  have hl:j<left.length:=Nat.lt_of_not_le fun hn=>by
    rw [List.getD_eq_getElem?_getD,List.getElem?_eq_none hn] at hj
    cases hj
  have hg:left[j]=true:=by
    rw [List.getD_eq_getElem?_getD,List.getElem?_eq_getElem hl] at hj
    exact hj
  rw [List.count_set hl,hg]
  have:0<left.count true:=List.count_pos_iff.2 (by rw [← hg]; exact List.getElem_mem hl)
  simp
  omega
end ItR
end Go.Nm
namespace Go.Nm
open Go
theorem mr_old (w:World) (o:Obj) {j:Nat} (h:j<w.heap.size):(w.alloc o).heap[j]?=w.heap[j]?:=by
  show (w.heap.push o)[j]?=_
  rw [Array.getElem?_push,if_neg (by omega)]
/-! ### What was given, pinned to what lies there now -/
/-- A part that stays as it is in a world. -/
def pin (w:World) (c:Chunk):Chunk where
  D:=c.D
  ex:=c.ex
  ok w':=c.ok w/\w.heap.size<=w'.heap.size/\∀ b,c.D b->w'.heap[b]?=w.heap[b]?
  st w1 w2 h hs hk:=⟨h.1,Nat.le_trans h.2.1 hs,fun b hb=>(hk b hb).trans (h.2.2 b hb)⟩
  bd w' b h hb:=Nat.lt_of_lt_of_le (c.bd w b h.1 hb) h.2.1
theorem Sep.pin {w:World}:∀ {R:List Chunk},Sep w R->Sep w (R.map (pin w))
  | [],_=>trivial
  | c :: R,h=>by
    refine ⟨⟨h.1,Nat.le_refl _,fun _ _=>rfl⟩,fun d hd=>?_,Sep.pin h.2.2⟩
    obtain ⟨d',hd',rfl⟩:=List.mem_map.1 hd
    exact h.2.1 d' hd'
theorem Sep.unpin {w w':World}:∀ {L R:List Chunk},Sep w' (L++R.map (Go.Nm.pin w))->Sep w' (L++R)
  | [],[],_=>trivial
  | [],c :: R,h=>by
    refine ⟨c.st w w' h.1.1 h.1.2.1 h.1.2.2,fun d hd=>?_,Sep.unpin (L:=[]) h.2.2⟩
    exact h.2.1 (Go.Nm.pin w d) (List.mem_map.2 ⟨d,hd,rfl⟩)
  | c :: L,R,h=>by
    refine ⟨h.1,fun d hd=>?_,Sep.unpin (L:=L) h.2.2⟩
    rcases List.mem_append.1 hd with hd | hd
    · exact h.2.1 d (List.mem_append_left _ hd)
    · exact h.2.1 (Go.Nm.pin w d) (List.mem_append_right _ (List.mem_map.2 ⟨d,hd,rfl⟩))
theorem St.pin {w:World} {R:List Chunk} (H:St w w [] R):St w w [] (R.map (Go.Nm.pin w)):=⟨H.kp,H.sep.pin⟩
theorem St.unpin {w0 w w':World} {L R:List Chunk} (H:St w0 w' L (R.map (Go.Nm.pin w))):St w0 w' L R:=⟨H.kp,H.sep.unpin⟩
theorem Has.pin {w:World} {R:List Chunk} {c:Chunk} (h:Has R c):Has (R.map (Go.Nm.pin w)) c:=⟨fun w' hs=>h.of w' (Sep.unpin (L:=[]) hs)⟩
theorem Reads.pin {w:World} {R:List Chunk} {C:Cells} (h:Reads R C):Reads (R.map (Go.Nm.pin w)) C:=⟨fun w' hs=>h.le w' (Sep.unpin (L:=[]) hs)⟩
theorem Fld.pin {w:World} {R:List Chunk} {b:Nat} {pre:List Value} (h:Fld R b pre):Fld (R.map (Go.Nm.pin w)) b pre:=fun w' hs=>h w' (Sep.unpin (L:=[]) hs)
/-- A map as it lies there. -/
def cMe (b:Nat) (es:Array MapEntry) (n:Nat):Chunk where
  D k:=k=b
  ex:=true
  ok w:=w.heap[b]?=some (.map es n)
  st w w' h _ k:=(k b rfl).trans h
  bd w k h e:=by rw [e]; exact heap_lt h
section
variable {κ ν:Type} [DecidableEq κ] {kenc:κ->Value} {venc:ν->Value}
theorem Has.map {w:World} {R:List Chunk} {b:Nat} {m:List (κ × ν)} (h:Has R (cMl kenc venc b m)) (hs:Sep w R):∃ es n,MapL kenc venc es n m/\(m.map Prod.fst).Nodup/\Has (R.map (Go.Nm.pin w)) (cMe b es n):=by
  obtain ⟨es,n,hb,hm,hn⟩:=h.of w hs
  refine ⟨es,n,hm,hn,?_⟩
  have hc:∃ c∈R,c.D b:=by
    refine Classical.byContradiction fun hno=>?_
    have hno':∀ c∈R,¬ c.D b:=fun c hc hD=>hno ⟨c,hc,hD⟩
    have hs':Sep { w with heap:=w.heap.setIfInBounds b (.cells #[] 0 (0,0)) } R:=by
      refine hs.old (by simp) fun c hc k hk=>?_
      have hne:b ≠ k:=fun e=>hno' c hc (by rw [e]; exact hk)
      show (w.heap.setIfInBounds b _)[k]?=_
      rw [Array.getElem?_setIfInBounds_ne hne]
    obtain ⟨es',n',hb',_⟩:=h.of _ hs'
    have:(w.heap.setIfInBounds b (.cells #[] 0 (0,0)))[b]?=some (.map es' n'):=hb'
    rw [Array.getElem?_setIfInBounds_self_of_lt (heap_lt hb)] at this
    cases this
  obtain ⟨c,hc,hD⟩:=hc
  refine ⟨fun w' hs'=>?_⟩
  have:=hs'.get (List.mem_map.2 ⟨c,hc,rfl⟩)
  exact (this.2.2 b hD).trans hb
/-- An iterator over such a map: which entries are left, and which one came last. -/
def cIr (b r:Nat) (es:Array MapEntry) (n:Nat) (left:List Bool) (last:Option Nat):Chunk where
  D k:=k=r
  ex:=true
  ok w:=∃ (seen:Array Nat) (c0:Nat),w.heap[r]?=some (.mapIter (some b) n seen c0)/\n<=c0/\left=es.toList.map (fun e=>!seen.contains e.born)/\∀ i,last=some i->c0=n/\∃ (e:MapEntry) (seen0:Array Nat),es.toList[i]?=some e/\seen=seen0.push e.born
  st w w':=fun ⟨seen,c0,h1,h2⟩ _ k=>⟨seen,c0,(k r rfl).trans h1,h2⟩
  bd w k:=fun ⟨_,_,h,_⟩ e=>by rw [e]; exact heap_lt h
variable {P:Program} {w w0:World} {L L' R:List Chunk} {t kt et:TypeId} {b r:Nat} {es:Array MapEntry} {n:Nat} {m:List (κ × ν)}
variable {all rest:List Oper} {Q:Post} {σ:Env} {d:Nat} {ty:TypeId} {pos:String} {af:Array Edge} {g:Option (Nat × Bool)}
/-- The loop over a map begins. -/
theorem t_rangeR {x:Operand} (ht:P.underlying t=some (.map kt et)) (H:St w0 w L R) (hb:w.heap[b]?=some (.map es n)) (hm:MapL kenc venc es n m) (hx:ev σ x = .map (some b))
    (kk:∀ r w',St w0 w' (cIr b r es n (List.replicate m.length true) none :: L) R->SL P all Q rest (upd σ d (.pointer (some ⟨r,0,none⟩))) w'):SL P all Q (⟨some d,.range t x,ty,pos,af,none⟩ :: rest) σ w:=by
  have hr:=run_range_map (P:=P) w t kt et b es n ht hb
  refine s_any (v:=.pointer (some ⟨w.heap.size,0,none⟩)) (w':=w.alloc (.mapIter (some b) n #[] n)) (by simp [execOp,hx,hr]) (kk _ _ ?_)
  have hx:Ext w (w.alloc (.mapIter (some b) n #[] n)):=⟨rfl,rfl,by show w.heap.size<=(w.heap.push _).size; simp,fun j hj=>mr_old w _ hj,fun a=>by
    unfold World.frozen?
    by_cases e:a.block<w.heap.size
    · rw [mr_old w _ e]
    · by_cases e2:a.block=w.heap.size
      · rw [e2,heap_alloc_new]; simp
      · have:(w.alloc (.mapIter (some b) n #[] n)).heap[a.block]?=none:=by
          rw [Array.getElem?_eq_none]; show (w.heap.push _).size<=_; rw [Array.size_push]; omega
        rw [this,Array.getElem?_eq_none (by omega)]⟩
  have hlen:es.toList.length=m.length:=by have:=congrArg List.length hm.1; simpa using this
  refine H.push (c:=cIr b w.heap.size es n (List.replicate m.length true) none) hx ⟨#[],n,heap_alloc_new w _,Nat.le_refl _,?_,fun i h=>by cases h⟩ (fun j hj=>by rw [show j=w.heap.size from hj]; exact Nat.le_refl _)
  rw [← hlen]
  apply List.ext_getElem?
  intro j
  rw [List.getElem?_replicate,List.getElem?_map]
  split
  · rename_i hj
    rw [List.getElem?_eq_getElem hj]
    simp
  · rename_i hj
    rw [List.getElem?_eq_none (by omega)]
    rfl
/-- The next entry: none is left, or one of those that are. -/
theorem t_nextR {x:Operand} {i:Nat} {left:List Bool} {last:Option Nat} (H:St w0 w L R) (hb:w.heap[b]?=some (.map es n)) (hm:MapL kenc venc es n m) (hk:L[i]?=some (cIr b r es n left last)) (hx:ev σ x = .pointer (some ⟨r,0,none⟩))
    (h0:(∀ j:Nat,left.getD j false=false)->SL P all Q rest (upd σ d (.tuple #[.bool false])) w)
    (h1:∀ (j:Nat) (k:κ) (v:ν) w',left.getD j false=true->m[j]?=some (k,v)->St w0 w' (L.set i (cIr b r es n (left.set j false) (some j))) R->SL P all Q rest (upd σ d (.tuple #[.bool true,kenc k,venc v])) w') :
    SL P all Q (⟨some d,.next x false,ty,pos,af,none⟩ :: rest) σ w:=by
  obtain ⟨seen,c0,hr,hsc,hleft,hlast⟩:=H.get hk
  have hold:=hm.2.2
  have hlen:es.toList.length=m.length:=by have:=congrArg List.length hm.1; simpa using this
  have hget:∀ j:Nat,left.getD j false=((es.toList[j]?).map fun e=>!seen.contains e.born).getD false:=fun j=>by
    rw [hleft,List.getD_eq_getElem?_getD,List.getElem?_map]
  rcases run_next_at (P:=P) w ty r b n c0 seen es n hr hb hold hsc with ⟨hz,hrun⟩ | ⟨e,he,w1,hw1,hrun⟩
  · refine s_any (v:=.tuple #[.bool false]) (w':=w) (by simp [execOp,hx,hrun]) (h0 fun j=>?_)
    rw [hget]
    cases hj:es.toList[j]? with
    | none=>rfl
    | some e =>
      simp only [Option.map_some,Option.getD_some]
      cases hc:seen.contains e.born with
      | true=>rfl
      | false =>
        have hm:e∈leftOf es seen:=Array.mem_filter.2 ⟨Array.mem_toList_iff.1 (List.mem_of_getElem? hj),by rw [hc]; rfl⟩
        have:=Array.size_pos_of_mem hm
        omega
  · obtain ⟨hes,hse⟩:=mem_left he
    obtain ⟨j,hj⟩:=List.getElem?_of_mem hes
    have hjl:j<es.toList.length:=(List.getElem?_eq_some_iff.1 hj).1
    have hmj:∃ k v,m[j]?=some (k,v)/\e.key=kenc k/\e.val=venc v:=by
      have h3:(es.toList.map (fun e=>(e.key,e.val)))[j]?=(m.map (fun p=>(kenc p.1,venc p.2)))[j]?:=by rw [hm.1]
      rw [List.getElem?_map,List.getElem?_map,hj] at h3
      cases hq:m[j]? with
      | none=>rw [hq] at h3; simp at h3
      | some q=>rw [hq] at h3; simp at h3; exact ⟨q.1,q.2,rfl,h3.1,h3.2⟩
    obtain ⟨k,v,hk1,hk2,hk3⟩:=hmj
    rw [hk2,hk3] at hrun
    refine s_any (v:=.tuple #[.bool true,kenc k,venc v]) (w':=ChangeMaps.setBlock w1 r (.mapIter (some b) n (seen.push e.born) n)) (by simp [execOp,hx,hrun]) (h1 j k v _ ?_ hk1 ?_)
    · rw [hget,hj]
      simp only [Option.map_some,Option.getD_some,hse]
      rfl
    · have hw:w1.heap=w.heap/\w1.os=w.os/\w1.output=w.output:=by rcases hw1 with rfl | rfl <;> exact ⟨rfl,rfl,rfl⟩
      have hrl:=heap_lt hr
      have hsame:(ChangeMaps.setBlock w1 r (.mapIter (some b) n (seen.push e.born) n)).heap[r]?=some (.mapIter (some b) n (seen.push e.born) n):=by
        show (w1.heap.setIfInBounds r _)[r]?=_
        rw [Array.getElem?_setIfInBounds_self_of_lt (by rw [hw.1]; exact hrl)]
      have hoth:∀ q,q ≠ r->(ChangeMaps.setBlock w1 r (.mapIter (some b) n (seen.push e.born) n)).heap[q]?=w.heap[q]?:=fun q hq=>by
        show (w1.heap.setIfInBounds r _)[q]?=_
        rw [Array.getElem?_setIfInBounds_ne (Ne.symm hq),hw.1]
      refine H.set (c':=cIr b r es n (left.set j false) (some j)) hk rfl ⟨hw.2.1,hw.2.2,by show _<=(w1.heap.setIfInBounds r _).size; rw [Array.size_setIfInBounds,hw.1]; exact Nat.le_refl _⟩ (fun q _ hq=>hoth q (fun e=>hq e)) (fun q hq=>.inl hq)
        ⟨seen.push e.born,n,hsame,Nat.le_refl _,?_,fun q hq=>?_⟩ rfl
      · rw [hleft]
        apply List.ext_getElem?
        intro q
        rw [List.getElem?_set,List.getElem?_map,List.getElem?_map,List.length_map]
        by_cases hq:j=q
        · subst hq
          rw [if_pos rfl,if_pos hjl,hj]
          simp
        · rw [if_neg hq]
          cases hq2:es.toList[q]? with
          | none=>rfl
          | some e2 =>
            have hne:e2.born ≠ e.born:=fun h4=>by
              have hnd:=hm.2.1
              have hql:q<es.toList.length:=(List.getElem?_eq_some_iff.1 hq2).1
              have a1:(es.toList.map (·.born))[q]?=(es.toList.map (·.born))[j]?:=by rw [List.getElem?_map,List.getElem?_map,hq2,hj]; simp [h4]
              exact hq ((List.getElem?_inj (by simpa using hql) hnd).1 a1).symm
            simp only [Option.map_some]
            congr 1
            rw [Array.contains_push]
            simp [hne]
      · injection hq with hq
        subst hq
        exact ⟨rfl,e,seen,hj,rfl⟩
/-- The entry that came last. -/
theorem x_entryR {x:Operand} {left:List Bool} {j:Nat} {k:κ} {v:ν} (ho:(cIr b r es n left (some j)).ok w) (hb:w.heap[b]?=some (.map es n)) (hm:MapL kenc venc es n m) (hj:m[j]?=some (k,v)) (hx:ev σ x = .pointer (some ⟨r,0,none⟩)) :
    (execOp (ev σ) ⟨some d,.entry x,ty,pos,af,g⟩).run P w = .ok (.value (.tuple #[kenc k,venc v])) w:=by
  obtain ⟨seen,c0,hr,hsc,hleft,hlast⟩:=ho
  obtain ⟨rfl,e,seen0,he,rfl⟩:=hlast j rfl
  have hrun:=run_entry_at (P:=P) w r b c0 seen0 es _ e hr hb (List.mem_of_getElem? he) hm.2.1
  have h3:(es.toList.map (fun e=>(e.key,e.val)))[j]?=(m.map (fun p=>(kenc p.1,venc p.2)))[j]?:=by rw [hm.1]
  rw [List.getElem?_map,List.getElem?_map,he,hj] at h3
  simp only [Option.map_some,Option.some.injEq,Prod.mk.injEq] at h3
  rw [h3.1,h3.2] at hrun
  simp [execOp,hx,hrun]
end
end Go.Nm
namespace Go.Nm
open Go
section
variable {P:Program} {n:Nat} {Q:PostD} {σ:Env} {w:World} {Ds:List Nat}
theorem WD.seqJ {x y:Code} (J:Env->World->Prop) (h:W P n x (thenQ J (fun e σ w=>Q e Ds σ w)) σ w) (k:∀ σ' w',J σ' w'->WD P n Ds y Q σ' w'):WD P n Ds (.seq x y) Q σ w:=by
  refine WD.seq (WD.of fun ds a ha=>wpIn_mono (h ds a ha) ?_)
  rintro e a' w' ⟨s,hs,h'⟩
  cases e with
  | normal=>exact ⟨s,hs,k _ _ h'⟩
  | _=>exact ⟨s,hs,h'⟩
end
end Go.Nm
namespace Go.Proofs
open Go.RowKit Go.Maps Go.Sort Go.Shelf
def Tryz.sortA_ren:Go.Shelf.Ren:=⟨fun | 5=>71 | 7=>88 | 8=>89 | 10=>96 | 11=>97 | 12=>98 | 13=>99 | 14=>100 | 15=>101 | 16=>102 | 17=>103 | 18=>104 | 19=>105 | 20=>106 | 30=>115 | 31=>116 | 32=>117 | 33=>118 | 34=>119 | 35=>87 | 40=>124 | n=>n,fun | 0=>0 | 3=>3 | 4=>4 | 5=>5 | 9=>9 | 22=>27 | 23=>27 | 25=>3 | 32=>151 | 35=>159 | 36=>160 | 41=>123 | 44=>166 | 46=>168 | 53=>175 | 57=>179 | 63=>186 | 64=>187 | n=>n,fun | n=>n⟩
theorem Tryz.sortA:Go.Proofs.SlLaysM.n5 Tryz.prog Tryz.sortA_ren:={
  mixed:=by kernel_rfl
  f5 := ⟨"slices.Sort[[]int,int]", by kernel_rfl, Tryz.func71.trans (congrArg some (by kernel_rfl))⟩
  f7 := ⟨"slices.pdqsortOrdered[int]", by kernel_rfl, Tryz.func88.trans (congrArg some (by kernel_rfl))⟩
  f8:=Tryz.func89.trans (congrArg some (by kernel_rfl))
  f10 := ⟨"slices.insertionSortOrdered[int]", by kernel_rfl, Tryz.func96.trans (congrArg some (by kernel_rfl))⟩
  f11 := ⟨"slices.heapSortOrdered[int]", by kernel_rfl, Tryz.func97.trans (congrArg some (by kernel_rfl))⟩
  f12 := ⟨"slices.breakPatternsOrdered[int]", by kernel_rfl, Tryz.func98.trans (congrArg some (by kernel_rfl))⟩
  f13 := ⟨"slices.choosePivotOrdered[int]", by kernel_rfl, Tryz.func99.trans (congrArg some (by kernel_rfl))⟩
  f14 := ⟨"slices.reverseRangeOrdered[int]", by kernel_rfl, Tryz.func100.trans (congrArg some (by kernel_rfl))⟩
  f15 := ⟨"slices.partialInsertionSortOrdered[int]", by kernel_rfl, Tryz.func101.trans (congrArg some (by kernel_rfl))⟩
  f16 := ⟨"cmp.Less[int]", by kernel_rfl, Tryz.func102.trans (congrArg some (by kernel_rfl))⟩
  f17 := ⟨"slices.partitionEqualOrdered[int]", by kernel_rfl, Tryz.func103.trans (congrArg some (by kernel_rfl))⟩
  f18 := ⟨"slices.partitionOrdered[int]", by kernel_rfl, Tryz.func104.trans (congrArg some (by kernel_rfl))⟩
  f19:=Tryz.func105.trans (congrArg some (by kernel_rfl))
  f20:=Tryz.func106.trans (congrArg some (by kernel_rfl))
  f30 := ⟨"slices.siftDownOrdered[int]", by kernel_rfl, Tryz.func115.trans (congrArg some (by kernel_rfl))⟩
  f31:=Tryz.func116.trans (congrArg some (by kernel_rfl))
  f32:=Tryz.func117.trans (congrArg some (by kernel_rfl))
  f33 := ⟨"slices.medianAdjacentOrdered[int]", by kernel_rfl, Tryz.func118.trans (congrArg some (by kernel_rfl))⟩
  f34 := ⟨"slices.medianOrdered[int]", by kernel_rfl, Tryz.func119.trans (congrArg some (by kernel_rfl))⟩
  f35 := ⟨"cmp.isNaN[int]", by kernel_rfl, Tryz.func87.trans (congrArg some (by kernel_rfl))⟩
  f40 := ⟨"slices.order2Ordered[int]", by kernel_rfl, Tryz.func124.trans (congrArg some (by kernel_rfl))⟩
  t0:=Tryz.underlying0
  a0:=Tryz.isAgg0
  z0:=Tryz.sizeOf0
  v0:=Tryz.zeroValue0
  t3:=Tryz.underlying3
  a3:=Tryz.isAgg3
  z3:=Tryz.sizeOf3
  v3:=Tryz.zeroValue3
  t4:=Tryz.underlying4
  a4:=Tryz.isAgg4
  z4:=Tryz.sizeOf4
  v4:=Tryz.zeroValue4
  t5:=Tryz.underlying5
  a5:=Tryz.isAgg5
  z5:=Tryz.sizeOf5
  v5:=Tryz.zeroValue5
  t9:=Tryz.underlying9
  a9:=Tryz.isAgg9
  z9:=Tryz.sizeOf9
  v9:=Tryz.zeroValue9
  t22:=Tryz.underlying27
  a22:=Tryz.isAgg27
  z22:=Tryz.sizeOf27
  v22:=Tryz.zeroValue27
  t23:=Tryz.underlying27
  a23:=Tryz.isAgg27
  z23:=Tryz.sizeOf27
  v23:=Tryz.zeroValue27
  t25:=Tryz.underlying3
  a25:=Tryz.isAgg3
  z25:=Tryz.sizeOf3
  v25:=Tryz.zeroValue3
  t32:=Tryz.underlying151
  a32:=Tryz.isAgg151
  z32:=Tryz.sizeOf151
  v32:=Tryz.zeroValue151
  t35:=Tryz.underlying159
  a35:=Tryz.isAgg159
  z35:=Tryz.sizeOf159
  v35:=Tryz.zeroValue159
  t36:=Tryz.underlying160
  a36:=Tryz.isAgg160
  z36:=Tryz.sizeOf160
  v36:=Tryz.zeroValue160
  t41:=Tryz.underlying123
  a41:=Tryz.isAgg123
  z41:=Tryz.sizeOf123
  v41:=Tryz.zeroValue123
  t44:=Tryz.underlying166
  a44:=Tryz.isAgg166
  z44:=Tryz.sizeOf166
  v44:=Tryz.zeroValue166
  t46:=Tryz.underlying168
  a46:=Tryz.isAgg168
  z46:=Tryz.sizeOf168
  v46:=Tryz.zeroValue168
  t53:=Tryz.underlying175
  a53:=Tryz.isAgg175
  z53:=Tryz.sizeOf175
  v53:=Tryz.zeroValue175
  t57:=Tryz.underlying179
  a57:=Tryz.isAgg179
  z57:=Tryz.sizeOf179
  v57:=Tryz.zeroValue179
  t63:=Tryz.underlying186
  a63:=Tryz.isAgg186
  z63:=Tryz.sizeOf186
  v63:=Tryz.zeroValue186
  t64:=Tryz.underlying187
  a64:=Tryz.isAgg187
  z64:=Tryz.sizeOf187
  v64:=Tryz.zeroValue187 }
end Go.Proofs
namespace Go.Nm
open Go
theorem OwnF.row {B:Nat} {e:TypeId} {w:World} {l:List Int} {g cap:Nat} {cur:Array Value} (ho:OwnF B e w (.slice (some ⟨g,0,none⟩) l.length cap) l) (hg:w.heap[g]?=some (.cells cur e (0,0)))
    (hcs:l.length<=cap) (hsz:cur.size=cap) (hb:B<=g) (hm:cap<=maxLen) (d:Array Int) (hl:d.size=l.length) (q:Nat) :
    OwnF B e (Sort.putRow (Value.int .i64) (Sort.ahead w q) g 0 d) (.slice (some ⟨g,0,none⟩) l.length cap) d.toList/\Grow B (.slice (some ⟨g,0,none⟩) l.length cap) w (Sort.putRow (Value.int .i64) (Sort.ahead w q) g 0 d):=by
  have hs1:Elt.sz Int=1:=rfl
  have h1:(Sort.putRow (Value.int .i64) (Sort.ahead w q) g 0 d).heap[g]?=some (.cells (Sort.putCells (Value.int .i64) 0 d cur) e (0,0)):=by
    show (w.heap.modify g _)[g]?=_
    rw [Array.getElem?_modify,if_pos rfl,hg]
    rfl
  have h2:∀ k,k ≠ g->(Sort.putRow (Value.int .i64) (Sort.ahead w q) g 0 d).heap[k]?=w.heap[k]?:=by
    intro k hk
    show (w.heap.modify g _)[k]?=_
    rw [Array.getElem?_modify,if_neg (fun h=>hk h.symm)]
  refine ⟨⟨by rw [enc_ints]; simp [hs1],.inr ⟨g,cap,_,by simp [hl],hb,h1,by simp [hl]; omega,hm,by simp [hs1,Sort.putCells]; omega,?_⟩⟩,⟨rfl,rfl,by simp [Sort.putRow,Sort.mapBlock,Sort.ahead],fun k _ hk=>?_,fun g' hg'=>(ho.lt g' hg').1,fun a=>by simp⟩⟩
  · rw [enc_ints,hs1]
    apply List.ext_getElem?
    intro i
    rw [List.getElem?_take,List.getElem?_map]
    by_cases hi:i<d.toList.length*1
    · rw [if_pos hi]
      have hi':i<d.size:=by simpa using hi
      have hc:i<cur.size:=by omega
      simp [Sort.putCells,hi',hc]
    · rw [if_neg hi,List.getElem?_eq_none (by simpa using hi)]
      rfl
  · refine h2 k (fun e'=>hk ?_)
    rw [e']
    rfl
end Go.Nm
namespace Go.Proofs.YtdmdhmineljlhaaGreat
open Go Go.Nm Go.Proofs
theorem sort_any {w:World} {v:Value} {l:List Int} (ho:OwnF 0 3 w v l) (hl:l.length<=1000000):Ret Tryz.prog 71 #[v] w fun u w'=>u = .tuple #[]/\OwnF 0 3 w' v (isort l)/\Keep w w'/\∀ b,b<w.heap.size->v.ownBlock ≠ some b->w'.heap[b]?=w.heap[b]?:=by
  have ho':=ho
  rcases ho.2 with ⟨rfl,hn⟩ | ⟨g,cap,cur,rfl,hb,hg,hc,hm,hcs,htake⟩
  · obtain rfl:=List.length_eq_zero_iff.1 hn
    have h:=AnyM.slices_Sort_int_none Tryz.sortA none 0 w
    refine Calls.mono h ?_
    rintro _ w' ⟨rfl,rfl⟩
    exact ⟨_,rfl,rfl,ho,Keep.refl _,fun _ _ _=>rfl⟩
  · have hs1:Elt.sz Int=1:=rfl
    rw [hs1] at hcs htake
    rw [enc_ints] at htake
    have hcell:∀ j,j<l.length->w.cell? ⟨g,0+j,none⟩=some (.int .i64 (l.getD j 0)):=by
      intro j hj
      rw [Nat.zero_add,cell_of_row w g j cur 3 (0,0) hg]
      have h1:(cur.toList.take (l.length*1))[j]?=(l.map I)[j]?:=by rw [htake]
      rw [List.getElem?_take,if_pos (by omega),List.getElem?_map,getD_some l hj 0] at h1
      simpa using h1
    have hH:Sort.Holds (Value.int .i64) w g 0 l.toArray:=by
      intro j hj
      have hj:j<l.length:=by simpa using hj
      refine ⟨?_,by simp [World.frozen?,hg]⟩
      rw [hcell j hj]
      have:l.getD j 0=l.toArray[j]!:=by
        rw [List.getD_eq_getElem?_getD,List.getElem?_eq_getElem hj]
        simp [getElem!_pos,hj]
      rw [this]
    have h:=AnyM.slices_Sort_int Tryz.sortA g 0 cap l w hH (heap_lt hg) (by omega)
    refine Calls.mono h ?_
    rintro _ w' ⟨rfl,q,os,rfl⟩
    rw [merge_isort (List.Perm.refl l)]
    have hlen:(isort l).length=l.length:=(isort_perm l).length_eq
    obtain ⟨h1,h2⟩:=OwnF.row ho hg hc (by omega) hb hm (isort l).toArray (by simp [hlen]) q
    have hlt:g<(Sort.putRow (Value.int .i64) (Sort.ahead w q) g 0 (isort l).toArray).heap.size:=Nat.lt_of_lt_of_le (heap_lt hg) h2.size
    refine ⟨_,rfl,rfl,?_,⟨h2.os,h2.out,by rw [Sort.size_grow]; exact Nat.le_trans h2.size (Nat.le_add_right _ _)⟩,fun b hb' hne=>?_⟩
    · rcases h1 with ⟨h3,h4 | ⟨g',cap',cur',h5,h6,h7,h8⟩⟩
      · exact absurd h4.1 (by simp)
      · simp only [Value.slice.injEq,Option.some.injEq,Addr.mk.injEq,and_true] at h5
        obtain ⟨rfl,_,rfl⟩:=h5
        refine ⟨h3,.inr ⟨g,cap,cur',by simp [hlen],h6,by rw [Sort.heap_grow_old _ _ hlt]; exact h7,h8⟩⟩
    · rw [Sort.heap_grow_old _ _ (Nat.lt_of_lt_of_le hb' h2.size)]
      exact h2.blk b hb' hne
end Go.Proofs.YtdmdhmineljlhaaGreat
namespace Go.Nm
open Go
theorem St.sorted {w0 w w':World} {L L' R:List Chunk} {k:Nat} {v:Value} {l l':List Int} {e:TypeId} (H:St w0 w L R) (hk:L[k]?=some (cOwn (α:=Int) e v l)) (ho:OwnF 0 e w' v l') (kp:Keep w w') (hs:∀ b,b<w.heap.size->v.ownBlock ≠ some b->w'.heap[b]?=w.heap[b]?)
    (hl:L.set k (cOwn (α:=Int) e v l')=L'):St w0 w' L' R :=
  H.set (c':=cOwn (α:=Int) e v l') hk rfl kp hs (fun b hb=>.inl hb) ho hl
end Go.Nm
namespace Go.Nm
open Go
theorem sl_lohi {α:Type} [Elt α] {P:Program} {t e:TypeId} (hu:P.underlying t=some (.slice e)) (hs:(P.info? e).map (·.size)=some (Elt.sz α)) {C:Cells} {v:Value} {l:List α} (h:Sl C v l) {i j:Int} (h0:0<=i) (h1:i<=j) (h2:j<=l.length) :
    ∃ u,(∀ w,(Instr.sliceAt t v (some (.int .i64 i)) (some (.int .i64 j)) none).run P w = .ok u w)/\Sl C u ((l.take j.toNat).drop i.toNat):=by
  obtain ⟨a,c,hv,hc,hm,hh⟩:=h.ex
  have hlen:((l.take j.toNat).drop i.toNat).length=j.toNat-i.toNat:=by simp; omega
  refine ⟨.slice (if c=i.toNat then a else a.map (·.add (i.toNat*Elt.sz α))) (j.toNat-i.toNat) (c-i.toNat),fun w=>?_,⟨_,c-i.toNat,by rw [hlen],by omega,by omega,fun k x hx=>?_⟩⟩
  · subst hv
    have hjc:j<=(c:Int):=by omega
    simp [Instr.sliceAt,Instr.slice,Instr.sliceBounds,Instr.sliceBound,asIntOf,run_underlying hu,run_sizeOf hs,h0,hjc]
    rw [if_pos (by omega),if_pos (by omega)]
  · rw [List.getElem?_drop,List.getElem?_take] at hx
    split at hx
    · have hlt:=(List.getElem?_eq_some_iff.1 hx).1
      obtain ⟨b,o,cs,ha,hr,hy⟩:=hh _ x hx
      refine ⟨b,o+i.toNat*Elt.sz α,cs,?_,hr,fun j y hj=>?_⟩
      · rw [if_neg (by omega),ha]
        simp [add_lit]
      · have:=hy j y hj
        rwa [show o+(i.toNat+k)*Elt.sz α+j=o+i.toNat*Elt.sz α+k*Elt.sz α+j from by rw [Nat.add_mul]; omega] at this
    · cases hx
end Go.Nm
namespace Go.Nm
open Go
section
set_option linter.unusedSectionVars false
variable {α β:Type} [Flat α] [Flat β] [Inhabited β] {iv:β->Value} {e1 e2:TypeId} {v:Value} {us:List β} {T:List (List α)} {w0 w:World} {L L' R:List Chunk}
variable {P:Program} {all rest:List Oper} {Q:Post} {σ:Env} {d:Nat} {ty:TypeId} {pos:String} {af:Array Edge}
end
end Go.Nm
namespace Go.Nm
open Go
universe u
abbrev Pq (b:Nat):Value:=.pointer (some ⟨b,0,none⟩)
abbrev Oq (b o:Nat):Value:=.pointer (some ⟨b,o,none⟩)
class NthR {α:Type u} (l:List α) (i:Nat) (x:outParam α):Prop where
  is:l[i]?=some x
instance {α:Type u} {l:List α} {x:α}:NthR (x :: l) 0 x:=⟨rfl⟩
instance {α:Type u} {l:List α} {x y:α} {i:Nat} [h:NthR l i x]:NthR (y :: l) (i+1) x:=⟨h.is⟩
instance (priority:=high) {α:Type u} {l:List α} {x a b c d:α} {i:Nat} [h:NthR l i x]:NthR (a :: b :: c :: d :: l) (i+4) x:=⟨h.is⟩
class PickR {α:Type u} (l:List α) (i:List Nat) (o:outParam (List α)):Prop where
  is:i.mapM (fun j=>l[j]?)=some o
instance {α:Type u} {l:List α}:PickR l [] []:=⟨rfl⟩
instance {α:Type u} {l o:List α} {i:Nat} {is:List Nat} {x:α} [h:NthR l i x] [k:PickR l is o]:PickR l (i :: is) (x :: o):=⟨by rw [List.mapM_cons,h.is,k.is]; rfl⟩
class AppR {α:Type u} (a b:List α) (o:outParam (List α)):Prop where
  is:a++b=o
instance {α:Type u} {b:List α}:AppR [] b b:=⟨rfl⟩
instance {α:Type u} {x:α} {a b o:List α} [h:AppR a b o]:AppR (x :: a) b (x :: o):=⟨by rw [List.cons_append,h.is]⟩
class LenR {α:Type u} (l:List α) (n:Nat):Prop where
  is:l.length=n
instance {α:Type u}:LenR ([]:List α) 0:=⟨rfl⟩
instance {α:Type u} {l:List α} {x:α} {n:Nat} [h:LenR l n]:LenR (x :: l) (n+1):=⟨by rw [List.length_cons,h.is]⟩
class EndR {α:Type u} (n:Nat) (l:List α) (a b:outParam (List α)):Prop where
  is:a++b=l
instance (priority:=low) {α:Type u} {x:α} {n:Nat} {l a b:List α} [h:EndR n l a b]:EndR n (x :: l) (x :: a) b:=⟨by rw [List.cons_append,h.is]⟩
instance {α:Type u} {n:Nat} {l:List α} [LenR l n]:EndR n l [] l:=⟨rfl⟩
class SetR {α:Type u} (l:List α) (k:Nat) (x:α) (o:outParam (List α)):Prop where
  is:l.set k x=o
instance {α:Type u} {l:List α} {x y:α}:SetR (y :: l) 0 x (x :: l):=⟨rfl⟩
instance {α:Type u} {l o:List α} {x y:α} {k:Nat} [h:SetR l k x o]:SetR (y :: l) (k+1) x (y :: o):=⟨by rw [List.set_cons_succ,h.is]⟩
class NfR {α:Type u} (l:List α) (o:outParam (List α)):Prop where
  is:l=o
instance {α:Type u}:NfR ([]:List α) []:=⟨rfl⟩
instance {α:Type u} {x:α} {l o:List α} [h:NfR l o]:NfR (x :: l) (x :: o):=⟨by rw [← h.is]⟩
instance {α:Type u} {l o p:List α} {k:Nat} {x:α} [h:NfR l o] [s:SetR o k x p]:NfR (l.set k x) p:=⟨by rw [h.is,s.is]⟩
instance {α:Type u} {a b a' b' o:List α} [h:NfR a a'] [h':NfR b b'] [s:AppR a' b' o]:NfR (a++b) o:=⟨by rw [h.is,h'.is,s.is]⟩
instance {α:Type u} {x:α} {l o:List α} [h:NfR l o]:NfR ((x :: l).eraseIdx 0) o:=⟨by rw [← h.is]; rfl⟩
instance {α:Type u} {x:α} {l o:List α} {k:Nat} [h:NfR (l.eraseIdx k) o]:NfR ((x :: l).eraseIdx (k+1)) (x :: o):=⟨by rw [List.eraseIdx_cons_succ,h.is]⟩
class OverR {α:Type u} (cs:List α) (off:Nat) (vs:List α) (o:outParam (List α)):Prop where
  is:cs.take off++vs++cs.drop (off+vs.length)=o
instance {α:Type u} {cs:List α}:OverR cs 0 [] cs:=⟨by simp⟩
instance {α:Type u} {c v:α} {cs vs o:List α} [h:OverR cs 0 vs o]:OverR (c :: cs) 0 (v :: vs) (v :: o):=⟨by
  have:=h.is
  simp only [List.take_zero,List.nil_append,Nat.zero_add] at this ⊢
  simp [this]⟩
instance {α:Type u} {c:α} {cs vs o:List α} {n:Nat} [h:OverR cs n vs o]:OverR (c :: cs) (n+1) vs (c :: o):=⟨by
  have:=h.is
  rw [List.take_succ_cons,show n+1+vs.length=n+vs.length+1 by omega,List.drop_succ_cons,List.cons_append,List.cons_append,this]⟩
section
variable {w0 w w':World} {L L' L1 R A T:List Chunk}
theorem St.os {α:Type} [Flat α] {e:TypeId} {v:Value} {l:List α} (h:St w0 w L R) (k:Nat) [n:NthR L k (cOwn e v l)]:Sl (rowC v (l.flatMap Flat.enc)) v l:=ownSl (h.get n.is)
theorem St.ol {α:Type} [Flat α] {e:TypeId} {v:Value} {l:List α} (h:St w0 w L R) (k:Nat) [n:NthR L k (cOwn e v l)]:(rowC v (l.flatMap Flat.enc)).Le w.cell?:=ownLe w (h.get n.is)
theorem rdo {α:Type} [Flat α] {e:TypeId} {v:Value} {l:List α} (k:Nat) [n:NthR L k (cOwn e v l)]:Reads (L++R) (rowC v (l.flatMap Flat.enc)):=Reads.of n.is ownLe
theorem St.bl {b:Nat} {cs:List Value} {t:TypeId} (h:St w0 w L R) (k:Nat) [n:NthR L k (cBlk b cs t)]:w.heap[b]?=some (.cells cs.toArray t (0,0)):=h.blk n.is
theorem St.nf (h:St w0 w L R) [n:NfR L L']:St w0 w L' R:=by
  have:=n.is
  subst this
  exact h
theorem St.pk (h:St w0 w L R) (i:List Nat) [n:NfR L L1] [p:PickR L1 i L'] (hn:i.Nodup:=by decide):St w0 w L' R:=h.nf.pick i hn p.is
theorem St.bk (h:St w0 w L R) (h':St w w' A (T++R)) [a:NfR (A++T) L']:St w0 w' L' R:=h.back h' a.is
theorem St.gt (h:St w0 w L R) (k:Nat) [n:NfR L L1] [s:EndR k L1 A T]:St w w A (T++R):=h.nf.give s.is
end
section
variable {P:Program} {all rest:List Oper} {Q:Post} {σ:Env} {w0 w:World} {L L' R:List Chunk} {ty:TypeId} {pos:String} {af:Array Edge}
theorem zM {d:Nat} {x:Operand} (v:Value) (h:ev σ x=v) (k:SL P all Q rest (upd σ d v) w):SL P all Q (⟨some d,.move x,ty,pos,af,none⟩ :: rest) σ w:=s_val (x_mv h) k
theorem zA {d:Nat} {x:Operand} (v:Value) (h:ev σ x=v) (k:SL P all Q rest (upd σ d v) w):SL P all Q (⟨some d,.assign x,ty,pos,af,none⟩ :: rest) σ w:=s_val (x_as h) k
theorem zC {d:Nat} {op:BinOp} {t yt:TypeId} {x y:Operand} (a b:Int) (r:Bool) (hx:ev σ x = .int .i64 a) (hy:ev σ y = .int .i64 b) (hr:cmpV op a b=some r) (k:SL P all Q rest (upd σ d (.bool r)) w):SL P all Q (⟨some d,.binOp op t x y yt,ty,pos,af,none⟩ :: rest) σ w:=s_val (x_cmp hx hy hr) k
theorem zR {d:Nat} {op:BinOp} {t yt:TypeId} {x y:Operand} (a b r:Int) (hx:ev σ x = .int .i64 a) (hy:ev σ y = .int .i64 b) (hr:ariV op a b=some r) (h:-9223372036854775808<=r/\r<=9223372036854775807) (k:SL P all Q rest (upd σ d (.int .i64 r)) w):SL P all Q (⟨some d,.binOp op t x y yt,ty,pos,af,none⟩ :: rest) σ w:=s_val (x_ari hx hy hr h) k
theorem t_sw {dst:Option Nat} {t:TypeId} {x y:Operand} {b n:Nat} {cs cs':List Value} {et:TypeId} (k off:Nat) (vs:List Value) (v:Value) (H:St w0 w L R) [hk:NthR L k (cBlk b cs et)] [hc:OverR cs off vs cs'] [hL:SetR L k (cBlk b cs' et) L'] (hx:ev σ x = .pointer (some ⟨b,off,none⟩)) (hy:ev σ y=v)
    (hs:(P.info? t).map (·.size)=some n) (hv:v.cells=vs.toArray) (hn:vs.length=n) (hl:Nat.ble (off+n) cs.length=true) (h1:vs.all (·.oneCell')=true)
    (kk:∀ w',St w0 w' L' R->SL P all Q rest (updo σ dst undef) w'):SL P all Q (⟨dst,.store t x y,ty,pos,af,none⟩ :: rest) σ w :=
  t_st H hk.is hx hy hs hv hn hl h1 (by rw [← hn]; exact hc.is) hL.is kk
end
/-- What a test says, as a proposition. -/
class DcB (b c:Bool) (p:outParam Prop):Prop where
  to:b=c->p
instance (priority:=low) {b c:Bool}:DcB b c (b=c):=⟨fun h=>h⟩
instance {p:Prop} [Decidable p]:DcB (decide p) true p:=⟨of_decide_eq_true⟩
instance {p:Prop} [Decidable p]:DcB (decide p) false (¬p):=⟨of_decide_eq_false⟩
instance {α:Type _} [BEq α] [LawfulBEq α] {a b:α}:DcB (a==b) true (a=b):=⟨beq_iff_eq.1⟩
instance {α:Type _} [BEq α] [LawfulBEq α] {a b:α}:DcB (a==b) false (a ≠ b):=⟨beq_eq_false_iff_ne.1⟩
instance {α:Type _} [BEq α] [LawfulBEq α] {a b:α}:DcB (a != b) true (a ≠ b):=⟨bne_iff_ne.1⟩
instance {α:Type _} [BEq α] [LawfulBEq α] {a b:α}:DcB (a != b) false (a=b):=⟨bne_eq_false_iff_eq.1⟩
theorem dI {b c:Bool} {p:Prop} [h:DcB b c p] (x:b=c):p:=h.to x
section
variable {P:Program} {all rest:List Oper} {Q:Post} {σ:Env} {w0 w:World} {L L' R:List Chunk} {ty:TypeId} {pos:String} {af:Array Edge}
theorem t_bx {d:Nat} {e:TypeId} {x:Operand} (cs:List Value) (H:St w0 w L R) (hx:ev σ x = .agg cs.toArray)
    (k:∀ b w',St w0 w' (cBlk b cs e :: L) R->SL P all Q rest (upd σ d (.pointer (some ⟨b,0,none⟩))) w'):SL P all Q (⟨some d,.box e x,ty,pos,af,none⟩ :: rest) σ w:=t_box H hx rfl k
theorem t_b1 {d:Nat} {e:TypeId} {x:Operand} (v:Value) (H:St w0 w L R) (hx:ev σ x=v) (hv:v.cells=[v].toArray)
    (k:∀ b w',St w0 w' (cBlk b [v] e :: L) R->SL P all Q rest (upd σ d (.pointer (some ⟨b,0,none⟩))) w'):SL P all Q (⟨some d,.box e x,ty,pos,af,none⟩ :: rest) σ w:=t_box H hx hv k
end
end Go.Nm
namespace Go.Nm
open Go
universe u
/-- What a test says, as a proposition. -/
class DcQ (b c:Bool) (p:outParam Prop):Prop where
  to:b=c->p
instance (priority:=low) {b c:Bool}:DcQ b c (b=c):=⟨fun h=>h⟩
instance {p:Prop} [Decidable p]:DcQ (decide p) true p:=⟨of_decide_eq_true⟩
instance {p:Prop} [Decidable p]:DcQ (decide p) false (¬p):=⟨of_decide_eq_false⟩
instance {α:Type _} [BEq α] [LawfulBEq α] {a b:α}:DcQ (a==b) true (a=b):=⟨beq_iff_eq.1⟩
instance {α:Type _} [BEq α] [LawfulBEq α] {a b:α}:DcQ (a==b) false (a ≠ b):=⟨beq_eq_false_iff_ne.1⟩
instance {α:Type _} [BEq α] [LawfulBEq α] {a b:α}:DcQ (a != b) true (a ≠ b):=⟨bne_iff_ne.1⟩
instance {α:Type _} [BEq α] [LawfulBEq α] {a b:α}:DcQ (a != b) false (a=b):=⟨bne_eq_false_iff_eq.1⟩
/-- What a guard says, as a proposition. -/
class DeQ (b:Bool) (p:outParam Prop):Prop where
  iff:b=true↔p
instance (priority:=low) {b:Bool}:DeQ b (b=true):=⟨Iff.rfl⟩
instance {p:Prop} [Decidable p]:DeQ (decide p) p:=⟨decide_eq_true_iff⟩
instance {a b:Bool} {p q:Prop} [ha:DeQ a p] [hb:DeQ b q]:DeQ (a&&b) (p/\q):=⟨by rw [Bool.and_eq_true,ha.iff,hb.iff]⟩
/-! ### Facts on types, found by their numbers -/
class FdC (P:Program) (s k:Nat) (off ft:outParam Nat):Prop where
  h:(P.underlying s).bind (fun d=>match d with | .struct fs=>(fs[k]?).map (fun f=>(f.offset,f.type)) | _=>none)=some (off,ft)
class ScC (P:Program) (t:Nat):Prop where
  h:isSc (P.underlying t)=true
class AgC (P:Program) (t:Nat):Prop where
  h:isAg (P.underlying t)=true
class SzC (P:Program) (t:Nat) (n:outParam Nat):Prop where
  h:(P.info? t).map (·.size)=some n
class TlC (P:Program) (t:Nat) (e sz by':outParam Nat) (z:outParam Value):Prop where
  h:SlT P t e sz by' z
class AlC (P:Program) (t:Nat) (z:outParam Value):Prop where
  h:(P.info? t).map (·.zero)=some (some z)
class BdC (P:Program) (t:Nat) (pl:outParam (List (Nat × Nat))):Prop where
  h:∃ fs:Array Field,P.underlying t=some (.struct fs)/\fs.toList.mapM (fun f=>(P.info? f.type).map fun i=>(f.offset,i.size))=some pl
class CfC (P:Program) (f:FuncId):Prop where
  h:CF P f
class AddC (a b:Nat) (c:outParam Nat):Prop where
  h:a+b=c
instance (priority:=low) {a b:Nat}:AddC a b (a+b):=⟨rfl⟩
instance {a:Nat}:AddC a 0 a:=⟨rfl⟩
instance {b:Nat}:AddC 0 b b:=⟨Nat.zero_add b⟩
/-- An index as a number. -/
class IxC (i:Int) (n:outParam Nat):Prop where
  h:i.toNat=n
instance (priority:=low) {i:Int}:IxC i i.toNat:=⟨rfl⟩
instance {n:Nat}:IxC (n:Int) n:=⟨rfl⟩
instance:IxC 0 0:=⟨rfl⟩
instance:IxC 1 1:=⟨rfl⟩
instance:IxC 2 2:=⟨rfl⟩
instance:IxC 3 3:=⟨rfl⟩
instance:IxC 4 4:=⟨rfl⟩
instance:IxC 5 5:=⟨rfl⟩
instance:IxC 6 6:=⟨rfl⟩
instance:IxC 7 7:=⟨rfl⟩
instance:IxC 8 8:=⟨rfl⟩
instance:IxC 9 9:=⟨rfl⟩
/-- What is read beyond a list's end. -/
class DfC (α:Type) (d:outParam α):Prop where
  h:True
instance (priority:=low) {α:Type} [Inhabited α]:DfC α default:=⟨trivial⟩
instance:DfC Int 0:=⟨trivial⟩
instance:DfC Bool false:=⟨trivial⟩
/-- The cells of a thing, written out. -/
class EncL {α:Type} [Flat α] (x:α) (ds:outParam (List Value)):Prop where
  h:Flat.enc x=ds
/-- Some of a list's entries. -/
class SubR {α:Type u} (l:List α) (k n:Nat) (o:outParam (List α)):Prop where
  h:(l.drop k).take n=o
instance {α:Type u} {l:List α}:SubR l 0 0 []:=⟨rfl⟩
instance {α:Type u} {l o:List α} {x:α} {n:Nat} [h:SubR l 0 n o]:SubR (x :: l) 0 (n+1) (x :: o):=⟨by have:=h.h; simp at this; simp [this]⟩
instance {α:Type u} {l o:List α} {x:α} {k n:Nat} [h:SubR l k n o]:SubR (x :: l) (k+1) n o:=⟨by rw [List.drop_succ_cons]; exact h.h⟩
/-- A block among the parts. -/
class BlkR (L:List Chunk) (b:Nat) (cs:outParam (List Value)) (t:outParam TypeId):Prop where
  h:∃ k:Nat,L[k]?=some (cBlk b cs t)
instance {c:Chunk} {L:List Chunk} {b:Nat} {cs:List Value} {t:TypeId} [h:BlkR L b cs t]:BlkR (c :: L) b cs t:=⟨by obtain ⟨k,h⟩:=h.h; exact ⟨k+1,by simpa using h⟩⟩
instance {L:List Chunk} {b:Nat} {cs:List Value} {t:TypeId}:BlkR (cBlk b cs t :: L) b cs t:=⟨⟨0,rfl⟩⟩
/-- A block among the parts that is changed. -/
class BlkW (L:List Chunk) (b:Nat) (cs:List Value) (cs':List Value) (t:TypeId) (o:outParam (List Chunk)):Prop where
  h:∃ k:Nat,L[k]?=some (cBlk b cs t)/\L.set k (cBlk b cs' t)=o
instance {c:Chunk} {L o:List Chunk} {b:Nat} {cs cs':List Value} {t:TypeId} [h:BlkW L b cs cs' t o]:BlkW (c :: L) b cs cs' t (c :: o):=⟨by obtain ⟨k,h1,h2⟩:=h.h; exact ⟨k+1,by simpa using h1,by rw [List.set_cons_succ,h2]⟩⟩
instance {L:List Chunk} {b:Nat} {cs cs':List Value} {t:TypeId}:BlkW (cBlk b cs t :: L) b cs cs' t (cBlk b cs' t :: L):=⟨⟨0,rfl,rfl⟩⟩
/-- A field of an element. -/
class FldC (α:Type) [Elt α] (k:Nat) (e:outParam α) (f:outParam (α->Value)):Prop where
  h:∀ {C:Cells} {v:Value} {l:List α} {n:Nat},Sl C v l->n<l.length->At C (fat (vat v (Elt.sz α) n) k) [f (l.getD n e)]
section
variable {w0 w:World} {L R:List Chunk}
theorem St.bq {b:Nat} {cs:List Value} {t:TypeId} (H:St w0 w L R) [h:BlkR L b cs t]:w.heap[b]?=some (.cells cs.toArray t (0,0)):=by
  obtain ⟨k,hk⟩:=h.h
  exact H.get hk
end
section
variable {P:Program} {w:World} {σ:Env} {d:Nat} {ty:TypeId} {pos:String} {af:Array Edge} {g:Option (Nat × Bool)}
theorem pos_succ {m:Nat} (h:Nat.blt 0 m=true):∃ n,m=n+1:=by
  cases m with
  | zero=>cases h
  | succ n=>exact ⟨n,rfl⟩
theorem y_fab {s k off ft m b o c:Nat} {x:Operand} (hx:ev σ x = .pointer (some ⟨b,o,none⟩)) [f:FdC P s k off ft] [z:SzC P ft m] (a:AddC o off c) (hm:Nat.blt 0 m=true) :
    (execOp (ev σ) ⟨some d,.fieldAddr s x k,ty,pos,af,g⟩).run P w = .ok (.value (.pointer (some ⟨b,c,none⟩))) w:=by
  obtain ⟨n,rfl⟩:=pos_succ hm
  have:=fa_blk (w:=w) (b:=b) (o:=o) f.h z.h
  rw [a.h] at this
  exact x_fa hx this
theorem y_fap {s k off ft m:Nat} {x:Operand} {p:Value} (hx:ev σ x=p) [f:FdC P s k off ft] [z:SzC P ft m] (hm:Nat.blt 0 m=true) (hp:∃ b o,p = .pointer (some ⟨b,o,none⟩)) :
    (execOp (ev σ) ⟨some d,.fieldAddr s x k,ty,pos,af,g⟩).run P w = .ok (.value (fat p off)) w:=by
  obtain ⟨n,rfl⟩:=pos_succ hm
  exact x_fa hx (fa_pl f.h z.h hp)
theorem y_fav {α:Type} {_:Elt α} {s k off ft m sz n:Nat} {x:Operand} {C:Cells} {v:Value} {l:List α} (hx:ev σ x=vat v sz n) [f:FdC P s k off ft] [z:SzC P ft m] (hm:Nat.blt 0 m=true) (hs:Sl C v l) (hz:Elt.sz α=sz) (h1:n<l.length) :
    (execOp (ev σ) ⟨some d,.fieldAddr s x k,ty,pos,af,g⟩).run P w = .ok (.value (fat (vat v sz n) off)) w:=by
  subst hz
  have:=Sl.pl hs (i:=(n:Int)) (by omega) (by omega)
  exact y_fap hx hm (by simpa using this)
theorem y_faw {α:Type} {_:Elt α} {s k off ft m sz n a c:Nat} {x:Operand} {C:Cells} {v:Value} {l:List α} (hx:ev σ x=fat (vat v sz n) a) [f:FdC P s k off ft] [z:SzC P ft m] (ad:AddC a off c) (hm:Nat.blt 0 m=true) (hs:Sl C v l) (hz:Elt.sz α=sz) (h1:n<l.length) :
    (execOp (ev σ) ⟨some d,.fieldAddr s x k,ty,pos,af,g⟩).run P w = .ok (.value (fat (vat v sz n) c)) w:=by
  subst hz
  obtain ⟨b,o,hp⟩:=Sl.pl hs (i:=(n:Int)) (by omega) (by omega)
  have e:vat v (Elt.sz α) n = .pointer (some ⟨b,o,none⟩):=by simpa using hp
  have:=y_fap (P:=P) (w:=w) (d:=d) (ty:=ty) (pos:=pos) (af:=af) (g:=g) hx (f:=f) (z:=z) hm ⟨b,o+a,by rw [e]; simp [fat,add_lit]⟩
  rw [this,e,← ad.h]
  simp [fat,add_lit,Nat.add_assoc]
theorem y_ldb {t:TypeId} {b off:Nat} {cs:List Value} {et:TypeId} {fr:Nat × Nat} {x:Operand} {v:Value} (hx:ev σ x = .pointer (some ⟨b,off,none⟩)) [s:ScC P t] (h:w.heap[b]?=some (.cells cs.toArray et fr)) (hv:(cs.drop off).take 1=[v]) :
    (execOp (ev σ) ⟨some d,.load t x,ty,pos,af,g⟩).run P w = .ok (.value v) w:=x_ld hx (ldb_sc s.h h hv)
theorem y_lda {t:TypeId} {b off n:Nat} {cs ds:List Value} {et:TypeId} {fr:Nat × Nat} {x:Operand} (hx:ev σ x = .pointer (some ⟨b,off,none⟩)) [s:AgC P t] [z:SzC P t n] (h:w.heap[b]?=some (.cells cs.toArray et fr)) (q:SubR cs off n ds) (hn:ds.length=n) :
    (execOp (ev σ) ⟨some d,.load t x,ty,pos,af,g⟩).run P w = .ok (.value (.agg ds.toArray)) w:=x_ld hx (ldb_ag s.h z.h h q.h hn)
theorem At.flat {α:Type} [Flat α] {C:Cells} {v:Value} {l:List α} (hs:Sl C v l) {n:Nat} (h1:n<l.length) (e:α):At C (vat v (Elt.sz α) n) (Flat.enc (l.getD n e)):=by
  obtain ⟨cs,ha,hr⟩:=hs.atI (i:=(n:Int)) (by omega) (by omega) e
  rw [Flat.rep_iff] at hr
  subst hr
  simpa using ha
theorem y_lds {α:Type} {_:Flat α} {t sz n:Nat} {x:Operand} {C:Cells} {v u:Value} {l:List α} {e:α} (hx:ev σ x=vat v sz n) [s:ScC P t] (hs:Sl C v l) {ds:List Value} (de:DfC α e) (en:EncL (l.getD n e) ds) (hz:Elt.sz α=sz) (hu:ds=[u]) (hle:C.Le w.cell?) (h1:n<l.length) :
    (execOp (ev σ) ⟨some d,.load t x,ty,pos,af,g⟩).run P w = .ok (.value u) w:=by
  subst hz
  have:=(At.flat hs h1 e).mono hle
  rw [en.h,hu] at this
  exact x_ld hx (ld_sc s.h this)
theorem y_ldf {α:Type} {_:Flat α} {t sz n k:Nat} {x:Operand} {C:Cells} {v u:Value} {l:List α} {e:α} (hx:ev σ x=fat (vat v sz n) k) [s:ScC P t] (hs:Sl C v l) {ds:List Value} (de:DfC α e) (en:EncL (l.getD n e) ds) (hz:Elt.sz α=sz) (hu:(ds.drop k).take 1=[u]) (hle:C.Le w.cell?) (h1:n<l.length) :
    (execOp (ev σ) ⟨some d,.load t x,ty,pos,af,g⟩).run P w = .ok (.value u) w:=by
  subst hz
  have:=((At.flat hs h1 e).mono hle).fld k 1
  rw [en.h,hu] at this
  exact x_ld hx (ld_sc s.h this)
theorem y_ldA {α:Type} {_:Flat α} {t sz n:Nat} {x:Operand} {C:Cells} {v:Value} {l:List α} {e:α} (hx:ev σ x=vat v sz n) [s:AgC P t] [z:SzC P t sz] (hs:Sl C v l) {ds:List Value} (de:DfC α e) (en:EncL (l.getD n e) ds) (hz:Elt.sz α=sz) (hle:C.Le w.cell?) (h1:n<l.length) :
    (execOp (ev σ) ⟨some d,.load t x,ty,pos,af,g⟩).run P w = .ok (.value (.agg ds.toArray)) w:=by
  subst hz
  have:=(At.flat hs h1 e).mono hle
  rw [en.h] at this
  refine x_ld hx (ld_ag s.h ?_ this)
  rw [z.h,← en.h,Flat.enc_len]
theorem y_ldg {α:Type} {_:Elt α} {t sz n k:Nat} {x:Operand} {C:Cells} {v:Value} {l:List α} {e:α} {f:α->Value} (hx:ev σ x=fat (vat v sz n) k) [s:ScC P t] (hs:Sl C v l) (fc:FldC α k e f) (hz:Elt.sz α=sz) (hle:C.Le w.cell?) (h1:n<l.length) :
    (execOp (ev σ) ⟨some d,.load t x,ty,pos,af,g⟩).run P w = .ok (.value (f (l.getD n e))) w:=by
  subst hz
  exact x_ld hx (ld_sc s.h ((fc.h hs h1).mono hle))
theorem y_ldp {t:TypeId} {x:Operand} {p v:Value} (hx:ev σ x=p) [s:ScC P t] (ha:At w.cell? p [v]) :
    (execOp (ev σ) ⟨some d,.load t x,ty,pos,af,g⟩).run P w = .ok (.value v) w:=x_ld hx (ld_sc s.h ha)
theorem y_len {α:Type} {_:Elt α} {t e sz by':Nat} {z:Value} {x:Operand} {C:Cells} {v:Value} {l:List α} [T:TlC P t e sz by' z] (h:ev σ x=v) (hs:Sl C v l) :
    (execOp (ev σ) ⟨some d,.call ⟨.builtin .len,#[x],#[t]⟩,ty,pos,af,g⟩).run P w = .ok (.value (.int .i64 l.length)) w:=x_lenS T.h.und h hs
theorem y_ix {α:Type} {_:Elt α} {t e sz by' n:Nat} {z:Value} {x y:Operand} {C:Cells} {v:Value} {l:List α} {kd:IntKind} {i:Int} [T:TlC P t e sz by' z] (hx:ev σ x=v) (hy:ev σ y = .int kd i) (ix:IxC i n) (hs:Sl C v l) (hz:Elt.sz α=sz) (h0:0<=i) (h1:i<l.length) :
    (execOp (ev σ) ⟨some d,.indexAddr t x y,ty,pos,af,g⟩).run P w = .ok (.value (vat v sz n)) w:=by
  subst hz
  have:=Sl.ix (w:=w) (kd:=kd) T.h.und T.h.size hs h0 h1
  rw [ix.h] at this
  exact x_ix hx hy this
end
section
variable {P:Program} {all rest:List Oper} {Q:Post} {σ:Env} {w0 w:World} {L L' R:List Chunk} {ty:TypeId} {pos:String} {af:Array Edge}
end
instance {x:Int}:EncL x [I x]:=⟨rfl⟩
instance {x:Bool}:EncL x [B x]:=⟨rfl⟩
/-- A slice that reads as a list. -/
theorem jS {A:Prop} (h:A:=by first | assumption | exact H.os 0 | exact H.os 1 | exact H.os 2 | exact H.os 3 | exact H.os 4 | exact H.os 5 | exact H.os 6 | exact H.os 7 | exact H.os 8 | exact H.os 9 | exact (by assumption:_=true->Sl _ _ _) hg):A:=h
/-- Cells that can be read. -/
theorem jL {A:Prop} (h:A:=by first | exact Reads.at (by assumption) H | exact H.ol 0 | exact H.ol 1 | exact H.ol 2 | exact H.ol 3 | exact H.ol 4 | exact H.ol 5 | exact H.ol 6 | exact H.ol 7 | exact H.ol 8 | exact H.ol 9):A:=h
/-- A bound. -/
theorem jO {A:Prop} (h:A:=by first | omega | (have hx_:=hg; simp at hx_; omega) | (have hx_:=hg; simp at hx_; simp only [hg,Bool.true_eq_false,Bool.false_eq_true,reduceCtorEq,false_or,true_or,Bool.not_true,Bool.not_false] at *; omega) | (simp only [hg,Bool.true_eq_false,Bool.false_eq_true,reduceCtorEq,false_or,true_or,Bool.not_true,Bool.not_false] at *; omega)):A:=h
/-- A guard. -/
theorem jB {A:Prop} (h:A:=by first | exact hb | (rw [hb]; rfl) | simp_all):A:=h
/-- A value under a guard, or none. -/
theorem jG {A:Prop} (h:A:=by first | exact gd_of hg _ | ((conv=>lhs; whnf) <;> rfl)):A:=h
/-- A value. -/
theorem jE {A:Prop} (h:A:=by ((conv=>lhs; whnf) <;> rfl)):A:=h
/-- One operation. -/
theorem jU {A:Prop} (h:A:=by 
    first
      | (apply x_mv; exact jE)
      | (apply x_as; exact jE)
      | (apply y_fab; rfl; exact inferInstance; rfl)
      | (apply y_ldb; rfl; exact H.bq; rfl)
      | (apply x_cmp; rfl; rfl; rfl)
      | (apply y_len; exact jE; exact jS)
      | (apply y_ix; exact jE; rfl; exact inferInstance; exact jS; rfl; exact jO; exact jO)
      | (apply y_fav; rfl; rfl; exact jS; rfl; exact jO)
      | (apply y_faw; rfl; exact inferInstance; rfl; exact jS; rfl; exact jO)
      | (apply y_lds; rfl; exact jS; exact inferInstance; exact inferInstance; rfl; rfl; exact jL; exact jO)
      | (apply y_ldf; rfl; exact jS; exact inferInstance; exact inferInstance; rfl; rfl; exact jL; exact jO)
      | (apply y_ldg; rfl; exact jS; exact inferInstance; rfl; exact jL; exact jO)
      | (apply y_ldA; rfl; exact jS; exact inferInstance; exact inferInstance; rfl; exact jL; exact jO)
      | (apply y_ldp; rfl; exact At.mono (by assumption) jL)
      | (apply x_ari; rfl; rfl; rfl; exact jO)
      | (apply x_ext; rfl; rfl)
      | (apply x_nc; rfl)
      | (apply y_lda; rfl; exact H.bq; exact inferInstance; rfl)
      | (apply y_ldb; rfl; exact (by assumption:Has _ (cBlk _ _ _)).blk H; rfl)
      | (apply x_not; rfl)
      | (apply x_max; rfl; rfl)
      | (apply x_min; rfl; rfl)
      | (apply x_quo; rfl; rfl; exact jO)
      | (apply x_por; rfl; rfl; exact fun hb=>gd_of jB _)
      | (apply x_pand; rfl; exact fun hb=>gd_of jB _; rfl)):A:=h
/-- One operation under a guard. -/
theorem jV {A:Prop} (h:A:=by 
    first
      | (apply x_mv; exact jG)
      | (apply x_as; exact jG)
      | (apply y_fab; exact jG; exact inferInstance; rfl)
      | (apply y_ldb; exact jG; exact H.bq; rfl)
      | (apply x_cmp; exact jG; exact jG; rfl)
      | (apply y_len; exact jG; exact jS)
      | (apply y_ix; exact jG; exact jG; exact inferInstance; exact jS; rfl; exact jO; exact jO)
      | (apply y_fav; exact jG; rfl; exact jS; rfl; exact jO)
      | (apply y_faw; exact jG; exact inferInstance; rfl; exact jS; rfl; exact jO)
      | (apply y_lds; exact jG; exact jS; exact inferInstance; exact inferInstance; rfl; rfl; exact jL; exact jO)
      | (apply y_ldf; exact jG; exact jS; exact inferInstance; exact inferInstance; rfl; rfl; exact jL; exact jO)
      | (apply y_ldg; exact jG; exact jS; exact inferInstance; rfl; exact jL; exact jO)
      | (apply y_ldA; exact jG; exact jS; exact inferInstance; exact inferInstance; rfl; exact jL; exact jO)
      | (apply y_ldp; exact jG; exact At.mono (by assumption) jL)
      | (apply x_ari; exact jG; exact jG; rfl; exact jO)
      | (apply x_ext; exact jG; rfl)
      | (apply x_nc; exact jG)
      | (apply y_lda; exact jG; exact H.bq; exact inferInstance; rfl)
      | (apply y_ldb; exact jG; exact (by assumption:Has _ (cBlk _ _ _)).blk H; rfl)
      | (apply x_not; exact jG)
      | (apply x_max; exact jG; exact jG)
      | (apply x_min; exact jG; exact jG)
      | (apply x_quo; exact jG; exact jG; exact jO)
      | (apply x_por; exact jG; exact jG; exact fun hb=>gd_of jB _)
      | (apply x_pand; exact jG; exact fun hb=>gd_of jB _; exact jG)):A:=h
/-- What is left. -/
structure Left (B:Prop):Prop where
  h:B
/-- How many steps are left. -/
structure Cnt (n:Nat):Prop where
  h:n=n
theorem Cnt.dn {n:Nat} (c:Cnt (n+1)):Cnt n:=⟨rfl⟩
/-- So many plain steps. -/
theorem kg {A B:Prop} (n:Nat) (q:B) (f:Cnt n->Left B->A:=by
    intro cnt q
    (repeat (replace cnt:=Cnt.dn cnt; first
      | (apply s_val; exact jU)
      | refine s_nil ?_
      | refine W.seq ?_
      | refine W.region rfl ?_
      | refine W.skip ?_
      | refine W.block ?_
      | (apply d_q; rfl; (intro w' H; exact jU))
      | (apply t_q; rfl; (intro w' H; exact jU))
      | (apply g_val; (first | exact gy_t rfl | exact gy_f rfl | exact gy_gt rfl rfl | exact gy_gf rfl rfl); (intro hg; exact jV))
      | (apply d_qg; rfl; (first | exact gy_t rfl | exact gy_f rfl | exact gy_gt rfl rfl | exact gy_gf rfl rfl); (intro hg w' H; exact jV))
      | (apply t_qg; rfl; (first | exact gy_t rfl | exact gy_f rfl | exact gy_gt rfl rfl | exact gy_gf rfl rfl); (intro hg w' H; exact jV))
      | refine t_nil ?_
      | refine d_nil ?_))
    exact q.h):A:=f ⟨rfl⟩ ⟨q⟩
end Go.Nm
namespace Go.Nm
open Go
section
variable {P:Program} {w:World} {σ:Env} {d:Nat} {ty:TypeId} {pos:String} {af:Array Edge} {g:Option (Nat × Bool)}
theorem x_pand0 {c x y:Operand} {b:Bool} (hc:ev σ c = .bool b) (hx:b=true->ev σ x = .bool false) (hy:ev σ y = .bool false) :
    (execOp (ev σ) ⟨some d,.pick c x y,ty,pos,af,g⟩).run P w = .ok (.value (.bool false)) w:=by
  have:=x_pand (P:=P) (w:=w) (d:=d) (ty:=ty) (pos:=pos) (af:=af) (g:=g) hc hx hy
  rwa [Bool.and_false] at this
end
end Go.Nm
namespace Go.Nm
open Go
instance {x:Pk}:EncL x [I x.day,I x.stage]:=⟨rfl⟩
instance {x:Yr}:EncL x [I x.year,I x.lo,I x.hi]:=⟨rfl⟩
instance {x:Span}:EncL x [I x.lo,I x.hi]:=⟨rfl⟩
instance {x:Rto}:EncL x [I x.num,I x.den]:=⟨rfl⟩
instance:FldC Old10 0 default (fun x=>I x.src):=⟨fun hs h1=>by have:=Old10_at0 hs (i:=(_:Nat)) (Int.natCast_nonneg _) (Int.ofNat_lt.2 h1); exact this⟩
instance:FldC Old10 1 default (fun x=>I x.dst):=⟨fun hs h1=>by have:=Old10_at1 hs (i:=(_:Nat)) (Int.natCast_nonneg _) (Int.ofNat_lt.2 h1); exact this⟩
instance:FldC Old10 2 default (fun x=>I x.stage):=⟨fun hs h1=>by have:=Old10_at2 hs (i:=(_:Nat)) (Int.natCast_nonneg _) (Int.ofNat_lt.2 h1); exact this⟩
instance {x:CMk}:EncL x [I x.place,I x.height]:=⟨rfl⟩
instance {x:CNt}:EncL x [I x.mark,I x.tlo,I x.thi,I x.slo,I x.shi]:=⟨rfl⟩
end Go.Nm
namespace Go.Proofs.YtdmdhmineljlhaaGreat
open Go Go.Nm
theorem keyIntSp:KeyL (ν:=Span) Tryz.prog 3 I:=KeyL.int Tryz.underlying3
theorem keyIntCN:KeyL (ν:=CNt) Tryz.prog 3 I:=KeyL.int Tryz.underlying3
theorem cf4:CF Tryz.prog 4:=⟨_,Tryz.func4,rfl,by decide +kernel⟩
theorem cf5:CF Tryz.prog 5:=⟨_,Tryz.func5,rfl,by decide +kernel⟩
theorem cf6:CF Tryz.prog 6:=⟨_,Tryz.func6,rfl,by decide +kernel⟩
theorem cf7:CF Tryz.prog 7:=⟨_,Tryz.func7,rfl,by decide +kernel⟩
theorem cf8:CF Tryz.prog 8:=⟨_,Tryz.func8,rfl,by decide +kernel⟩
theorem cf9:CF Tryz.prog 9:=⟨_,Tryz.func9,rfl,by decide +kernel⟩
theorem cf10:CF Tryz.prog 10:=⟨_,Tryz.func10,rfl,by decide +kernel⟩
theorem cf11:CF Tryz.prog 11:=⟨_,Tryz.func11,rfl,by decide +kernel⟩
theorem cf12:CF Tryz.prog 12:=⟨_,Tryz.func12,rfl,by decide +kernel⟩
theorem cf13:CF Tryz.prog 13:=⟨_,Tryz.func13,rfl,by decide +kernel⟩
theorem cf14:CF Tryz.prog 14:=⟨_,Tryz.func14,rfl,by decide +kernel⟩
theorem cf15:CF Tryz.prog 15:=⟨_,Tryz.func15,rfl,by decide +kernel⟩
theorem cf16:CF Tryz.prog 16:=⟨_,Tryz.func16,rfl,by decide +kernel⟩
theorem cf17:CF Tryz.prog 17:=⟨_,Tryz.func17,rfl,by decide +kernel⟩
theorem cf18:CF Tryz.prog 18:=⟨_,Tryz.func18,rfl,by decide +kernel⟩
theorem cf19:CF Tryz.prog 19:=⟨_,Tryz.func19,rfl,by decide +kernel⟩
theorem cf20:CF Tryz.prog 20:=⟨_,Tryz.func20,rfl,by decide +kernel⟩
theorem cf21:CF Tryz.prog 21:=⟨_,Tryz.func21,rfl,by decide +kernel⟩
theorem cf22:CF Tryz.prog 22:=⟨_,Tryz.func22,rfl,by decide +kernel⟩
theorem cf23:CF Tryz.prog 23:=⟨_,Tryz.func23,rfl,by decide +kernel⟩
theorem cf24:CF Tryz.prog 24:=⟨_,Tryz.func24,rfl,by decide +kernel⟩
theorem cf25:CF Tryz.prog 25:=⟨_,Tryz.func25,rfl,by decide +kernel⟩
theorem cf26:CF Tryz.prog 26:=⟨_,Tryz.func26,rfl,by decide +kernel⟩
theorem cf27:CF Tryz.prog 27:=⟨_,Tryz.func27,rfl,by decide +kernel⟩
theorem cf28:CF Tryz.prog 28:=⟨_,Tryz.func28,rfl,by decide +kernel⟩
theorem cf29:CF Tryz.prog 29:=⟨_,Tryz.func29,rfl,by decide +kernel⟩
theorem cf30:CF Tryz.prog 30:=⟨_,Tryz.func30,rfl,by decide +kernel⟩
theorem cf31:CF Tryz.prog 31:=⟨_,Tryz.func31,rfl,by decide +kernel⟩
theorem cf32:CF Tryz.prog 32:=⟨_,Tryz.func32,rfl,by decide +kernel⟩
theorem cf33:CF Tryz.prog 33:=⟨_,Tryz.func33,rfl,by decide +kernel⟩
theorem cf34:CF Tryz.prog 34:=⟨_,Tryz.func34,rfl,by decide +kernel⟩
theorem cf35:CF Tryz.prog 35:=⟨_,Tryz.func35,rfl,by decide +kernel⟩
theorem cf36:CF Tryz.prog 36:=⟨_,Tryz.func36,rfl,by decide +kernel⟩
theorem cf37:CF Tryz.prog 37:=⟨_,Tryz.func37,rfl,by decide +kernel⟩
theorem cf38:CF Tryz.prog 38:=⟨_,Tryz.func38,rfl,by decide +kernel⟩
theorem cf39:CF Tryz.prog 39:=⟨_,Tryz.func39,rfl,by decide +kernel⟩
theorem cf40:CF Tryz.prog 40:=⟨_,Tryz.func40,rfl,by decide +kernel⟩
theorem cf41:CF Tryz.prog 41:=⟨_,Tryz.func41,rfl,by decide +kernel⟩
theorem cf42:CF Tryz.prog 42:=⟨_,Tryz.func42,rfl,by decide +kernel⟩
theorem cf43:CF Tryz.prog 43:=⟨_,Tryz.func43,rfl,by decide +kernel⟩
theorem cf44:CF Tryz.prog 44:=⟨_,Tryz.func44,rfl,by decide +kernel⟩
theorem cf45:CF Tryz.prog 45:=⟨_,Tryz.func45,rfl,by decide +kernel⟩
theorem cf46:CF Tryz.prog 46:=⟨_,Tryz.func46,rfl,by decide +kernel⟩
theorem cf47:CF Tryz.prog 47:=⟨_,Tryz.func47,rfl,by decide +kernel⟩
theorem cf48:CF Tryz.prog 48:=⟨_,Tryz.func48,rfl,by decide +kernel⟩
theorem cf49:CF Tryz.prog 49:=⟨_,Tryz.func49,rfl,by decide +kernel⟩
theorem cf50:CF Tryz.prog 50:=⟨_,Tryz.func50,rfl,by decide +kernel⟩
theorem cf51:CF Tryz.prog 51:=⟨_,Tryz.func51,rfl,by decide +kernel⟩
theorem cf52:CF Tryz.prog 52:=⟨_,Tryz.func52,rfl,by decide +kernel⟩
theorem cf53:CF Tryz.prog 53:=⟨_,Tryz.func53,rfl,by decide +kernel⟩
theorem cf54:CF Tryz.prog 54:=⟨_,Tryz.func54,rfl,by decide +kernel⟩
theorem cf55:CF Tryz.prog 55:=⟨_,Tryz.func55,rfl,by decide +kernel⟩
theorem cf56:CF Tryz.prog 56:=⟨_,Tryz.func56,rfl,by decide +kernel⟩
theorem cf57:CF Tryz.prog 57:=⟨_,Tryz.func57,rfl,by decide +kernel⟩
theorem cf58:CF Tryz.prog 58:=⟨_,Tryz.func58,rfl,by decide +kernel⟩
theorem cf59:CF Tryz.prog 59:=⟨_,Tryz.func59,rfl,by decide +kernel⟩
theorem cf60:CF Tryz.prog 60:=⟨_,Tryz.func60,rfl,by decide +kernel⟩
theorem cf61:CF Tryz.prog 61:=⟨_,Tryz.func61,rfl,by decide +kernel⟩
theorem cf62:CF Tryz.prog 62:=⟨_,Tryz.func62,rfl,by decide +kernel⟩
theorem cf63:CF Tryz.prog 63:=⟨_,Tryz.func63,rfl,by decide +kernel⟩
theorem cf64:CF Tryz.prog 64:=⟨_,Tryz.func64,rfl,by decide +kernel⟩
theorem cf65:CF Tryz.prog 65:=⟨_,Tryz.func65,rfl,by decide +kernel⟩
theorem cf66:CF Tryz.prog 66:=⟨_,Tryz.func66,rfl,by decide +kernel⟩
theorem cf67:CF Tryz.prog 67:=⟨_,Tryz.func67,rfl,by decide +kernel⟩
theorem cf68:CF Tryz.prog 68:=⟨_,Tryz.func68,rfl,by decide +kernel⟩
theorem cf69:CF Tryz.prog 69:=⟨_,Tryz.func69,rfl,by decide +kernel⟩
theorem cf70:CF Tryz.prog 70:=⟨_,Tryz.func70,rfl,by decide +kernel⟩
theorem cf71:CF Tryz.prog 71:=⟨_,Tryz.func71,rfl,by decide +kernel⟩
theorem cf72:CF Tryz.prog 72:=⟨_,Tryz.func72,rfl,by decide +kernel⟩
theorem cf73:CF Tryz.prog 73:=⟨_,Tryz.func73,rfl,by decide +kernel⟩
theorem cf74:CF Tryz.prog 74:=⟨_,Tryz.func74,rfl,by decide +kernel⟩
theorem cf75:CF Tryz.prog 75:=⟨_,Tryz.func75,rfl,by decide +kernel⟩
theorem cf76:CF Tryz.prog 76:=⟨_,Tryz.func76,rfl,by decide +kernel⟩
theorem cf77:CF Tryz.prog 77:=⟨_,Tryz.func77,rfl,by decide +kernel⟩
theorem cf78:CF Tryz.prog 78:=⟨_,Tryz.func78,rfl,by decide +kernel⟩
theorem cf79:CF Tryz.prog 79:=⟨_,Tryz.func79,rfl,by decide +kernel⟩
theorem cf80:CF Tryz.prog 80:=⟨_,Tryz.func80,rfl,by decide +kernel⟩
theorem cf81:CF Tryz.prog 81:=⟨_,Tryz.func81,rfl,by decide +kernel⟩
theorem cf82:CF Tryz.prog 82:=⟨_,Tryz.func82,rfl,by decide +kernel⟩
theorem cf83:CF Tryz.prog 83:=⟨_,Tryz.func83,rfl,by decide +kernel⟩
theorem cf84:CF Tryz.prog 84:=⟨_,Tryz.func84,rfl,by decide +kernel⟩
theorem cf85:CF Tryz.prog 85:=⟨_,Tryz.func85,rfl,by decide +kernel⟩
theorem cf86:CF Tryz.prog 86:=⟨_,Tryz.func86,rfl,by decide +kernel⟩
theorem cf87:CF Tryz.prog 87:=⟨_,Tryz.func87,rfl,by decide +kernel⟩
theorem cf90:CF Tryz.prog 90:=⟨_,Tryz.func90,rfl,by decide +kernel⟩
theorem cf91:CF Tryz.prog 91:=⟨_,Tryz.func91,rfl,by decide +kernel⟩
theorem cf93:CF Tryz.prog 93:=⟨_,Tryz.func93,rfl,by decide +kernel⟩
theorem cf94:CF Tryz.prog 94:=⟨_,Tryz.func94,rfl,by decide +kernel⟩
theorem cf95:CF Tryz.prog 95:=⟨_,Tryz.func95,rfl,by decide +kernel⟩
theorem cf107:CF Tryz.prog 107:=⟨_,Tryz.func107,rfl,by decide +kernel⟩
theorem cf108:CF Tryz.prog 108:=⟨_,Tryz.func108,rfl,by decide +kernel⟩
theorem cf109:CF Tryz.prog 109:=⟨_,Tryz.func109,rfl,by decide +kernel⟩
theorem cf110:CF Tryz.prog 110:=⟨_,Tryz.func110,rfl,by decide +kernel⟩
theorem cf111:CF Tryz.prog 111:=⟨_,Tryz.func111,rfl,by decide +kernel⟩
theorem cf112:CF Tryz.prog 112:=⟨_,Tryz.func112,rfl,by decide +kernel⟩
theorem cf114:CF Tryz.prog 114:=⟨_,Tryz.func114,rfl,by decide +kernel⟩
theorem cf120:CF Tryz.prog 120:=⟨_,Tryz.func120,rfl,by decide +kernel⟩
theorem cf121:CF Tryz.prog 121:=⟨_,Tryz.func121,rfl,by decide +kernel⟩
theorem T22:SlT Tryz.prog 22 5 1 1 (.int .u8 0):=⟨Tryz.underlying22,by kernel_rfl,rfl,by decide⟩
theorem T23:SlT Tryz.prog 23 46 3 24 (.agg #[I 0,I 0,I 0]):=⟨Tryz.underlying23,by kernel_rfl,rfl,by decide⟩
theorem T24:SlT Tryz.prog 24 120 4 48 (.agg #[I 0,I 0,I 0,.slice none 0 0]):=⟨Tryz.underlying24,by kernel_rfl,rfl,by decide⟩
theorem T27:SlT Tryz.prog 27 3 1 8 (I 0):=⟨Tryz.underlying27,by kernel_rfl,rfl,by decide⟩
theorem T29:SlT Tryz.prog 29 22 1 24 (.slice none 0 0):=⟨Tryz.underlying29,by kernel_rfl,rfl,by decide⟩
theorem T32:SlT Tryz.prog 32 55 2 16 (.agg #[I 0,I 0]):=⟨Tryz.underlying32,by kernel_rfl,rfl,by decide⟩
theorem T33:SlT Tryz.prog 33 57 5 40 (.agg #[I 0,I 0,I 0,I 0,I 0]):=⟨Tryz.underlying33,by kernel_rfl,rfl,by decide⟩
theorem T61:SlT Tryz.prog 61 31 2 16 (.agg #[I 0,I 0]):=⟨Tryz.underlying61,by kernel_rfl,rfl,by decide⟩
theorem T93:SlT Tryz.prog 93 129 2 16 (.agg #[I 0,I 0]):=⟨Tryz.underlying93,by kernel_rfl,rfl,by decide⟩
theorem Sc3:isSc (Tryz.prog.underlying 3)=true:=by rw [Tryz.underlying3]; rfl
theorem Sc4:isSc (Tryz.prog.underlying 4)=true:=by rw [Tryz.underlying4]; rfl
theorem Sc5:isSc (Tryz.prog.underlying 5)=true:=by rw [Tryz.underlying5]; rfl
theorem Sc22:isSc (Tryz.prog.underlying 22)=true:=by rw [Tryz.underlying22]; rfl
theorem Sc23:isSc (Tryz.prog.underlying 23)=true:=by rw [Tryz.underlying23]; rfl
theorem Sc24:isSc (Tryz.prog.underlying 24)=true:=by rw [Tryz.underlying24]; rfl
theorem Sc27:isSc (Tryz.prog.underlying 27)=true:=by rw [Tryz.underlying27]; rfl
theorem Sc32:isSc (Tryz.prog.underlying 32)=true:=by rw [Tryz.underlying32]; rfl
theorem Sc33:isSc (Tryz.prog.underlying 33)=true:=by rw [Tryz.underlying33]; rfl
theorem Sc42:isSc (Tryz.prog.underlying 42)=true:=by rw [Tryz.underlying42]; rfl
theorem Sc53:isSc (Tryz.prog.underlying 53)=true:=by rw [Tryz.underlying53]; rfl
theorem Sc60:isSc (Tryz.prog.underlying 60)=true:=by rw [Tryz.underlying60]; rfl
theorem Sc61:isSc (Tryz.prog.underlying 61)=true:=by rw [Tryz.underlying61]; rfl
theorem Sc70:isSc (Tryz.prog.underlying 70)=true:=by rw [Tryz.underlying70]; rfl
theorem Sc76:isSc (Tryz.prog.underlying 76)=true:=by rw [Tryz.underlying76]; rfl
theorem Sc81:isSc (Tryz.prog.underlying 81)=true:=by rw [Tryz.underlying81]; rfl
theorem Sc93:isSc (Tryz.prog.underlying 93)=true:=by rw [Tryz.underlying93]; rfl
theorem Sc112:isSc (Tryz.prog.underlying 112)=true:=by rw [Tryz.underlying112]; rfl
theorem Sc116:isSc (Tryz.prog.underlying 116)=true:=by rw [Tryz.underlying116]; rfl
theorem Sc140:isSc (Tryz.prog.underlying 140)=true:=by rw [Tryz.underlying140]; rfl
theorem Sc145:isSc (Tryz.prog.underlying 145)=true:=by rw [Tryz.underlying145]; rfl
theorem Sc171:isSc (Tryz.prog.underlying 171)=true:=by rw [Tryz.underlying171]; rfl
theorem Sz3:(Tryz.prog.info? 3).map (·.size)=some 1:=by kernel_rfl
theorem Sz4:(Tryz.prog.info? 4).map (·.size)=some 1:=by kernel_rfl
theorem Sz22:(Tryz.prog.info? 22).map (·.size)=some 1:=by kernel_rfl
theorem Sz23:(Tryz.prog.info? 23).map (·.size)=some 1:=by kernel_rfl
theorem Sz24:(Tryz.prog.info? 24).map (·.size)=some 1:=by kernel_rfl
theorem Ag26:isAg (Tryz.prog.underlying 26)=true:=by rw [Tryz.underlying26]; rfl
theorem Sz26:(Tryz.prog.info? 26).map (·.size)=some 4:=by kernel_rfl
theorem Sz27:(Tryz.prog.info? 27).map (·.size)=some 1:=by kernel_rfl
theorem Ag31:isAg (Tryz.prog.underlying 31)=true:=by rw [Tryz.underlying31]; rfl
theorem Sz31:(Tryz.prog.info? 31).map (·.size)=some 2:=by kernel_rfl
theorem Sz32:(Tryz.prog.info? 32).map (·.size)=some 1:=by kernel_rfl
theorem Sz33:(Tryz.prog.info? 33).map (·.size)=some 1:=by kernel_rfl
theorem Ag35:isAg (Tryz.prog.underlying 35)=true:=by rw [Tryz.underlying35]; rfl
theorem Sz35:(Tryz.prog.info? 35).map (·.size)=some 7:=by kernel_rfl
theorem Ag37:isAg (Tryz.prog.underlying 37)=true:=by rw [Tryz.underlying37]; rfl
theorem Sz37:(Tryz.prog.info? 37).map (·.size)=some 3:=by kernel_rfl
theorem Sz42:(Tryz.prog.info? 42).map (·.size)=some 1:=by kernel_rfl
theorem Ag46:isAg (Tryz.prog.underlying 46)=true:=by rw [Tryz.underlying46]; rfl
theorem Sz46:(Tryz.prog.info? 46).map (·.size)=some 3:=by kernel_rfl
theorem Sz53:(Tryz.prog.info? 53).map (·.size)=some 1:=by kernel_rfl
theorem Ag55:isAg (Tryz.prog.underlying 55)=true:=by rw [Tryz.underlying55]; rfl
theorem Sz55:(Tryz.prog.info? 55).map (·.size)=some 2:=by kernel_rfl
theorem Ag57:isAg (Tryz.prog.underlying 57)=true:=by rw [Tryz.underlying57]; rfl
theorem Sz57:(Tryz.prog.info? 57).map (·.size)=some 5:=by kernel_rfl
theorem Sz61:(Tryz.prog.info? 61).map (·.size)=some 1:=by kernel_rfl
theorem Sz70:(Tryz.prog.info? 70).map (·.size)=some 1:=by kernel_rfl
theorem Ag72:isAg (Tryz.prog.underlying 72)=true:=by rw [Tryz.underlying72]; rfl
theorem Sz72:(Tryz.prog.info? 72).map (·.size)=some 1:=by kernel_rfl
theorem Sz76:(Tryz.prog.info? 76).map (·.size)=some 1:=by kernel_rfl
theorem Sz81:(Tryz.prog.info? 81).map (·.size)=some 1:=by kernel_rfl
theorem Ag89:isAg (Tryz.prog.underlying 89)=true:=by rw [Tryz.underlying89]; rfl
theorem Sz89:(Tryz.prog.info? 89).map (·.size)=some 1:=by kernel_rfl
theorem Ag101:isAg (Tryz.prog.underlying 101)=true:=by rw [Tryz.underlying101]; rfl
theorem Sz101:(Tryz.prog.info? 101).map (·.size)=some 2:=by kernel_rfl
theorem Sz116:(Tryz.prog.info? 116).map (·.size)=some 1:=by kernel_rfl
theorem Ag120:isAg (Tryz.prog.underlying 120)=true:=by rw [Tryz.underlying120]; rfl
theorem Sz120:(Tryz.prog.info? 120).map (·.size)=some 4:=by kernel_rfl
theorem Ag129:isAg (Tryz.prog.underlying 129)=true:=by rw [Tryz.underlying129]; rfl
theorem Sz129:(Tryz.prog.info? 129).map (·.size)=some 2:=by kernel_rfl
theorem Sz140:(Tryz.prog.info? 140).map (·.size)=some 1:=by kernel_rfl
theorem Ag141:isAg (Tryz.prog.underlying 141)=true:=by rw [Tryz.underlying141]; rfl
theorem Sz141:(Tryz.prog.info? 141).map (·.size)=some 40:=by kernel_rfl
theorem Fd26_0:(Tryz.prog.underlying 26).bind (fun d=>match d with | .struct fs=>(fs[0]?).map (fun f=>(f.offset,f.type)) | _=>none)=some (0,23):=by rw [Tryz.underlying26]; rfl
theorem Fd26_1:(Tryz.prog.underlying 26).bind (fun d=>match d with | .struct fs=>(fs[1]?).map (fun f=>(f.offset,f.type)) | _=>none)=some (1,24):=by rw [Tryz.underlying26]; rfl
theorem Fd26_2:(Tryz.prog.underlying 26).bind (fun d=>match d with | .struct fs=>(fs[2]?).map (fun f=>(f.offset,f.type)) | _=>none)=some (2,3):=by rw [Tryz.underlying26]; rfl
theorem Fd26_3:(Tryz.prog.underlying 26).bind (fun d=>match d with | .struct fs=>(fs[3]?).map (fun f=>(f.offset,f.type)) | _=>none)=some (3,3):=by rw [Tryz.underlying26]; rfl
theorem Fd31_0:(Tryz.prog.underlying 31).bind (fun d=>match d with | .struct fs=>(fs[0]?).map (fun f=>(f.offset,f.type)) | _=>none)=some (0,3):=by rw [Tryz.underlying31]; rfl
theorem Fd31_1:(Tryz.prog.underlying 31).bind (fun d=>match d with | .struct fs=>(fs[1]?).map (fun f=>(f.offset,f.type)) | _=>none)=some (1,3):=by rw [Tryz.underlying31]; rfl
theorem Fd35_0:(Tryz.prog.underlying 35).bind (fun d=>match d with | .struct fs=>(fs[0]?).map (fun f=>(f.offset,f.type)) | _=>none)=some (0,31):=by rw [Tryz.underlying35]; rfl
theorem Fd35_1:(Tryz.prog.underlying 35).bind (fun d=>match d with | .struct fs=>(fs[1]?).map (fun f=>(f.offset,f.type)) | _=>none)=some (2,3):=by rw [Tryz.underlying35]; rfl
theorem Fd35_2:(Tryz.prog.underlying 35).bind (fun d=>match d with | .struct fs=>(fs[2]?).map (fun f=>(f.offset,f.type)) | _=>none)=some (3,3):=by rw [Tryz.underlying35]; rfl
theorem Fd35_3:(Tryz.prog.underlying 35).bind (fun d=>match d with | .struct fs=>(fs[3]?).map (fun f=>(f.offset,f.type)) | _=>none)=some (4,3):=by rw [Tryz.underlying35]; rfl
theorem Fd35_4:(Tryz.prog.underlying 35).bind (fun d=>match d with | .struct fs=>(fs[4]?).map (fun f=>(f.offset,f.type)) | _=>none)=some (5,32):=by rw [Tryz.underlying35]; rfl
theorem Fd35_5:(Tryz.prog.underlying 35).bind (fun d=>match d with | .struct fs=>(fs[5]?).map (fun f=>(f.offset,f.type)) | _=>none)=some (6,33):=by rw [Tryz.underlying35]; rfl
theorem Fd37_0:(Tryz.prog.underlying 37).bind (fun d=>match d with | .struct fs=>(fs[0]?).map (fun f=>(f.offset,f.type)) | _=>none)=some (0,27):=by rw [Tryz.underlying37]; rfl
theorem Fd37_1:(Tryz.prog.underlying 37).bind (fun d=>match d with | .struct fs=>(fs[1]?).map (fun f=>(f.offset,f.type)) | _=>none)=some (1,27):=by rw [Tryz.underlying37]; rfl
theorem Fd37_2:(Tryz.prog.underlying 37).bind (fun d=>match d with | .struct fs=>(fs[2]?).map (fun f=>(f.offset,f.type)) | _=>none)=some (2,27):=by rw [Tryz.underlying37]; rfl
theorem Fd46_0:(Tryz.prog.underlying 46).bind (fun d=>match d with | .struct fs=>(fs[0]?).map (fun f=>(f.offset,f.type)) | _=>none)=some (0,3):=by rw [Tryz.underlying46]; rfl
theorem Fd46_1:(Tryz.prog.underlying 46).bind (fun d=>match d with | .struct fs=>(fs[1]?).map (fun f=>(f.offset,f.type)) | _=>none)=some (1,31):=by rw [Tryz.underlying46]; rfl
theorem Fd55_0:(Tryz.prog.underlying 55).bind (fun d=>match d with | .struct fs=>(fs[0]?).map (fun f=>(f.offset,f.type)) | _=>none)=some (0,3):=by rw [Tryz.underlying55]; rfl
theorem Fd55_1:(Tryz.prog.underlying 55).bind (fun d=>match d with | .struct fs=>(fs[1]?).map (fun f=>(f.offset,f.type)) | _=>none)=some (1,3):=by rw [Tryz.underlying55]; rfl
theorem Fd57_0:(Tryz.prog.underlying 57).bind (fun d=>match d with | .struct fs=>(fs[0]?).map (fun f=>(f.offset,f.type)) | _=>none)=some (0,3):=by rw [Tryz.underlying57]; rfl
theorem Fd57_1:(Tryz.prog.underlying 57).bind (fun d=>match d with | .struct fs=>(fs[1]?).map (fun f=>(f.offset,f.type)) | _=>none)=some (1,31):=by rw [Tryz.underlying57]; rfl
theorem Fd57_2:(Tryz.prog.underlying 57).bind (fun d=>match d with | .struct fs=>(fs[2]?).map (fun f=>(f.offset,f.type)) | _=>none)=some (3,31):=by rw [Tryz.underlying57]; rfl
theorem Fd59_0:(Tryz.prog.underlying 59).bind (fun d=>match d with | .struct fs=>(fs[0]?).map (fun f=>(f.offset,f.type)) | _=>none)=some (0,22):=by rw [Tryz.underlying59]; rfl
theorem Fd59_1:(Tryz.prog.underlying 59).bind (fun d=>match d with | .struct fs=>(fs[1]?).map (fun f=>(f.offset,f.type)) | _=>none)=some (1,3):=by rw [Tryz.underlying59]; rfl
theorem Fd59_2:(Tryz.prog.underlying 59).bind (fun d=>match d with | .struct fs=>(fs[2]?).map (fun f=>(f.offset,f.type)) | _=>none)=some (2,3):=by rw [Tryz.underlying59]; rfl
theorem Fd65_0:(Tryz.prog.underlying 65).bind (fun d=>match d with | .struct fs=>(fs[0]?).map (fun f=>(f.offset,f.type)) | _=>none)=some (0,31):=by rw [Tryz.underlying65]; rfl
theorem Fd65_1:(Tryz.prog.underlying 65).bind (fun d=>match d with | .struct fs=>(fs[1]?).map (fun f=>(f.offset,f.type)) | _=>none)=some (2,4):=by rw [Tryz.underlying65]; rfl
theorem Fd72_0:(Tryz.prog.underlying 72).bind (fun d=>match d with | .struct fs=>(fs[0]?).map (fun f=>(f.offset,f.type)) | _=>none)=some (0,70):=by rw [Tryz.underlying72]; rfl
theorem Fd87_0:(Tryz.prog.underlying 87).bind (fun d=>match d with | .struct fs=>(fs[0]?).map (fun f=>(f.offset,f.type)) | _=>none)=some (0,3):=by rw [Tryz.underlying87]; rfl
theorem Fd89_0:(Tryz.prog.underlying 89).bind (fun d=>match d with | .struct fs=>(fs[0]?).map (fun f=>(f.offset,f.type)) | _=>none)=some (0,70):=by rw [Tryz.underlying89]; rfl
theorem Fd118_0:(Tryz.prog.underlying 118).bind (fun d=>match d with | .struct fs=>(fs[0]?).map (fun f=>(f.offset,f.type)) | _=>none)=some (0,26):=by rw [Tryz.underlying118]; rfl
theorem Fd118_1:(Tryz.prog.underlying 118).bind (fun d=>match d with | .struct fs=>(fs[1]?).map (fun f=>(f.offset,f.type)) | _=>none)=some (4,116):=by rw [Tryz.underlying118]; rfl
theorem Fd120_0:(Tryz.prog.underlying 120).bind (fun d=>match d with | .struct fs=>(fs[0]?).map (fun f=>(f.offset,f.type)) | _=>none)=some (0,3):=by rw [Tryz.underlying120]; rfl
theorem Fd120_1:(Tryz.prog.underlying 120).bind (fun d=>match d with | .struct fs=>(fs[1]?).map (fun f=>(f.offset,f.type)) | _=>none)=some (1,3):=by rw [Tryz.underlying120]; rfl
theorem Fd120_2:(Tryz.prog.underlying 120).bind (fun d=>match d with | .struct fs=>(fs[2]?).map (fun f=>(f.offset,f.type)) | _=>none)=some (2,3):=by rw [Tryz.underlying120]; rfl
theorem Fd120_3:(Tryz.prog.underlying 120).bind (fun d=>match d with | .struct fs=>(fs[3]?).map (fun f=>(f.offset,f.type)) | _=>none)=some (3,27):=by rw [Tryz.underlying120]; rfl
theorem Fd129_0:(Tryz.prog.underlying 129).bind (fun d=>match d with | .struct fs=>(fs[0]?).map (fun f=>(f.offset,f.type)) | _=>none)=some (0,3):=by rw [Tryz.underlying129]; rfl
theorem Fd129_1:(Tryz.prog.underlying 129).bind (fun d=>match d with | .struct fs=>(fs[1]?).map (fun f=>(f.offset,f.type)) | _=>none)=some (1,3):=by rw [Tryz.underlying129]; rfl
theorem Fd143_0:(Tryz.prog.underlying 143).bind (fun d=>match d with | .struct fs=>(fs[0]?).map (fun f=>(f.offset,f.type)) | _=>none)=some (0,35):=by rw [Tryz.underlying143]; rfl
theorem Fd143_1:(Tryz.prog.underlying 143).bind (fun d=>match d with | .struct fs=>(fs[1]?).map (fun f=>(f.offset,f.type)) | _=>none)=some (7,140):=by rw [Tryz.underlying143]; rfl
theorem Fd143_2:(Tryz.prog.underlying 143).bind (fun d=>match d with | .struct fs=>(fs[2]?).map (fun f=>(f.offset,f.type)) | _=>none)=some (8,141):=by rw [Tryz.underlying143]; rfl
theorem Al3:(Tryz.prog.info? 3).map (·.zero)=some (some (I 0)):=by kernel_rfl
theorem Al4:(Tryz.prog.info? 4).map (·.zero)=some (some (B false)):=by kernel_rfl
theorem Al26:(Tryz.prog.info? 26).map (·.zero)=some (some (.agg #[.slice none 0 0,.slice none 0 0,I 0,I 0])):=by kernel_rfl
theorem Al27:(Tryz.prog.info? 27).map (·.zero)=some (some (.slice none 0 0)):=by kernel_rfl
theorem Al31:(Tryz.prog.info? 31).map (·.zero)=some (some (.agg #[I 0,I 0])):=by kernel_rfl
theorem Al35:(Tryz.prog.info? 35).map (·.zero)=some (some (.agg #[I 0,I 0,I 0,I 0,I 0,.slice none 0 0,.slice none 0 0])):=by kernel_rfl
theorem Al37:(Tryz.prog.info? 37).map (·.zero)=some (some (.agg #[.slice none 0 0,.slice none 0 0,.slice none 0 0])):=by kernel_rfl
theorem Al42:(Tryz.prog.info? 42).map (·.zero)=some (some (I 0)):=by kernel_rfl
theorem Al46:(Tryz.prog.info? 46).map (·.zero)=some (some (.agg #[I 0,I 0,I 0])):=by kernel_rfl
theorem Al53:(Tryz.prog.info? 53).map (·.zero)=some (some (.nilFunc)):=by kernel_rfl
theorem Al55:(Tryz.prog.info? 55).map (·.zero)=some (some (.agg #[I 0,I 0])):=by kernel_rfl
theorem Al57:(Tryz.prog.info? 57).map (·.zero)=some (some (.agg #[I 0,I 0,I 0,I 0,I 0])):=by kernel_rfl
theorem Al59:(Tryz.prog.info? 59).map (·.zero)=some (some (.agg #[.slice none 0 0,I 0,I 0])):=by kernel_rfl
theorem Al61:(Tryz.prog.info? 61).map (·.zero)=some (some (.slice none 0 0)):=by kernel_rfl
theorem Al65:(Tryz.prog.info? 65).map (·.zero)=some (some (.agg #[I 0,I 0,B false])):=by kernel_rfl
theorem Al72:(Tryz.prog.info? 72).map (·.zero)=some (some (.agg #[.nilFunc])):=by kernel_rfl
theorem Al76:(Tryz.prog.info? 76).map (·.zero)=some (some (.pointer none)):=by kernel_rfl
theorem Al81:(Tryz.prog.info? 81).map (·.zero)=some (some (.nilFunc)):=by kernel_rfl
theorem Al87:(Tryz.prog.info? 87).map (·.zero)=some (some (.agg #[I 0])):=by kernel_rfl
theorem Al89:(Tryz.prog.info? 89).map (·.zero)=some (some (.agg #[.nilFunc])):=by kernel_rfl
theorem Al101:(Tryz.prog.info? 101).map (·.zero)=some (some (.agg #[I 0,I 0])):=by kernel_rfl
theorem Al118:(Tryz.prog.info? 118).map (·.zero)=some (some (.agg #[.slice none 0 0,.slice none 0 0,I 0,I 0,.map none])):=by kernel_rfl
theorem Al120:(Tryz.prog.info? 120).map (·.zero)=some (some (.agg #[I 0,I 0,I 0,.slice none 0 0])):=by kernel_rfl
theorem Al129:(Tryz.prog.info? 129).map (·.zero)=some (some (.agg #[I 0,I 0])):=by kernel_rfl
theorem Bd26 {fs:Array Field} (h:Tryz.prog.underlying 26=some (.struct fs)):fs.toList.mapM (fun f=>(Tryz.prog.info? f.type).map fun i=>(f.offset,i.size))=some [(0,1),(1,1),(2,1),(3,1)]:=by rw [Tryz.underlying26] at h; simp only [Option.some.injEq,TypeDesc.struct.injEq] at h; subst h; kernel_rfl
theorem Bd31 {fs:Array Field} (h:Tryz.prog.underlying 31=some (.struct fs)):fs.toList.mapM (fun f=>(Tryz.prog.info? f.type).map fun i=>(f.offset,i.size))=some [(0,1),(1,1)]:=by rw [Tryz.underlying31] at h; simp only [Option.some.injEq,TypeDesc.struct.injEq] at h; subst h; kernel_rfl
theorem Bd35 {fs:Array Field} (h:Tryz.prog.underlying 35=some (.struct fs)):fs.toList.mapM (fun f=>(Tryz.prog.info? f.type).map fun i=>(f.offset,i.size))=some [(0,2),(2,1),(3,1),(4,1),(5,1),(6,1)]:=by rw [Tryz.underlying35] at h; simp only [Option.some.injEq,TypeDesc.struct.injEq] at h; subst h; kernel_rfl
theorem Bd46 {fs:Array Field} (h:Tryz.prog.underlying 46=some (.struct fs)):fs.toList.mapM (fun f=>(Tryz.prog.info? f.type).map fun i=>(f.offset,i.size))=some [(0,1),(1,2)]:=by rw [Tryz.underlying46] at h; simp only [Option.some.injEq,TypeDesc.struct.injEq] at h; subst h; kernel_rfl
theorem Bd55 {fs:Array Field} (h:Tryz.prog.underlying 55=some (.struct fs)):fs.toList.mapM (fun f=>(Tryz.prog.info? f.type).map fun i=>(f.offset,i.size))=some [(0,1),(1,1)]:=by rw [Tryz.underlying55] at h; simp only [Option.some.injEq,TypeDesc.struct.injEq] at h; subst h; kernel_rfl
theorem Bd57 {fs:Array Field} (h:Tryz.prog.underlying 57=some (.struct fs)):fs.toList.mapM (fun f=>(Tryz.prog.info? f.type).map fun i=>(f.offset,i.size))=some [(0,1),(1,2),(3,2)]:=by rw [Tryz.underlying57] at h; simp only [Option.some.injEq,TypeDesc.struct.injEq] at h; subst h; kernel_rfl
theorem Bd59 {fs:Array Field} (h:Tryz.prog.underlying 59=some (.struct fs)):fs.toList.mapM (fun f=>(Tryz.prog.info? f.type).map fun i=>(f.offset,i.size))=some [(0,1),(1,1),(2,1)]:=by rw [Tryz.underlying59] at h; simp only [Option.some.injEq,TypeDesc.struct.injEq] at h; subst h; kernel_rfl
theorem Bd72 {fs:Array Field} (h:Tryz.prog.underlying 72=some (.struct fs)):fs.toList.mapM (fun f=>(Tryz.prog.info? f.type).map fun i=>(f.offset,i.size))=some [(0,1)]:=by rw [Tryz.underlying72] at h; simp only [Option.some.injEq,TypeDesc.struct.injEq] at h; subst h; kernel_rfl
theorem Bd87 {fs:Array Field} (h:Tryz.prog.underlying 87=some (.struct fs)):fs.toList.mapM (fun f=>(Tryz.prog.info? f.type).map fun i=>(f.offset,i.size))=some [(0,1)]:=by rw [Tryz.underlying87] at h; simp only [Option.some.injEq,TypeDesc.struct.injEq] at h; subst h; kernel_rfl
theorem Bd89 {fs:Array Field} (h:Tryz.prog.underlying 89=some (.struct fs)):fs.toList.mapM (fun f=>(Tryz.prog.info? f.type).map fun i=>(f.offset,i.size))=some [(0,1)]:=by rw [Tryz.underlying89] at h; simp only [Option.some.injEq,TypeDesc.struct.injEq] at h; subst h; kernel_rfl
theorem Bd101 {fs:Array Field} (h:Tryz.prog.underlying 101=some (.struct fs)):fs.toList.mapM (fun f=>(Tryz.prog.info? f.type).map fun i=>(f.offset,i.size))=some [(0,1),(1,1)]:=by rw [Tryz.underlying101] at h; simp only [Option.some.injEq,TypeDesc.struct.injEq] at h; subst h; kernel_rfl
theorem Bd118 {fs:Array Field} (h:Tryz.prog.underlying 118=some (.struct fs)):fs.toList.mapM (fun f=>(Tryz.prog.info? f.type).map fun i=>(f.offset,i.size))=some [(0,4),(4,1)]:=by rw [Tryz.underlying118] at h; simp only [Option.some.injEq,TypeDesc.struct.injEq] at h; subst h; kernel_rfl
theorem Bd120 {fs:Array Field} (h:Tryz.prog.underlying 120=some (.struct fs)):fs.toList.mapM (fun f=>(Tryz.prog.info? f.type).map fun i=>(f.offset,i.size))=some [(0,1),(1,1),(2,1),(3,1)]:=by rw [Tryz.underlying120] at h; simp only [Option.some.injEq,TypeDesc.struct.injEq] at h; subst h; kernel_rfl
theorem Bd129 {fs:Array Field} (h:Tryz.prog.underlying 129=some (.struct fs)):fs.toList.mapM (fun f=>(Tryz.prog.info? f.type).map fun i=>(f.offset,i.size))=some [(0,1),(1,1)]:=by rw [Tryz.underlying129] at h; simp only [Option.some.injEq,TypeDesc.struct.injEq] at h; subst h; kernel_rfl
theorem Bd143 {fs:Array Field} (h:Tryz.prog.underlying 143=some (.struct fs)):fs.toList.mapM (fun f=>(Tryz.prog.info? f.type).map fun i=>(f.offset,i.size))=some [(0,7),(7,1),(8,40)]:=by rw [Tryz.underlying143] at h; simp only [Option.some.injEq,TypeDesc.struct.injEq] at h; subst h; kernel_rfl
theorem mixed:Tryz.prog.follows .mixedOrders=true:=by kernel_rfl
theorem Al126:(Tryz.prog.info? 126).map (·.zero)=some (some (.agg (List.flatten [[],encF (α:=Int) (List.replicate 41 0)]).toArray)):=by kernel_rfl
theorem Al143:(Tryz.prog.info? 143).map (·.zero)=some (some (.agg (List.flatten [[I 0,I 0,I 0,I 0,I 0,.slice none 0 0,.slice none 0 0,.map none],encF (α:=Bool) (List.replicate 40 false)]).toArray)):=by kernel_rfl

instance:TlC Tryz.prog 22 5 1 1 (.int .u8 0):=⟨T22⟩
instance:TlC Tryz.prog 23 46 3 24 (.agg #[I 0,I 0,I 0]):=⟨T23⟩
instance:TlC Tryz.prog 24 120 4 48 (.agg #[I 0,I 0,I 0,.slice none 0 0]):=⟨T24⟩
instance:TlC Tryz.prog 27 3 1 8 (I 0):=⟨T27⟩
instance:TlC Tryz.prog 29 22 1 24 (.slice none 0 0):=⟨T29⟩
instance:TlC Tryz.prog 32 55 2 16 (.agg #[I 0,I 0]):=⟨T32⟩
instance:TlC Tryz.prog 33 57 5 40 (.agg #[I 0,I 0,I 0,I 0,I 0]):=⟨T33⟩
instance:TlC Tryz.prog 61 31 2 16 (.agg #[I 0,I 0]):=⟨T61⟩
instance:TlC Tryz.prog 93 129 2 16 (.agg #[I 0,I 0]):=⟨T93⟩
instance:ScC Tryz.prog 3:=⟨Sc3⟩
instance:ScC Tryz.prog 4:=⟨Sc4⟩
instance:ScC Tryz.prog 5:=⟨Sc5⟩
instance:ScC Tryz.prog 22:=⟨Sc22⟩
instance:ScC Tryz.prog 23:=⟨Sc23⟩
instance:ScC Tryz.prog 24:=⟨Sc24⟩
instance:ScC Tryz.prog 27:=⟨Sc27⟩
instance:ScC Tryz.prog 32:=⟨Sc32⟩
instance:ScC Tryz.prog 33:=⟨Sc33⟩
instance:ScC Tryz.prog 42:=⟨Sc42⟩
instance:ScC Tryz.prog 53:=⟨Sc53⟩
instance:ScC Tryz.prog 60:=⟨Sc60⟩
instance:ScC Tryz.prog 61:=⟨Sc61⟩
instance:ScC Tryz.prog 70:=⟨Sc70⟩
instance:ScC Tryz.prog 76:=⟨Sc76⟩
instance:ScC Tryz.prog 81:=⟨Sc81⟩
instance:ScC Tryz.prog 93:=⟨Sc93⟩
instance:ScC Tryz.prog 112:=⟨Sc112⟩
instance:ScC Tryz.prog 116:=⟨Sc116⟩
instance:ScC Tryz.prog 140:=⟨Sc140⟩
instance:ScC Tryz.prog 145:=⟨Sc145⟩
instance:ScC Tryz.prog 171:=⟨Sc171⟩
instance:SzC Tryz.prog 3 1:=⟨Sz3⟩
instance:SzC Tryz.prog 4 1:=⟨Sz4⟩
instance:SzC Tryz.prog 22 1:=⟨Sz22⟩
instance:SzC Tryz.prog 23 1:=⟨Sz23⟩
instance:SzC Tryz.prog 24 1:=⟨Sz24⟩
instance:AgC Tryz.prog 26:=⟨Ag26⟩
instance:SzC Tryz.prog 26 4:=⟨Sz26⟩
instance:SzC Tryz.prog 27 1:=⟨Sz27⟩
instance:AgC Tryz.prog 31:=⟨Ag31⟩
instance:SzC Tryz.prog 31 2:=⟨Sz31⟩
instance:SzC Tryz.prog 32 1:=⟨Sz32⟩
instance:SzC Tryz.prog 33 1:=⟨Sz33⟩
instance:AgC Tryz.prog 35:=⟨Ag35⟩
instance:SzC Tryz.prog 35 7:=⟨Sz35⟩
instance:AgC Tryz.prog 37:=⟨Ag37⟩
instance:SzC Tryz.prog 37 3:=⟨Sz37⟩
instance:SzC Tryz.prog 42 1:=⟨Sz42⟩
instance:AgC Tryz.prog 46:=⟨Ag46⟩
instance:SzC Tryz.prog 46 3:=⟨Sz46⟩
instance:SzC Tryz.prog 53 1:=⟨Sz53⟩
instance:AgC Tryz.prog 55:=⟨Ag55⟩
instance:SzC Tryz.prog 55 2:=⟨Sz55⟩
instance:AgC Tryz.prog 57:=⟨Ag57⟩
instance:SzC Tryz.prog 57 5:=⟨Sz57⟩
instance:SzC Tryz.prog 61 1:=⟨Sz61⟩
instance:SzC Tryz.prog 70 1:=⟨Sz70⟩
instance:AgC Tryz.prog 72:=⟨Ag72⟩
instance:SzC Tryz.prog 72 1:=⟨Sz72⟩
instance:SzC Tryz.prog 76 1:=⟨Sz76⟩
instance:SzC Tryz.prog 81 1:=⟨Sz81⟩
instance:AgC Tryz.prog 89:=⟨Ag89⟩
instance:SzC Tryz.prog 89 1:=⟨Sz89⟩
instance:AgC Tryz.prog 101:=⟨Ag101⟩
instance:SzC Tryz.prog 101 2:=⟨Sz101⟩
instance:SzC Tryz.prog 116 1:=⟨Sz116⟩
instance:AgC Tryz.prog 120:=⟨Ag120⟩
instance:SzC Tryz.prog 120 4:=⟨Sz120⟩
instance:AgC Tryz.prog 129:=⟨Ag129⟩
instance:SzC Tryz.prog 129 2:=⟨Sz129⟩
instance:SzC Tryz.prog 140 1:=⟨Sz140⟩
instance:AgC Tryz.prog 141:=⟨Ag141⟩
instance:SzC Tryz.prog 141 40:=⟨Sz141⟩
instance:FdC Tryz.prog 26 0 0 23:=⟨Fd26_0⟩
instance:FdC Tryz.prog 26 1 1 24:=⟨Fd26_1⟩
instance:FdC Tryz.prog 26 2 2 3:=⟨Fd26_2⟩
instance:FdC Tryz.prog 26 3 3 3:=⟨Fd26_3⟩
instance:FdC Tryz.prog 31 0 0 3:=⟨Fd31_0⟩
instance:FdC Tryz.prog 31 1 1 3:=⟨Fd31_1⟩
instance:FdC Tryz.prog 35 0 0 31:=⟨Fd35_0⟩
instance:FdC Tryz.prog 35 1 2 3:=⟨Fd35_1⟩
instance:FdC Tryz.prog 35 2 3 3:=⟨Fd35_2⟩
instance:FdC Tryz.prog 35 3 4 3:=⟨Fd35_3⟩
instance:FdC Tryz.prog 35 4 5 32:=⟨Fd35_4⟩
instance:FdC Tryz.prog 35 5 6 33:=⟨Fd35_5⟩
instance:FdC Tryz.prog 37 0 0 27:=⟨Fd37_0⟩
instance:FdC Tryz.prog 37 1 1 27:=⟨Fd37_1⟩
instance:FdC Tryz.prog 37 2 2 27:=⟨Fd37_2⟩
instance:FdC Tryz.prog 46 0 0 3:=⟨Fd46_0⟩
instance:FdC Tryz.prog 46 1 1 31:=⟨Fd46_1⟩
instance:FdC Tryz.prog 55 0 0 3:=⟨Fd55_0⟩
instance:FdC Tryz.prog 55 1 1 3:=⟨Fd55_1⟩
instance:FdC Tryz.prog 57 0 0 3:=⟨Fd57_0⟩
instance:FdC Tryz.prog 57 1 1 31:=⟨Fd57_1⟩
instance:FdC Tryz.prog 57 2 3 31:=⟨Fd57_2⟩
instance:FdC Tryz.prog 59 0 0 22:=⟨Fd59_0⟩
instance:FdC Tryz.prog 59 1 1 3:=⟨Fd59_1⟩
instance:FdC Tryz.prog 59 2 2 3:=⟨Fd59_2⟩
instance:FdC Tryz.prog 65 0 0 31:=⟨Fd65_0⟩
instance:FdC Tryz.prog 65 1 2 4:=⟨Fd65_1⟩
instance:FdC Tryz.prog 72 0 0 70:=⟨Fd72_0⟩
instance:FdC Tryz.prog 87 0 0 3:=⟨Fd87_0⟩
instance:FdC Tryz.prog 89 0 0 70:=⟨Fd89_0⟩
instance:FdC Tryz.prog 118 0 0 26:=⟨Fd118_0⟩
instance:FdC Tryz.prog 118 1 4 116:=⟨Fd118_1⟩
instance:FdC Tryz.prog 120 0 0 3:=⟨Fd120_0⟩
instance:FdC Tryz.prog 120 1 1 3:=⟨Fd120_1⟩
instance:FdC Tryz.prog 120 2 2 3:=⟨Fd120_2⟩
instance:FdC Tryz.prog 120 3 3 27:=⟨Fd120_3⟩
instance:FdC Tryz.prog 129 0 0 3:=⟨Fd129_0⟩
instance:FdC Tryz.prog 129 1 1 3:=⟨Fd129_1⟩
instance:FdC Tryz.prog 143 0 0 35:=⟨Fd143_0⟩
instance:FdC Tryz.prog 143 1 7 140:=⟨Fd143_1⟩
instance:FdC Tryz.prog 143 2 8 141:=⟨Fd143_2⟩
instance:AlC Tryz.prog 3 (I 0):=⟨Al3⟩
instance:AlC Tryz.prog 4 (B false):=⟨Al4⟩
instance:AlC Tryz.prog 26 (.agg #[.slice none 0 0,.slice none 0 0,I 0,I 0]):=⟨Al26⟩
instance:AlC Tryz.prog 27 (.slice none 0 0):=⟨Al27⟩
instance:AlC Tryz.prog 31 (.agg #[I 0,I 0]):=⟨Al31⟩
instance:AlC Tryz.prog 35 (.agg #[I 0,I 0,I 0,I 0,I 0,.slice none 0 0,.slice none 0 0]):=⟨Al35⟩
instance:AlC Tryz.prog 37 (.agg #[.slice none 0 0,.slice none 0 0,.slice none 0 0]):=⟨Al37⟩
instance:AlC Tryz.prog 42 (I 0):=⟨Al42⟩
instance:AlC Tryz.prog 46 (.agg #[I 0,I 0,I 0]):=⟨Al46⟩
instance:AlC Tryz.prog 53 (.nilFunc):=⟨Al53⟩
instance:AlC Tryz.prog 55 (.agg #[I 0,I 0]):=⟨Al55⟩
instance:AlC Tryz.prog 57 (.agg #[I 0,I 0,I 0,I 0,I 0]):=⟨Al57⟩
instance:AlC Tryz.prog 59 (.agg #[.slice none 0 0,I 0,I 0]):=⟨Al59⟩
instance:AlC Tryz.prog 61 (.slice none 0 0):=⟨Al61⟩
instance:AlC Tryz.prog 65 (.agg #[I 0,I 0,B false]):=⟨Al65⟩
instance:AlC Tryz.prog 72 (.agg #[.nilFunc]):=⟨Al72⟩
instance:AlC Tryz.prog 76 (.pointer none):=⟨Al76⟩
instance:AlC Tryz.prog 81 (.nilFunc):=⟨Al81⟩
instance:AlC Tryz.prog 87 (.agg #[I 0]):=⟨Al87⟩
instance:AlC Tryz.prog 89 (.agg #[.nilFunc]):=⟨Al89⟩
instance:AlC Tryz.prog 101 (.agg #[I 0,I 0]):=⟨Al101⟩
instance:AlC Tryz.prog 118 (.agg #[.slice none 0 0,.slice none 0 0,I 0,I 0,.map none]):=⟨Al118⟩
instance:AlC Tryz.prog 120 (.agg #[I 0,I 0,I 0,.slice none 0 0]):=⟨Al120⟩
instance:AlC Tryz.prog 129 (.agg #[I 0,I 0]):=⟨Al129⟩
instance:BdC Tryz.prog 26 [(0,1),(1,1),(2,1),(3,1)]:=⟨_,Tryz.underlying26,Bd26 Tryz.underlying26⟩
instance:BdC Tryz.prog 31 [(0,1),(1,1)]:=⟨_,Tryz.underlying31,Bd31 Tryz.underlying31⟩
instance:BdC Tryz.prog 35 [(0,2),(2,1),(3,1),(4,1),(5,1),(6,1)]:=⟨_,Tryz.underlying35,Bd35 Tryz.underlying35⟩
instance:BdC Tryz.prog 46 [(0,1),(1,2)]:=⟨_,Tryz.underlying46,Bd46 Tryz.underlying46⟩
instance:BdC Tryz.prog 55 [(0,1),(1,1)]:=⟨_,Tryz.underlying55,Bd55 Tryz.underlying55⟩
instance:BdC Tryz.prog 57 [(0,1),(1,2),(3,2)]:=⟨_,Tryz.underlying57,Bd57 Tryz.underlying57⟩
instance:BdC Tryz.prog 59 [(0,1),(1,1),(2,1)]:=⟨_,Tryz.underlying59,Bd59 Tryz.underlying59⟩
instance:BdC Tryz.prog 72 [(0,1)]:=⟨_,Tryz.underlying72,Bd72 Tryz.underlying72⟩
instance:BdC Tryz.prog 87 [(0,1)]:=⟨_,Tryz.underlying87,Bd87 Tryz.underlying87⟩
instance:BdC Tryz.prog 89 [(0,1)]:=⟨_,Tryz.underlying89,Bd89 Tryz.underlying89⟩
instance:BdC Tryz.prog 101 [(0,1),(1,1)]:=⟨_,Tryz.underlying101,Bd101 Tryz.underlying101⟩
instance:BdC Tryz.prog 118 [(0,4),(4,1)]:=⟨_,Tryz.underlying118,Bd118 Tryz.underlying118⟩
instance:BdC Tryz.prog 120 [(0,1),(1,1),(2,1),(3,1)]:=⟨_,Tryz.underlying120,Bd120 Tryz.underlying120⟩
instance:BdC Tryz.prog 129 [(0,1),(1,1)]:=⟨_,Tryz.underlying129,Bd129 Tryz.underlying129⟩
instance:BdC Tryz.prog 143 [(0,7),(7,1),(8,40)]:=⟨_,Tryz.underlying143,Bd143 Tryz.underlying143⟩
instance:AlC Tryz.prog 126 (.agg (List.flatten [[],encF (α:=Int) (List.replicate 41 0)]).toArray):=⟨Al126⟩
instance:AlC Tryz.prog 143 (.agg (List.flatten [[I 0,I 0,I 0,I 0,I 0,.slice none 0 0,.slice none 0 0,.map none],encF (α:=Bool) (List.replicate 40 false)]).toArray):=⟨Al143⟩
end Go.Proofs.YtdmdhmineljlhaaGreat
section
set_option maxRecDepth 100000
set_option maxHeartbeats 16000000
namespace Go.Proofs.YtdmdhmineljlhaaGreat
open Go Go.Nm
attribute [local irreducible] gd execOp SL SLD SLT WR
def zaa (n aa greatest:Int):M Bool :=
  M.pure ((decide (aa<=n))&&(decide (n<=greatest)))
theorem zab {R:List Chunk}  (n:Int) (aa:Int) (greatest:Int)  {r:Bool} (hM:(zaa n aa greatest).Ends r) (w:World) (H:St w w [] R):Ret Tryz.prog 25 #[I n,I aa,I greatest] w fun v w'=>∃ (y0:Bool),y0=r/\v=B y0/\St w w' [] R:=by
 refine ret_of_W Tryz.func25 rfl rfl rfl ?_;refine kg 13 ?_;refine s_val (x_pand (b:=decide (aa<=n)) (r:=decide (n<=greatest)) rfl (fun hb=>gd_of (c:=decide (aa<=n)) (by first | exact hb | (rw [hb]; rfl) | simp_all) (B (decide (n<=greatest)))) rfl) ?_;refine kg 2 ?_;refine W.ret ?_
 have ab:=M.e_pure hM
 exact ⟨_,resE_tmp rfl,⟨((decide (aa<=n))&&(decide (n<=greatest))),ab,rfl,H⟩⟩

def za3 (s:List Old10) (f:Old10->M Bool):Nat->M (Nat ⊕ (Int ⊕ Unit)):=fun s2 =>
  bif decide ((s2:Int)<(s.length:Int)) then (
  M.grd (decide ((s2:Int)<(s.length:Int))) <|
  M.bind (f (s.getD s2 default)) fun r2 =>
  bif r2 then (
  M.pure (.inr (.inl (s2:Int))))
  else (
  M.pure (.inl (s2+1))))
  else (
  M.pure (.inr (.inr ())))
def zbu (s:List Old10) (f:Old10->M Bool):M Int :=
  M.bind (M.iter (za3 s f) 0) fun x_=>match x_ with
  | (.inl s3)=>(
  M.pure s3)
  | (.inr (_:Unit))=>(
  M.pure (-1))
theorem zd2 {R:List Chunk} {ak:Cells} {ac:Value} {ae:Value} (s:List Old10) (f:Old10->M Bool) (al:Reads R ak) (am:Sl ak ac s) (ar:FnM Tryz.prog R ae f) {r:Int} (hM:(zbu s f).Ends r) (w:World) (H:St w w [] R):Ret Tryz.prog 114 #[ac,ae] w fun v w'=>∃ (y0:Int),y0=r/\v=I y0/\St w w' [] R:=by
 refine ret_of_W Tryz.func114 rfl rfl rfl ?_
 have aB:=(am).len_le
 refine kg 12 ?_;obtain ⟨au,ag,ao⟩:=M.e_bind hM
 obtain ⟨aC,ag⟩:=M.e_iter ag
 refine W.loop (fun m σ W=>∃ (s2:Nat) (ρ:Env),σ=upds ρ [(0,ac),(1,ae),(7,I (s.length:Int)),(8,I (s2:Int))]/\M.iterN (za3 s f) m s2=some au/\St w W [] R) ?_ ?_
 ·exact ⟨_,0,_,upds_of _ _ ⟨rfl,rfl,rfl,rfl,trivial⟩,ag,H⟩
 rintro aD σ aE ⟨s2,ρ,rfl,ap,H⟩
 obtain ⟨av,aw,aF,hM,ah⟩:=M.e_iterN ap
 simp only [za3] at hM
 clear ap;refine kg 5 ?_
 refine W.cond (decide ((s2:Int)<(s.length:Int))) rfl (fun aa=>?_) (fun aa=>?_)
 ·replace hM:=M.e_t hM aa
  replace aa:=dI aa
  obtain ⟨aG,hM⟩:=M.e_gd hM;refine kg 14 ?_
  obtain ⟨aq,ax,ab⟩:=Old10_atA am (i:=(s2:Int)) (by omega) (by omega)
  replace ab:Sl _ aq (s.getD s2 default).passed:=ab
  have aH:=ab.len_le
  refine s_val (x_ld (v:=.agg #[I ((s.getD s2 default).src),I ((s.getD s2 default).dst),I ((s.getD s2 default).stage),aq]) rfl (ld_ag Ag120 Sz120 (At.mono ax (al.at H)))) ?_;obtain ⟨r2,ay,hM⟩:=M.e_bind hM;refine t_callM H ar rfl rfl (s.getD s2 default) (al.app _) ⟨_,Old10_mk ab,rfl⟩ ay ?_;intro aI H;refine s_nil ?_
  refine W.cond r2 rfl (fun ai=>?_) (fun ai=>?_)
  ·replace hM:=M.e_t hM ai;refine kg 5 ?_;refine W.ret ?_
   have az:=M.e_inr hM ah
   subst az;replace hM:=ao;(try dsimp only at hM)
   have aj:=M.e_pure hM
   exact ⟨_,resE_tmp rfl,⟨(s2:Int),aj,rfl,H⟩⟩
  replace hM:=M.e_f hM ai;refine kg 5 ?_
  exact ⟨av,aw,s2+1,_,upds_of _ _ ⟨rfl,rfl,rfl,rfl,trivial⟩,M.e_inl hM ah,H⟩
 replace hM:=M.e_f hM aa
 replace aa:=dI aa
 refine W.exit ?_
 have aA:=M.e_inr hM ah
 subst aA;replace hM:=ao;(try dsimp only at hM);refine kg 4 ?_;refine W.ret ?_
 have aj:=M.e_pure hM
 exact ⟨_,resE_tmp rfl,⟨(-1),aj,rfl,H⟩⟩

def zcl (s:List Old10) (f:Old10->M Bool):M Bool :=
  M.bind (zbu s f) fun r2 =>
  M.pure (decide (0<=r2))
theorem zd5 {R:List Chunk} {ac:Cells} {aa:Value} {ab:Value} (s:List Old10) (f:Old10->M Bool) (ag:Reads R ac) (ah:Sl ac aa s) (ai:FnM Tryz.prog R ab f) {r:Bool} (hM:(zcl s f).Ends r) (w:World) (H:St w w [] R):Ret Tryz.prog 94 #[aa,ab] w fun v w'=>∃ (y0:Bool),y0=r/\v=B y0/\St w w' [] R:=by
 refine ret_of_W Tryz.func94 rfl rfl rfl ?_;refine kg 8 ?_;obtain ⟨al,aj,hM⟩:=M.e_bind hM;refine s_call cf114 [aa,ab] rfl (zd2 s f (ag.app _) ah (ai.app _) aj _ (H.gt 0)) ?_
 rintro vq am ⟨r2,rfl,hvq,ae⟩
 subst vq;(try dsimp only at hM);replace H:=H.bk ae;clear ae;refine kg 3 ?_;refine W.ret ?_
 have ak:=M.e_pure hM
 exact ⟨_,resE_tmp rfl,⟨(decide (0<=r2)),ak,rfl,H⟩⟩

def zaT (x:Old10) (aa:Old10->M Bool):M Bool :=
  M.bind (aa x) fun r2 =>
  M.pure (!r2)
theorem zdH {R:List Chunk} {ab:Cells} {aa:Value} {ac:Nat} {ae:Value} (x:Old10) (ag:Old10->M Bool) (ah:Reads R ab) (ai:Sl ab aa x.passed) (aj:FnM Tryz.prog R ae ag) (am:Has R (cBlk ac [ae] 145)) {r:Bool} (hM:(zaT x ag).Ends r) (w:World) (H:St w w [] R):Ret Tryz.prog 95 #[.agg #[I x.src,I x.dst,I x.stage,aa],Pq ac] w fun v w'=>∃ (y0:Bool),y0=r/\v=B y0/\St w w' [] R:=by
 refine ret_of_W Tryz.func95 rfl rfl rfl ?_;refine kg 2 ?_;refine t_bx [I x.src,I x.dst,I x.stage,aa] H rfl ?_;intro ao ap H;refine kg 6 ?_;obtain ⟨r2,ak,hM⟩:=M.e_bind hM;refine t_callM H aj rfl rfl x (ah.app _) ⟨_,Old10_mk ai,rfl⟩ ak ?_;intro aq H;refine kg 3 ?_;refine W.ret ?_
 have al:=M.e_pure hM
 exact ⟨_,resE_tmp rfl,⟨(!r2),al,rfl,(H.pk [])⟩⟩

def za8 (l:List Old10) (so:Old10->M Bool):M Bool :=
  M.bind (zcl l (fun aa=>zaT aa so)) fun r2 =>
  M.pure (!r2)
theorem zcC {R:List Chunk} {ag:Cells} {ab:Value} {aa:Value} (l:List Old10) (so:Old10->M Bool) (ak:Reads R ag) (al:Sl ag ab l) (ah:FnM Tryz.prog R aa so) {r:Bool} (hM:(za8 l so).Ends r) (w:World) (H:St w w [] R):Ret Tryz.prog 81 #[ab,aa] w fun v w'=>∃ (y0:Bool),y0=r/\v=B y0/\St w w' [] R:=by
 refine ret_of_W Tryz.func81 rfl rfl rfl ?_;refine kg 2 ?_;refine t_box (v:=aa) (cs:=[aa]) H rfl (FnM.cells ah) ?_;intro ac aA H;refine kg 5 ?_;refine s_val (x_mf (fs:=[]) (cs:=[Pq ac]) rfl rfl) ?_;obtain ⟨aB,am,hM⟩:=M.e_bind hM;refine s_call cf94 [ab,.func (.func 95) #[] #[Pq ac]] rfl (zd5 l (fun ae=>zaT ae so) (ak.app _) al ⟨95,[Pq ac],rfl,cf95,fun ai aC aD ao ae aE ap aq ar au=>by obtain ⟨aF,rfl,av⟩:=Old10_arg ar; exact (zdH ae so aq av (FnM.app (ah.app _) _) (Has.app (Has.here (k:=0) rfl) _) au ai (St.refl ap)).mono fun ao ai ⟨aG,aw,ax,ay⟩=>by subst aw; exact ⟨ax,ay⟩⟩ am _ (H.gt 1)) ?_
 rintro vq aH ⟨r2,rfl,hvq,aj⟩
 subst vq;(try dsimp only at hM);replace H:=H.bk aj;clear aj;refine kg 3 ?_;refine W.ret ?_
 have az:=M.e_pure hM
 exact ⟨_,resE_tmp rfl,⟨(!r2),az,rfl,(H.pk [])⟩⟩

def zbT (o:Old10):M Bool :=
  M.pure (decide ((o.passed.length:Int)<=10))
theorem zdJ {R:List Chunk} {ab:Cells} {aa:Value} (o:Old10) (ag:Reads R ab) (ac:Sl ab aa o.passed) {r:Bool} (hM:(zbT o).Ends r) (w:World) (H:St w w [] R):Ret Tryz.prog 80 #[.agg #[I o.src,I o.dst,I o.stage,aa]] w fun v w'=>∃ (y0:Bool),y0=r/\v=B y0/\St w w' [] R:=by
 refine ret_of_W Tryz.func80 rfl rfl rfl ?_;refine kg 2 ?_;refine t_bx [I o.src,I o.dst,I o.stage,aa] H rfl ?_;intro ah ai H
 have aj:=(ac).len_le
 refine kg 10 ?_;refine W.ret ?_
 have ae:=M.e_pure hM
 exact ⟨_,resE_tmp rfl,⟨(decide ((o.passed.length:Int)<=10)),ae,rfl,(H.pk [])⟩⟩

def zbC (ac:List Yr) (ae:List Old10) (aa ab:Int) (x2:Yr):M Bool :=
  M.bind (zaa x2.year aa ab) fun r2 =>
  M.bind (M.opt r2 (zaa x2.lo 0 x2.hi) false) fun r3 =>
  M.bind (M.opt (r2&&r3) (zaa x2.hi 0 2000) false) fun r4 =>
  M.pure ((r2&&r3)&&r4)
theorem zdB {R:List Chunk} {ai:Cells} {ae:Value} {aj:Cells} {ag:Value} (ak:List Yr) (al:List Old10) (aa:Int) (ab:Int) (x2:Yr) (av:Reads R ai) (aw:Sl ai ae ak) (ax:Reads R aj) (ay:Sl aj ag al) {r:Bool} (hM:(zbC ak al aa ab x2).Ends r) (w:World) (H:St w w [] R):Ret Tryz.prog 82 #[.agg #[ae,ag,I aa,I ab],.iface 46 (.agg #[I x2.year,I x2.lo,I x2.hi])] w fun v w'=>∃ (y0:Bool),y0=r/\v=B y0/\St w w' [] R:=by
 refine ret_of_W Tryz.func82 rfl rfl rfl ?_;refine kg 2 ?_;refine t_bx [ae,ag,I aa,I ab] H rfl ?_;intro az aA H;refine kg 10 ?_;refine s_val (x_ta0 (z:=.agg #[I 0,I 0]) Tryz.underlying129 (by intro m h_; cases h_) (by decide) Al129 rfl) ?_;refine kg 3 ?_
 refine W.cond false rfl (fun am=>?_) (fun am=>?_)
 ·skip
  exact absurd am (by decide)
 skip
 refine kg 2 ?_;refine s_val (x_ta1 (v:=.agg #[I x2.year,I x2.lo,I x2.hi]) Tryz.underlying46 (by intro m h_; cases h_) rfl) ?_;refine kg 3 ?_
 refine W.cond true rfl (fun ao=>?_) (fun ao=>?_)
 ·skip
  refine kg 2 ?_;refine t_alloc (cs:=[I 0,I 0,I 0]) H Al46 rfl ?_;intro aB aC H;refine t_sw 0 0 [I x2.year,I x2.lo,I x2.hi] (.agg #[I x2.year,I x2.lo,I x2.hi]) H rfl rfl Sz46 rfl rfl rfl rfl ?_;intro aD H;refine kg 9 ?_;obtain ⟨aE,aq,hM⟩:=M.e_bind hM;refine s_call cf25 [I x2.year,I aa,I ab] rfl (zab x2.year aa ab aq _ (H.gt 2)) ?_
  rintro vq aF ⟨r2,rfl,hvq,ap⟩
  subst vq;(try dsimp only at hM);replace H:=H.bk ap;clear ap;refine kg 7 ?_;obtain ⟨r3,ar,hM⟩:=M.e_bind hM;refine t_gcall r2 (gy_t rfl) cf25 (B r3) (fun _=>[I x2.lo,I 0,I x2.hi]) (fun hg=>lst3 (gd_of hg (I x2.lo)) rfl (gd_of hg (I x2.hi))) H (fun hg=>(zab x2.lo 0 x2.hi (M.e_opt ar hg) _ (H.give (A:=[]) rfl)).mono fun v_ w_ ⟨y_,ac,ah,H_⟩=>by subst ac; exact ⟨ah,H.via H_⟩) ?_;intro aG H;refine s_val (x_pand (b:=r2) (r:=r3) rfl (fun hb=>gd_of (c:=r2) (by first | exact hb | (rw [hb]; rfl) | simp_all) (B r3)) rfl) ?_;refine kg 4 ?_;obtain ⟨r4,au,hM⟩:=M.e_bind hM;refine t_gcall (r2&&r3) (gy_t rfl) cf25 (B r4) (fun _=>[I x2.hi,I 0,I 2000]) (fun hg=>lst3 (gd_of hg (I x2.hi)) rfl rfl) H (fun hg=>(zab x2.hi 0 2000 (M.e_opt au hg) _ (H.give (A:=[]) rfl)).mono fun v_ w_ ⟨y_,ac,ah,H_⟩=>by subst ac; exact ⟨ah,H.via H_⟩) ?_;intro aH H;refine s_val (x_pand (b:=(r2&&r3)) (r:=r4) rfl (fun hb=>gd_of (c:=(r2&&r3)) (by first | exact hb | (rw [hb]; rfl) | simp_all) (B r4)) rfl) ?_;refine kg 2 ?_;replace H:=H.pk [];refine W.ret ?_
  have ac:=M.e_pure hM
  exact ⟨_,resE_tmp rfl,⟨((r2&&r3)&&r4),ac,rfl,H⟩⟩
 skip
 exact absurd ao (by decide)

def zaV (l:List Int) (last:Int):(Int × Nat)->M ((Int × Nat) ⊕ (Unit ⊕ Unit)):=fun (first2,s) =>
  bif decide ((s:Int)<(l.length:Int)) then (
  M.grd (decide ((s:Int)<(l.length:Int))) <|
  M.bind (zaa (l.getD s 0) first2 last) fun r2 =>
  bif !r2 then (
  M.pure (.inr (.inl ())))
  else (
  M.grd (decide ((-9223372036854775808:Int)<=((l.getD s 0)+1))&&decide (((l.getD s 0)+1)<=(9223372036854775807:Int))) <|
  M.pure (.inl ((l.getD s 0)+1,s+1))))
  else (
  M.pure (.inr (.inr ())))
def zaF (l:List Int) (first last:Int):M Bool :=
  M.bind (M.iter (zaV l last) (first,0)) fun x_=>match x_ with
  | (.inl (_:Unit))=>(
  M.pure false)
  | (.inr (_:Unit))=>(
  M.pure true)
theorem zcS {R:List Chunk} {ai:Cells} {ab:Value} (l:List Int) (first:Int) (last:Int) (aw:Reads R ai) (am:Sl ai ab l) {r:Bool} (hM:(zaF l first last).Ends r) (w:World) (H:St w w [] R):Ret Tryz.prog 66 #[ab,I first,I last] w fun v w'=>∃ (y0:Bool),y0=r/\v=B y0/\St w w' [] R:=by
 refine ret_of_W Tryz.func66 rfl rfl rfl ?_
 have ax:=(am).len_le
 refine kg 12 ?_;obtain ⟨ao,ac,aj⟩:=M.e_bind hM
 obtain ⟨ay,ac⟩:=M.e_iter ac
 refine W.loop (fun m σ W=>∃ (first2:Int) (s:Nat) (ρ:Env),σ=upds ρ [(1,I first2),(2,I last),(9,ab),(10,I (l.length:Int)),(11,I (s:Int))]/\M.iterN (zaV l last) m (first2,s)=some ao/\St w W [] R) ?_ ?_
 ·exact ⟨_,first,0,_,upds_of _ _ ⟨rfl,rfl,rfl,rfl,rfl,trivial⟩,ac,H⟩
 rintro az σ aA ⟨first2,s,ρ,rfl,ak,H⟩
 obtain ⟨ap,aq,aB,hM,ae⟩:=M.e_iterN ak
 simp only [zaV] at hM
 clear ak;refine kg 5 ?_
 refine W.cond (decide ((s:Int)<(l.length:Int))) rfl (fun aa=>?_) (fun aa=>?_)
 ·replace hM:=M.e_t hM aa
  replace aa:=dI aa
  obtain ⟨aC,hM⟩:=M.e_gd hM;refine kg 15 ?_;obtain ⟨aD,ar,hM⟩:=M.e_bind hM;refine s_call cf25 [I (l.getD s 0),I first2,I last] rfl (zab (l.getD s 0) first2 last ar _ (H.gt 0)) ?_
  rintro vq aE ⟨r2,rfl,hvq,al⟩
  subst vq;(try dsimp only at hM);replace H:=H.bk al;clear al;refine kg 2 ?_
  refine W.cond (!r2) rfl (fun ag=>?_) (fun ag=>?_)
  ·replace hM:=M.e_t hM ag;refine kg 4 ?_;refine W.ret ?_
   have au:=M.e_inr hM ae
   subst au;replace hM:=aj;(try dsimp only at hM)
   have ah:=M.e_pure hM
   exact ⟨_,resE_tmp rfl,⟨false,ah,rfl,H⟩⟩
  replace hM:=M.e_f hM ag;obtain ⟨aF,hM⟩:=M.e_gd hM;refine kg 10 ?_
  exact ⟨ap,aq,(l.getD s 0)+1,s+1,_,upds_of _ _ ⟨rfl,rfl,rfl,rfl,rfl,trivial⟩,M.e_inl hM ae,H⟩
 replace hM:=M.e_f hM aa
 replace aa:=dI aa
 refine W.exit ?_
 have av:=M.e_inr hM ae
 subst av;replace hM:=aj;(try dsimp only at hM);refine kg 4 ?_;refine W.ret ?_
 have ah:=M.e_pure hM
 exact ⟨_,resE_tmp rfl,⟨true,ah,rfl,H⟩⟩

def zcy (ac:List Yr) (ae:List Old10) (aa ab:Int) (x2:Old10):M Bool :=
  M.bind (zaa x2.src aa x2.dst) fun r2 =>
  M.bind (M.opt r2 (zaa x2.dst aa ab) false) fun r3 =>
  M.bind (M.opt (r2&&r3) (zaa x2.stage 1 2000) false) fun r4 =>
  M.bind (M.opt ((r2&&r3)&&r4) (zaF x2.passed x2.src x2.dst) false) fun r5 =>
  M.pure (((r2&&r3)&&r4)&&r5)
theorem zdS {R:List Chunk} {aj:Cells} {ah:Value} {ak:Cells} {ai:Value} {al:Cells} {ab:Value} (am:List Yr) (ao:List Old10) (aa:Int) (ae:Int) (x2:Old10) (aB:Reads R aj) (aC:Sl aj ah am) (aD:Reads R ak) (aE:Sl ak ai ao) (aw:Reads R al) (ap:Sl al ab x2.passed) {r:Bool} (hM:(zcy am ao aa ae x2).Ends r) (w:World) (H:St w w [] R):Ret Tryz.prog 82 #[.agg #[ah,ai,I aa,I ae],.iface 120 (.agg #[I x2.src,I x2.dst,I x2.stage,ab])] w fun v w'=>∃ (y0:Bool),y0=r/\v=B y0/\St w w' [] R:=by
 refine ret_of_W Tryz.func82 rfl rfl rfl ?_;refine kg 2 ?_;refine t_bx [ah,ai,I aa,I ae] H rfl ?_;intro aF aG H;refine kg 10 ?_;refine s_val (x_ta0 (z:=.agg #[I 0,I 0]) Tryz.underlying129 (by intro m h_; cases h_) (by decide) Al129 rfl) ?_;refine kg 3 ?_
 refine W.cond false rfl (fun aq=>?_) (fun aq=>?_)
 ·skip
  exact absurd aq (by decide)
 skip
 refine kg 2 ?_;refine s_val (x_ta0 (z:=.agg #[I 0,I 0,I 0]) Tryz.underlying46 (by intro m h_; cases h_) (by decide) Al46 rfl) ?_;refine kg 3 ?_
 refine W.cond false rfl (fun ar=>?_) (fun ar=>?_)
 ·skip
  exact absurd ar (by decide)
 skip
 refine kg 2 ?_;refine s_val (x_ta1 (v:=.agg #[I x2.src,I x2.dst,I x2.stage,ab]) Tryz.underlying120 (by intro m h_; cases h_) rfl) ?_;refine kg 3 ?_
 refine W.cond true rfl (fun au=>?_) (fun au=>?_)
 ·skip
  refine kg 2 ?_;refine t_alloc (cs:=[I 0,I 0,I 0,.slice none 0 0]) H Al120 rfl ?_;intro aH aI H;refine t_sw 0 0 [I x2.src,I x2.dst,I x2.stage,ab] (.agg #[I x2.src,I x2.dst,I x2.stage,ab]) H rfl rfl Sz120 rfl rfl rfl (by simp only [List.all_cons,List.all_nil,Bool.true_and,Bool.and_true,Sl.oc ap]; try rfl) ?_;intro aJ H;refine kg 9 ?_;obtain ⟨aK,ax,hM⟩:=M.e_bind hM;refine s_call cf25 [I x2.src,I aa,I x2.dst] rfl (zab x2.src aa x2.dst ax _ (H.gt 2)) ?_
  rintro vq aL ⟨r2,rfl,hvq,av⟩
  subst vq;(try dsimp only at hM);replace H:=H.bk av;clear av;refine kg 7 ?_;obtain ⟨r3,ay,hM⟩:=M.e_bind hM;refine t_gcall r2 (gy_t rfl) cf25 (B r3) (fun _=>[I x2.dst,I aa,I ae]) (fun hg=>lst3 (gd_of hg (I x2.dst)) (gd_of hg (I aa)) (gd_of hg (I ae))) H (fun hg=>(zab x2.dst aa ae (M.e_opt ay hg) _ (H.give (A:=[]) rfl)).mono fun v_ w_ ⟨y_,ac,ag,H_⟩=>by subst ac; exact ⟨ag,H.via H_⟩) ?_;intro aM H;refine s_val (x_pand (b:=r2) (r:=r3) rfl (fun hb=>gd_of (c:=r2) (by first | exact hb | (rw [hb]; rfl) | simp_all) (B r3)) rfl) ?_;refine kg 3 ?_;obtain ⟨r4,az,hM⟩:=M.e_bind hM;refine t_gcall (r2&&r3) (gy_t rfl) cf25 (B r4) (fun _=>[I x2.stage,I 1,I 2000]) (fun hg=>lst3 (gd_of hg (I x2.stage)) rfl rfl) H (fun hg=>(zab x2.stage 1 2000 (M.e_opt az hg) _ (H.give (A:=[]) rfl)).mono fun v_ w_ ⟨y_,ac,ag,H_⟩=>by subst ac; exact ⟨ag,H.via H_⟩) ?_;intro aN H;refine s_val (x_pand (b:=(r2&&r3)) (r:=r4) rfl (fun hb=>gd_of (c:=(r2&&r3)) (by first | exact hb | (rw [hb]; rfl) | simp_all) (B r4)) rfl) ?_;refine kg 7 ?_;obtain ⟨r5,aA,hM⟩:=M.e_bind hM;refine t_gcall ((r2&&r3)&&r4) (gy_t rfl) cf66 (B r5) (fun _=>[ab,I x2.src,I x2.dst]) (fun hg=>lst3 (gd_of hg (ab)) (gd_of hg (I x2.src)) (gd_of hg (I x2.dst))) H (fun hg=>(zcS x2.passed x2.src x2.dst (aw.app _) ap (M.e_opt aA hg) _ (H.give (A:=[]) rfl)).mono fun v_ w_ ⟨y_,ac,ag,H_⟩=>by subst ac; exact ⟨ag,H.via H_⟩) ?_;intro aO H;refine s_val (x_pand (b:=((r2&&r3)&&r4)) (r:=r5) rfl (fun hb=>gd_of (c:=((r2&&r3)&&r4)) (by first | exact hb | (rw [hb]; rfl) | simp_all) (B r5)) rfl) ?_;refine kg 2 ?_;replace H:=H.pk [];refine W.ret ?_
  have ac:=M.e_pure hM
  exact ⟨_,resE_tmp rfl,⟨(((r2&&r3)&&r4)&&r5),ac,rfl,H⟩⟩
 skip
 exact absurd au (by decide)

def zbi (o:Old10) (aa:List Yr) (ab:List Old10) (ac ae:Int):M Bool :=
  M.bind (zcy aa ab ac ae o) fun r2 =>
  M.pure r2
theorem zd0 {R:List Chunk} {aj:Cells} {ac:Value} {ak:Nat} {al:Cells} {ae:Value} {am:Cells} {ag:Value} (o:Old10) (ah:List Yr) (ai:List Old10) (aa:Int) (ab:Int) (ap:Reads R aj) (aq:Sl aj ac o.passed) (ar:Reads R al) (au:Sl al ae ah) (av:Reads R am) (aw:Sl am ag ai) (ax:Has R (cBlk ak [ae,ag,I aa,I ab] 26)) {r:Bool} (hM:(zbi o ah ai aa ab).Ends r) (w:World) (H:St w w [] R):Ret Tryz.prog 83 #[.agg #[I o.src,I o.dst,I o.stage,ac],Pq ak] w fun v w'=>∃ (y0:Bool),y0=r/\v=B y0/\St w w' [] R:=by
 refine ret_of_W Tryz.func83 rfl rfl rfl ?_;refine kg 2 ?_;refine t_bx [I o.src,I o.dst,I o.stage,ac] H rfl ?_;intro aA aB H;refine kg 4 ?_;refine s_val (x_ld (v:=.agg #[ae,ag,I aa,I ab]) rfl (ldb_ag (ds:=[ae,ag,I aa,I ab]) Ag26 Sz26 (ax.blk H) rfl rfl)) ?_;refine kg 1 ?_;refine s_val (x_mi (v:=.agg #[I o.src,I o.dst,I o.stage,ac]) Tryz.underlying120 (by intro m h_; cases h_) rfl) ?_;obtain ⟨aC,ay,hM⟩:=M.e_bind hM;refine s_call cf82 [.agg #[ae,ag,I aa,I ab],.iface 120 (.agg #[I o.src,I o.dst,I o.stage,ac])] rfl (zdS ah ai aa ab o (ar.app _) au (av.app _) aw (ap.app _) aq ay _ (H.gt 1)) ?_
 rintro vq aD ⟨r2,rfl,hvq,ao⟩
 subst vq;(try dsimp only at hM);replace H:=H.bk ao;clear ao;refine kg 2 ?_;refine W.ret ?_
 have az:=M.e_pure hM
 exact ⟨_,resE_tmp rfl,⟨r2,az,rfl,(H.pk [])⟩⟩

def zaK (aa:List Yr) (ab:List Old10) (ac ae:Int):Nat->M (Nat ⊕ (Int ⊕ Unit)):=fun s =>
  bif decide ((s:Int)<(aa.length:Int)) then (
  M.grd (decide ((s:Int)<(aa.length:Int))) <|
  M.bind (zbC aa ab ac ae (aa.getD s default)) fun r5 =>
  bif !r5 then (
  M.pure (.inr (.inl 110)))
  else (
  M.grd ((!(decide (0<(s:Int)))||(decide ((-9223372036854775808:Int)<=((s:Int)-1))&&decide (((s:Int)-1)<=(9223372036854775807:Int))))) <|
  M.grd ((!(decide (0<(s:Int)))||(decide ((0:Int)<=((s:Int)-1))&&decide (((s:Int)-1)<(aa.length:Int))))) <|
  bif ((decide (0<(s:Int)))&&(decide (((aa.getD s default).year)<=((aa.getD (Int.toNat ((s:Int)-1)) default).year)))) then (
  M.pure (.inr (.inl 9)))
  else (
  M.pure (.inl (s+1)))))
  else (
  M.pure (.inr (.inr ())))
def zbY (ae:List Yr) (ab:List Old10) (ac aa:Int):M Int :=
  M.bind (zaa ac 0 aa) fun r2 =>
  M.bind (M.opt (!(!r2)) (zaa aa 0 3000) false) fun r3 =>
  M.grd ((!(!((!r2)||(!r3)))||(decide ((-9223372036854775808:Int)<=(aa-ac))&&decide ((aa-ac)<=(9223372036854775807:Int))))) <|
  bif (((!r2)||(!r3))||(decide (1000<=(aa-ac)))) then (
  M.pure 110)
  else (
  M.bind (M.opt (!((decide (60<(ae.length:Int)))||(decide (8<(ab.length:Int))))) (za8 ab (fun ag=>zbT ag)) false) fun r4 =>
  bif (((decide (60<(ae.length:Int)))||(decide (8<(ab.length:Int))))||(!r4)) then (
  M.pure 3)
  else (
  M.bind (M.iter (zaK ae ab ac aa) 0) fun x_=>match x_ with
  | (.inl s2)=>(
  M.pure s2)
  | (.inr (_:Unit))=>(
  M.bind (za8 ab (fun ag=>zbi ag ae ab ac aa)) fun r6 =>
  bif !r6 then (
  M.pure 110)
  else (
  M.pure 0))))
theorem zdg {R:List Chunk} {aR:Cells} {ak:Value} {aS:Cells} {ai:Value} (aa:List Yr) (ae:List Old10) (ac:Int) (ab:Int) (aT:Reads R aR) (aq:Sl aR ak aa) (ar:Reads R aS) (ao:Sl aS ai ae) {r:Int} (hM:(zbY aa ae ac ab).Ends r) (w:World) (H:St w w [] R):Ret Tryz.prog 51 #[.agg #[ak,ai,I ac,I ab]] w fun v w'=>∃ (y0:Int),y0=r/\v=I y0/\St w w' [] R:=by
 refine ret_of_W Tryz.func51 rfl rfl rfl ?_;refine kg 2 ?_;refine t_bx [ak,ai,I ac,I ab] H rfl ?_;intro ah bn H;refine kg 14 ?_;obtain ⟨bo,aV,hM⟩:=M.e_bind hM;refine s_call cf25 [I ac,I 0,I ab] rfl (zab ac 0 ab aV _ (H.gt 1)) ?_
 rintro vq bp ⟨r2,rfl,hvq,aj⟩
 subst vq;(try dsimp only at hM);replace H:=H.bk aj;clear aj;refine kg 4 ?_;obtain ⟨r3,aW,hM⟩:=M.e_bind hM;refine t_gcall (!(!r2)) (gy_f rfl) cf25 (B r3) (fun _=>[I ab,I 0,I 3000]) (fun hg=>lst3 (gd_of hg (I ab)) rfl rfl) H (fun hg=>(zab ab 0 3000 (M.e_opt aW hg) _ (H.give (A:=[]) rfl)).mono fun v_ w_ ⟨y_,ag,ax,H_⟩=>by subst ag; exact ⟨ax,H.via H_⟩) ?_;intro br H;refine kg 1 ?_;refine s_val (x_por (b:=!r2) (r:=!r3) rfl rfl (fun hb=>gd_of (c:=!(!r2)) (by first | exact hb | (rw [hb]; rfl) | simp_all) (B (!r3))))<|zM (B ((!r2)||(!r3))) rfl<|g_val (!((!r2)||(!r3))) (gy_f rfl) (fun hg=>x_fa (v:=Oq ah 3) rfl (fa_blk (o:=0) Fd26_3 Sz3))<|g_val (!((!r2)||(!r3))) (gy_f rfl) (fun hg=>x_ld (v:=I ab) (gd_of hg (Oq ah 3)) (ldb_sc Sc3 (H.bl 0) rfl))<|g_val (!((!r2)||(!r3))) (gy_f rfl) (fun hg=>x_fa (v:=Oq ah 2) rfl (fa_blk (o:=0) Fd26_2 Sz3))<|g_val (!((!r2)||(!r3))) (gy_f rfl) (fun hg=>x_ld (v:=I ac) (gd_of hg (Oq ah 2)) (ldb_sc Sc3 (H.bl 0) rfl)) ?_;obtain ⟨au,hM⟩:=M.e_grd hM
 replace au:=M.imp_of au
 simp only [Bool.and_eq_true,decide_eq_true_eq] at au
 refine g_val (!((!r2)||(!r3))) (gy_f rfl) (fun hg=>x_ari (r:=ab-ac) (gd_of hg (I ab)) (gd_of hg (I ac)) rfl (by have ay:=au.resolve_left (by rw [hg]; decide); first | exact ay | exact ay.1 | exact ay.2 | omega | (have av:=hg; simp at av; omega)))<|g_val (!((!r2)||(!r3))) (gy_f rfl) (fun hg=>x_cmp (kd:=.i64) (r:=decide (1000<=(ab-ac))) (gd_of hg (I (ab-ac))) rfl rfl)<|s_val (x_por (b:=((!r2)||(!r3))) (r:=decide (1000<=(ab-ac))) rfl rfl (fun hb=>gd_of (c:=!((!r2)||(!r3))) (by first | exact hb | (rw [hb]; rfl) | simp_all) (B (decide (1000<=(ab-ac))))))<|zA (B (((!r2)||(!r3))||(decide (1000<=(ab-ac))))) rfl<|s_nil ?_
 refine W.cond (((!r2)||(!r3))||(decide (1000<=(ab-ac)))) rfl (fun az=>?_) (fun az=>?_)
 ·replace hM:=M.e_t hM az;refine kg 4 ?_;refine W.ret ?_
  have ag:=M.e_pure hM
  exact ⟨_,resE_tmp rfl,⟨110,ag,rfl,(H.pk [])⟩⟩
 replace hM:=M.e_f hM az
 have bt:=(aq).len_le
 have bu:=(ao).len_le
 refine kg 11 ?_;refine s_val (x_por (b:=decide (60<(aa.length:Int))) (r:=decide (8<(ae.length:Int))) rfl rfl (fun hb=>gd_of (c:=!(decide (60<(aa.length:Int)))) (by first | exact hb | (rw [hb]; rfl) | simp_all) (B (decide (8<(ae.length:Int))))))<|zM (B ((decide (60<(aa.length:Int)))||(decide (8<(ae.length:Int))))) rfl<|g_val (!((decide (60<(aa.length:Int)))||(decide (8<(ae.length:Int))))) (gy_f rfl) (fun hg=>x_fa (v:=Oq ah 1) rfl (fa_blk (o:=0) Fd26_1 Sz24))<|g_val (!((decide (60<(aa.length:Int)))||(decide (8<(ae.length:Int))))) (gy_f rfl) (fun hg=>x_ld (v:=ai) (gd_of hg (Oq ah 1)) (ldb_sc Sc24 (H.bl 0) rfl))<|g_val (!((decide (60<(aa.length:Int)))||(decide (8<(ae.length:Int))))) (gy_f rfl) (fun hg=>x_mv (v:=.func (.func 80) #[] #[]) rfl) ?_;obtain ⟨r4,aX,hM⟩:=M.e_bind hM;refine t_gcall (!((decide (60<(aa.length:Int)))||(decide (8<(ae.length:Int))))) (gy_f rfl) cf81 (B r4) (fun _=>[ai,.func (.func 80) #[] #[]]) (fun hg=>lst2 (gd_of hg (ai)) (gd_of hg (.func (.func 80) #[] #[]))) H (fun hg=>(zcC ae (fun al=>zbT al) (ar.app _) ao ⟨80,[],rfl,cf80,fun ap aY aZ aA al a6 aB aC aD aE=>by obtain ⟨a7,rfl,aF⟩:=Old10_arg aD; exact (zdJ al aC aF aE ap (St.refl aB)).mono fun aA ap ⟨a8,aG,aH,aI⟩=>by subst aG; exact ⟨aH,aI⟩⟩ (M.e_opt aX hg) _ (H.give (A:=[]) rfl)).mono fun v_ w_ ⟨y_,ag,ax,H_⟩=>by subst ag; exact ⟨ax,H.via H_⟩) ?_;intro bv H;refine g_val (!((decide (60<(aa.length:Int)))||(decide (8<(ae.length:Int))))) (gy_f rfl) (fun hg=>x_not (b:=r4) (gd_of hg (B r4)))<|s_val (x_por (b:=((decide (60<(aa.length:Int)))||(decide (8<(ae.length:Int))))) (r:=!r4) rfl rfl (fun hb=>gd_of (c:=!((decide (60<(aa.length:Int)))||(decide (8<(ae.length:Int))))) (by first | exact hb | (rw [hb]; rfl) | simp_all) (B (!r4))))<|zA (B (((decide (60<(aa.length:Int)))||(decide (8<(ae.length:Int))))||(!r4))) rfl<|s_nil ?_
 refine W.cond (((decide (60<(aa.length:Int)))||(decide (8<(ae.length:Int))))||(!r4)) rfl (fun aJ=>?_) (fun aJ=>?_)
 ·replace hM:=M.e_t hM aJ;refine kg 4 ?_;refine W.ret ?_
  have ag:=M.e_pure hM
  exact ⟨_,resE_tmp rfl,⟨3,ag,rfl,(H.pk [])⟩⟩
 replace hM:=M.e_f hM aJ
 have bw:=(aq).len_le
 refine kg 10 ?_;obtain ⟨ba,aK,aL⟩:=M.e_bind hM
 obtain ⟨bx,aK⟩:=M.e_iter aK
 refine W.loop (fun m σ W=>∃ (s:Nat) (ρ:Env),σ=upds ρ [(1,Pq ah),(46,ak),(47,I (aa.length:Int)),(48,I (s:Int))]/\M.iterN (zaK aa ae ac ab) m s=some ba/\St w W [cBlk ah [ak,ai,I ac,I ab] 26] R) ?_ ?_
 ·exact ⟨_,0,_,upds_of _ _ ⟨rfl,rfl,rfl,rfl,trivial⟩,aK,H⟩
 rintro bz σ bA ⟨s,ρ,rfl,aU,H⟩
 obtain ⟨bb,bc,bB,hM,aw⟩:=M.e_iterN aU
 simp only [zaK] at hM
 clear aU;refine kg 5 ?_
 refine W.cond (decide ((s:Int)<(aa.length:Int))) rfl (fun am=>?_) (fun am=>?_)
 ·replace hM:=M.e_t hM am
  replace am:=dI am
  obtain ⟨bC,hM⟩:=M.e_gd hM;refine kg 8 ?_;refine t_alloc (cs:=[I 0,I 0,I 0]) H Al46 rfl ?_;intro bf bD H;refine kg 1 ?_;refine t_sw 0 0 [I ((aa.getD s default).year),I ((aa.getD s default).lo),I ((aa.getD s default).hi)] (.agg #[I ((aa.getD s default).year),I ((aa.getD s default).lo),I ((aa.getD s default).hi)]) H rfl rfl Sz46 rfl rfl rfl rfl ?_;intro bE H;refine kg 6 ?_;refine s_val (x_mi (v:=.agg #[I ((aa.getD s default).year),I ((aa.getD s default).lo),I ((aa.getD s default).hi)]) Tryz.underlying46 (by intro m h_; cases h_) rfl) ?_;obtain ⟨bF,bg,hM⟩:=M.e_bind hM;refine s_call cf82 [.agg #[ak,ai,I ac,I ab],.iface 46 (.agg #[I ((aa.getD s default).year),I ((aa.getD s default).lo),I ((aa.getD s default).hi)])] rfl (zdB aa ae ac ab (aa.getD s default) (aT.app _) aq (ar.app _) ao bg _ (H.gt 2)) ?_
  rintro vq bG ⟨r5,rfl,hvq,aj⟩
  subst vq;(try dsimp only at hM);replace H:=H.bk aj;clear aj;refine kg 3 ?_
  refine W.cond (!r5) rfl (fun aM=>?_) (fun aM=>?_)
  ·replace hM:=M.e_t hM aM;refine kg 4 ?_;refine W.ret ?_
   have bh:=M.e_inr hM aw
   subst bh;replace hM:=aL;(try dsimp only at hM)
   have ag:=M.e_pure hM
   exact ⟨_,resE_tmp rfl,⟨110,ag,rfl,(H.pk [])⟩⟩
  replace hM:=M.e_f hM aM;refine W.seq ?_;refine W.draw (fun W=>St w W [cBlk bf [I ((aa.getD s default).year),I ((aa.getD s default).lo),I ((aa.getD s default).hi)] 46,cBlk ah [ak,ai,I ac,I ab] 26] R) [(0,true),(1,true),(2,true),(3,true),(4,true),(5,true),(6,true),(7,true),(8,true),(9,true),(10,true),(11,true),(12,true),(13,true),(14,true)] mixed (by decide +kernel) rfl ?_;intro bH av;replace H:=H.ext av;clear av
  refine ⟨(H.pk [0,1]),?_⟩
  obtain ⟨aN,hM⟩:=M.e_grd hM
  replace aN:=M.imp_of aN
  simp only [Bool.and_eq_true,decide_eq_true_eq] at aN
  obtain ⟨aO,hM⟩:=M.e_grd hM
  replace aO:=M.imp_of aO
  simp only [Bool.and_eq_true,decide_eq_true_eq] at aO
  refine kg 13 ?_;refine d_q rfl (fun w' H=>x_pand (b:=decide (0<(s:Int))) (r:=decide (((aa.getD s default).year)<=((aa.getD (Int.toNat ((s:Int)-1)) default).year))) rfl (fun hb=>gd_of (c:=decide (0<(s:Int))) (by first | exact hb | (rw [hb]; rfl) | simp_all) (B (decide (((aa.getD s default).year)<=((aa.getD (Int.toNat ((s:Int)-1)) default).year))))) rfl) ?_;refine kg 2 ?_
  refine W.cond ((decide (0<(s:Int)))&&(decide (((aa.getD s default).year)<=((aa.getD (Int.toNat ((s:Int)-1)) default).year)))) rfl (fun aP=>?_) (fun aP=>?_)
  ·replace hM:=M.e_t hM aP;refine kg 4 ?_;refine W.ret ?_
   have bi:=M.e_inr hM aw
   subst bi;replace hM:=aL;(try dsimp only at hM)
   have ag:=M.e_pure hM
   exact ⟨_,resE_tmp rfl,⟨9,ag,rfl,(H.pk [])⟩⟩
  replace hM:=M.e_f hM aP;refine kg 5 ?_
  exact ⟨bb,bc,s+1,_,upds_of _ _ ⟨rfl,rfl,rfl,rfl,trivial⟩,M.e_inl hM aw,(H.pk [1])⟩
 replace hM:=M.e_f hM am
 replace am:=dI am
 refine W.exit ?_
 have bj:=M.e_inr hM aw
 subst bj;replace hM:=aL;(try dsimp only at hM);refine kg 5 ?_;refine s_val (x_mf (fs:=[]) (cs:=[Pq ah]) rfl rfl) ?_;obtain ⟨bI,bm,hM⟩:=M.e_bind hM;refine s_call cf81 [ai,.func (.func 83) #[] #[Pq ah]] rfl (zcC ae (fun al=>zbi al aa ae ac ab) (ar.app _) ao ⟨83,[Pq ah],rfl,cf83,fun ap aY aZ aA al a6 aB aC aD aE=>by obtain ⟨a7,rfl,aF⟩:=Old10_arg aD; exact (zd0 al aa ae ac ab aC aF (Reads.app (aT.app _) _) aq (Reads.app (ar.app _) _) ao (Has.app (Has.here (k:=0) rfl) _) aE ap (St.refl aB)).mono fun aA ap ⟨a8,aG,aH,aI⟩=>by subst aG; exact ⟨aH,aI⟩⟩ bm _ (H.gt 1)) ?_
 rintro vq bJ ⟨r6,rfl,hvq,aj⟩
 subst vq;(try dsimp only at hM);replace H:=H.bk aj;clear aj;refine kg 2 ?_
 refine W.cond (!r6) rfl (fun aQ=>?_) (fun aQ=>?_)
 ·replace hM:=M.e_t hM aQ;refine kg 4 ?_;refine W.ret ?_
  have ag:=M.e_pure hM
  exact ⟨_,resE_tmp rfl,⟨110,ag,rfl,(H.pk [])⟩⟩
 replace hM:=M.e_f hM aQ;refine kg 5 ?_;refine W.ret ?_
 have ag:=M.e_pure hM
 exact ⟨_,resE_tmp rfl,⟨0,ag,rfl,(H.pk [])⟩⟩

def zbc (s:List Int) (v:Int):Nat->M (Nat ⊕ (Int ⊕ Unit)):=fun s2 =>
  bif decide ((s2:Int)<(s.length:Int)) then (
  M.grd (decide ((s2:Int)<(s.length:Int))) <|
  bif v==(s.getD s2 0) then (
  M.pure (.inr (.inl (s2:Int))))
  else (
  M.pure (.inl (s2+1))))
  else (
  M.pure (.inr (.inr ())))
def zbV (s:List Int) (v:Int):M Int :=
  M.bind (M.iter (zbc s v) 0) fun x_=>match x_ with
  | (.inl s3)=>(
  M.pure s3)
  | (.inr (_:Unit))=>(
  M.pure (-1))
theorem zdI {R:List Chunk} {ai:Cells} {ac:Value} (s:List Int) (v:Int) (au:Reads R ai) (al:Sl ai ac s) {r:Int} (hM:(zbV s v).Ends r) (w:World) (H:St w w [] R):Ret Tryz.prog 84 #[ac,I v] w fun v w'=>∃ (y0:Int),y0=r/\v=I y0/\St w w' [] R:=by
 refine ret_of_W Tryz.func84 rfl rfl rfl ?_
 have av:=(al).len_le
 refine kg 12 ?_;obtain ⟨am,ae,aj⟩:=M.e_bind hM
 obtain ⟨aw,ae⟩:=M.e_iter ae
 refine W.loop (fun m σ W=>∃ (s2:Nat) (ρ:Env),σ=upds ρ [(0,ac),(1,I v),(7,I (s.length:Int)),(8,I (s2:Int))]/\M.iterN (zbc s v) m s2=some am/\St w W [] R) ?_ ?_
 ·exact ⟨_,0,_,upds_of _ _ ⟨rfl,rfl,rfl,rfl,trivial⟩,ae,H⟩
 rintro ax σ ay ⟨s2,ρ,rfl,ak,H⟩
 obtain ⟨ao,ap,az,hM,ag⟩:=M.e_iterN ak
 simp only [zbc] at hM
 clear ak;refine kg 5 ?_
 refine W.cond (decide ((s2:Int)<(s.length:Int))) rfl (fun aa=>?_) (fun aa=>?_)
 ·replace hM:=M.e_t hM aa
  replace aa:=dI aa
  obtain ⟨aA,hM⟩:=M.e_gd hM;refine kg 17 ?_
  refine W.cond (v==(s.getD s2 0)) rfl (fun ab=>?_) (fun ab=>?_)
  ·replace hM:=M.e_t hM ab
   replace ab:=dI ab
   refine kg 5 ?_;refine W.ret ?_
   have aq:=M.e_inr hM ag
   subst aq;replace hM:=aj;(try dsimp only at hM)
   have ah:=M.e_pure hM
   exact ⟨_,resE_tmp rfl,⟨(s2:Int),ah,rfl,H⟩⟩
  replace hM:=M.e_f hM ab
  replace ab:=dI ab
  refine kg 5 ?_
  exact ⟨ao,ap,s2+1,_,upds_of _ _ ⟨rfl,rfl,rfl,rfl,trivial⟩,M.e_inl hM ag,H⟩
 replace hM:=M.e_f hM aa
 replace aa:=dI aa
 refine W.exit ?_
 have ar:=M.e_inr hM ag
 subst ar;replace hM:=aj;(try dsimp only at hM);refine kg 4 ?_;refine W.ret ?_
 have ah:=M.e_pure hM
 exact ⟨_,resE_tmp rfl,⟨(-1),ah,rfl,H⟩⟩

def zbr (s:List Int) (v:Int):M Bool :=
  M.bind (zbV s v) fun r2 =>
  M.pure (decide (0<=r2))
theorem zdU {R:List Chunk} {ab:Cells} {aa:Value} (s:List Int) (v:Int) (ae:Reads R ab) (ag:Sl ab aa s) {r:Bool} (hM:(zbr s v).Ends r) (w:World) (H:St w w [] R):Ret Tryz.prog 52 #[aa,I v] w fun v w'=>∃ (y0:Bool),y0=r/\v=B y0/\St w w' [] R:=by
 refine ret_of_W Tryz.func52 rfl rfl rfl ?_;refine kg 8 ?_;obtain ⟨aj,ah,hM⟩:=M.e_bind hM;refine s_call cf84 [aa,I v] rfl (zdI s v (ae.app _) ag ah _ (H.gt 0)) ?_
 rintro vq ak ⟨r2,rfl,hvq,ac⟩
 subst vq;(try dsimp only at hM);replace H:=H.bk ac;clear ac;refine kg 3 ?_;refine W.ret ?_
 have ai:=M.e_pure hM
 exact ⟨_,resE_tmp rfl,⟨(decide (0<=r2)),ai,rfl,H⟩⟩

def zaL (aa:Int):((List (Int × Span)) × Int)->M (((List (Int × Span)) × Int) ⊕ (List (Int × Span))):=fun (mp,year) =>
  bif decide (year<=aa) then (
  M.grd (decide ((-9223372036854775808:Int)<=(year+1))&&decide ((year+1)<=(9223372036854775807:Int))) <|
  M.pure (.inl (setM mp (year:Int) (⟨(0:Int),(2000:Int)⟩:Span),year+1)))
  else (
  M.pure (.inr mp))
def zaE (aa:List Yr):((List (Int × Span)) × Nat)->M (((List (Int × Span)) × Nat) ⊕ (List (Int × Span))):=fun (ab,s) =>
  bif decide ((s:Int)<(aa.length:Int)) then (
  M.grd (decide ((s:Int)<(aa.length:Int))) <|
  bif !(decide ((aa.getD s default)=(⟨((aa.getD s default).year:Int),(((lookM ab ((aa.getD s default).year:Int)).getD default).lo:Int),(((lookM ab ((aa.getD s default).year:Int)).getD default).hi:Int)⟩:Yr))) then (
  M.pure (.inl (setM ab ((aa.getD s default).year:Int) (⟨((aa.getD s default).lo:Int),((aa.getD s default).hi:Int)⟩:Span),s+1)))
  else (
  M.pure (.inl (ab,s+1))))
  else (
  M.pure (.inr ab))
def zbb (aa:List Old10) (ky:Int):(Nat × Int × Int)->M ((Nat × Int × Int) ⊕ (Int × Int)):=fun (s2,s3,s4) =>
  bif decide ((s2:Int)<(aa.length:Int)) then (
  M.grd (decide ((s2:Int)<(aa.length:Int))) <|
  M.bind (zaa ky ((aa.getD s2 default).src) ((aa.getD s2 default).dst)) fun r3 =>
  bif !r3 then (
  M.pure (.inl (s2+1,s3,s4)))
  else (
  M.bind (zbr ((aa.getD s2 default).passed) ky) fun r4 =>
  bif r4 then (
  M.pure (.inl (s2+1,max s3 ((aa.getD s2 default).stage),s4)))
  else (
  M.grd (decide ((-9223372036854775808:Int)<=(((aa.getD s2 default).stage)-1))&&decide ((((aa.getD s2 default).stage)-1)<=(9223372036854775807:Int))) <|
  M.pure (.inl (s2+1,s3,min s4 (((aa.getD s2 default).stage)-1))))))
  else (
  M.pure (.inr (s3,s4)))
def za5 (aa:List Old10) (ky:Int) (vl:Span):M Span :=
  M.bind (M.iter (zbb aa ky) (0,(vl).lo,(vl).hi)) fun (s5,s6) =>
  M.pure (⟨(s5:Int),(s6:Int)⟩:Span)
def zar (ac:List Yr) (ae:List Old10) (aa ab:Int):M (Int ⊕ (Int × Int × (List (Int × Span)) × Int)) :=
  M.bind (zbY ac ae aa ab) fun r2 =>
  bif r2 != 0 then (
  M.pure (.inl r2))
  else (
  M.bind (M.iter (zaL ab) (([]:List (Int × Span)),aa)) fun ag =>
  M.bind (M.iter (zaE ac) (ag,0)) fun ah =>
  M.bind (M.mapL (za5 ae) ah) fun mq =>
  M.pure (.inr (aa,ab,mq,0)))
theorem zc1 {R:List Chunk} {aS:Cells} {ae:Value} {aT:Cells} {ag:Value} (aa:List Yr) (ai:List Old10) (ac:Int) (ab:Int) (bg:Reads R aS) (aU:Sl aS ae aa) (aD:Reads R aT) (aE:Sl aT ag ai) {r:(Int ⊕ (Int × Int × (List (Int × Span)) × Int))} (hM:(zar aa ai ac ab).Ends r) (w:World) (H:St w w [] R):Ret Tryz.prog 22 #[.agg #[ae,ag,I ac,I ab]] w fun v w'=>(∃ (y0:Int),(.inl y0)=r/\v = .tuple #[.pointer none,I y0]/\St w w' [] R)∨(∃ (y0:Int) (y1:Int) (y2:List (Int × Span)) (y3:Int) (aV:Nat) (aW:Nat),(.inr (y0,y1,y2,y3))=r/\v = .tuple #[Pq aV,I y3]/\St w w' [cBlk aV [ae,ag,I y0,I y1,.map (some aW)] 118,cMl I encSp aW y2] R):=by
 refine ret_of_W Tryz.func22 rfl rfl rfl ?_;refine kg 2 ?_;refine t_bx [ae,ag,I ac,I ab] H rfl ?_;intro al bF H;refine kg 7 ?_;obtain ⟨bG,bh,hM⟩:=M.e_bind hM;refine s_call cf51 [.agg #[ae,ag,I ac,I ab]] rfl (zdg aa ai ac ab (bg.app _) aU (aD.app _) aE bh _ (H.gt 1)) ?_
 rintro vq bH ⟨r2,rfl,hvq,am⟩
 subst vq;(try dsimp only at hM);replace H:=H.bk am;clear am;refine kg 7 ?_
 refine W.cond (r2 != 0) rfl (fun aq=>?_) (fun aq=>?_)
 ·replace hM:=M.e_t hM aq
  replace aq:=dI aq
  refine kg 6 ?_;refine W.ret ?_
  have aF:=M.e_pure hM
  exact ⟨_,resE_tmp2 rfl,.inl (⟨r2,aF,rfl,(H.pk [])⟩)⟩
 replace hM:=M.e_f hM aq
 replace aq:=dI aq
 refine kg 4 ?_;refine t_mkMl (κ:=Int) (ν:=Span) I encSp H ?_;intro aj bI H;refine s_val (x_bld (ps:=[(0,.agg #[ae,ag,I ac,I ab]),(1,.map (some aj))]) (zs:=[.slice none 0 0,.slice none 0 0,I 0,I 0,.map none]) (L':=[ae,ag,I ac,I ab,.map (some aj)]) rfl Tryz.underlying118 Al118 rfl (Bd118 Tryz.underlying118) (.cons (cs:=[ae,ag,I ac,I ab]) rfl rfl rfl rfl rfl<|.cons (cs:=[.map (some aj)]) rfl rfl rfl rfl rfl<|.nil)) ?_;refine t_bx [ae,ag,I ac,I ab,.map (some aj)] H rfl ?_;intro ak bJ H;refine kg 10 ?_;obtain ⟨bi,aG,bj⟩:=M.e_bind hM
 obtain ⟨aX,aG⟩:=M.e_iter aG
 refine W.loop (fun m σ W=>∃ (mp:List (Int × Span)) (year:Int) (ρ:Env),σ=upds ρ [(1,Pq al),(5,Pq ak),(6,I year)]/\M.iterN (zaL ab) m (mp,year)=some bi/\St w W [cBlk ak [ae,ag,I ac,I ab,.map (some aj)] 118,cMl I encSp aj mp,cBlk al [ae,ag,I ac,I ab] 26] R) ?_ ?_
 ·exact ⟨_,([]:List (Int × Span)),ac,_,upds_of _ _ ⟨rfl,rfl,rfl,trivial⟩,aG,H⟩
 rintro bK σ bL ⟨mp,year,ρ,rfl,aY,H⟩
 obtain ⟨bm,bn,bM,hM,aZ⟩:=M.e_iterN aY
 simp only [zaL] at hM
 clear aY;refine kg 8 ?_
 refine W.cond (decide (year<=ab)) rfl (fun ar=>?_) (fun ar=>?_)
 ·replace hM:=M.e_t hM ar
  replace ar:=dI ar
  refine kg 9 ?_;refine s_val (x_bld (ps:=[(1,I 2000)]) (zs:=[I 0,I 0]) (L':=[I 0,I 2000]) rfl Tryz.underlying31 Al31 rfl (Bd31 Tryz.underlying31) (.cons (cs:=[I 2000]) rfl rfl rfl rfl rfl<|.nil)) ?_;refine t_putMl (i:=1) (kenc:=I) (venc:=encSp) (m:=mp) (k:=(year:Int)) (v:=(⟨(0:Int),(2000:Int)⟩:Span)) (L':=[cBlk ak [ae,ag,I ac,I ab,.map (some aj)] 118,cMl I encSp aj (setM mp (year:Int) (⟨(0:Int),(2000:Int)⟩:Span)),cBlk al [ae,ag,I ac,I ab] 26]) keyIntSp Tryz.underlying116 H rfl rfl rfl rfl rfl ?_;intro bN H;obtain ⟨bO,hM⟩:=M.e_gd hM;refine kg 6 ?_
  exact ⟨bm,bn,setM mp (year:Int) (⟨(0:Int),(2000:Int)⟩:Span),year+1,_,upds_of _ _ ⟨rfl,rfl,rfl,trivial⟩,M.e_inl hM aZ,H⟩
 replace hM:=M.e_f hM ar
 replace ar:=dI ar
 refine W.exit ?_
 have bo:=M.e_inr hM aZ
 subst bo;replace hM:=bj;(try dsimp only at hM)
 have bP:=(aU).len_le
 refine kg 9 ?_;obtain ⟨bp,aH,br⟩:=M.e_bind hM
 obtain ⟨aX,aH⟩:=M.e_iter aH
 refine W.loop (fun m σ W=>∃ (ah:List (Int × Span)) (s:Nat) (ρ:Env),σ=upds ρ [(1,Pq al),(5,Pq ak),(38,ae),(39,I (aa.length:Int)),(40,I (s:Int))]/\M.iterN (zaE aa) m (ah,s)=some bp/\St w W [cBlk ak [ae,ag,I ac,I ab,.map (some aj)] 118,cMl I encSp aj ah,cBlk al [ae,ag,I ac,I ab] 26] R) ?_ ?_
 ·exact ⟨_,mp,0,_,upds_of _ _ ⟨rfl,rfl,rfl,rfl,rfl,trivial⟩,aH,H⟩
 rintro bQ σ bR ⟨ah,s,ρ,rfl,a6,H⟩
 obtain ⟨a7,a8,bS,hM,aI⟩:=M.e_iterN a6
 simp only [zaE] at hM
 clear a6;refine kg 5 ?_
 refine W.cond (decide ((s:Int)<(aa.length:Int))) rfl (fun au=>?_) (fun au=>?_)
 ·replace hM:=M.e_t hM au
  replace au:=dI au
  obtain ⟨bT,hM⟩:=M.e_gd hM;refine kg 7 ?_;refine t_alloc (cs:=[I 0,I 0,I 0]) H Al46 rfl ?_;intro aJ bU H;refine t_sw 0 0 [I ((aa.getD s default).year),I ((aa.getD s default).lo),I ((aa.getD s default).hi)] (.agg #[I ((aa.getD s default).year),I ((aa.getD s default).lo),I ((aa.getD s default).hi)]) H rfl rfl Sz46 rfl rfl rfl rfl ?_;intro bV H;refine kg 2 ?_;refine W.draw (fun W=>St w W [cBlk aJ [I ((aa.getD s default).year),I ((aa.getD s default).lo),I ((aa.getD s default).hi)] 46,cBlk ak [ae,ag,I ac,I ab,.map (some aj)] 118,cMl I encSp aj ah,cBlk al [ae,ag,I ac,I ab] 26] R) [(0,true),(1,true),(2,true),(3,true),(4,true),(5,true),(6,true),(7,true),(8,true),(9,true),(10,false),(11,false)] mixed (by decide +kernel) rfl ?_;intro bW ao;replace H:=H.ext ao;clear ao
  refine ⟨(H.pk [0,1,2,3]),?_⟩
  refine kg 8 ?_;refine d_q rfl (fun w' H=>q_look (kenc:=I) (venc:=encSp) (f:=lookM ah) (k:=((aa.getD s default).year:Int)) (v:=.agg #[I (((lookM ah ((aa.getD s default).year:Int)).getD default).lo),I (((lookM ah ((aa.getD s default).year:Int)).getD default).hi)]) keyIntSp Tryz.underlying116 Al31 rfl rfl (mlMap (H.get (k:=2) rfl)) false (by rw [if_neg (by decide),span_val]))<|d_q rfl (fun w' H=>x_bld (ps:=[(0,I ((aa.getD s default).year)),(1,.agg #[I (((lookM ah ((aa.getD s default).year:Int)).getD default).lo),I (((lookM ah ((aa.getD s default).year:Int)).getD default).hi)])]) (zs:=[I 0,I 0,I 0]) (L':=[I ((aa.getD s default).year),I (((lookM ah ((aa.getD s default).year:Int)).getD default).lo),I (((lookM ah ((aa.getD s default).year:Int)).getD default).hi)]) rfl Tryz.underlying46 Al46 rfl (Bd46 Tryz.underlying46) (.cons (cs:=[I ((aa.getD s default).year)]) rfl rfl rfl rfl rfl<|.cons (cs:=[I (((lookM ah ((aa.getD s default).year:Int)).getD default).lo),I (((lookM ah ((aa.getD s default).year:Int)).getD default).hi)]) rfl rfl rfl rfl rfl<|.nil))<|d_l rfl ?_;refine t_alloc (cs:=[I 0,I 0,I 0]) H Al46 rfl ?_;intro ba bX H
  refine s_nil ⟨(H.pk [1,2,3,4]),?_⟩
  refine d_l rfl ?_;refine t_sw 0 0 [I ((aa.getD s default).year),I (((lookM ah ((aa.getD s default).year:Int)).getD default).lo),I (((lookM ah ((aa.getD s default).year:Int)).getD default).hi)] (.agg #[I ((aa.getD s default).year),I (((lookM ah ((aa.getD s default).year:Int)).getD default).lo),I (((lookM ah ((aa.getD s default).year:Int)).getD default).hi)]) H rfl rfl Sz46 rfl rfl rfl rfl ?_;intro bY H
  refine s_nil ⟨(H.pk [1,2,3,4]),?_⟩
  refine kg 5 ?_;refine s_val (x_neS (eqT46 (aa.getD s default) (⟨((aa.getD s default).year:Int),(((lookM ah ((aa.getD s default).year:Int)).getD default).lo:Int),(((lookM ah ((aa.getD s default).year:Int)).getD default).hi:Int)⟩:Yr) _) gdT46 rfl rfl)<|s_nil ?_
  refine W.cond (!(decide ((aa.getD s default)=(⟨((aa.getD s default).year:Int),(((lookM ah ((aa.getD s default).year:Int)).getD default).lo:Int),(((lookM ah ((aa.getD s default).year:Int)).getD default).hi:Int)⟩:Yr)))) rfl (fun aK=>?_) (fun aK=>?_)
  ·replace hM:=M.e_t hM aK;refine W.draw (fun W=>St w W [cBlk ba [I ((aa.getD s default).year),I (((lookM ah ((aa.getD s default).year:Int)).getD default).lo),I (((lookM ah ((aa.getD s default).year:Int)).getD default).hi)] 46,cBlk aJ [I ((aa.getD s default).year),I ((aa.getD s default).lo),I ((aa.getD s default).hi)] 46,cBlk ak [ae,ag,I ac,I ab,.map (some aj)] 118,cBlk al [ae,ag,I ac,I ab] 26] R) [(0,true),(1,true),(2,true),(3,true),(4,true),(5,true),(6,true),(7,true),(8,false)] mixed (by decide +kernel) rfl ?_;intro bZ ao;replace H:=H.ext ao;clear ao
   refine ⟨(H.pk [0,1,2,4]),?_⟩
   refine kg 8 ?_;refine d_l rfl ?_;refine t_putMl (i:=3) (kenc:=I) (venc:=encSp) (m:=ah) (k:=((aa.getD s default).year:Int)) (v:=(⟨((aa.getD s default).lo:Int),((aa.getD s default).hi:Int)⟩:Span)) (L':=[cBlk ba [I ((aa.getD s default).year),I (((lookM ah ((aa.getD s default).year:Int)).getD default).lo),I (((lookM ah ((aa.getD s default).year:Int)).getD default).hi)] 46,cBlk aJ [I ((aa.getD s default).year),I ((aa.getD s default).lo),I ((aa.getD s default).hi)] 46,cBlk ak [ae,ag,I ac,I ab,.map (some aj)] 118,cMl I encSp aj (setM ah ((aa.getD s default).year:Int) (⟨((aa.getD s default).lo:Int),((aa.getD s default).hi:Int)⟩:Span)),cBlk al [ae,ag,I ac,I ab] 26]) keyIntSp Tryz.underlying116 H rfl rfl rfl rfl rfl ?_;intro b3 H
   refine s_nil ⟨(H.pk [0,1,2,4]),?_⟩
   refine d_nil ?_;replace H:=H.pk [2,3,4];refine kg 4 ?_
   exact ⟨a7,a8,setM ah ((aa.getD s default).year:Int) (⟨((aa.getD s default).lo:Int),((aa.getD s default).hi:Int)⟩:Span),s+1,_,upds_of _ _ ⟨rfl,rfl,rfl,rfl,rfl,trivial⟩,M.e_inl hM aI,H⟩
  replace hM:=M.e_f hM aK;refine W.skip ?_;replace H:=H.pk [2,3,4];refine kg 4 ?_
  exact ⟨a7,a8,ah,s+1,_,upds_of _ _ ⟨rfl,rfl,rfl,rfl,rfl,trivial⟩,M.e_inl hM aI,H⟩
 replace hM:=M.e_f hM au
 replace au:=dI au
 refine W.exit ?_
 have bt:=M.e_inr hM aI
 subst bt;replace hM:=br;(try dsimp only at hM);refine kg 7 ?_;refine t_range (i:=1) (kenc:=I) (venc:=encSp) Tryz.underlying116 H rfl rfl ?_;intro ax b4 H;replace H:=H.nf;refine kg 2 ?_;obtain ⟨mq,bb,hM⟩:=M.e_bind hM;refine W.loop (fun c_ σ W=>∃ (ap:List (Int × Span)) (aw:List Bool) (bc:Option Nat) (ρ:Env),σ=upds ρ [(1,Pq al),(5,Pq ak),(70,Pq ax)]/\c_=aw.count true/\ItR ah mq ap aw/\St w W [cBlk ak [ae,ag,I ac,I ab,.map (some aj)] 118,cIt I encSp aj ax ap aw bc,cBlk al [ae,ag,I ac,I ab] 26] R) ?_ ?_
 ·exact ⟨_,_,_,_,_,upds_of _ _ ⟨rfl,rfl,rfl,trivial⟩,rfl,ItR.init bb,H⟩
 rintro c_ σ bu ⟨ap,aw,bc,ρ,rfl,rfl,aL,H⟩
 refine kg 2 ?_
 refine t_next (i:=1) H rfl rfl (fun bv=>?_) (fun j_ ky vl b6 aM aA H=>?_)
 ·refine kg 3 ?_
  refine W.cond false rfl (fun h_=>absurd h_ (by decide)) (fun _=>?_)
  refine W.exit ?_
  obtain rfl:=aL.fin bv
  replace H:St w bu [cBlk ak [ae,ag,I ac,I ab,.map (some aj)] 118,cMl I encSp aj ap,cBlk al [ae,ag,I ac,I ab] 26] R:=H.itEnd (i:=1) rfl rfl
  refine kg 6 ?_;refine W.ret ?_
  have aF:=M.e_pure hM
  exact ⟨_,resE_tmp2 rfl,.inr (⟨ac,ab,ap,0,ak,aj,aF,rfl,(H.pk [0,1])⟩)⟩
 refine kg 3 ?_
 refine W.cond true rfl (fun _=>?_) (fun h_=>absurd h_ (by decide))
 refine W.skip ?_
 obtain ⟨b7,hM,bw⟩:=aL.at_ bb aM aA
 simp only [za5] at hM
 replace H:=H.nf;refine kg 3 ?_;refine s_val (x_entry (v:=vl) (H.get (k:=1) rfl) aA rfl) ?_;refine kg 2 ?_;refine t_alloc (cs:=[I 0,I 0]) H Al31 rfl ?_;intro aB b8 H;refine kg 1 ?_;refine t_sw 0 0 [I ((vl).lo),I ((vl).hi)] (.agg #[I ((vl).lo),I ((vl).hi)]) H rfl rfl Sz31 rfl rfl rfl rfl ?_;intro b9 H
 have ca:=(aE).len_le
 refine kg 10 ?_;obtain ⟨bx,aN,bz⟩:=M.e_bind hM
 obtain ⟨aX,aN⟩:=M.e_iter aN
 refine W.loop (fun m σ W=>∃ (s2:Nat) (s3:Int) (s4:Int) (ρ:Env),σ=upds ρ [(1,Pq al),(5,Pq ak),(10,I ky),(11,Pq aB),(70,Pq ax),(77,ag),(78,I (ai.length:Int)),(79,I (s2:Int))]/\M.iterN (zbb ai ky) m (s2,s3,s4)=some bx/\St w W [cBlk aB [I s3,I s4] 31,cBlk ak [ae,ag,I ac,I ab,.map (some aj)] 118,cIt I encSp aj ax ap (aw.set j_ false) (some j_),cBlk al [ae,ag,I ac,I ab] 26] R) ?_ ?_
 ·exact ⟨_,0,(vl).lo,(vl).hi,_,upds_of _ _ ⟨rfl,rfl,rfl,rfl,rfl,rfl,rfl,rfl,trivial⟩,aN,H⟩
 rintro cb σ cc ⟨s2,s3,s4,ρ,rfl,bf,H⟩
 obtain ⟨aO,aP,cd,hM,aC⟩:=M.e_iterN bf
 simp only [zbb] at hM
 clear bf;refine kg 5 ?_
 refine W.cond (decide ((s2:Int)<(ai.length:Int))) rfl (fun av=>?_) (fun av=>?_)
 ·replace hM:=M.e_t hM av
  replace av:=dI av
  obtain ⟨ce,hM⟩:=M.e_gd hM;refine kg 6 ?_
  obtain ⟨ay,bA,az⟩:=Old10_atA aE (i:=(s2:Int)) (by omega) (by omega)
  replace az:Sl _ ay (ai.getD s2 default).passed:=az
  have cf:=az.len_le
  refine s_val (x_ld (v:=.agg #[I ((ai.getD s2 default).src),I ((ai.getD s2 default).dst),I ((ai.getD s2 default).stage),ay]) rfl (ld_ag Ag120 Sz120 (At.mono bA (aD.at H)))) ?_;refine t_alloc (cs:=[I 0,I 0,I 0,.slice none 0 0]) H Al120 rfl ?_;intro cg ch H;refine t_sw 0 0 [I ((ai.getD s2 default).src),I ((ai.getD s2 default).dst),I ((ai.getD s2 default).stage),ay] (.agg #[I ((ai.getD s2 default).src),I ((ai.getD s2 default).dst),I ((ai.getD s2 default).stage),ay]) H rfl rfl Sz120 rfl rfl rfl (by simp only [List.all_cons,List.all_nil,Bool.true_and,Bool.and_true,Sl.oc az]; try rfl) ?_;intro ci H;refine kg 9 ?_;obtain ⟨cj,bB,hM⟩:=M.e_bind hM;refine s_call cf25 [I ky,I ((ai.getD s2 default).src),I ((ai.getD s2 default).dst)] rfl (zab ky ((ai.getD s2 default).src) ((ai.getD s2 default).dst) bB _ (H.gt 5)) ?_
  rintro vq ck ⟨r3,rfl,hvq,am⟩
  subst vq;(try dsimp only at hM);replace H:=H.bk am;clear am;refine kg 3 ?_
  refine W.cond (!r3) rfl (fun aQ=>?_) (fun aQ=>?_)
  ·replace hM:=M.e_t hM aQ;refine W.exit ?_;refine kg 4 ?_
   exact ⟨aO,aP,s2+1,s3,s4,_,upds_of _ _ ⟨rfl,rfl,rfl,rfl,rfl,rfl,rfl,rfl,trivial⟩,M.e_inl hM aC,(H.pk [1,2,3,4])⟩
  replace hM:=M.e_f hM aQ;refine kg 5 ?_;obtain ⟨cl,bC,hM⟩:=M.e_bind hM;refine s_call cf52 [ay,I ky] rfl (zdU ((ai.getD s2 default).passed) ky (aD.app _) az bC _ (H.gt 5)) ?_
  rintro vq cm ⟨r4,rfl,hvq,am⟩
  subst vq;(try dsimp only at hM);replace H:=H.bk am;clear am;refine kg 2 ?_
  refine W.cond r4 rfl (fun aR=>?_) (fun aR=>?_)
  ·replace hM:=M.e_t hM aR;refine kg 7 ?_;refine t_sw 1 0 [I (max s3 ((ai.getD s2 default).stage))] (I (max s3 ((ai.getD s2 default).stage))) H rfl rfl Sz3 rfl rfl rfl rfl ?_;intro cn H;refine kg 5 ?_
   exact ⟨aO,aP,s2+1,max s3 ((ai.getD s2 default).stage),s4,_,upds_of _ _ ⟨rfl,rfl,rfl,rfl,rfl,rfl,rfl,rfl,trivial⟩,M.e_inl hM aC,(H.pk [1,2,3,4])⟩
  replace hM:=M.e_f hM aR;obtain ⟨co,hM⟩:=M.e_gd hM;refine kg 8 ?_;refine t_sw 1 1 [I (min s4 (((ai.getD s2 default).stage)-1))] (I (min s4 (((ai.getD s2 default).stage)-1))) H rfl rfl Sz3 rfl rfl rfl rfl ?_;intro cp H;refine kg 5 ?_
  exact ⟨aO,aP,s2+1,s3,min s4 (((ai.getD s2 default).stage)-1),_,upds_of _ _ ⟨rfl,rfl,rfl,rfl,rfl,rfl,rfl,rfl,trivial⟩,M.e_inl hM aC,(H.pk [1,2,3,4])⟩
 replace hM:=M.e_f hM av
 replace av:=dI av
 refine W.exit ?_
 have bD:=M.e_inr hM aC
 subst bD;replace hM:=bz;(try dsimp only at hM);refine W.draw (fun W=>St w W [cBlk aB [I s3,I s4] 31,cBlk ak [ae,ag,I ac,I ab,.map (some aj)] 118,cBlk al [ae,ag,I ac,I ab] 26] R) [(0,true),(1,true),(2,true),(3,true),(4,true),(5,true),(6,false)] mixed (by decide +kernel) rfl ?_;intro cq ao;replace H:=H.ext ao;clear ao
 refine ⟨(H.pk [0,1,3]),?_⟩
 refine kg 6 ?_;refine d_l rfl ?_;refine t_putIt (i:=2) (j:=j_) (kenc:=I) (venc:=encSp) (m:=ap) (k:=ky) (v:=(⟨(s3:Int),(s4:Int)⟩:Span)) (L':=[cBlk aB [I s3,I s4] 31,cBlk ak [ae,ag,I ac,I ab,.map (some aj)] 118,cIt I encSp aj ax (ap.set j_ (ky,(⟨(s3:Int),(s4:Int)⟩:Span))) (aw.set j_ false) (some j_),cBlk al [ae,ag,I ac,I ab] 26]) keyIntSp Tryz.underlying116 H rfl rfl aA rfl rfl rfl ?_;intro cr H
 refine s_nil ⟨(H.pk [0,1,3]),?_⟩
 refine d_nil ?_
 have bE:=M.e_pure hM
 subst bE
 exact ⟨_,ItR.less aM,_,_,_,_,upds_of _ _ ⟨rfl,rfl,rfl,trivial⟩,rfl,aL.step aM aA bw,(H.pk [1,2,3])⟩

def za2 (s:List Int) (f:Int->M Bool):Nat->M (Nat ⊕ (Int ⊕ Unit)):=fun s2 =>
  bif decide ((s2:Int)<(s.length:Int)) then (
  M.grd (decide ((s2:Int)<(s.length:Int))) <|
  M.bind (f (s.getD s2 0)) fun r2 =>
  bif r2 then (
  M.pure (.inr (.inl (s2:Int))))
  else (
  M.pure (.inl (s2+1))))
  else (
  M.pure (.inr (.inr ())))
def zbl (s:List Int) (f:Int->M Bool):M Int :=
  M.bind (M.iter (za2 s f) 0) fun x_=>match x_ with
  | (.inl s3)=>(
  M.pure s3)
  | (.inr (_:Unit))=>(
  M.pure (-1))
theorem zd4 {R:List Chunk} {aj:Cells} {ab:Value} {ac:Value} (s:List Int) (f:Int->M Bool) (ax:Reads R aj) (am:Sl aj ab s) (ao:FnM Tryz.prog R ac f) {r:Int} (hM:(zbl s f).Ends r) (w:World) (H:St w w [] R):Ret Tryz.prog 85 #[ab,ac] w fun v w'=>∃ (y0:Int),y0=r/\v=I y0/\St w w' [] R:=by
 refine ret_of_W Tryz.func85 rfl rfl rfl ?_
 have ay:=(am).len_le
 refine kg 12 ?_;obtain ⟨ap,ae,ak⟩:=M.e_bind hM
 obtain ⟨az,ae⟩:=M.e_iter ae
 refine W.loop (fun m σ W=>∃ (s2:Nat) (ρ:Env),σ=upds ρ [(0,ab),(1,ac),(7,I (s.length:Int)),(8,I (s2:Int))]/\M.iterN (za2 s f) m s2=some ap/\St w W [] R) ?_ ?_
 ·exact ⟨_,0,_,upds_of _ _ ⟨rfl,rfl,rfl,rfl,trivial⟩,ae,H⟩
 rintro aA σ aB ⟨s2,ρ,rfl,al,H⟩
 obtain ⟨aq,ar,aC,hM,ag⟩:=M.e_iterN al
 simp only [za2] at hM
 clear al;refine kg 5 ?_
 refine W.cond (decide ((s2:Int)<(s.length:Int))) rfl (fun aa=>?_) (fun aa=>?_)
 ·replace hM:=M.e_t hM aa
  replace aa:=dI aa
  obtain ⟨aD,hM⟩:=M.e_gd hM;refine kg 15 ?_;obtain ⟨r2,au,hM⟩:=M.e_bind hM;refine t_callM H ao rfl rfl (s.getD s2 0) Reads.none (Arg.mkI (fun _=>none) _) au ?_;intro aE H;refine s_nil ?_
  refine W.cond r2 rfl (fun ah=>?_) (fun ah=>?_)
  ·replace hM:=M.e_t hM ah;refine kg 5 ?_;refine W.ret ?_
   have av:=M.e_inr hM ag
   subst av;replace hM:=ak;(try dsimp only at hM)
   have ai:=M.e_pure hM
   exact ⟨_,resE_tmp rfl,⟨(s2:Int),ai,rfl,H⟩⟩
  replace hM:=M.e_f hM ah;refine kg 5 ?_
  exact ⟨aq,ar,s2+1,_,upds_of _ _ ⟨rfl,rfl,rfl,rfl,trivial⟩,M.e_inl hM ag,H⟩
 replace hM:=M.e_f hM aa
 replace aa:=dI aa
 refine W.exit ?_
 have aw:=M.e_inr hM ag
 subst aw;replace hM:=ak;(try dsimp only at hM);refine kg 4 ?_;refine W.ret ?_
 have ai:=M.e_pure hM
 exact ⟨_,resE_tmp rfl,⟨(-1),ai,rfl,H⟩⟩

def zb5 (s:List Int) (f:Int->M Bool):M Bool :=
  M.bind (zbl s f) fun r2 =>
  M.pure (decide (0<=r2))
theorem zdz {R:List Chunk} {ac:Cells} {aa:Value} {ab:Value} (s:List Int) (f:Int->M Bool) (ag:Reads R ac) (ah:Sl ac aa s) (ai:FnM Tryz.prog R ab f) {r:Bool} (hM:(zb5 s f).Ends r) (w:World) (H:St w w [] R):Ret Tryz.prog 53 #[aa,ab] w fun v w'=>∃ (y0:Bool),y0=r/\v=B y0/\St w w' [] R:=by
 refine ret_of_W Tryz.func53 rfl rfl rfl ?_;refine kg 8 ?_;obtain ⟨al,aj,hM⟩:=M.e_bind hM;refine s_call cf85 [aa,ab] rfl (zd4 s f (ag.app _) ah (ai.app _) aj _ (H.gt 0)) ?_
 rintro vq am ⟨r2,rfl,hvq,ae⟩
 subst vq;(try dsimp only at hM);replace H:=H.bk ae;clear ae;refine kg 3 ?_;refine W.ret ?_
 have ak:=M.e_pure hM
 exact ⟨_,resE_tmp rfl,⟨(decide (0<=r2)),ak,rfl,H⟩⟩

def zaO (x:Int) (aa:Int->M Bool):M Bool :=
  M.bind (aa x) fun r2 =>
  M.pure (!r2)
theorem zd3 {R:List Chunk} {aa:Nat} {ab:Value} (x:Int) (ac:Int->M Bool) (ae:FnM Tryz.prog R ab ac) (ai:Has R (cBlk aa [ab] 81)) {r:Bool} (hM:(zaO x ac).Ends r) (w:World) (H:St w w [] R):Ret Tryz.prog 54 #[I x,Pq aa] w fun v w'=>∃ (y0:Bool),y0=r/\v=B y0/\St w w' [] R:=by
 refine ret_of_W Tryz.func54 rfl rfl rfl ?_;refine kg 8 ?_;obtain ⟨r2,ag,hM⟩:=M.e_bind hM;refine t_callM H ae rfl rfl x Reads.none (Arg.mkI (fun _=>none) _) ag ?_;intro aj H;refine kg 3 ?_;refine W.ret ?_
 have ah:=M.e_pure hM
 exact ⟨_,resE_tmp rfl,⟨(!r2),ah,rfl,H⟩⟩

def zaQ (l:List Int) (so:Int->M Bool):M Bool :=
  M.bind (zb5 l (fun aa=>zaO aa so)) fun r2 =>
  M.pure (!r2)
theorem zcX {R:List Chunk} {ag:Cells} {ab:Value} {aa:Value} (l:List Int) (so:Int->M Bool) (ak:Reads R ag) (al:Sl ag ab l) (ah:FnM Tryz.prog R aa so) {r:Bool} (hM:(zaQ l so).Ends r) (w:World) (H:St w w [] R):Ret Tryz.prog 23 #[ab,aa] w fun v w'=>∃ (y0:Bool),y0=r/\v=B y0/\St w w' [] R:=by
 refine ret_of_W Tryz.func23 rfl rfl rfl ?_;refine kg 2 ?_;refine t_box (v:=aa) (cs:=[aa]) H rfl (FnM.cells ah) ?_;intro ac ay H;refine kg 5 ?_;refine s_val (x_mf (fs:=[]) (cs:=[Pq ac]) rfl rfl) ?_;obtain ⟨az,am,hM⟩:=M.e_bind hM;refine s_call cf53 [ab,.func (.func 54) #[] #[Pq ac]] rfl (zdz l (fun ae=>zaO ae so) (ak.app _) al ⟨54,[Pq ac],rfl,cf54,fun ai aA aB ao ae aC ap aD aq ar=>by obtain rfl:=Arg.int aq; exact (zd3 ae so (FnM.app (ah.app _) _) (Has.app (Has.here (k:=0) rfl) _) ar ai (St.refl ap)).mono fun ao ai ⟨aE,au,av,aw⟩=>by subst au; exact ⟨av,aw⟩⟩ am _ (H.gt 1)) ?_
 rintro vq aF ⟨r2,rfl,hvq,aj⟩
 subst vq;(try dsimp only at hM);replace H:=H.bk aj;clear aj;refine kg 3 ?_;refine W.ret ?_
 have ax:=M.e_pure hM
 exact ⟨_,resE_tmp rfl,⟨(!r2),ax,rfl,(H.pk [])⟩⟩

def zbo (n:Int):M Bool :=
  M.bind (zaa n 0 2000) fun r2 =>
  M.pure r2
theorem zdT {R:List Chunk}  (n:Int)  {r:Bool} (hM:(zbo n).Ends r) (w:World) (H:St w w [] R):Ret Tryz.prog 24 #[I n] w fun v w'=>∃ (y0:Bool),y0=r/\v=B y0/\St w w' [] R:=by
 refine ret_of_W Tryz.func24 rfl rfl rfl ?_;refine kg 7 ?_;obtain ⟨ae,ab,hM⟩:=M.e_bind hM;refine s_call cf25 [I n,I 0,I 2000] rfl (zab n 0 2000 ab _ (H.gt 0)) ?_
 rintro vq ag ⟨r2,rfl,hvq,aa⟩
 subst vq;(try dsimp only at hM);replace H:=H.bk aa;clear aa;refine kg 2 ?_;refine W.ret ?_
 have ac:=M.e_pure hM
 exact ⟨_,resE_tmp rfl,⟨r2,ac,rfl,H⟩⟩

def zai (ac:List Yr) (ae:List Old10) (ag ah:Int) (ai:List (Int × Span)) (aa ab:Int):M (Int × Int) :=
  M.pure (aa,ab)
theorem zbd {R:List Chunk} {aa:Nat} {ae:Cells} {ag:Value} {ah:Cells} {ai:Value} {aj:Nat} (ak:List Yr) (al:List Old10) (am:Int) (ao:Int) (ap:List (Int × Span)) (ab:Int) (ac:Int) (az:Reads R ae) (aA:Sl ae ag ak) (aB:Reads R ah) (aC:Sl ah ai al) (aD:Has R (cMl I encSp aj ap)) (aE:Has R (cBlk aa [ag,ai,I am,I ao,.map (some aj)] 118)) {r:(Int × Int)} (hM:(zai ak al am ao ap ab ac).Ends r) (w:World) (H:St w w [] R):Ret Tryz.prog 26 #[Pq aa,I ab,I ac] w fun v w'=>∃ (y0:Int) (y1:Int) (aq:Nat) (ar:Nat) (au:Nat),(y0,y1)=r/\v = .func (.func 55) #[] #[Pq aq,Pq ar,Pq au]/\St w w' [cBlk aq [I y0] 3,cBlk ar [I y1] 3,cBlk au [Pq aa] 76] R:=by
 refine ret_of_W Tryz.func26 rfl rfl rfl ?_;refine kg 2 ?_;refine t_b1 (Pq aa) H rfl rfl ?_;intro av aF H;refine t_b1 (I ab) H rfl rfl ?_;intro aw aG H;refine t_b1 (I ac) H rfl rfl ?_;intro ax aH H;refine kg 4 ?_;refine s_val (x_mf (fs:=[]) (cs:=[Pq aw,Pq ax,Pq av]) rfl rfl) ?_;refine kg 2 ?_;refine W.ret ?_
 have ay:=M.e_pure hM
 exact ⟨_,resE_tmp rfl,⟨ab,ac,aw,ax,av,ay,rfl,(H.pk [1,0,2])⟩⟩

def za9 {T_:Type} (aa:T_->(Int × Span)->M (Bool × T_)) (ab:Int) (ac:List (Int × Span)):(Int × T_)->M ((Int × T_) ⊕ (T_ ⊕ T_)):=fun (year,t2) =>
  bif decide (year<=ab) then (
  M.bind (aa t2 (year,((lookM ac (year:Int)).getD default))) fun (go,t) =>
  bif !go then (
  M.pure (.inr (.inl t)))
  else (
  M.grd (decide ((-9223372036854775808:Int)<=(year+1))&&decide ((year+1)<=(9223372036854775807:Int))) <|
  M.pure (.inl (year+1,t))))
  else (
  M.pure (.inr (.inr t2)))
def zal {T_:Type} (aa:T_->(Int × Span)->M (Bool × T_)) (t_:T_) (ab ac:Int) (ag:List Yr) (ah:List Old10) (ai aj:Int) (ae:List (Int × Span)):M T_ :=
  M.bind (M.iter (za9 aa ac ae) (ab,t_)) fun x_=>match x_ with
  | (.inl t3)=>(
  M.pure t3)
  | (.inr t4)=>(
  M.pure t4)
theorem za7 {R:List Chunk} {T_:Type} {Y_:T_->List Chunk->Prop} {ae:Value} {ag:List Chunk} {aq:Nat} {ah:Nat} {ai:Nat} {ar:Nat} {au:Cells} {av:Value} {aw:Cells} {ax:Value} {ay:Nat} (aj:T_->(Int × Span)->M (Bool × T_)) (t_:T_) (ak:Int) (ac:Int) (az:List Yr) (aA:List Old10) (aB:Int) (aC:Int) (aa:List (Int × Span)) (aH:YieldC Tryz.prog R arISpan Y_ ae aj) (aI:Y_ t_ ag) (aQ:Has R (cBlk aq [I ak] 3)) (aR:Has R (cBlk ah [I ac] 3)) (aS:Reads R au) (aT:Sl au av az) (aU:Reads R aw) (aV:Sl aw ax aA) (aJ:Has R (cMl I encSp ay aa)) (aW:Has R (cBlk ar [av,ax,I aB,I aC,.map (some ay)] 118)) (aX:Has R (cBlk ai [Pq ar] 76)) {r:T_} (hM:(zal aj t_ ak ac az aA aB aC aa).Ends r) (w:World) (H:St w w [cAll ag] R):Ret Tryz.prog 55 #[ae,Pq aq,Pq ah,Pq ai] w fun v w'=>∃ (y0:T_) (Ls0:List Chunk),y0=r/\v = .tuple #[]/\St w w' [cAll Ls0] R/\Y_ y0 Ls0:=by
 refine ret_of_W Tryz.func55 rfl rfl rfl ?_;refine kg 6 ?_;obtain ⟨aK,al,aD⟩:=M.e_bind hM
 obtain ⟨aY,al⟩:=M.e_iter al
 refine W.loop (fun m σ W=>∃ (year:Int) (t2:T_) (Ls_t2:List Chunk) (ρ:Env),σ=upds ρ [(0,ae),(2,Pq ah),(3,Pq ai),(5,I year)]/\M.iterN (za9 aj ac aa) m (year,t2)=some aK/\St w W [cAll Ls_t2] R/\Y_ t2 Ls_t2) ?_ ?_
 ·exact ⟨_,ak,t_,ag,_,upds_of _ _ ⟨rfl,rfl,rfl,rfl,trivial⟩,al,H,aI⟩
 rintro aZ σ a6 ⟨year,t2,Ls_t2,ρ,rfl,aE,H,hY_t2⟩
 obtain ⟨aL,aM,a7,hM,am⟩:=M.e_iterN aE
 simp only [za9] at hM
 clear aE;refine kg 7 ?_
 refine W.cond (decide (year<=ac)) rfl (fun ab=>?_) (fun ab=>?_)
 ·replace hM:=M.e_t hM ab
  replace ab:=dI ab
  refine kg 12 ?_;refine s_val (q_look (kenc:=I) (venc:=encSp) (f:=lookM aa) (k:=(year:Int)) (v:=.agg #[I (((lookM aa (year:Int)).getD default).lo),I (((lookM aa (year:Int)).getD default).hi)]) keyIntSp Tryz.underlying116 Al31 rfl rfl (mlMap (aJ.at H)) false (by rw [if_neg (by decide),span_val])) ?_
  obtain ⟨⟨go,t⟩,aN,hM⟩:=M.e_bind hM
  (try dsimp only at hM);refine t_yield (L:=[]) H aH hY_t2 rfl [I year,.agg #[I (((lookM aa (year:Int)).getD default).lo),I (((lookM aa (year:Int)).getD default).hi)]] rfl (year,((lookM aa (year:Int)).getD default)) Reads.none rfl aN ?_;intro aF a8 aG H;replace H:=H.nf;refine kg 2 ?_
  refine W.cond (!go) rfl (fun ao=>?_) (fun ao=>?_)
  ·replace hM:=M.e_t hM ao;refine W.ret ?_
   have aO:=M.e_inr hM am
   subst aO;replace hM:=aD;(try dsimp only at hM)
   have ap:=M.e_pure hM
   exact ⟨_,resE_tmp0 rfl,⟨t,aF,ap,rfl,H,aG⟩⟩
  replace hM:=M.e_f hM ao;obtain ⟨ba,hM⟩:=M.e_gd hM;refine kg 6 ?_
  exact ⟨aL,aM,year+1,t,aF,_,upds_of _ _ ⟨rfl,rfl,rfl,rfl,trivial⟩,M.e_inl hM am,H,aG⟩
 replace hM:=M.e_f hM ab
 replace ab:=dI ab
 refine W.exit ?_
 have aP:=M.e_inr hM am
 subst aP;replace hM:=aD;(try dsimp only at hM)
 have ap:=M.e_pure hM
 exact ⟨_,resE_tmp0 rfl,⟨t2,Ls_t2,ap,rfl,H,hY_t2⟩⟩
def zan (aa:Int) (stages:List Int):Unit->(Int × Span)->M (Unit ⊕ Unit):=fun (_:Unit) (x,x2) =>
  M.grd (decide ((-9223372036854775808:Int)<=(x-aa))&&decide ((x-aa)<=(9223372036854775807:Int))) <|
  M.grd (decide ((0:Int)<=(x-aa))&&decide ((x-aa)<(stages.length:Int))) <|
  M.bind (zaa (stages.getD (Int.toNat (x-aa)) 0) x2.lo x2.hi) fun r3 =>
  bif !r3 then (
  M.pure (.inr ()))
  else (
  M.pure (.inl ()))
def zaD (ac:List Yr) (ae:List Old10) (aa ab:Int) (stages:List Int):M (Bool × Int) :=
  M.bind (zar ac ae aa ab) fun x_=>match x_ with
  | (.inl r1)=>(
  bif r1 != 0 then (
  M.pure (false,r1))
  else (
  M.fail))
  | (.inr (ag,ah,ai,aj))=>(
  bif aj != 0 then (
  M.fail)
  else (
  M.grd (decide ((-9223372036854775808:Int)<=(ab-aa))&&decide ((ab-aa)<=(9223372036854775807:Int))) <|
  M.grd (decide ((-9223372036854775808:Int)<=((ab-aa)+1))&&decide (((ab-aa)+1)<=(9223372036854775807:Int))) <|
  bif (stages.length:Int) != ((ab-aa)+1) then (
  M.pure (false,2))
  else (
  M.bind (zaQ stages (fun ak=>zbo ak)) fun r2 =>
  bif !r2 then (
  M.pure (false,4))
  else (
  M.bind (zai ac ae ag ah ai aa ab) fun (al,am) =>
  M.bind (zal (M.yl (zan aa stages)) (.inl ()) al am ac ae ag ah ai) fun x_=>match x_ with
  | .inl _=>(
  M.pure (true,0))
  | .inr _=>(
  M.pure (false,0))))))
theorem zd1 {R:List Chunk} {aU:Cells} {ab:Value} {aV:Cells} {ac:Value} {aW:Cells} {aj:Value} (aC:List Yr) (aD:List Old10) (aa:Int) (ag:Int) (stages:List Int) (aE:Reads R aU) (aJ:Sl aU ab aC) (aF:Reads R aV) (aK:Sl aV ac aD) (aO:Reads R aW) (aL:Sl aW aj stages) {r:(Bool × Int)} (hM:(zaD aC aD aa ag stages).Ends r) (w:World) (H:St w w [] R):Ret Tryz.prog 8 #[.agg #[ab,ac,I aa,I ag],aj] w fun v w'=>∃ (y0:Bool) (y1:Int),(y0,y1)=r/\v = .tuple #[B y0,I y1]/\St w w' [] R:=by
 refine ret_of_WD Tryz.func8 rfl rfl rfl ?_
 replace H:St w w [cMk ([])] R:=H.mk0
 have bJ:=aJ.len_le
 have bK:=aK.len_le
 have bL:=aL.len_le
 unfold zaD at hM
 refine WD.seq<|WD.of<|W.region rfl ?_;refine t_bx [ab,ac,I aa,I ag] H rfl ?_;intro az bM H;refine t_box (v:=aj) (cs:=[aj]) H rfl (Sl.cells aL) ?_;intro aA bN H;refine t_alloc (cs:=[B false]) H Al4 rfl ?_;intro ak bO H;refine t_alloc (cs:=[I 0]) H Al42 rfl ?_;intro al bP H;refine s_nil<|WD.seq<|WD.of ?_;refine kg 2 ?_;obtain ⟨bQ,a7,hM⟩:=M.e_bind hM;refine s_call cf22 [.agg #[ab,ac,I aa,I ag]] rfl (zc1 aC aD aa ag (aE.app _) aJ (aF.app _) aK a7 _ (H.gt 5)) ?_
 rintro vq bR (⟨r1,a8,hvq,ae⟩ | ⟨am,ao,ap,ba,ah,ai,bb,hvq,ae⟩)
 ·subst a8;subst vq;(try dsimp only at hM);replace H:=H.bk ae;clear ae;refine kg 6 ?_;refine WD.seq<|WD.block<|WD.seq<|WD.of ?_;refine kg 5 ?_
  refine WD.cond (r1 != 0) rfl (fun aG=>?_) (fun aG=>?_)
  ·replace hM:=M.e_t hM aG
   replace aG:=dI aG
   refine WD.seq<|WD.of ?_;refine kg 2 ?_;refine t_sw 1 0 [B false] (B false) H rfl rfl Sz4 rfl rfl rfl rfl ?_;intro bS H;refine t_sw 0 0 [I r1] (I r1) H rfl rfl Sz42 rfl rfl rfl rfl ?_;intro bT H;refine s_nil ?_;replace H:=H.pk [0,1,4];refine WD.of ?_;refine W.ret ?_;refine bodyD_r (H.pk [2,0,1]) ?_;intro bU H;replace H:=H.nf
   have bc:=(H.bl 1)
   have bf:=(H.bl 0)
   have aq:=M.e_pure hM
   exact ⟨_,(resE_ofn (vs:=[B false,I r1]) rfl rfl (.cell (v:=B false) rfl (run_loadVar_sc Sc4 bc rfl)<|.cell (v:=I r1) rfl (run_loadVar_sc Sc42 bf rfl)<|.nil)),⟨false,r1,aq,rfl,(H.pk [])⟩⟩
  replace hM:=M.e_f hM aG
  exact (M.e_fail hM).elim
 subst bb;subst vq;(try dsimp only at hM);replace H:=H.bk ae;clear ae;refine kg 6 ?_;refine WD.seq<|WD.block<|WD.seq<|WD.of ?_;refine kg 5 ?_
 refine WD.cond (ba != 0) rfl (fun aH=>?_) (fun aH=>?_)
 ·replace hM:=M.e_t hM aH
  exact (M.e_fail hM).elim
 replace hM:=M.e_f hM aH
 replace aH:=dI aH
 refine WD.seq<|WD.of ?_
 have bV:=(aL).len_le
 obtain ⟨bW,hM⟩:=M.e_gd hM;obtain ⟨bX,hM⟩:=M.e_gd hM;refine kg 12 ?_
 refine WD.cond ((stages.length:Int) != ((ag-aa)+1)) rfl (fun aB=>?_) (fun aB=>?_)
 ·replace hM:=M.e_t hM aB
  replace aB:=dI aB
  refine WD.seq<|WD.of<|W.region rfl ?_;refine t_sw 3 0 [B false] (B false) H rfl rfl Sz4 rfl rfl rfl rfl ?_;intro bY H;refine t_sw 2 0 [I 2] (I 2) H rfl rfl Sz42 rfl rfl rfl rfl ?_;intro bZ H;refine s_nil ?_;replace H:=H.pk [2,3,6];refine WD.of ?_;refine W.ret ?_;refine bodyD_r (H.pk [2,0,1]) ?_;intro b3 H;replace H:=H.nf
  have bg:=(H.bl 1)
  have bh:=(H.bl 0)
  have aq:=M.e_pure hM
  exact ⟨_,(resE_ofn (vs:=[B false,I 2]) rfl rfl (.cell (v:=B false) rfl (run_loadVar_sc Sc4 bg rfl)<|.cell (v:=I 2) rfl (run_loadVar_sc Sc42 bh rfl)<|.nil)),⟨false,2,aq,rfl,(H.pk [])⟩⟩
 replace hM:=M.e_f hM aB
 replace aB:=dI aB
 refine WD.seq<|WD.of ?_;refine kg 2 ?_;obtain ⟨b4,bi,hM⟩:=M.e_bind hM;refine s_call cf23 [aj,.func (.func 24) #[] #[]] rfl (zcX stages (fun aP=>zbo aP) (aO.app _) aL ⟨24,[],rfl,cf24,fun aX b6 b7 bj aP b8 bm b9 bn bo=>by obtain rfl:=Arg.int bn; exact (zdT aP bo aX (St.refl bm)).mono fun bj aX ⟨ca,bp,br,bt⟩=>by subst bp; exact ⟨br,bt⟩⟩ bi _ (H.gt 7)) ?_
 rintro vq cb ⟨r2,rfl,hvq,ae⟩
 subst vq;(try dsimp only at hM);replace H:=H.bk ae;clear ae;refine kg 3 ?_
 refine WD.cond (!r2) rfl (fun aQ=>?_) (fun aQ=>?_)
 ·replace hM:=M.e_t hM aQ;refine WD.seq<|WD.of<|W.region rfl ?_;refine t_sw 3 0 [B false] (B false) H rfl rfl Sz4 rfl rfl rfl rfl ?_;intro cc H;refine t_sw 2 0 [I 4] (I 4) H rfl rfl Sz42 rfl rfl rfl rfl ?_;intro cd H;refine s_nil ?_;replace H:=H.pk [2,3,6];refine WD.of ?_;refine W.ret ?_;refine bodyD_r (H.pk [2,0,1]) ?_;intro ce H;replace H:=H.nf
  have bu:=(H.bl 1)
  have bv:=(H.bl 0)
  have aq:=M.e_pure hM
  exact ⟨_,(resE_ofn (vs:=[B false,I 4]) rfl rfl (.cell (v:=B false) rfl (run_loadVar_sc Sc4 bu rfl)<|.cell (v:=I 4) rfl (run_loadVar_sc Sc42 bv rfl)<|.nil)),⟨false,4,aq,rfl,(H.pk [])⟩⟩
 replace hM:=M.e_f hM aQ;refine WD.of<|W.skip<|WD.seq<|WD.seq<|WD.of ?_;refine kg 6 ?_;obtain ⟨cf,bw,hM⟩:=M.e_bind hM;refine s_call cf26 [Pq ah,I aa,I ag] rfl (zbd aC aD am ao ap aa ag (aE.app _) aJ (aF.app _) aK (Has.here (k:=1) rfl) (Has.here (k:=0) rfl) bw _ (H.gt 7)) ?_
 rintro vq cg ⟨ar,au,av,aw,ax,rfl,hvq,ae⟩
 subst vq;(try dsimp only at hM);replace H:=H.bk ae;clear ae;refine s_nil<|WD.block ?_;obtain ⟨ch,bx,hM⟩:=M.e_bind hM;refine WD.range (L:=[cBlk al [I 0] 42,cBlk ak [B false] 4,cBlk av [I ar] 3,cBlk aw [I au] 3,cBlk ax [Pq ah] 76,cBlk ah [ab,ac,I am,I ao,.map (some ai)] 118,cMl I encSp ai ap,cBlk aA [aj] 27,cBlk az [ab,ac,I aa,I ag] 26]) [Pq av,Pq aw,Pq ax] (H.pk [9,5,6,0,1,2,3,4,7,8]) rfl cf55 ?_;intro aM aN aR bz aS H
 have hYC:YieldC Tryz.prog ([cMk (aN :: ([])),cBlk av [I ar] 3,cBlk aw [I au] 3,cBlk ax [Pq ah] 76,cBlk ah [ab,ac,I am,I ao,.map (some ai)] 118,cMl I encSp ai ap,cBlk aA [aj] 27,cBlk az [ab,ac,I aa,I ag] 26]++R) arISpan (yJ aM aR (fun _ ay=>ay=[cBlk al [I 0] 42,cBlk ak [B false] 4]) (fun _ ay=>ay=[cBlk al [I 0] 42,cBlk ak [B false] 4]) (fun _=>.ret)) (.func (.yield aM) #[] #[]) (M.yl (zan aa stages)):=by
  refine YieldC.mk2 aS (fun _ ay=>ay=[cBlk al [I 0] 42,cBlk ak [B false] 4]) (fun _ ay=>ay=[cBlk al [I 0] 42,cBlk ak [B false] 4]) (fun _=>.ret) (zan aa stages) (by rintro _ _ h_; obtain ⟨rfl⟩:=h_; rfl) (by rintro _ _ h_; (obtain ⟨rfl⟩:=h_; rfl)) rfl (arISpan_len rfl) ?_;intro C_ ci x_ bA
  obtain ⟨x,x2⟩:=x_
  obtain rfl:=bA
  intro w R aI ay s_ r bB hM H
  skip
  obtain ⟨rfl⟩:=bB
  replace H:=H.nf;refine kg 5 ?_;refine t_alloc (cs:=[I 0,I 0]) H Al31 rfl ?_;intro aY cj H;refine t_sw 0 0 [I x2.lo,I x2.hi] (.agg #[I x2.lo,I x2.hi]) H rfl rfl Sz31 rfl rfl rfl rfl ?_;intro ck H;refine s_nil ?_
  refine ⟨rfl,[cBlk aY [I x2.lo,I x2.hi] 31],H.pick [0,1,2,3,4,5,6,7,8,9,10] (by decide) rfl,?_⟩
  clear H aI
  intro w R aI H
  replace aE:=aE.sub aI
  replace aF:=aF.sub aI
  replace aO:=aO.sub aI
  replace hM:(zan aa stages () (x,x2)).Ends r:=hM
  simp only [zan] at hM
  replace H:=H.nf;refine kg 2 ?_;refine W.draw (fun W=>St w W [cBlk aY [I x2.lo,I x2.hi] 31,cBlk al [I 0] 42,cBlk ak [B false] 4,cMk (aN :: ([])),cBlk av [I ar] 3,cBlk aw [I au] 3,cBlk ax [Pq ah] 76,cBlk ah [ab,ac,I am,I ao,.map (some ai)] 118,cMl I encSp ai ap,cBlk aA [aj] 27,cBlk az [ab,ac,I aa,I ag] 26] R) [(0,true),(1,true),(2,true),(3,true),(4,true),(5,true),(6,true),(7,true),(8,true),(9,true),(10,true),(11,false),(12,true)] mixed (by decide +kernel) rfl ?_;intro cl aZ;replace H:=H.ext aZ;clear aZ
  refine ⟨(H.pk [0,1,2,3,4,5,6,7,8,9,10]),?_⟩
  obtain ⟨cm,hM⟩:=M.e_gd hM;obtain ⟨cn,hM⟩:=M.e_gd hM;refine kg 11 ?_;refine d_l rfl ?_;obtain ⟨co,bC,hM⟩:=M.e_bind hM;refine s_call cf25 [I (stages.getD (Int.toNat (x-aa)) 0),I x2.lo,I x2.hi] rfl (zab (stages.getD (Int.toNat (x-aa)) 0) x2.lo x2.hi bC _ (H.gt 11)) ?_
  rintro vq cp ⟨r3,rfl,hvq,ae⟩
  subst vq;(try dsimp only at hM);replace H:=H.bk ae;clear ae
  refine s_nil ⟨(H.pk [0,1,2,3,4,5,6,7,8,9,10]),?_⟩
  refine kg 2 ?_
  refine W.cond (!r3) rfl (fun aT=>?_) (fun aT=>?_)
  ·replace hM:=M.e_t hM aT;refine kg 2 ?_;refine t_sw 2 0 [B false] (B false) H rfl rfl Sz4 rfl rfl rfl rfl ?_;intro cq H;refine t_sw 1 0 [I 0] (I 0) H rfl rfl Sz42 rfl rfl rfl rfl ?_;intro cr H;refine s_nil ?_;refine W.ret ?_
   exact ⟨(),[cBlk al [I 0] 42,cBlk ak [B false] 4],(M.e_pure hM).symm,rfl,H.pick [1,2,3,4,5,6,7,8,9,10] (by decide) rfl,rfl⟩
  replace hM:=M.e_f hM aT;refine W.skip ?_
  exact ⟨(),[cBlk al [I 0] 42,cBlk ak [B false] 4],(M.e_pure hM).symm,rfl,H.pick [1,2,3,4,5,6,7,8,9,10] (by decide) rfl⟩
 replace H:St w bz (cAll (cObj aM (.loop aR) :: [cBlk al [I 0] 42,cBlk ak [B false] 4]) :: [cMk (aN :: ([])),cBlk av [I ar] 3,cBlk aw [I au] 3,cBlk ax [Pq ah] 76,cBlk ah [ab,ac,I am,I ao,.map (some ai)] 118,cMl I encSp ai ap,cBlk aA [aj] 27,cBlk az [ab,ac,I aa,I ag] 26]) R:=St.bundleB (A:=cObj aM (.loop aR) :: [cBlk al [I 0] 42,cBlk ak [B false] 4]) (T:=[cMk (aN :: ([])),cBlk av [I ar] 3,cBlk aw [I au] 3,cBlk ax [Pq ah] 76,cBlk ah [ab,ac,I am,I ao,.map (some ai)] 118,cMl I encSp ai ap,cBlk aA [aj] 27,cBlk az [ab,ac,I aa,I ag] 26]) rfl (H.pk [0,2,3,1,4,5,6,7,8,9,10])
 refine (za7 (M.yl (zan aa stages)) (.inl ()) ar au aC aD am ao ap hYC ⟨_,rfl,rfl⟩ (Has.here (k:=1) rfl) (Has.here (k:=2) rfl) (aE.app _) aJ (aF.app _) aK (Has.here (k:=5) rfl) (Has.here (k:=4) rfl) (Has.here (k:=3) rfl) bx _ (H.gt 8)).mono ?_
 rintro vq cu ⟨bD,cv,rfl,hvq,ae,a6⟩
 replace H:=H.back ae rfl
 clear ae hYC
 rcases bD with _ | _
 ·(try dsimp only at hM)
  obtain ⟨_,rfl,rfl⟩:=a6
  refine ⟨_,[cBlk al [I 0] 42,cBlk ak [B false] 4,cBlk av [I ar] 3,cBlk aw [I au] 3,cBlk ax [Pq ah] 76,cBlk ah [ab,ac,I am,I ao,.map (some ai)] 118,cMl I encSp ai ap,cBlk aA [aj] 27,cBlk az [ab,ac,I aa,I ag] 26],H.unbundle.pick [0,3,1,2,4,5,6,7,8,9,10] (by decide) rfl,aS.nb,?_⟩
  intro bE H
  rw [aS.pd]
  replace H:=H.nf
  try simp only []
  replace H:=H.pk [0,1,2];refine WD.seq<|WD.of<|W.region rfl ?_;refine t_sw 2 0 [B true] (B true) H rfl rfl Sz4 rfl rfl rfl rfl ?_;intro cx H;refine t_sw 1 0 [I 0] (I 0) H rfl rfl Sz42 rfl rfl rfl rfl ?_;intro cy H;refine s_nil<|WD.of ?_;refine W.ret ?_;refine bodyD_r (H.pk [0,1,2]) ?_;intro cz H;replace H:=H.nf
  have bF:=(H.bl 1)
  have bG:=(H.bl 0)
  have aq:=M.e_pure hM
  exact ⟨_,(resE_ofn (vs:=[B true,I 0]) rfl rfl (.cell (v:=B true) rfl (run_loadVar_sc Sc4 bF rfl)<|.cell (v:=I 0) rfl (run_loadVar_sc Sc42 bG rfl)<|.nil)),⟨true,0,aq,rfl,(H.pk [])⟩⟩
 (try dsimp only at hM)
 obtain ⟨_,rfl,rfl⟩:=a6
 refine ⟨_,[cBlk al [I 0] 42,cBlk ak [B false] 4,cBlk av [I ar] 3,cBlk aw [I au] 3,cBlk ax [Pq ah] 76,cBlk ah [ab,ac,I am,I ao,.map (some ai)] 118,cMl I encSp ai ap,cBlk aA [aj] 27,cBlk az [ab,ac,I aa,I ag] 26],H.unbundle.pick [0,3,1,2,4,5,6,7,8,9,10] (by decide) rfl,nofun,?_⟩
 intro bE H
 show WD _ _ _ (.ret) _ _ _
 refine WD.of ?_;refine W.ret ?_;replace H:=H.nf;refine bodyD_r (H.pk [0,1,2,3,4,5,6,7,8,9]) ?_;intro cB H;replace H:=H.nf
 have bH:=(H.bl 1)
 have bI:=(H.bl 0)
 have aq:=M.e_pure hM
 exact ⟨_,(resE_ofn (vs:=[B false,I 0]) rfl rfl (.cell (v:=B false) rfl (run_loadVar_sc Sc4 bH rfl)<|.cell (v:=I 0) rfl (run_loadVar_sc Sc42 bI rfl)<|.nil)),⟨false,0,aq,rfl,(H.pk [])⟩⟩

def zao  : Unit->(Int × Span)->M (Unit ⊕ Int):=fun (_:Unit) (x,x2) =>
  bif decide (x2.hi<x2.lo) then (
  M.pure (.inr x))
  else (
  M.pure (.inl ()))
def zaP (ac:List Yr) (ae:List Old10) (aa ab:Int) (ag:List (Int × Span)):M (Int × Bool) :=
  M.bind (zai ac ae aa ab ag aa ab) fun (ah,ai) =>
  M.bind (zal (M.yl zao) (.inl ()) ah ai ac ae aa ab ag) fun x_=>match x_ with
  | .inl _=>(
  M.pure (0,false))
  | .inr s=>(
  M.pure (s,true))
theorem zdf {R:List Chunk} {ac:Nat} {aI:Cells} {aJ:Value} {aK:Cells} {aL:Value} {aM:Nat} (av:List Yr) (aw:List Old10) (ao:Int) (ap:Int) (ax:List (Int × Span)) (ay:Reads R aI) (aD:Sl aI aJ av) (az:Reads R aK) (aE:Sl aK aL aw) (aA:Has R (cMl I encSp aM ax)) (aB:Has R (cBlk ac [aJ,aL,I ao,I ap,.map (some aM)] 118)) {r:(Int × Bool)} (hM:(zaP av aw ao ap ax).Ends r) (w:World) (H:St w w [] R):Ret Tryz.prog 56 #[Pq ac] w fun v w'=>∃ (y0:Int) (y1:Bool),(y0,y1)=r/\v = .tuple #[I y0,B y1]/\St w w' [] R:=by
 refine ret_of_WD Tryz.func56 rfl rfl rfl ?_
 replace H:St w w [cMk ([])] R:=H.mk0
 have aW:=aD.len_le
 have aX:=aE.len_le
 unfold zaP at hM
 refine WD.seq<|WD.of ?_;refine kg 4 ?_;refine WD.scope<|WD.seq<|WD.of<|W.region rfl ?_;refine t_alloc (cs:=[I 0]) H Al3 rfl ?_;intro aa aY H;refine t_alloc (cs:=[B false]) H Al4 rfl ?_;intro ab aZ H;refine t_sw 1 0 [I 0] (I 0) H rfl rfl Sz3 rfl rfl rfl rfl ?_;intro a6 H;refine t_sw 0 0 [B false] (B false) H rfl rfl Sz4 rfl rfl rfl rfl ?_;intro a7 H;refine s_nil<|WD.seq<|WD.of ?_;refine W.label<|WD.seq<|WD.seq<|WD.of ?_;refine W.draw (fun W=>St w W [cBlk ab [B false] 4,cBlk aa [I 0] 3,cMk ([])] R) [(0,true),(1,true),(2,true),(3,true),(4,true),(5,true),(6,true),(7,true),(8,true),(9,true),(10,true),(11,false)] mixed (by decide +kernel) rfl ?_;intro a8 ae;replace H:=H.ext ae;clear ae
 refine ⟨(H.pk [0,1,2]),?_⟩
 refine kg 11 ?_;refine d_l rfl ?_;obtain ⟨ba,aO,hM⟩:=M.e_bind hM;refine s_call cf26 [Pq ac,I ao,I ap] rfl (zbd av aw ao ap ax ao ap (ay.app _) aD (az.app _) aE (aA.app _) (aB.app _) aO _ (H.gt 3)) ?_
 rintro vq bb ⟨ah,ai,aj,ak,al,rfl,hvq,ar⟩
 subst vq;(try dsimp only at hM);replace H:=H.bk ar;clear ar
 refine s_nil ⟨(H.pk [3,4,5]),?_⟩
 refine d_nil<|WD.block ?_;obtain ⟨bc,aP,hM⟩:=M.e_bind hM;refine WD.range (L:=[cBlk ab [B false] 4,cBlk aa [I 0] 3,cBlk aj [I ah] 3,cBlk ak [I ai] 3,cBlk al [Pq ac] 76]) [Pq aj,Pq ak,Pq al] (H.pk [5,3,4,0,1,2]) rfl cf55 ?_;intro aC au aF aQ aG H
 have hYC:YieldC Tryz.prog ([cMk (au :: ([])),cBlk aj [I ah] 3,cBlk ak [I ai] 3,cBlk al [Pq ac] 76]++R) arISpan (yJ aC aF (fun _ ag=>ag=[cBlk ab [B false] 4,cBlk aa [I 0] 3]) (fun s ag=>ag=[cBlk ab [B true] 4,cBlk aa [I s] 3]) (fun _=>.exit 0)) (.func (.yield aC) #[] #[]) (M.yl zao):=by
  refine YieldC.mk2 aG (fun _ ag=>ag=[cBlk ab [B false] 4,cBlk aa [I 0] 3]) (fun s ag=>ag=[cBlk ab [B true] 4,cBlk aa [I s] 3]) (fun _=>.exit 0) zao (by rintro _ _ h_; obtain ⟨rfl⟩:=h_; rfl) (by rintro s _ h_; (obtain ⟨rfl⟩:=h_; rfl)) rfl (arISpan_len rfl) ?_;intro C_ bf x_ aR
  obtain ⟨x,x2⟩:=x_
  obtain rfl:=aR
  intro w R aq ag s_ r aS hM H
  skip
  obtain ⟨rfl⟩:=aS
  replace H:=H.nf;refine kg 5 ?_;refine t_alloc (cs:=[I 0,I 0]) H Al31 rfl ?_;intro aT bg H;refine t_sw 0 0 [I x2.lo,I x2.hi] (.agg #[I x2.lo,I x2.hi]) H rfl rfl Sz31 rfl rfl rfl rfl ?_;intro bh H;refine s_nil ?_
  refine ⟨rfl,[cBlk aT [I x2.lo,I x2.hi] 31],H.pick [0,1,2,3,4,5,6] (by decide) rfl,?_⟩
  clear H aq
  intro w R aq H
  replace ay:=ay.sub aq
  replace az:=az.sub aq
  replace aA:=aA.sub aq
  replace aB:=aB.sub aq
  replace hM:(zao () (x,x2)).Ends r:=hM
  simp only [zao] at hM
  replace H:=H.nf;refine kg 9 ?_
  refine W.cond (decide (x2.hi<x2.lo)) rfl (fun am=>?_) (fun am=>?_)
  ·replace hM:=M.e_t hM am
   replace am:=dI am
   refine kg 3 ?_;refine t_sw 2 0 [I x] (I x) H rfl rfl Sz3 rfl rfl rfl rfl ?_;intro bi H;refine t_sw 1 0 [B true] (B true) H rfl rfl Sz4 rfl rfl rfl rfl ?_;intro bj H;refine s_nil ?_;refine W.exit ?_
   exact ⟨x,[cBlk ab [B true] 4,cBlk aa [I x] 3],(M.e_pure hM).symm,rfl,H.pick [1,2,3,4,5,6] (by decide) rfl,rfl⟩
  replace hM:=M.e_f hM am
  replace am:=dI am
  refine W.skip ?_
  exact ⟨(),[cBlk ab [B false] 4,cBlk aa [I 0] 3],(M.e_pure hM).symm,rfl,H.pick [1,2,3,4,5,6] (by decide) rfl⟩
 replace H:St w aQ (cAll (cObj aC (.loop aF) :: [cBlk ab [B false] 4,cBlk aa [I 0] 3]) :: [cMk (au :: ([])),cBlk aj [I ah] 3,cBlk ak [I ai] 3,cBlk al [Pq ac] 76]) R:=St.bundleB (A:=cObj aC (.loop aF) :: [cBlk ab [B false] 4,cBlk aa [I 0] 3]) (T:=[cMk (au :: ([])),cBlk aj [I ah] 3,cBlk ak [I ai] 3,cBlk al [Pq ac] 76]) rfl (H.pk [0,2,3,1,4,5,6])
 refine (za7 (M.yl zao) (.inl ()) ah ai av aw ao ap ax hYC ⟨_,rfl,rfl⟩ (Has.here (k:=1) rfl) (Has.here (k:=2) rfl) (ay.app _) aD (az.app _) aE (aA.app _) (aB.app _) (Has.here (k:=3) rfl) aP _ (H.gt 4)).mono ?_
 rintro vq bm ⟨aU,bn,rfl,hvq,ar,aN⟩
 replace H:=H.back ar rfl
 clear ar hYC
 rcases aU with _ | s
 ·(try dsimp only at hM)
  obtain ⟨_,rfl,rfl⟩:=aN
  refine ⟨_,[cBlk ab [B false] 4,cBlk aa [I 0] 3,cBlk aj [I ah] 3,cBlk ak [I ai] 3,cBlk al [Pq ac] 76],H.unbundle.pick [0,3,1,2,4,5,6] (by decide) rfl,aG.nb,?_⟩
  intro aV H
  rw [aG.pd]
  replace H:=H.nf
  try simp only []
  replace H:=H.pk [0,1,2];refine WD.seq<|WD.of ?_;refine W.draw (fun W=>St w W [cMk (au :: ([])),cBlk ab [B false] 4,cBlk aa [I 0] 3] R) [(0,true),(1,true),(2,true),(3,true)] mixed (by decide +kernel) rfl ?_;intro bo ae;replace H:=H.ext ae;clear ae
  refine ⟨(H.pk [0,1,2]),?_⟩
  refine kg 5 ?_;replace H:=H.pk [0];refine WD.of ?_;refine W.ret ?_;refine bodyD_r (H.pk [0]) ?_;intro bp H;replace H:=H.nf
  have aH:=M.e_pure hM
  exact ⟨_,resE_tmp2 rfl,⟨0,false,aH,rfl,H⟩⟩
 (try dsimp only at hM)
 obtain ⟨_,rfl,rfl⟩:=aN
 refine ⟨_,[cBlk ab [B true] 4,cBlk aa [I s] 3,cBlk aj [I ah] 3,cBlk ak [I ai] 3,cBlk al [Pq ac] 76],H.unbundle.pick [0,3,1,2,4,5,6] (by decide) rfl,nofun,?_⟩
 intro aV H
 show WD _ _ _ (.exit 0) _ _ _
 refine WD.of ?_;refine W.exit ?_;replace H:=H.nf;replace H:=H.pk [0,1,2];refine WD.seq<|WD.of ?_;refine W.draw (fun W=>St w W [cMk (au :: ([])),cBlk ab [B true] 4,cBlk aa [I s] 3] R) [(0,true),(1,true),(2,true),(3,true)] mixed (by decide +kernel) rfl ?_;intro br ae;replace H:=H.ext ae;clear ae
 refine ⟨(H.pk [0,1,2]),?_⟩
 refine kg 5 ?_;replace H:=H.pk [0];refine WD.of ?_;refine W.ret ?_;refine bodyD_r (H.pk [0]) ?_;intro bt H;replace H:=H.nf
 have aH:=M.e_pure hM
 exact ⟨_,resE_tmp2 rfl,⟨s,true,aH,rfl,H⟩⟩

end Go.Proofs.YtdmdhmineljlhaaGreat
end
section
set_option maxRecDepth 100000
set_option maxHeartbeats 16000000
namespace Go.Proofs.YtdmdhmineljlhaaGreat
open Go Go.Nm
attribute [local irreducible] gd execOp SL SLD SLT WR
def zbg (ab:List Yr) (ac:List Old10) (aa ae ak ag n first last:Int):M (Int ⊕ (Int × Int × (List (Int × Span)) × Int)) :=
  M.bind (zar ab ac aa ae) fun x_=>match x_ with
  | (.inl r1)=>(
  bif r1 != 0 then (
  M.pure (.inl r1))
  else (
  M.fail))
  | (.inr (ah,ai,aj,al))=>(
  bif al != 0 then (
  M.fail)
  else (
  M.bind (zaa ak aa ag) fun r2 =>
  M.bind (M.opt (!(!r2)) (zaa ag aa ae) false) fun r3 =>
  bif ((!r2)||(!r3)) then (
  M.pure (.inl 2))
  else (
  M.bind (zaa n first last) fun r4 =>
  bif !r4 then (
  M.pure (.inl 4))
  else (
  M.bind (zaP ab ac ah ai aj) fun (r0,am) =>
  bif am then (
  M.pure (.inl 6))
  else (
  M.pure (.inr (ah,ai,aj,0)))))))
theorem zcR {R:List Chunk} {au:Cells} {ah:Value} {av:Cells} {ai:Value} (al:List Yr) (am:List Old10) (ac:Int) (ae:Int) (ao:Int) (ag:Int) (n:Int) (first:Int) (last:Int) (aw:Reads R au) (ax:Sl au ah al) (ay:Reads R av) (az:Sl av ai am) {r:(Int ⊕ (Int × Int × (List (Int × Span)) × Int))} (hM:(zbg al am ac ae ao ag n first last).Ends r) (w:World) (H:St w w [] R):Ret Tryz.prog 27 #[.agg #[ah,ai,I ac,I ae],I ao,I ag,I n,I first,I last] w fun v w'=>(∃ (y0:Int),(.inl y0)=r/\v = .tuple #[.pointer none,I y0]/\St w w' [] R)∨(∃ (y0:Int) (y1:Int) (y2:List (Int × Span)) (y3:Int) (aA:Nat) (aB:Nat),(.inr (y0,y1,y2,y3))=r/\v = .tuple #[Pq aA,I y3]/\St w w' [cBlk aA [ah,ai,I y0,I y1,.map (some aB)] 118,cMl I encSp aB y2] R):=by
 refine ret_of_W Tryz.func27 rfl rfl rfl ?_;refine kg 2 ?_;refine t_bx [ah,ai,I ac,I ae] H rfl ?_;intro aR aS H;refine kg 6 ?_;obtain ⟨aT,aG,hM⟩:=M.e_bind hM;refine s_call cf22 [.agg #[ah,ai,I ac,I ae]] rfl (zc1 al am ac ae (aw.app _) ax (ay.app _) az aG _ (H.gt 1)) ?_
 rintro vq aU (⟨r1,aH,hvq,aa⟩ | ⟨aC,aD,aE,aI,aF,aJ,aK,hvq,aa⟩)
 ·subst aH;subst vq;(try dsimp only at hM);replace H:=H.bk aa;clear aa;refine kg 14 ?_
  refine W.cond (r1 != 0) rfl (fun aj=>?_) (fun aj=>?_)
  ·replace hM:=M.e_t hM aj
   replace aj:=dI aj
   refine kg 6 ?_;refine W.ret ?_
   have ab:=M.e_pure hM
   exact ⟨_,resE_tmp2 rfl,.inl (⟨r1,ab,rfl,(H.pk [])⟩)⟩
  replace hM:=M.e_f hM aj
  exact (M.e_fail hM).elim
 subst aK;subst vq;(try dsimp only at hM);replace H:=H.bk aa;clear aa;refine kg 14 ?_
 refine W.cond (aI != 0) rfl (fun ak=>?_) (fun ak=>?_)
 ·replace hM:=M.e_t hM ak
  exact (M.e_fail hM).elim
 replace hM:=M.e_f hM ak
 replace ak:=dI ak
 refine kg 6 ?_;obtain ⟨aV,aL,hM⟩:=M.e_bind hM;refine s_call cf25 [I ao,I ac,I ag] rfl (zab ao ac ag aL _ (H.gt 3)) ?_
 rintro vq aW ⟨r2,rfl,hvq,aa⟩
 subst vq;(try dsimp only at hM);replace H:=H.bk aa;clear aa;refine kg 7 ?_;obtain ⟨r3,aM,hM⟩:=M.e_bind hM;refine t_gcall (!(!r2)) (gy_f rfl) cf25 (B r3) (fun _=>[I ag,I ac,I ae]) (fun hg=>lst3 (gd_of hg (I ag)) (gd_of hg (I ac)) (gd_of hg (I ae))) H (fun hg=>(zab ag ac ae (M.e_opt aM hg) _ (H.give (A:=[]) rfl)).mono fun v_ w_ ⟨y_,ab,aN,H_⟩=>by subst ab; exact ⟨aN,H.via H_⟩) ?_;intro aX H;refine kg 1 ?_;refine s_val (x_por (b:=!r2) (r:=!r3) rfl rfl (fun hb=>gd_of (c:=!(!r2)) (by first | exact hb | (rw [hb]; rfl) | simp_all) (B (!r3))))<|zA (B ((!r2)||(!r3))) rfl<|s_nil ?_
 refine W.cond ((!r2)||(!r3)) rfl (fun ap=>?_) (fun ap=>?_)
 ·replace hM:=M.e_t hM ap;refine kg 5 ?_;replace H:=H.pk [];refine W.ret ?_
  have ab:=M.e_pure hM
  exact ⟨_,resE_tmp2 rfl,.inl (⟨2,ab,rfl,H⟩)⟩
 replace hM:=M.e_f hM ap;refine kg 5 ?_;obtain ⟨aY,aO,hM⟩:=M.e_bind hM;refine s_call cf25 [I n,I first,I last] rfl (zab n first last aO _ (H.gt 3)) ?_
 rintro vq aZ ⟨r4,rfl,hvq,aa⟩
 subst vq;(try dsimp only at hM);replace H:=H.bk aa;clear aa;refine kg 3 ?_
 refine W.cond (!r4) rfl (fun aq=>?_) (fun aq=>?_)
 ·replace hM:=M.e_t hM aq;refine kg 5 ?_;replace H:=H.pk [];refine W.ret ?_
  have ab:=M.e_pure hM
  exact ⟨_,resE_tmp2 rfl,.inl (⟨4,ab,rfl,H⟩)⟩
 replace hM:=M.e_f hM aq;refine kg 5 ?_;obtain ⟨a6,aP,hM⟩:=M.e_bind hM;refine s_call cf56 [Pq aF] rfl (zdf al am aC aD aE (aw.app _) ax (ay.app _) az (Has.here (k:=1) rfl) (Has.here (k:=0) rfl) aP _ (H.gt 3)) ?_
 rintro vq a7 ⟨r0,aQ,rfl,hvq,aa⟩
 subst vq;(try dsimp only at hM);replace H:=H.bk aa;clear aa;refine kg 10 ?_
 refine W.cond aQ rfl (fun ar=>?_) (fun ar=>?_)
 ·replace hM:=M.e_t hM ar;refine kg 5 ?_;replace H:=H.pk [];refine W.ret ?_
  have ab:=M.e_pure hM
  exact ⟨_,resE_tmp2 rfl,.inl (⟨6,ab,rfl,H⟩)⟩
 replace hM:=M.e_f hM ar;refine kg 7 ?_;refine W.ret ?_
 have ab:=M.e_pure hM
 exact ⟨_,resE_tmp2 rfl,.inr (⟨aC,aD,aE,0,aF,aJ,ab,rfl,(H.pk [0,1])⟩)⟩

def zcr  : M Unit :=
  M.pure ()
theorem zc6 {R:List Chunk}    {r:Unit} (hM:(zcr).Ends r) (w:World) (H:St w w [] R):Ret Tryz.prog 29 #[] w fun v w'=>()=r/\v = .agg #[.func (.func 57) #[] #[]]/\St w w' [] R:=by
 refine ret_of_W Tryz.func29 rfl rfl rfl ?_;refine kg 2 ?_;refine t_alloc (cs:=[.nilFunc]) H Al89 rfl ?_;intro ac ae H;refine kg 3 ?_;refine s_val (x_bld (ps:=[(0,.func (.func 57) #[] #[])]) (zs:=[.nilFunc]) (L':=[.func (.func 57) #[] #[]]) rfl Tryz.underlying89 Al89 rfl (Bd89 Tryz.underlying89) (.cons (cs:=[.func (.func 57) #[] #[]]) rfl rfl rfl rfl rfl<|.nil)) ?_;refine t_sw 0 0 [.func (.func 57) #[] #[]] (.agg #[.func (.func 57) #[] #[]]) H rfl rfl Sz89 rfl rfl rfl rfl ?_;intro ag H;refine s_nil ?_;refine W.ret ?_
 have aa:=(H.bl 0)
 have ab:=M.e_pure hM
 exact ⟨_,(resE_of1 (v:=.agg #[.func (.func 57) #[] #[]]) rfl (.cell (v:=.agg #[.func (.func 57) #[] #[]]) rfl (run_loadVar_ag (ds:=[.func (.func 57) #[] #[]]) Ag89 Sz89 aa rfl rfl)<|.nil)),⟨ab,rfl,(H.pk [])⟩⟩

def zcs (s:Span):M Int :=
  M.pure s.lo
theorem zck {R:List Chunk}  (s:Span)  {r:Int} (hM:(zcs s).Ends r) (w:World) (H:St w w [] R):Ret Tryz.prog 57 #[.agg #[I s.lo,I s.hi]] w fun v w'=>∃ (y0:Int),y0=r/\v=I y0/\St w w' [] R:=by
 refine ret_of_W Tryz.func57 rfl rfl rfl ?_;refine kg 2 ?_;refine t_bx [I s.lo,I s.hi] H rfl ?_;intro ab ac H;refine kg 8 ?_;refine W.ret ?_
 have aa:=M.e_pure hM
 exact ⟨_,resE_tmp rfl,⟨s.lo,aa,rfl,(H.pk [])⟩⟩

def zbI (x_stage stage:Int):M Bool :=
  M.pure (decide (x_stage<=stage))
theorem zcf {R:List Chunk}  (x_stage:Int) (stage:Int)  {r:Bool} (hM:(zbI x_stage stage).Ends r) (w:World) (H:St w w [] R):Ret Tryz.prog 28 #[.agg #[I x_stage],I stage] w fun v w'=>∃ (y0:Bool),y0=r/\v=B y0/\St w w' [] R:=by
 refine ret_of_W Tryz.func28 rfl rfl rfl ?_;refine kg 2 ?_;refine t_bx [I x_stage] H rfl ?_;intro ab ac H;refine kg 10 ?_;refine W.ret ?_
 have aa:=M.e_pure hM
 exact ⟨_,resE_tmp rfl,⟨(decide (x_stage<=stage)),aa,rfl,(H.pk [])⟩⟩

def zbJ  : M Unit :=
  M.pure ()
theorem zcn {R:List Chunk}    {r:Unit} (hM:(zbJ).Ends r) (w:World) (H:St w w [] R):Ret Tryz.prog 30 #[] w fun v w'=>()=r/\v = .agg #[.func (.func 58) #[] #[]]/\St w w' [] R:=by
 refine ret_of_W Tryz.func30 rfl rfl rfl ?_;refine kg 2 ?_;refine t_alloc (cs:=[.nilFunc]) H Al89 rfl ?_;intro ac ae H;refine kg 3 ?_;refine s_val (x_bld (ps:=[(0,.func (.func 58) #[] #[])]) (zs:=[.nilFunc]) (L':=[.func (.func 58) #[] #[]]) rfl Tryz.underlying89 Al89 rfl (Bd89 Tryz.underlying89) (.cons (cs:=[.func (.func 58) #[] #[]]) rfl rfl rfl rfl rfl<|.nil)) ?_;refine t_sw 0 0 [.func (.func 58) #[] #[]] (.agg #[.func (.func 58) #[] #[]]) H rfl rfl Sz89 rfl rfl rfl rfl ?_;intro ag H;refine s_nil ?_;refine W.ret ?_
 have aa:=(H.bl 0)
 have ab:=M.e_pure hM
 exact ⟨_,(resE_of1 (v:=.agg #[.func (.func 58) #[] #[]]) rfl (.cell (v:=.agg #[.func (.func 58) #[] #[]]) rfl (run_loadVar_ag (ds:=[.func (.func 58) #[] #[]]) Ag89 Sz89 aa rfl rfl)<|.nil)),⟨ab,rfl,(H.pk [])⟩⟩

def zbB (s:Span):M Int :=
  M.pure s.hi
theorem zbX {R:List Chunk}  (s:Span)  {r:Int} (hM:(zbB s).Ends r) (w:World) (H:St w w [] R):Ret Tryz.prog 58 #[.agg #[I s.lo,I s.hi]] w fun v w'=>∃ (y0:Int),y0=r/\v=I y0/\St w w' [] R:=by
 refine ret_of_W Tryz.func58 rfl rfl rfl ?_;refine kg 2 ?_;refine t_bx [I s.lo,I s.hi] H rfl ?_;intro ab ac H;refine kg 8 ?_;refine W.ret ?_
 have aa:=M.e_pure hM
 exact ⟨_,resE_tmp rfl,⟨s.hi,aa,rfl,(H.pk [])⟩⟩

def zau (stage:Int):(Int × Int)->(Int × Span)->M ((Int × Int) ⊕ Unit):=fun (s2,s3) (x,x2) =>
  M.bind (zcr) fun (_:Unit) =>
  M.bind (zcs x2) fun r2 =>
  M.bind (zbI stage r2) fun r3 =>
  bif r3 then (
  M.grd (decide ((-9223372036854775808:Int)<=(s2+1))&&decide ((s2+1)<=(9223372036854775807:Int))) <|
  M.bind (zbJ) fun (_:Unit) =>
  M.bind (zbB x2) fun r4 =>
  M.bind (zbI stage r4) fun r5 =>
  bif r5 then (
  M.grd (decide ((-9223372036854775808:Int)<=(s3+1))&&decide ((s3+1)<=(9223372036854775807:Int))) <|
  M.pure (.inl (s2+1,s3+1)))
  else (
  M.pure (.inl (s2+1,s3))))
  else (
  M.bind (zbJ) fun (_:Unit) =>
  M.bind (zbB x2) fun r4 =>
  M.bind (zbI stage r4) fun r5 =>
  bif r5 then (
  M.grd (decide ((-9223372036854775808:Int)<=(s3+1))&&decide ((s3+1)<=(9223372036854775807:Int))) <|
  M.pure (.inl (s2,s3+1)))
  else (
  M.pure (.inl (s2,s3))))
def zaj (aa:List Yr) (ab:List Old10) (aj ak ac ae stage:Int):M (Int × Int × Int) :=
  M.bind (zbg aa ab aj ak ac ae stage 0 2000) fun x_=>match x_ with
  | (.inl r1)=>(
  bif r1 != 0 then (
  M.pure (0,0,r1))
  else (
  M.fail))
  | (.inr (ag,ah,ai,al))=>(
  bif al != 0 then (
  M.fail)
  else (
  M.bind (zai aa ab ag ah ai ac ae) fun (am,ao) =>
  M.bind (zal (M.yl (zau stage)) (.inl (0,0)) am ao aa ab ag ah ai) fun x_=>match x_ with
  | .inl (s2,s3)=>(
  M.pure (s2,s3,0))
  | .inr _=>M.fail))
theorem zbU {R:List Chunk} {aU:Cells} {ab:Value} {aV:Cells} {ac:Value} (aC:List Yr) (aD:List Old10) (ah:Int) (ai:Int) (az:Int) (aA:Int) (stage:Int) (aE:Reads R aU) (aI:Sl aU ab aC) (aF:Reads R aV) (aJ:Sl aV ac aD) {r:(Int × Int × Int)} (hM:(zaj aC aD ah ai az aA stage).Ends r) (w:World) (H:St w w [] R):Ret Tryz.prog 9 #[.agg #[ab,ac,I ah,I ai],I az,I aA,I stage] w fun v w'=>∃ (y0:Int) (y1:Int) (y2:Int),(y0,y1,y2)=r/\v = .tuple #[.agg #[I y0,I y1],I y2]/\St w w' [] R:=by
 refine ret_of_WD Tryz.func9 rfl rfl rfl ?_
 replace H:St w w [cMk ([])] R:=H.mk0
 have bv:=aI.len_le
 have bw:=aJ.len_le
 unfold zaj at hM
 refine WD.seq<|WD.of<|W.region rfl ?_;refine t_bx [ab,ac,I ah,I ai] H rfl ?_;intro av bx H;refine t_alloc (cs:=[I 0,I 0]) H Al31 rfl ?_;intro aw bz H;refine kg 2 ?_;refine WD.seq<|WD.of ?_;refine kg 5 ?_;obtain ⟨bA,aX,hM⟩:=M.e_bind hM;refine s_call cf27 [.agg #[ab,ac,I ah,I ai],I az,I aA,I stage,I 0,I 2000] rfl (zcR aC aD ah ai az aA stage 0 2000 (aE.app _) aI (aF.app _) aJ aX _ (H.gt 3)) ?_
 rintro vq bB (⟨r1,aY,hvq,aa⟩ | ⟨ak,al,am,aZ,ae,ag,a6,hvq,aa⟩)
 ·subst aY;subst vq;(try dsimp only at hM);replace H:=H.bk aa;clear aa;refine kg 6 ?_;refine WD.seq<|WD.seq<|WD.of ?_;refine kg 4 ?_
  refine WD.cond (r1 != 0) rfl (fun aG=>?_) (fun aG=>?_)
  ·replace hM:=M.e_t hM aG
   replace aG:=dI aG
   refine WD.seq<|WD.of<|W.region rfl<|s_val (x_bld (ps:=[]) (zs:=[I 0,I 0]) (L':=[I 0,I 0]) rfl Tryz.underlying31 Al31 rfl (Bd31 Tryz.underlying31) (.nil)) ?_;refine kg 1 ?_;refine t_sw 0 0 [I 0,I 0] (.agg #[I 0,I 0]) H rfl rfl Sz31 rfl rfl rfl rfl ?_;intro bC H;refine kg 2 ?_;refine WD.of ?_;refine W.ret ?_;refine bodyD_r (H.pk [2,0,1]) ?_;intro bD H;replace H:=H.nf
   have a7:=(H.bl 0)
   have aO:=M.e_pure hM
   exact ⟨_,(resE_ofn (vs:=[.agg #[I 0,I 0],I r1]) rfl rfl (.cell (v:=.agg #[I 0,I 0]) rfl (run_loadVar_ag (ds:=[I 0,I 0]) Ag31 Sz31 a7 rfl rfl)<|.tmp (v:=I r1) rfl<|.nil)),⟨0,0,r1,aO,rfl,(H.pk [])⟩⟩
  replace hM:=M.e_f hM aG
  exact (M.e_fail hM).elim
 subst a6;subst vq;(try dsimp only at hM);replace H:=H.bk aa;clear aa;refine kg 6 ?_;refine WD.seq<|WD.seq<|WD.of ?_;refine kg 4 ?_
 refine WD.cond (aZ != 0) rfl (fun aH=>?_) (fun aH=>?_)
 ·replace hM:=M.e_t hM aH
  exact (M.e_fail hM).elim
 replace hM:=M.e_f hM aH
 replace aH:=dI aH
 refine WD.of<|W.skip<|WD.seq<|WD.of ?_;refine kg 2 ?_;refine s_val (x_bld (ps:=[(0,I stage)]) (zs:=[I 0]) (L':=[I stage]) rfl Tryz.underlying87 Al87 rfl (Bd87 Tryz.underlying87) (.cons (cs:=[I stage]) rfl rfl rfl rfl rfl<|.nil))<|s_val (x_mf (fs:=[.agg #[I stage]]) (cs:=[]) rfl rfl) ?_;refine t_alloc (cs:=[.nilFunc]) H Al81 rfl ?_;intro ax bE H;refine t_sw 0 0 [.func (.func 28) #[.agg #[I stage]] #[]] (.func (.func 28) #[.agg #[I stage]] #[]) H rfl rfl Sz81 rfl rfl rfl rfl ?_;intro bF H;refine s_nil<|WD.seq<|WD.of<|W.region rfl ?_;refine t_alloc (cs:=[I 0,I 0]) H Al31 rfl ?_;intro aj bG H;refine s_nil<|WD.seq<|WD.seq<|WD.of ?_;refine kg 4 ?_;obtain ⟨bH,a8,hM⟩:=M.e_bind hM;refine s_call cf26 [Pq ae,I az,I aA] rfl (zbd aC aD ak al am az aA (aE.app _) aI (aF.app _) aJ (Has.here (k:=3) rfl) (Has.here (k:=2) rfl) a8 _ (H.gt 7)) ?_
 rintro vq bI ⟨ao,ap,aq,ar,au,rfl,hvq,aa⟩
 subst vq;(try dsimp only at hM);replace H:=H.bk aa;clear aa;refine s_nil<|WD.block ?_;obtain ⟨bJ,ba,hM⟩:=M.e_bind hM;refine WD.range (L:=[cBlk aj [I 0,I 0] 31,cBlk aq [I ao] 3,cBlk ar [I ap] 3,cBlk au [Pq ae] 76,cBlk ax [.func (.func 28) #[.agg #[I stage]] #[]] 81,cBlk ae [ab,ac,I ak,I al,.map (some ag)] 118,cMl I encSp ag am,cBlk aw [I 0,I 0] 31,cBlk av [ab,ac,I ah,I ai] 26]) [Pq aq,Pq ar,Pq au] (H.pk [9,3,0,1,2,4,5,6,7,8]) rfl cf55 ?_;intro aK aB aP bb aQ H
 have hYC:YieldC Tryz.prog ([cMk (aB :: ([])),cBlk aq [I ao] 3,cBlk ar [I ap] 3,cBlk au [Pq ae] 76,cBlk ax [.func (.func 28) #[.agg #[I stage]] #[]] 81,cBlk ae [ab,ac,I ak,I al,.map (some ag)] 118,cMl I encSp ag am,cBlk aw [I 0,I 0] 31,cBlk av [ab,ac,I ah,I ai] 26]++R) arISpan (yJ aK aP (fun (s2,s3) aL=>aL=[cBlk aj [I s2,I s3] 31]) (fun (_:Unit) _=>False) (fun _=>.ret)) (.func (.yield aK) #[] #[]) (M.yl (zau stage)):=by
  refine YieldC.mk2 aQ (fun (s2,s3) aL=>aL=[cBlk aj [I s2,I s3] 31]) (fun (_:Unit) _=>False) (fun _=>.ret) (zau stage) (by rintro ⟨s2,s3⟩ _ h_; obtain ⟨rfl⟩:=h_; rfl) (fun _ _ h_=>h_.elim) rfl (arISpan_len rfl) ?_;intro C_ bK x_ bc
  obtain ⟨x,x2⟩:=x_
  obtain rfl:=bc
  intro w R aM aL s_ r bf hM H
  obtain ⟨s2,s3⟩:=s_
  obtain ⟨rfl⟩:=bf
  replace H:=H.nf;refine W.region rfl ?_;refine t_alloc (cs:=[I 0,I 0]) H Al31 rfl ?_;intro aN bL H;refine t_sw 0 0 [I x2.lo,I x2.hi] (.agg #[I x2.lo,I x2.hi]) H rfl rfl Sz31 rfl rfl rfl rfl ?_;intro bM H;refine s_nil ?_
  refine ⟨rfl,[cBlk aN [I x2.lo,I x2.hi] 31],H.pick [0,1,2,3,4,5,6,7,8,9,10] (by decide) rfl,?_⟩
  clear H aM
  intro w R aM H
  replace aE:=aE.sub aM
  replace aF:=aF.sub aM
  replace hM:(zau stage (s2,s3) (x,x2)).Ends r:=hM
  simp only [zau] at hM
  replace H:=H.nf;refine kg 3 ?_;refine W.draw (fun W=>St w W [cBlk aN [I x2.lo,I x2.hi] 31,cBlk aj [I s2,I s3] 31,cMk (aB :: ([])),cBlk aq [I ao] 3,cBlk ar [I ap] 3,cBlk au [Pq ae] 76,cBlk ax [.func (.func 28) #[.agg #[I stage]] #[]] 81,cBlk ae [ab,ac,I ak,I al,.map (some ag)] 118,cMl I encSp ag am,cBlk aw [I 0,I 0] 31,cBlk av [ab,ac,I ah,I ai] 26] R) [(0,true),(3,true),(1,false),(2,true),(4,false),(5,false)] mixed (by decide +kernel) rfl ?_;intro bN ay;replace H:=H.ext ay;clear ay
  refine ⟨(H.pk [0,1,2,3,4,5,6,7,8,9,10]),?_⟩
  refine kg 2 ?_;refine d_l rfl ?_;obtain ⟨bO,bg,hM⟩:=M.e_bind hM;refine s_call cf29 [] rfl (zc6 bg _ (H.gt 11)) ?_
  rintro vq bP ⟨rfl,hvq,aa⟩
  subst vq;(try dsimp only at hM);replace H:=H.bk aa;clear aa
  refine s_nil ⟨(H.pk [0,1,2,3,4,5,6,7,8,9,10]),?_⟩
  refine d_q rfl (fun w' H=>x_fd (cs:=[.func (.func 57) #[] #[]]) (v:=.func (.func 57) #[] #[]) Fd89_0 Sc70 rfl rfl)<|d_l rfl ?_;obtain ⟨bQ,bh,hM⟩:=M.e_bind hM;refine s_callv (f:=57) rfl cf57 [.agg #[I x2.lo,I x2.hi]] rfl (zck x2 bh _ (H.gt 11)) ?_
  rintro vq bR ⟨r2,rfl,hvq,aa⟩
  subst vq;(try dsimp only at hM);replace H:=H.bk aa;clear aa
  refine s_nil ⟨(H.pk [0,1,2,3,4,5,6,7,8,9,10]),?_⟩
  refine d_l rfl ?_;obtain ⟨bS,bi,hM⟩:=M.e_bind hM;refine s_callm (f:=28) (fs:=[.agg #[I stage]]) rfl cf28 [I r2] rfl (zcf stage r2 bi _ (H.gt 11)) ?_
  rintro vq bT ⟨r3,rfl,hvq,aa⟩
  subst vq;(try dsimp only at hM);replace H:=H.bk aa;clear aa
  refine s_nil ⟨(H.pk [0,1,2,3,4,5,6,7,8,9,10]),?_⟩
  refine d_nil ?_
  refine W.cond r3 rfl (fun aR=>?_) (fun aR=>?_)
  ·replace hM:=M.e_t hM aR;obtain ⟨bU,hM⟩:=M.e_gd hM;refine kg 5 ?_;refine t_sw 1 0 [I (s2+1)] (I (s2+1)) H rfl rfl Sz3 rfl rfl rfl rfl ?_;intro bV H;refine kg 2 ?_;refine W.draw (fun W=>St w W [cBlk aN [I x2.lo,I x2.hi] 31,cBlk aj [I (s2+1),I s3] 31,cMk (aB :: ([])),cBlk aq [I ao] 3,cBlk ar [I ap] 3,cBlk au [Pq ae] 76,cBlk ax [.func (.func 28) #[.agg #[I stage]] #[]] 81,cBlk ae [ab,ac,I ak,I al,.map (some ag)] 118,cMl I encSp ag am,cBlk aw [I 0,I 0] 31,cBlk av [ab,ac,I ah,I ai] 26] R) [(0,true),(3,true),(1,false),(2,true),(4,false),(5,false)] mixed (by decide +kernel) rfl ?_;intro bW ay;replace H:=H.ext ay;clear ay
   refine ⟨(H.pk [0,1,2,3,4,5,6,7,8,9,10]),?_⟩
   refine kg 2 ?_;refine d_l rfl ?_;obtain ⟨bX,bj,hM⟩:=M.e_bind hM;refine s_call cf30 [] rfl (zcn bj _ (H.gt 11)) ?_
   rintro vq bY ⟨rfl,hvq,aa⟩
   subst vq;(try dsimp only at hM);replace H:=H.bk aa;clear aa
   refine s_nil ⟨(H.pk [0,1,2,3,4,5,6,7,8,9,10]),?_⟩
   refine d_q rfl (fun w' H=>x_fd (cs:=[.func (.func 58) #[] #[]]) (v:=.func (.func 58) #[] #[]) Fd89_0 Sc70 rfl rfl)<|d_l rfl ?_;obtain ⟨bZ,bm,hM⟩:=M.e_bind hM;refine s_callv (f:=58) rfl cf58 [.agg #[I x2.lo,I x2.hi]] rfl (zbX x2 bm _ (H.gt 11)) ?_
   rintro vq b3 ⟨r4,rfl,hvq,aa⟩
   subst vq;(try dsimp only at hM);replace H:=H.bk aa;clear aa
   refine s_nil ⟨(H.pk [0,1,2,3,4,5,6,7,8,9,10]),?_⟩
   refine d_l rfl ?_;obtain ⟨b4,bn,hM⟩:=M.e_bind hM;refine s_callm (f:=28) (fs:=[.agg #[I stage]]) rfl cf28 [I r4] rfl (zcf stage r4 bn _ (H.gt 11)) ?_
   rintro vq b6 ⟨r5,rfl,hvq,aa⟩
   subst vq;(try dsimp only at hM);replace H:=H.bk aa;clear aa
   refine s_nil ⟨(H.pk [0,1,2,3,4,5,6,7,8,9,10]),?_⟩
   refine d_nil ?_
   refine W.cond r5 rfl (fun aS=>?_) (fun aS=>?_)
   ·replace hM:=M.e_t hM aS;obtain ⟨b7,hM⟩:=M.e_gd hM;refine kg 5 ?_;refine t_sw 1 1 [I (s3+1)] (I (s3+1)) H rfl rfl Sz3 rfl rfl rfl rfl ?_;intro b8 H;refine s_nil ?_
    exact ⟨(s2+1,s3+1),[cBlk aj [I (s2+1),I (s3+1)] 31],(M.e_pure hM).symm,rfl,H.pick [1,2,3,4,5,6,7,8,9,10] (by decide) rfl⟩
   replace hM:=M.e_f hM aS;refine W.skip ?_
   exact ⟨(s2+1,s3),[cBlk aj [I (s2+1),I s3] 31],(M.e_pure hM).symm,rfl,H.pick [1,2,3,4,5,6,7,8,9,10] (by decide) rfl⟩
  replace hM:=M.e_f hM aR;refine kg 2 ?_;refine W.draw (fun W=>St w W [cBlk aN [I x2.lo,I x2.hi] 31,cBlk aj [I s2,I s3] 31,cMk (aB :: ([])),cBlk aq [I ao] 3,cBlk ar [I ap] 3,cBlk au [Pq ae] 76,cBlk ax [.func (.func 28) #[.agg #[I stage]] #[]] 81,cBlk ae [ab,ac,I ak,I al,.map (some ag)] 118,cMl I encSp ag am,cBlk aw [I 0,I 0] 31,cBlk av [ab,ac,I ah,I ai] 26] R) [(0,true),(3,true),(1,false),(2,true),(4,false),(5,false)] mixed (by decide +kernel) rfl ?_;intro b9 ay;replace H:=H.ext ay;clear ay
  refine ⟨(H.pk [0,1,2,3,4,5,6,7,8,9,10]),?_⟩
  refine kg 2 ?_;refine d_l rfl ?_;obtain ⟨ca,bo,hM⟩:=M.e_bind hM;refine s_call cf30 [] rfl (zcn bo _ (H.gt 11)) ?_
  rintro vq cb ⟨rfl,hvq,aa⟩
  subst vq;(try dsimp only at hM);replace H:=H.bk aa;clear aa
  refine s_nil ⟨(H.pk [0,1,2,3,4,5,6,7,8,9,10]),?_⟩
  refine d_q rfl (fun w' H=>x_fd (cs:=[.func (.func 58) #[] #[]]) (v:=.func (.func 58) #[] #[]) Fd89_0 Sc70 rfl rfl)<|d_l rfl ?_;obtain ⟨cc,bp,hM⟩:=M.e_bind hM;refine s_callv (f:=58) rfl cf58 [.agg #[I x2.lo,I x2.hi]] rfl (zbX x2 bp _ (H.gt 11)) ?_
  rintro vq cd ⟨r4,rfl,hvq,aa⟩
  subst vq;(try dsimp only at hM);replace H:=H.bk aa;clear aa
  refine s_nil ⟨(H.pk [0,1,2,3,4,5,6,7,8,9,10]),?_⟩
  refine d_l rfl ?_;obtain ⟨ce,br,hM⟩:=M.e_bind hM;refine s_callm (f:=28) (fs:=[.agg #[I stage]]) rfl cf28 [I r4] rfl (zcf stage r4 br _ (H.gt 11)) ?_
  rintro vq cf ⟨r5,rfl,hvq,aa⟩
  subst vq;(try dsimp only at hM);replace H:=H.bk aa;clear aa
  refine s_nil ⟨(H.pk [0,1,2,3,4,5,6,7,8,9,10]),?_⟩
  refine d_nil ?_
  refine W.cond r5 rfl (fun aT=>?_) (fun aT=>?_)
  ·replace hM:=M.e_t hM aT;obtain ⟨cg,hM⟩:=M.e_gd hM;refine kg 5 ?_;refine t_sw 1 1 [I (s3+1)] (I (s3+1)) H rfl rfl Sz3 rfl rfl rfl rfl ?_;intro ch H;refine s_nil ?_
   exact ⟨(s2,s3+1),[cBlk aj [I s2,I (s3+1)] 31],(M.e_pure hM).symm,rfl,H.pick [1,2,3,4,5,6,7,8,9,10] (by decide) rfl⟩
  replace hM:=M.e_f hM aT;refine W.skip ?_
  exact ⟨(s2,s3),[cBlk aj [I s2,I s3] 31],(M.e_pure hM).symm,rfl,H.pick [1,2,3,4,5,6,7,8,9,10] (by decide) rfl⟩
 replace H:St w bb (cAll (cObj aK (.loop aP) :: [cBlk aj [I 0,I 0] 31]) :: [cMk (aB :: ([])),cBlk aq [I ao] 3,cBlk ar [I ap] 3,cBlk au [Pq ae] 76,cBlk ax [.func (.func 28) #[.agg #[I stage]] #[]] 81,cBlk ae [ab,ac,I ak,I al,.map (some ag)] 118,cMl I encSp ag am,cBlk aw [I 0,I 0] 31,cBlk av [ab,ac,I ah,I ai] 26]) R:=St.bundleB (A:=cObj aK (.loop aP) :: [cBlk aj [I 0,I 0] 31]) (T:=[cMk (aB :: ([])),cBlk aq [I ao] 3,cBlk ar [I ap] 3,cBlk au [Pq ae] 76,cBlk ax [.func (.func 28) #[.agg #[I stage]] #[]] 81,cBlk ae [ab,ac,I ak,I al,.map (some ag)] 118,cMl I encSp ag am,cBlk aw [I 0,I 0] 31,cBlk av [ab,ac,I ah,I ai] 26]) rfl (H.pk [0,2,1,3,4,5,6,7,8,9,10])
 refine (za7 (M.yl (zau stage)) (.inl (0,0)) ao ap aC aD ak al am hYC ⟨_,rfl,rfl⟩ (Has.here (k:=1) rfl) (Has.here (k:=2) rfl) (aE.app _) aI (aF.app _) aJ (Has.here (k:=6) rfl) (Has.here (k:=5) rfl) (Has.here (k:=3) rfl) ba _ (H.gt 9)).mono ?_
 rintro vq ci ⟨bt,cj,rfl,hvq,aa,aW⟩
 replace H:=H.back aa rfl
 clear aa hYC
 rcases bt with ⟨s2,s3⟩ | _
 ·(try dsimp only at hM)
  obtain ⟨_,rfl,rfl⟩:=aW
  refine ⟨_,[cBlk aj [I s2,I s3] 31,cBlk aq [I ao] 3,cBlk ar [I ap] 3,cBlk au [Pq ae] 76,cBlk ax [.func (.func 28) #[.agg #[I stage]] #[]] 81,cBlk ae [ab,ac,I ak,I al,.map (some ag)] 118,cMl I encSp ag am,cBlk aw [I 0,I 0] 31,cBlk av [ab,ac,I ah,I ai] 26],H.unbundle.pick [0,2,1,3,4,5,6,7,8,9,10] (by decide) rfl,aQ.nb,?_⟩
  intro ck H
  rw [aQ.pd]
  replace H:=H.nf
  try simp only []
  replace H:=H.pk [0,1,8];refine WD.seq<|WD.of ?_;refine kg 2 ?_;refine t_sw 2 0 [I s2,I s3] (.agg #[I s2,I s3]) H rfl rfl Sz31 rfl rfl rfl rfl ?_;intro cl H;refine kg 2 ?_;refine WD.of ?_;refine W.ret ?_;refine bodyD_r (H.pk [0,1,2]) ?_;intro cm H;replace H:=H.nf
  have bu:=(H.bl 1)
  have aO:=M.e_pure hM
  exact ⟨_,(resE_ofn (vs:=[.agg #[I s2,I s3],I 0]) rfl rfl (.cell (v:=.agg #[I s2,I s3]) rfl (run_loadVar_ag (ds:=[I s2,I s3]) Ag31 Sz31 bu rfl rfl)<|.tmp (v:=I 0) rfl<|.nil)),⟨s2,s3,0,aO,rfl,(H.pk [])⟩⟩
 obtain ⟨_,_,h_⟩:=aW; exact h_.elim

def zbk  : M (List Pk) :=
  M.pure ([(⟨(10:Int),(300:Int)⟩:Pk),(⟨(14:Int),(350:Int)⟩:Pk),(⟨(19:Int),(320:Int)⟩:Pk),(⟨(40:Int),(280:Int)⟩:Pk)])
theorem zbZ {R:List Chunk}    {r:(List Pk)} (hM:(zbk).Ends r) (w:World) (H:St w w [] R):Ret Tryz.prog 32 #[] w fun v w'=>∃ (y0:List Pk) (u0:Value),y0=r/\v=u0/\St w w' [cOwn (α:=Pk) 129 u0 y0] R:=by
 refine ret_of_W Tryz.func32 rfl rfl rfl ?_;refine kg 6 ?_;refine s_val (x_bld (ps:=[(0,I 10),(1,I 300)]) (zs:=[I 0,I 0]) (L':=[I 10,I 300]) rfl Tryz.underlying129 Al129 rfl (Bd129 Tryz.underlying129) (.cons (cs:=[I 10]) rfl rfl rfl rfl rfl<|.cons (cs:=[I 300]) rfl rfl rfl rfl rfl<|.nil))<|s_val (x_bld (ps:=[(0,I 14),(1,I 350)]) (zs:=[I 0,I 0]) (L':=[I 14,I 350]) rfl Tryz.underlying129 Al129 rfl (Bd129 Tryz.underlying129) (.cons (cs:=[I 14]) rfl rfl rfl rfl rfl<|.cons (cs:=[I 350]) rfl rfl rfl rfl rfl<|.nil))<|s_val (x_bld (ps:=[(0,I 19),(1,I 320)]) (zs:=[I 0,I 0]) (L':=[I 19,I 320]) rfl Tryz.underlying129 Al129 rfl (Bd129 Tryz.underlying129) (.cons (cs:=[I 19]) rfl rfl rfl rfl rfl<|.cons (cs:=[I 320]) rfl rfl rfl rfl rfl<|.nil))<|s_val (x_bld (ps:=[(0,I 40),(1,I 280)]) (zs:=[I 0,I 0]) (L':=[I 40,I 280]) rfl Tryz.underlying129 Al129 rfl (Bd129 Tryz.underlying129) (.cons (cs:=[I 40]) rfl rfl rfl rfl rfl<|.cons (cs:=[I 280]) rfl rfl rfl rfl rfl<|.nil)) ?_;refine t_bs (α:=Pk) T93 [.agg #[I 10,I 300],.agg #[I 14,I 350],.agg #[I 19,I 320],.agg #[I 40,I 280]] [(⟨(10:Int),(300:Int)⟩:Pk),(⟨(14:Int),(350:Int)⟩:Pk),(⟨(19:Int),(320:Int)⟩:Pk),(⟨(40:Int),(280:Int)⟩:Pk)] H rfl (.cons rfl (Flat.rep_enc _ (⟨(10:Int),(300:Int)⟩:Pk))<|.cons rfl (Flat.rep_enc _ (⟨(14:Int),(350:Int)⟩:Pk))<|.cons rfl (Flat.rep_enc _ (⟨(19:Int),(320:Int)⟩:Pk))<|.cons rfl (Flat.rep_enc _ (⟨(40:Int),(280:Int)⟩:Pk))<|.nil) rfl rfl rfl ?_;intro aa ac H;refine kg 2 ?_;refine W.ret ?_
 have ab:=M.e_pure hM
 exact ⟨_,resE_tmp rfl,⟨([(⟨(10:Int),(300:Int)⟩:Pk),(⟨(14:Int),(350:Int)⟩:Pk),(⟨(19:Int),(320:Int)⟩:Pk),(⟨(40:Int),(280:Int)⟩:Pk)]),aa,ab,rfl,H⟩⟩

def zcL (aa:List Yr) (ab:List Old10) (ac ae:Int) (x2:Pk):M Bool :=
  M.bind (zaa x2.day 0 4000) fun r2 =>
  M.bind (M.opt r2 (zaa x2.stage 0 2000) false) fun r3 =>
  M.pure (r2&&r3)
theorem zdO {R:List Chunk} {ah:Cells} {aa:Value} {ai:Cells} {ab:Value} (aj:List Yr) (ak:List Old10) (ac:Int) (ae:Int) (x2:Pk) (ar:Reads R ah) (au:Sl ah aa aj) (av:Reads R ai) (aw:Sl ai ab ak) {r:Bool} (hM:(zcL aj ak ac ae x2).Ends r) (w:World) (H:St w w [] R):Ret Tryz.prog 82 #[.agg #[aa,ab,I ac,I ae],.iface 129 (.agg #[I x2.day,I x2.stage])] w fun v w'=>∃ (y0:Bool),y0=r/\v=B y0/\St w w' [] R:=by
 refine ret_of_W Tryz.func82 rfl rfl rfl ?_;refine kg 2 ?_;refine t_bx [aa,ab,I ac,I ae] H rfl ?_;intro ax ay H;refine kg 10 ?_;refine s_val (x_ta1 (v:=.agg #[I x2.day,I x2.stage]) Tryz.underlying129 (by intro m h_; cases h_) rfl) ?_;refine kg 3 ?_
 refine W.cond true rfl (fun al=>?_) (fun al=>?_)
 ·skip
  refine kg 2 ?_;refine t_alloc (cs:=[I 0,I 0]) H Al129 rfl ?_;intro az aA H;refine t_sw 0 0 [I x2.day,I x2.stage] (.agg #[I x2.day,I x2.stage]) H rfl rfl Sz129 rfl rfl rfl rfl ?_;intro aB H;refine kg 5 ?_;obtain ⟨aC,ao,hM⟩:=M.e_bind hM;refine s_call cf25 [I x2.day,I 0,I 4000] rfl (zab x2.day 0 4000 ao _ (H.gt 2)) ?_
  rintro vq aD ⟨r2,rfl,hvq,am⟩
  subst vq;(try dsimp only at hM);replace H:=H.bk am;clear am;refine kg 3 ?_;obtain ⟨r3,ap,hM⟩:=M.e_bind hM;refine t_gcall r2 (gy_t rfl) cf25 (B r3) (fun _=>[I x2.stage,I 0,I 2000]) (fun hg=>lst3 (gd_of hg (I x2.stage)) rfl rfl) H (fun hg=>(zab x2.stage 0 2000 (M.e_opt ap hg) _ (H.give (A:=[]) rfl)).mono fun v_ w_ ⟨y_,ag,aq,H_⟩=>by subst ag; exact ⟨aq,H.via H_⟩) ?_;intro aE H;refine s_val (x_pand (b:=r2) (r:=r3) rfl (fun hb=>gd_of (c:=r2) (by first | exact hb | (rw [hb]; rfl) | simp_all) (B r3)) rfl) ?_;refine kg 2 ?_;replace H:=H.pk [];refine W.ret ?_
  have ag:=M.e_pure hM
  exact ⟨_,resE_tmp rfl,⟨(r2&&r3),ag,rfl,H⟩⟩
 skip
 exact absurd al (by decide)

def zcz (l:List Pk):Nat->M (Nat ⊕ (Int ⊕ Unit)):=fun s =>
  bif decide ((s:Int)<(l.length:Int)) then (
  M.grd (decide ((s:Int)<(l.length:Int))) <|
  M.bind (zcL ([]:List Yr) ([]:List Old10) 0 0 (l.getD s default)) fun r2 =>
  bif !r2 then (
  M.pure (.inr (.inl 110)))
  else (
  M.grd ((!(decide (0<(s:Int)))||(decide ((-9223372036854775808:Int)<=((s:Int)-1))&&decide (((s:Int)-1)<=(9223372036854775807:Int))))) <|
  M.grd ((!(decide (0<(s:Int)))||(decide ((0:Int)<=((s:Int)-1))&&decide (((s:Int)-1)<(l.length:Int))))) <|
  bif ((decide (0<(s:Int)))&&(decide (((l.getD s default).day)<=((l.getD (Int.toNat ((s:Int)-1)) default).day)))) then (
  M.pure (.inr (.inl 9)))
  else (
  M.pure (.inl (s+1)))))
  else (
  M.pure (.inr (.inr ())))
def zcN (l:List Pk):M Int :=
  bif decide (40<(l.length:Int)) then (
  M.pure 3)
  else (
  M.bind (M.iter (zcz l) 0) fun x_=>match x_ with
  | (.inl s2)=>(
  M.pure s2)
  | (.inr (_:Unit))=>(
  M.pure 0))
theorem zdQ {R:List Chunk} {ao:Cells} {ae:Value} (l:List Pk) (aD:Reads R ao) (ap:Sl ao ae l) {r:Int} (hM:(zcN l).Ends r) (w:World) (H:St w w [] R):Ret Tryz.prog 86 #[ae] w fun v w'=>∃ (y0:Int),y0=r/\v=I y0/\St w w' [] R:=by
 refine ret_of_W Tryz.func86 rfl rfl rfl ?_
 have aE:=(ap).len_le
 refine kg 11 ?_
 refine W.cond (decide (40<(l.length:Int))) rfl (fun aa=>?_) (fun aa=>?_)
 ·replace hM:=M.e_t hM aa
  replace aa:=dI aa
  refine kg 4 ?_;refine W.ret ?_
  have ab:=M.e_pure hM
  exact ⟨_,resE_tmp rfl,⟨3,ab,rfl,H⟩⟩
 replace hM:=M.e_f hM aa
 replace aa:=dI aa
 have aF:=(ap).len_le
 refine kg 9 ?_;obtain ⟨av,ah,ai⟩:=M.e_bind hM
 obtain ⟨aG,ah⟩:=M.e_iter ah
 refine W.loop (fun m σ W=>∃ (s:Nat) (ρ:Env),σ=upds ρ [(0,ae),(8,ae),(9,I (l.length:Int)),(10,I (s:Int))]/\M.iterN (zcz l) m s=some av/\St w W [] R) ?_ ?_
 ·exact ⟨_,0,_,upds_of _ _ ⟨rfl,rfl,rfl,rfl,trivial⟩,ah,H⟩
 rintro aH σ aI ⟨s,ρ,rfl,aq,H⟩
 obtain ⟨aw,ax,aJ,hM,ag⟩:=M.e_iterN aq
 simp only [zcz] at hM
 clear aq;refine kg 5 ?_
 refine W.cond (decide ((s:Int)<(l.length:Int))) rfl (fun ac=>?_) (fun ac=>?_)
 ·replace hM:=M.e_t hM ac
  replace ac:=dI ac
  obtain ⟨aK,hM⟩:=M.e_gd hM;refine kg 8 ?_;refine t_alloc (cs:=[I 0,I 0]) H Al129 rfl ?_;intro ay aL H;refine kg 1 ?_;refine t_sw 0 0 [I ((l.getD s default).day),I ((l.getD s default).stage)] (.agg #[I ((l.getD s default).day),I ((l.getD s default).stage)]) H rfl rfl Sz129 rfl rfl rfl rfl ?_;intro aM H;refine kg 4 ?_;refine s_val (x_bld (ps:=[]) (zs:=[.slice none 0 0,.slice none 0 0,I 0,I 0]) (L':=[.slice none 0 0,.slice none 0 0,I 0,I 0]) rfl Tryz.underlying26 Al26 rfl (Bd26 Tryz.underlying26) (.nil)) ?_;refine kg 1 ?_;refine s_val (x_mi (v:=.agg #[I ((l.getD s default).day),I ((l.getD s default).stage)]) Tryz.underlying129 (by intro m h_; cases h_) rfl) ?_;obtain ⟨aN,az,hM⟩:=M.e_bind hM;refine s_call cf82 [.agg #[.slice none 0 0,.slice none 0 0,I 0,I 0],.iface 129 (.agg #[I ((l.getD s default).day),I ((l.getD s default).stage)])] rfl (zdO ([]:List Yr) ([]:List Old10) 0 0 (l.getD s default) Reads.none (Sl.nil (fun _=>none)) Reads.none (Sl.nil (fun _=>none)) az _ (H.gt 1)) ?_
  rintro vq aO ⟨r2,rfl,hvq,ar⟩
  subst vq;(try dsimp only at hM);replace H:=H.bk ar;clear ar;refine kg 3 ?_
  refine W.cond (!r2) rfl (fun aj=>?_) (fun aj=>?_)
  ·replace hM:=M.e_t hM aj;refine kg 4 ?_;refine W.ret ?_
   have aA:=M.e_inr hM ag
   subst aA;replace hM:=ai;(try dsimp only at hM)
   have ab:=M.e_pure hM
   exact ⟨_,resE_tmp rfl,⟨110,ab,rfl,(H.pk [])⟩⟩
  replace hM:=M.e_f hM aj;refine W.seq ?_;refine W.draw (fun W=>St w W [cBlk ay [I ((l.getD s default).day),I ((l.getD s default).stage)] 129] R) [(0,true),(1,true),(2,true),(3,true),(4,true),(5,true),(6,true),(7,true),(8,true),(9,true),(10,true),(11,true),(12,true),(13,true)] mixed (by decide +kernel) rfl ?_;intro aP au;replace H:=H.ext au;clear au
  refine ⟨(H.pk [0]),?_⟩
  obtain ⟨ak,hM⟩:=M.e_grd hM
  replace ak:=M.imp_of ak
  simp only [Bool.and_eq_true,decide_eq_true_eq] at ak
  obtain ⟨al,hM⟩:=M.e_grd hM
  replace al:=M.imp_of al
  simp only [Bool.and_eq_true,decide_eq_true_eq] at al
  refine kg 12 ?_;refine d_q rfl (fun w' H=>x_pand (b:=decide (0<(s:Int))) (r:=decide (((l.getD s default).day)<=((l.getD (Int.toNat ((s:Int)-1)) default).day))) rfl (fun hb=>gd_of (c:=decide (0<(s:Int))) (by first | exact hb | (rw [hb]; rfl) | simp_all) (B (decide (((l.getD s default).day)<=((l.getD (Int.toNat ((s:Int)-1)) default).day))))) rfl) ?_;refine kg 2 ?_
  refine W.cond ((decide (0<(s:Int)))&&(decide (((l.getD s default).day)<=((l.getD (Int.toNat ((s:Int)-1)) default).day)))) rfl (fun am=>?_) (fun am=>?_)
  ·replace hM:=M.e_t hM am;refine kg 4 ?_;refine W.ret ?_
   have aB:=M.e_inr hM ag
   subst aB;replace hM:=ai;(try dsimp only at hM)
   have ab:=M.e_pure hM
   exact ⟨_,resE_tmp rfl,⟨9,ab,rfl,(H.pk [])⟩⟩
  replace hM:=M.e_f hM am;refine kg 5 ?_
  exact ⟨aw,ax,s+1,_,upds_of _ _ ⟨rfl,rfl,rfl,rfl,trivial⟩,M.e_inl hM ag,(H.pk [])⟩
 replace hM:=M.e_f hM ac
 replace ac:=dI ac
 refine W.exit ?_
 have aC:=M.e_inr hM ag
 subst aC;replace hM:=ai;(try dsimp only at hM);refine kg 4 ?_;refine W.ret ?_
 have ab:=M.e_pure hM
 exact ⟨_,resE_tmp rfl,⟨0,ab,rfl,H⟩⟩

def zbp (l:List Pk) (apart threshold:Int):M Int :=
  M.bind (zcN l) fun r2 =>
  M.bind (M.opt (r2==0) (zaa apart 1 60) false) fun r3 =>
  M.bind (M.opt ((r2==0)&&!(!r3)) (zaa threshold 0 2000) false) fun r4 =>
  bif ((r2==0)&&((!r3)||(!r4))) then (
  M.pure 4)
  else (
  M.pure r2)
theorem zb4 {R:List Chunk} {ag:Cells} {ab:Value} (l:List Pk) (apart:Int) (threshold:Int) (ai:Reads R ag) (aj:Sl ag ab l) {r:Int} (hM:(zbp l apart threshold).Ends r) (w:World) (H:St w w [] R):Ret Tryz.prog 59 #[ab,I apart,I threshold] w fun v w'=>∃ (y0:Int),y0=r/\v=I y0/\St w w' [] R:=by
 refine ret_of_W Tryz.func59 rfl rfl rfl ?_;refine kg 7 ?_;obtain ⟨ao,ak,hM⟩:=M.e_bind hM;refine s_call cf86 [ab] rfl (zdQ l (ai.app _) aj ak _ (H.gt 0)) ?_
 rintro vq ap ⟨r2,rfl,hvq,ah⟩
 subst vq;(try dsimp only at hM);replace H:=H.bk ah;clear ah;refine kg 9 ?_;obtain ⟨r3,al,hM⟩:=M.e_bind hM;refine t_gcall (r2==0) (gy_t rfl) cf25 (B r3) (fun _=>[I apart,I 1,I 60]) (fun hg=>lst3 (gd_of hg (I apart)) rfl rfl) H (fun hg=>(zab apart 1 60 (M.e_opt al hg) _ (H.give (A:=[]) rfl)).mono fun v_ w_ ⟨y_,aa,ac,H_⟩=>by subst aa; exact ⟨ac,H.via H_⟩) ?_;intro aq H;refine kg 3 ?_;obtain ⟨r4,am,hM⟩:=M.e_bind hM;refine t_gcall ((r2==0)&&!(!r3)) (gy_gf rfl rfl) cf25 (B r4) (fun _=>[I threshold,I 0,I 2000]) (fun hg=>lst3 (gd_of hg (I threshold)) rfl rfl) H (fun hg=>(zab threshold 0 2000 (M.e_opt am hg) _ (H.give (A:=[]) rfl)).mono fun v_ w_ ⟨y_,aa,ac,H_⟩=>by subst aa; exact ⟨ac,H.via H_⟩) ?_;intro ar H;refine kg 1 ?_;refine g_val (r2==0) (gy_t rfl) (fun hg=>x_por (b:=!r3) (r:=!r4) (gd_of hg (B (!r3))) rfl (fun hb=>gd_of (c:=((r2==0)&&!(!r3))) (by first | exact hb | (rw [hb]; rfl) | simp_all) (B (!r4))))<|s_val (x_pand (b:=r2==0) (r:=((!r3)||(!r4))) rfl (fun hb=>gd_of (c:=r2==0) (by first | exact hb | (rw [hb]; rfl) | simp_all) (B ((!r3)||(!r4)))) rfl)<|s_nil ?_
 refine W.cond ((r2==0)&&((!r3)||(!r4))) rfl (fun ae=>?_) (fun ae=>?_)
 ·replace hM:=M.e_t hM ae;refine kg 8 ?_;refine W.ret ?_
  have aa:=M.e_pure hM
  exact ⟨_,resE_tmp rfl,⟨4,aa,rfl,H⟩⟩
 replace hM:=M.e_f hM ae;refine kg 6 ?_;refine W.ret ?_
 have aa:=M.e_pure hM
 exact ⟨_,resE_tmp rfl,⟨r2,aa,rfl,H⟩⟩

def m_cmp_isNaN_int (x:Int):M Bool :=
  M.pure (x != x)
theorem cmp_isNaN_int_ok {R:List Chunk}  (x:Int)  {r:Bool} (hM:(m_cmp_isNaN_int x).Ends r) (w:World) (H:St w w [] R):Ret Tryz.prog 87 #[I x] w fun v w'=>∃ (y0:Bool),y0=r/\v=B y0/\St w w' [] R:=by
 refine ret_of_W Tryz.func87 rfl rfl rfl ?_;refine kg 11 ?_;refine W.ret ?_
 have aa:=M.e_pure hM
 exact ⟨_,resE_tmp rfl,⟨(x != x),aa,rfl,H⟩⟩

def m_cmp_Compare_int (x y:Int):M Int :=
  M.bind (m_cmp_isNaN_int x) fun r2 =>
  M.bind (m_cmp_isNaN_int y) fun r3 =>
  bif r2 then (
  bif r3 then (
  M.pure 0)
  else (
  M.pure (-1)))
  else (
  bif r3 then (
  M.pure 1)
  else (
  bif decide (x<y) then (
  M.pure (-1))
  else (
  bif decide (y<x) then (
  M.pure 1)
  else (
  M.pure 0))))
theorem cmp_Compare_int_ok {R:List Chunk}  (x:Int) (y:Int)  {r:Int} (hM:(m_cmp_Compare_int x y).Ends r) (w:World) (H:St w w [] R):Ret Tryz.prog 63 #[I x,I y] w fun v w'=>∃ (y0:Int),y0=r/\v=I y0/\St w w' [] R:=by
 refine ret_of_W Tryz.func63 rfl rfl rfl ?_;refine kg 7 ?_;obtain ⟨al,aj,hM⟩:=M.e_bind hM;refine s_call cf87 [I x] rfl (cmp_isNaN_int_ok x aj _ (H.gt 0)) ?_
 rintro vq am ⟨r2,rfl,hvq,ae⟩
 subst vq;(try dsimp only at hM);replace H:=H.bk ae;clear ae;refine kg 5 ?_;obtain ⟨ao,ak,hM⟩:=M.e_bind hM;refine s_call cf87 [I y] rfl (cmp_isNaN_int_ok y ak _ (H.gt 0)) ?_
 rintro vq ap ⟨r3,rfl,hvq,ae⟩
 subst vq;(try dsimp only at hM);replace H:=H.bk ae;clear ae;refine kg 7 ?_
 refine W.cond r2 rfl (fun ag=>?_) (fun ag=>?_)
 ·replace hM:=M.e_t hM ag;refine kg 5 ?_
  refine W.cond r3 rfl (fun ah=>?_) (fun ah=>?_)
  ·replace hM:=M.e_t hM ah;refine kg 4 ?_;refine W.ret ?_
   have aa:=M.e_pure hM
   exact ⟨_,resE_tmp rfl,⟨0,aa,rfl,H⟩⟩
  replace hM:=M.e_f hM ah;refine kg 5 ?_;refine W.ret ?_
  have aa:=M.e_pure hM
  exact ⟨_,resE_tmp rfl,⟨(-1),aa,rfl,H⟩⟩
 replace hM:=M.e_f hM ag;refine kg 6 ?_
 refine W.cond r3 rfl (fun ai=>?_) (fun ai=>?_)
 ·replace hM:=M.e_t hM ai;refine kg 4 ?_;refine W.ret ?_
  have aa:=M.e_pure hM
  exact ⟨_,resE_tmp rfl,⟨1,aa,rfl,H⟩⟩
 replace hM:=M.e_f hM ai;refine kg 8 ?_
 refine W.cond (decide (x<y)) rfl (fun ab=>?_) (fun ab=>?_)
 ·replace hM:=M.e_t hM ab
  replace ab:=dI ab
  refine kg 4 ?_;refine W.ret ?_
  have aa:=M.e_pure hM
  exact ⟨_,resE_tmp rfl,⟨(-1),aa,rfl,H⟩⟩
 replace hM:=M.e_f hM ab
 replace ab:=dI ab
 refine kg 8 ?_
 refine W.cond (decide (y<x)) rfl (fun ac=>?_) (fun ac=>?_)
 ·replace hM:=M.e_t hM ac
  replace ac:=dI ac
  refine kg 4 ?_;refine W.ret ?_
  have aa:=M.e_pure hM
  exact ⟨_,resE_tmp rfl,⟨1,aa,rfl,H⟩⟩
 replace hM:=M.e_f hM ac
 replace ac:=dI ac
 refine kg 5 ?_;refine W.ret ?_
 have aa:=M.e_pure hM
 exact ⟨_,resE_tmp rfl,⟨0,aa,rfl,H⟩⟩

def zcB (p:Pk) (day:Int):M Int :=
  M.bind (m_cmp_Compare_int p.day day) fun r2 =>
  M.pure r2
theorem zcW {R:List Chunk}  (p:Pk) (day:Int)  {r:Int} (hM:(zcB p day).Ends r) (w:World) (H:St w w [] R):Ret Tryz.prog 62 #[.agg #[I p.day,I p.stage],I day] w fun v w'=>∃ (y0:Int),y0=r/\v=I y0/\St w w' [] R:=by
 refine ret_of_W Tryz.func62 rfl rfl rfl ?_;refine kg 2 ?_;refine t_bx [I p.day,I p.stage] H rfl ?_;intro ae ag H;refine kg 7 ?_;obtain ⟨ah,ab,hM⟩:=M.e_bind hM;refine s_call cf63 [I p.day,I day] rfl (cmp_Compare_int_ok p.day day ab _ (H.gt 1)) ?_
 rintro vq ai ⟨r2,rfl,hvq,aa⟩
 subst vq;(try dsimp only at hM);replace H:=H.bk aa;clear aa;refine kg 2 ?_;refine W.ret ?_
 have ac:=M.e_pure hM
 exact ⟨_,resE_tmp rfl,⟨r2,ac,rfl,(H.pk [])⟩⟩

def zb9 (x:List Pk) (target:Int):(Int × Int)->M ((Int × Int) ⊕ Int):=fun (i,j) =>
  bif decide (i<j) then (
  M.grd (decide ((-9223372036854775808:Int)<=(i+j))&&decide ((i+j)<=(9223372036854775807:Int))) <|
  M.grd (decide ((0:Int)<=(i+j))&&decide ((i+j)<=(9223372036854775807:Int))) <|
  M.grd (decide ((0:Int)<=((i+j) / 2))&&decide (((i+j) / 2)<=(9223372036854775807:Int))) <|
  M.grd (decide ((0:Int)<=((i+j) / 2))&&decide (((i+j) / 2)<(x.length:Int))) <|
  M.bind (zcB (x.getD (Int.toNat ((i+j) / 2)) default) target) fun r2 =>
  bif decide (r2<0) then (
  M.pure (.inl (((i+j) / 2)+1,j)))
  else (
  M.pure (.inl (i,(i+j) / 2))))
  else (
  M.pure (.inr i))
def zcF (x:List Pk) (target:Int):M (Int × Bool) :=
  M.bind (M.iter (zb9 x target) (0,(x.length:Int))) fun i2 =>
  M.grd ((!(decide (i2<(x.length:Int)))||(decide ((0:Int)<=i2)&&decide (i2<(x.length:Int))))) <|
  M.bind (M.opt (decide (i2<(x.length:Int))) (zcB (x.getD (Int.toNat i2) default) target) 0) fun r3 =>
  M.pure (i2,((decide (i2<(x.length:Int)))&&(r3==0)))
theorem zdD {R:List Chunk} {aj:Cells} {ac:Value} (x:List Pk) (target:Int) (ay:Reads R aj) (ap:Sl aj ac x) {r:(Int × Bool)} (hM:(zcF x target).Ends r) (w:World) (H:St w w [] R):Ret Tryz.prog 61 #[ac,I target,.func (.func 62) #[] #[]] w fun v w'=>∃ (y0:Int) (y1:Bool),(y0,y1)=r/\v = .tuple #[I y0,B y1]/\St w w' [] R:=by
 refine ret_of_W Tryz.func61 rfl rfl rfl ?_
 have az:=(ap).len_le
 refine kg 19 ?_;obtain ⟨aq,ae,ar⟩:=M.e_bind hM
 obtain ⟨aA,ae⟩:=M.e_iter ae
 refine W.loop (fun m σ W=>∃ (i:Int) (j:Int) (ρ:Env),σ=upds ρ [(0,ac),(1,I target),(2,.func (.func 62) #[] #[]),(8,I (x.length:Int)),(9,I i),(10,I j)]/\M.iterN (zb9 x target) m (i,j)=some aq/\St w W [] R) ?_ ?_
 ·exact ⟨_,0,(x.length:Int),_,upds_of _ _ ⟨rfl,rfl,rfl,rfl,rfl,rfl,trivial⟩,ae,H⟩
 rintro aB σ aC ⟨i,j,ρ,rfl,ak,H⟩
 obtain ⟨al,am,aD,hM,ag⟩:=M.e_iterN ak
 simp only [zb9] at hM
 clear ak;refine kg 7 ?_
 refine W.cond (decide (i<j)) rfl (fun aa=>?_) (fun aa=>?_)
 ·replace hM:=M.e_t hM aa
  replace aa:=dI aa
  obtain ⟨aE,hM⟩:=M.e_gd hM;obtain ⟨aF,hM⟩:=M.e_gd hM;refine kg 7 ?_;refine s_val (x_convU (kd:=.i64) (a:=i+j) Tryz.underlying3 Tryz.underlying151 rfl (by omega))<|s_val (x_ushr1 (a:=i+j) rfl rfl) ?_;obtain ⟨aG,hM⟩:=M.e_gd hM;refine s_val (x_conv64 (kd:=.u64) (a:=(i+j) / 2) Tryz.underlying151 Tryz.underlying3 rfl (by omega)) ?_;obtain ⟨aH,hM⟩:=M.e_gd hM;refine kg 10 ?_;obtain ⟨aI,au,hM⟩:=M.e_bind hM;refine s_callv (f:=62) rfl cf62 [.agg #[I ((x.getD (Int.toNat ((i+j) / 2)) default).day),I ((x.getD (Int.toNat ((i+j) / 2)) default).stage)],I target] rfl (zcW (x.getD (Int.toNat ((i+j) / 2)) default) target au _ (H.gt 0)) ?_
  rintro vq aJ ⟨r2,rfl,hvq,ao⟩
  subst vq;(try dsimp only at hM);replace H:=H.bk ao;clear ao;refine kg 2 ?_
  refine W.cond (decide (r2<0)) rfl (fun ab=>?_) (fun ab=>?_)
  ·replace hM:=M.e_t hM ab
   replace ab:=dI ab
   refine kg 5 ?_
   exact ⟨al,am,((i+j) / 2)+1,j,_,upds_of _ _ ⟨rfl,rfl,rfl,rfl,rfl,rfl,trivial⟩,M.e_inl hM ag,H⟩
  replace hM:=M.e_f hM ab
  replace ab:=dI ab
  refine kg 4 ?_
  exact ⟨al,am,i,(i+j) / 2,_,upds_of _ _ ⟨rfl,rfl,rfl,rfl,rfl,rfl,trivial⟩,M.e_inl hM ag,H⟩
 replace hM:=M.e_f hM aa
 replace aa:=dI aa
 refine W.exit ?_
 have av:=M.e_inr hM ag
 subst av;replace hM:=ar;(try dsimp only at hM);obtain ⟨ah,hM⟩:=M.e_grd hM
 replace ah:=M.imp_of ah
 simp only [Bool.and_eq_true,decide_eq_true_eq] at ah
 refine kg 13 ?_;obtain ⟨r3,aw,hM⟩:=M.e_bind hM;refine t_gcallv (cap:=[]) (decide (i<(x.length:Int))) (gy_t rfl) cf62 (fun hg=>(gd_of hg (.func (.func 62) #[] #[]))) (I r3) (fun _=>[.agg #[I ((x.getD (Int.toNat i) default).day),I ((x.getD (Int.toNat i) default).stage)],I target]) (fun hg=>lst2 (gd_of hg (.agg #[I ((x.getD (Int.toNat i) default).day),I ((x.getD (Int.toNat i) default).stage)])) (gd_of hg (I target))) H (fun hg=>(zcW (x.getD (Int.toNat i) default) target (M.e_opt aw hg) _ (H.give (A:=[]) rfl)).mono fun v_ w_ ⟨y_,ai,ax,H_⟩=>by subst ai; exact ⟨ax,H.via H_⟩) ?_;intro aK H;refine kg 1 ?_;refine s_val (x_pand (b:=decide (i<(x.length:Int))) (r:=r3==0) rfl (fun hb=>gd_of (c:=decide (i<(x.length:Int))) (by first | exact hb | (rw [hb]; rfl) | simp_all) (B (r3==0))) rfl) ?_;refine kg 3 ?_;refine W.ret ?_
 have ai:=M.e_pure hM
 exact ⟨_,resE_tmp2 rfl,⟨i,((decide (i<(x.length:Int)))&&(r3==0)),ai,rfl,H⟩⟩

def zca (i:Int) (aa:List Pk) (ab:Int):M Int :=
  M.grd (decide ((0:Int)<=i)&&decide (i<(aa.length:Int))) <|
  M.grd (decide ((-9223372036854775808:Int)<=(((aa.getD (Int.toNat i) default).day)+ab))&&decide ((((aa.getD (Int.toNat i) default).day)+ab)<=(9223372036854775807:Int))) <|
  M.bind (zcF aa (((aa.getD (Int.toNat i) default).day)+ab)) fun (r0,r1) =>
  M.pure r0
theorem zcG {R:List Chunk} {ae:Nat} {ag:Cells} {ac:Value} {ah:Nat} (i:Int) (aa:List Pk) (ab:Int) (ak:Reads R ag) (al:Sl ag ac aa) (ap:Has R (cBlk ae [ac] 93)) (aq:Has R (cBlk ah [I ab] 3)) {r:Int} (hM:(zca i aa ab).Ends r) (w:World) (H:St w w [] R):Ret Tryz.prog 60 #[I i,Pq ae,Pq ah] w fun v w'=>∃ (y0:Int),y0=r/\v=I y0/\St w w' [] R:=by
 refine ret_of_W Tryz.func60 rfl rfl rfl ?_;refine kg 5 ?_;refine W.draw (fun W=>St w W [] R) [(0,true),(1,true),(2,true),(3,true),(4,true),(5,true),(6,true),(7,true),(8,false),(9,true),(10,true),(11,true),(12,true),(13,true)] mixed (by decide +kernel) rfl ?_;intro ar ai;replace H:=H.ext ai;clear ai
 refine ⟨(H.pk []),?_⟩
 obtain ⟨au,hM⟩:=M.e_gd hM;obtain ⟨av,hM⟩:=M.e_gd hM;refine kg 8 ?_;refine d_l rfl ?_;obtain ⟨aw,am,hM⟩:=M.e_bind hM;refine s_call cf61 [ac,I (((aa.getD (Int.toNat i) default).day)+ab),.func (.func 62) #[] #[]] rfl (zdD aa (((aa.getD (Int.toNat i) default).day)+ab) (ak.app _) al am _ (H.gt 0)) ?_
 rintro vq ax ⟨r0,r1,rfl,hvq,aj⟩
 subst vq;(try dsimp only at hM);replace H:=H.bk aj;clear aj
 refine s_nil ⟨(H.pk []),?_⟩
 refine kg 11 ?_;refine W.ret ?_
 have ao:=M.e_pure hM
 exact ⟨_,resE_tmp rfl,⟨r0,ao,rfl,H⟩⟩

def zcv (i:Int) (aa:List Pk) (ab:Int) (ac:List Int) (ae:List Pk) (ag:Int):M Int :=
  M.grd (decide ((0:Int)<=i)&&decide (i<(aa.length:Int))) <|
  M.grd (decide ((-9223372036854775808:Int)<=(((aa.getD (Int.toNat i) default).stage)-ab))&&decide ((((aa.getD (Int.toNat i) default).stage)-ab)<=(9223372036854775807:Int))) <|
  M.bind (zca i ae ag) fun r2 =>
  M.grd (decide ((0:Int)<=r2)&&decide (r2<(41:Int))) <|
  M.grd (decide ((-9223372036854775808:Int)<=((((aa.getD (Int.toNat i) default).stage)-ab)+(ac.getD (Int.toNat r2) 0)))&&decide (((((aa.getD (Int.toNat i) default).stage)-ab)+(ac.getD (Int.toNat r2) 0))<=(9223372036854775807:Int))) <|
  M.pure ((((aa.getD (Int.toNat i) default).stage)-ab)+(ac.getD (Int.toNat r2) 0))
theorem zcg {R:List Chunk} {ai:Nat} {aj:Cells} {ak:Value} {al:Nat} {ab:Nat} {am:Nat} {ao:Nat} {ap:Cells} {aq:Value} {ar:Nat} (i:Int) (ac:List Pk) (ae:Int) (aa:List Int) (ag:List Pk) (ah:Int) (aE:Reads R aj) (aF:Sl aj ak ac) (aG:Has R (cBlk ai [ak] 93)) (aH:Has R (cBlk al [I ae] 3)) (aw:aa.length=41) (ax:Has R (cBlk ab (List.flatten [[],encF (α:=Int) aa]) 126)) (ay:Reads R ap) (az:Sl ap aq ag) (aA:Has R (cBlk ao [aq] 93)) (aB:Has R (cBlk ar [I ah] 3)) (aI:Has R (cBlk am [.func (.func 60) #[] #[Pq ao,Pq ar]] 53)) {r:Int} (hM:(zcv i ac ae aa ag ah).Ends r) (w:World) (H:St w w [] R):Ret Tryz.prog 64 #[I i,Pq ai,Pq al,Pq ab,Pq am] w fun v w'=>∃ (y0:Int),y0=r/\v=I y0/\St w w' [] R:=by
 refine ret_of_W Tryz.func64 rfl rfl rfl ?_;refine kg 5 ?_;refine W.draw (fun W=>St w W [] R) [(0,true),(1,true),(2,true),(3,true),(4,true),(5,true),(6,true),(7,true),(8,true),(9,false),(10,true),(11,true),(12,true),(13,true)] mixed (by decide +kernel) rfl ?_;intro aJ au;replace H:=H.ext au;clear au
 refine ⟨(H.pk []),?_⟩
 obtain ⟨aK,hM⟩:=M.e_gd hM;obtain ⟨aL,hM⟩:=M.e_gd hM;refine kg 9 ?_;refine d_l rfl ?_;obtain ⟨aM,aC,hM⟩:=M.e_bind hM;refine s_callv (f:=60) rfl cf60 [I i] rfl (zcG i ag ah (ay.app _) az (aA.app _) (aB.app _) aC _ (H.gt 0)) ?_
 rintro vq aN ⟨r2,rfl,hvq,av⟩
 subst vq;(try dsimp only at hM);replace H:=H.bk av;clear av
 refine s_nil ⟨(H.pk []),?_⟩
 obtain ⟨aO,hM⟩:=M.e_gd hM;refine d_q rfl (fun w' H=>x_ix (v:=.pointer (some ⟨ab,0+Int.toNat r2*1,none⟩)) rfl rfl (run_indexS Tryz.underlying126 Sz3 (by omega) (by omega)))<|d_q rfl (fun w' H=>x_ld (v:=I (aa.getD (Int.toNat r2) 0)) rfl (ldS (α:=Int) (k:=1) (off:=0) (i:=(Int.toNat r2)) (f:=0) (sz:=1) 0 Sc3 (ax.blk H) rfl (sgo1 rfl) rfl (by decide) (by have aP:=aw; omega) (by omega) rfl)) ?_;obtain ⟨aQ,hM⟩:=M.e_gd hM;refine kg 3 ?_;refine W.ret ?_
 have aD:=M.e_pure hM
 exact ⟨_,resE_tmp rfl,⟨((((ac.getD (Int.toNat i) default).stage)-ae)+(aa.getD (Int.toNat r2) 0)),aD,rfl,H⟩⟩

def zb6 (l:List Int):(Int × Nat)->M ((Int × Nat) ⊕ Int):=fun (out,s) =>
  bif decide ((s:Int)<(l.length:Int)) then (
  M.grd (decide ((s:Int)<(l.length:Int))) <|
  M.pure (.inl (max out (l.getD s 0),s+1)))
  else (
  M.pure (.inr out))
def zcH (l:List Int):M Int :=
  M.bind (M.iter (zb6 l) (0,0)) fun out2 =>
  M.pure out2
theorem zcZ {R:List Chunk} {ae:Cells} {ab:Value} (l:List Int) (aq:Reads R ae) (ai:Sl ae ab l) {r:Int} (hM:(zcH l).Ends r) (w:World) (H:St w w [] R):Ret Tryz.prog 65 #[ab] w fun v w'=>∃ (y0:Int),y0=r/\v=I y0/\St w w' [] R:=by
 refine ret_of_W Tryz.func65 rfl rfl rfl ?_
 have ar:=(ai).len_le
 refine kg 16 ?_;obtain ⟨aj,ac,ak⟩:=M.e_bind hM
 obtain ⟨au,ac⟩:=M.e_iter ac
 refine W.loop (fun m σ W=>∃ (out:Int) (s:Nat) (ρ:Env),σ=upds ρ [(3,I out),(6,ab),(7,I (l.length:Int)),(8,I (s:Int))]/\M.iterN (zb6 l) m (out,s)=some aj/\St w W [] R) ?_ ?_
 ·exact ⟨_,0,0,_,upds_of _ _ ⟨rfl,rfl,rfl,rfl,trivial⟩,ac,H⟩
 rintro av σ aw ⟨out,s,ρ,rfl,ag,H⟩
 obtain ⟨al,am,ax,hM,ah⟩:=M.e_iterN ag
 simp only [zb6] at hM
 clear ag;refine kg 5 ?_
 refine W.cond (decide ((s:Int)<(l.length:Int))) rfl (fun aa=>?_) (fun aa=>?_)
 ·replace hM:=M.e_t hM aa
  replace aa:=dI aa
  obtain ⟨ay,hM⟩:=M.e_gd hM;refine kg 19 ?_
  exact ⟨al,am,max out (l.getD s 0),s+1,_,upds_of _ _ ⟨rfl,rfl,rfl,rfl,trivial⟩,M.e_inl hM ah,H⟩
 replace hM:=M.e_f hM aa
 replace aa:=dI aa
 refine W.exit ?_
 have ao:=M.e_inr hM ah
 subst ao;replace hM:=ak;(try dsimp only at hM);refine kg 5 ?_;refine W.ret ?_
 have ap:=M.e_pure hM
 exact ⟨_,resE_tmp rfl,⟨out,ap,rfl,H⟩⟩

def zcx (l:List Pk) (apart threshold:Int):((List Int) × Int)->M (((List Int) × Int) ⊕ (List Int)):=fun (s,i) =>
  bif decide (0<=i) then (
  M.grd (decide ((-9223372036854775808:Int)<=(i+1))&&decide ((i+1)<=(9223372036854775807:Int))) <|
  M.grd (decide ((0:Int)<=(i+1))&&decide ((i+1)<(41:Int))) <|
  M.bind (zcv i l threshold s l apart) fun r3 =>
  M.bind (zcH ([(s.getD (Int.toNat (i+1)) 0:Int),(r3:Int)])) fun r4 =>
  M.grd (decide ((0:Int)<=i)&&decide (i<(41:Int))) <|
  M.grd (decide ((-9223372036854775808:Int)<=(i-1))&&decide ((i-1)<=(9223372036854775807:Int))) <|
  M.pure (.inl (s.set (Int.toNat i) r4,i-1)))
  else (
  M.pure (.inr s))
def zct (l:List Pk) (apart threshold:Int) (l2:List Int):(Int × (List Int))->M ((Int × (List Int)) ⊕ ((List Int) × (List Int))):=fun (i2,l3) =>
  bif decide (i2<(l.length:Int)) then (
  M.grd (decide ((0:Int)<=i2)&&decide (i2<(l.length:Int))) <|
  M.grd ((!(!(decide (((l.getD (Int.toNat i2) default).stage)<=threshold)))||(decide ((0:Int)<=i2)&&decide (i2<(41:Int))))) <|
  M.bind (M.opt (!(decide (((l.getD (Int.toNat i2) default).stage)<=threshold))) (zcv i2 l threshold l2 l apart) 0) fun r5 =>
  bif ((decide (((l.getD (Int.toNat i2) default).stage)<=threshold))||(decide (r5<(l2.getD (Int.toNat i2) 0)))) then (
  M.pure (.inl (i2+1,l3)))
  else (
  M.grd (decide ((l3.length+([(i2:Int)]).length)*8<=140737488355328)) <|
  M.bind (zca i2 l apart) fun r6 =>
  M.pure (.inl (r6,l3++([(i2:Int)])))))
  else (
  M.pure (.inr (l3,l3)))
def zcT (l:List Pk) (apart threshold:Int):M ((List Int) × Int × Int) :=
  M.bind (zbp l apart threshold) fun r2 =>
  bif r2 != 0 then (
  M.pure (([]),0,r2))
  else (
  M.bind (M.iter (zcx l apart threshold) (List.replicate 41 0,(l.length:Int)-1)) fun l2 =>
  M.bind (M.iter (zct l apart threshold l2) (0,[])) fun (l4,l5) =>
  M.grd (decide ((0:Int)<=0)&&decide (0<(41:Int))) <|
  M.pure (l5,(l2.getD 0 0),0))
theorem zds {R:List Chunk} {aD:Cells} {aj:Value} (l:List Pk) (apart:Int) (threshold:Int) (ao:Reads R aD) (ak:Sl aD aj l) {r:((List Int) × Int × Int)} (hM:(zcT l apart threshold).Ends r) (w:World) (H:St w w [] R):Ret Tryz.prog 31 #[aj,I apart,I threshold] w fun v w'=>∃ (y0:List Int) (y1:Int) (y2:Int) (u0:Value),(y0,y1,y2)=r/\v = .tuple #[u0,I y1,I y2]/\St w w' [cOwn (α:=Int) 3 u0 y0] R:=by
 refine ret_of_W Tryz.func31 rfl rfl rfl ?_;refine kg 2 ?_;refine t_box (v:=aj) (cs:=[aj]) H rfl (Sl.cells ak) ?_;intro aa bc H;refine t_b1 (I apart) H rfl rfl ?_;intro ae bf H;refine t_b1 (I threshold) H rfl rfl ?_;intro ah bg H;refine kg 10 ?_;obtain ⟨bh,aM,hM⟩:=M.e_bind hM;refine s_call cf59 [aj,I apart,I threshold] rfl (zb4 l apart threshold (ao.app _) ak aM _ (H.gt 3)) ?_
 rintro vq bi ⟨r2,rfl,hvq,ac⟩
 subst vq;(try dsimp only at hM);replace H:=H.bk ac;clear ac;refine kg 7 ?_
 refine W.cond (r2 != 0) rfl (fun ap=>?_) (fun ap=>?_)
 ·replace hM:=M.e_t hM ap
  replace ap:=dI ap
  refine kg 7 ?_;replace H:=H.pk [];refine W.ret ?_
  have aw:=M.e_pure hM
  replace H:=H.nilOwn (α:=Int) 3
  exact ⟨_,resE_tmp3 rfl,⟨([]),0,r2,(.slice none 0 0),aw,rfl,H⟩⟩
 replace hM:=M.e_f hM ap
 replace ap:=dI ap
 refine kg 3 ?_;refine t_alloc (cs:=(List.flatten [[],encF (α:=Int) (List.replicate 41 0)])) H Al126 (by kernel_rfl) ?_;intro ab bj H;refine kg 3 ?_;refine s_val (x_mf (fs:=[]) (cs:=[Pq aa,Pq ae]) rfl rfl) ?_;refine t_alloc (cs:=[.nilFunc]) H Al53 rfl ?_;intro ai bm H;refine t_sw 0 0 [.func (.func 60) #[] #[Pq aa,Pq ae]] (.func (.func 60) #[] #[Pq aa,Pq ae]) H rfl rfl Sz53 rfl rfl rfl rfl ?_;intro bn H;refine kg 3 ?_;refine s_val (x_mf (fs:=[]) (cs:=[Pq aa,Pq ah,Pq ab,Pq ai]) rfl rfl) ?_
 have bo:=(ak).len_le
 refine kg 11 ?_;obtain ⟨aN,ay,aO⟩:=M.e_bind hM
 obtain ⟨aP,ay⟩:=M.e_iter ay
 refine W.loop (fun m σ W=>∃ (s:List Int) (i:Int) (ρ:Env),σ=upds ρ [(3,Pq aa),(5,Pq ah),(10,Pq ab),(11,Pq ai),(12,.func (.func 64) #[] #[Pq aa,Pq ah,Pq ab,Pq ai]),(13,I i)]/\M.iterN (zcx l apart threshold) m (s,i)=some aN/\St w W [cBlk ai [.func (.func 60) #[] #[Pq aa,Pq ae]] 53,cBlk ab (List.flatten [[],encF (α:=Int) s]) 126,cBlk ah [I threshold] 3,cBlk ae [I apart] 3,cBlk aa [aj] 93] R/\s.length=41) ?_ ?_
 ·exact ⟨_,List.replicate 41 0,(l.length:Int)-1,_,upds_of _ _ ⟨rfl,rfl,rfl,rfl,rfl,rfl,trivial⟩,ay,H,List.length_replicate⟩
 rintro bp σ br ⟨s,i,ρ,rfl,aE,H,al⟩
 obtain ⟨aF,aG,bt,hM,az⟩:=M.e_iterN aE
 simp only [zcx] at hM
 clear aE;refine kg 6 ?_
 refine W.cond (decide (0<=i)) rfl (fun aq=>?_) (fun aq=>?_)
 ·replace hM:=M.e_t hM aq
  replace aq:=dI aq
  refine kg 3 ?_;refine W.drawT (fun W=>St w W [cBlk ai [.func (.func 60) #[] #[Pq aa,Pq ae]] 53,cBlk ah [I threshold] 3,cBlk ae [I apart] 3,cBlk aa [aj] 93] R) (.q 0 (.q 1 (.q 2 (.q 3 (.q 5 (.q 6 (.l2 4 (.l 7 (.l 8 (.l 9 (.q 10 (.l 11 .nil))))) 7 (.l 4 (.l 8 (.l 9 (.q 10 (.l 11 .nil)))))))))))) mixed (by decide +kernel) rfl ?_;intro bu ag;replace H:=H.ext ag;clear ag
  refine ⟨(H.pk [0,2,3,4]),?_⟩
  obtain ⟨bv,hM⟩:=M.e_gd hM;obtain ⟨bw,hM⟩:=M.e_gd hM;refine kg 3 ?_;refine t_q rfl (fun w' H=>x_ix (v:=.pointer (some ⟨ab,0+Int.toNat (i+1)*1,none⟩)) rfl rfl (run_indexS Tryz.underlying126 Sz3 (by omega) (by omega))) ?_;refine kg 2 ?_;refine t_l2 rfl rfl ?_ ?_
  ·skip
   refine s_val (x_ld (v:=I (s.getD (Int.toNat (i+1)) 0)) rfl (ldS (α:=Int) (k:=1) (off:=0) (i:=(Int.toNat (i+1))) (f:=0) (sz:=1) 0 Sc3 (H.bl 1) rfl (sgo1 rfl) rfl (by decide) (by have ax:=al; omega) (by omega) rfl)) ?_
   refine s_nil ⟨(H.pk [0,2,3,4]),?_⟩
   refine t_l rfl ?_;obtain ⟨bx,aQ,hM⟩:=M.e_bind hM;refine s_callv (f:=64) rfl cf64 [I i] rfl (zcg i l threshold s l apart (ao.app _) ak (Has.here (k:=4) rfl) (Has.here (k:=2) rfl) al (Has.here (k:=1) rfl) (ao.app _) ak (Has.here (k:=4) rfl) (Has.here (k:=3) rfl) (Has.here (k:=0) rfl) aQ _ (H.gt 5)) ?_
   rintro vq bz ⟨r3,rfl,hvq,ac⟩
   subst vq;(try dsimp only at hM);replace H:=H.bk ac;clear ac
   refine s_nil ⟨(H.pk [0,2,3,4]),?_⟩
   refine t_l rfl ?_;refine t_bs (α:=Int) T27 [I (s.getD (Int.toNat (i+1)) 0),I r3] [(s.getD (Int.toNat (i+1)) 0:Int),(r3:Int)] H rfl (.cons rfl (Flat.rep_enc _ (s.getD (Int.toNat (i+1)) 0:Int))<|.cons rfl (Flat.rep_enc _ (r3:Int))<|.nil) rfl rfl rfl ?_;intro aH bA H
   have bB:=Sl.cells (H.os 0)
   have bC:=Sl.oc (H.os 0)
   refine s_nil ⟨(H.pk [1,3,4,5]),?_⟩
   refine t_l rfl ?_;obtain ⟨bD,aR,hM⟩:=M.e_bind hM;refine s_call cf65 [aH] rfl (zcZ ([(s.getD (Int.toNat (i+1)) 0:Int),(r3:Int)]) (rdo 0) (H.os 0) aR _ (H.gt 6)) ?_
   rintro vq bE ⟨r4,rfl,hvq,ac⟩
   subst vq;(try dsimp only at hM);replace H:=H.bk ac;clear ac
   refine s_nil ⟨(H.pk [1,3,4,5]),?_⟩
   obtain ⟨bF,hM⟩:=M.e_gd hM;refine t_q rfl (fun w' H=>x_ix (v:=.pointer (some ⟨ab,0+Int.toNat i*1,none⟩)) rfl rfl (run_indexS Tryz.underlying126 Sz3 (by omega) (by omega)))<|t_l rfl ?_;refine t_stS (α:=Int) (kc:=2) (b:=ab) (k:=1) (off:=0) (i:=(Int.toNat i)) (f:=0) (sz:=1) (segs:=[[],encF (α:=Int) s]) (segs':=[[],encF (α:=Int) (s.set (Int.toNat i) r4)]) (l:=s) (l':=s.set (Int.toNat i) r4) (vs:=[I r4]) (L':=[cOwn (α:=Int) 3 aH ([(s.getD (Int.toNat (i+1)) 0:Int),(r3:Int)]),cBlk ai [.func (.func 60) #[] #[Pq aa,Pq ae]] 53,cBlk ab (List.flatten [[],encF (α:=Int) (s.set (Int.toNat i) r4)]) 126,cBlk ah [I threshold] 3,cBlk ae [I apart] 3,cBlk aa [aj] 93]) H rfl rfl rfl Sz3 rfl rfl rfl rfl (sgo1 rfl) rfl rfl (by have ax:=al; omega) (by omega) 0 r4 rfl rfl rfl rfl ?_;intro bG H
   have aS:(s.set (Int.toNat i) r4).length=41:=List.length_set.trans al
   refine s_nil ⟨(H.pk [1,3,4,5]),?_⟩
   obtain ⟨bH,hM⟩:=M.e_gd hM;refine kg 6 ?_
   exact ⟨aF,aG,s.set (Int.toNat i) r4,i-1,_,upds_of _ _ ⟨rfl,rfl,rfl,rfl,rfl,rfl,trivial⟩,M.e_inl hM az,(H.pk [1,2,3,4,5]),aS⟩
  skip
  obtain ⟨bI,aT,hM⟩:=M.e_bind hM;refine s_callv (f:=64) rfl cf64 [I i] rfl (zcg i l threshold s l apart (ao.app _) ak (Has.here (k:=4) rfl) (Has.here (k:=2) rfl) al (Has.here (k:=1) rfl) (ao.app _) ak (Has.here (k:=4) rfl) (Has.here (k:=3) rfl) (Has.here (k:=0) rfl) aT _ (H.gt 5)) ?_
  rintro vq bJ ⟨r3,rfl,hvq,ac⟩
  subst vq;(try dsimp only at hM);replace H:=H.bk ac;clear ac
  refine s_nil ⟨(H.pk [0,2,3,4]),?_⟩
  refine t_l rfl<|s_val (x_ld (v:=I (s.getD (Int.toNat (i+1)) 0)) rfl (ldS (α:=Int) (k:=1) (off:=0) (i:=(Int.toNat (i+1))) (f:=0) (sz:=1) 0 Sc3 (H.bl 1) rfl (sgo1 rfl) rfl (by decide) (by have ax:=al; omega) (by omega) rfl)) ?_
  refine s_nil ⟨(H.pk [0,2,3,4]),?_⟩
  refine t_l rfl ?_;refine t_bs (α:=Int) T27 [I (s.getD (Int.toNat (i+1)) 0),I r3] [(s.getD (Int.toNat (i+1)) 0:Int),(r3:Int)] H rfl (.cons rfl (Flat.rep_enc _ (s.getD (Int.toNat (i+1)) 0:Int))<|.cons rfl (Flat.rep_enc _ (r3:Int))<|.nil) rfl rfl rfl ?_;intro aI bK H
  have bL:=Sl.cells (H.os 0)
  have bM:=Sl.oc (H.os 0)
  refine s_nil ⟨(H.pk [1,3,4,5]),?_⟩
  refine t_l rfl ?_;obtain ⟨bN,aU,hM⟩:=M.e_bind hM;refine s_call cf65 [aI] rfl (zcZ ([(s.getD (Int.toNat (i+1)) 0:Int),(r3:Int)]) (rdo 0) (H.os 0) aU _ (H.gt 6)) ?_
  rintro vq bO ⟨r4,rfl,hvq,ac⟩
  subst vq;(try dsimp only at hM);replace H:=H.bk ac;clear ac
  refine s_nil ⟨(H.pk [1,3,4,5]),?_⟩
  obtain ⟨bP,hM⟩:=M.e_gd hM;refine t_q rfl (fun w' H=>x_ix (v:=.pointer (some ⟨ab,0+Int.toNat i*1,none⟩)) rfl rfl (run_indexS Tryz.underlying126 Sz3 (by omega) (by omega)))<|t_l rfl ?_;refine t_stS (α:=Int) (kc:=2) (b:=ab) (k:=1) (off:=0) (i:=(Int.toNat i)) (f:=0) (sz:=1) (segs:=[[],encF (α:=Int) s]) (segs':=[[],encF (α:=Int) (s.set (Int.toNat i) r4)]) (l:=s) (l':=s.set (Int.toNat i) r4) (vs:=[I r4]) (L':=[cOwn (α:=Int) 3 aI ([(s.getD (Int.toNat (i+1)) 0:Int),(r3:Int)]),cBlk ai [.func (.func 60) #[] #[Pq aa,Pq ae]] 53,cBlk ab (List.flatten [[],encF (α:=Int) (s.set (Int.toNat i) r4)]) 126,cBlk ah [I threshold] 3,cBlk ae [I apart] 3,cBlk aa [aj] 93]) H rfl rfl rfl Sz3 rfl rfl rfl rfl (sgo1 rfl) rfl rfl (by have ax:=al; omega) (by omega) 0 r4 rfl rfl rfl rfl ?_;intro bQ H
  have aV:(s.set (Int.toNat i) r4).length=41:=List.length_set.trans al
  refine s_nil ⟨(H.pk [1,3,4,5]),?_⟩
  obtain ⟨bR,hM⟩:=M.e_gd hM;refine kg 6 ?_
  exact ⟨aF,aG,s.set (Int.toNat i) r4,i-1,_,upds_of _ _ ⟨rfl,rfl,rfl,rfl,rfl,rfl,trivial⟩,M.e_inl hM az,(H.pk [1,2,3,4,5]),aV⟩
 replace hM:=M.e_f hM aq
 replace aq:=dI aq
 refine W.exit ?_
 have aW:=M.e_inr hM az
 subst aW;replace hM:=aO;(try dsimp only at hM);refine kg 10 ?_
 replace H:=H.nilOwn (α:=Int) 3
 obtain ⟨aX,aA,aY⟩:=M.e_bind hM
 obtain ⟨aP,aA⟩:=M.e_iter aA
 refine W.loop (fun m σ W=>∃ (i2:Int) (l3:List Int) (ar:Value) (ρ:Env),σ=upds ρ [(3,Pq aa),(5,Pq ah),(10,Pq ab),(11,Pq ai),(12,.func (.func 64) #[] #[Pq aa,Pq ah,Pq ab,Pq ai]),(14,ar),(15,I i2)]/\M.iterN (zct l apart threshold s) m (i2,l3)=some aX/\St w W [cOwn (α:=Int) 3 ar l3,cBlk ai [.func (.func 60) #[] #[Pq aa,Pq ae]] 53,cBlk ab (List.flatten [[],encF (α:=Int) s]) 126,cBlk ah [I threshold] 3,cBlk ae [I apart] 3,cBlk aa [aj] 93] R) ?_ ?_
 ·exact ⟨_,0,[],(.slice none 0 0),_,upds_of _ _ ⟨rfl,rfl,rfl,rfl,rfl,rfl,rfl,trivial⟩,aA,H⟩
 rintro bS σ bT ⟨i2,l3,ar,ρ,rfl,aJ,H⟩
 obtain ⟨aK,aL,bU,hM,aB⟩:=M.e_iterN aJ
 simp only [zct] at hM
 clear aJ
 have bV:=(ak).len_le
 refine kg 8 ?_
 refine W.cond (decide (i2<(l.length:Int))) rfl (fun au=>?_) (fun au=>?_)
 ·replace hM:=M.e_t hM au
  replace au:=dI au
  refine kg 4 ?_;refine W.draw (fun W=>St w W [cOwn (α:=Int) 3 ar l3,cBlk ai [.func (.func 60) #[] #[Pq aa,Pq ae]] 53,cBlk ab (List.flatten [[],encF (α:=Int) s]) 126,cBlk ah [I threshold] 3,cBlk ae [I apart] 3,cBlk aa [aj] 93] R) [(0,true),(1,true),(2,true),(3,true),(4,true),(5,true),(6,true),(7,true),(8,true),(9,true),(11,true),(12,true),(13,true),(10,false),(14,true),(15,true)] mixed (by decide +kernel) rfl ?_;intro bW ag;replace H:=H.ext ag;clear ag
  refine ⟨(H.pk [0,1,2,3,4,5]),?_⟩
  obtain ⟨bX,hM⟩:=M.e_gd hM;obtain ⟨av,hM⟩:=M.e_grd hM
  replace av:=M.imp_of av
  simp only [Bool.and_eq_true,decide_eq_true_eq] at av
  refine kg 11 ?_;refine d_qg (!(decide (((l.getD (Int.toNat i2) default).stage)<=threshold))) rfl (gy_f rfl) (fun hg=>(fun w' H=>x_ix (v:=.pointer (some ⟨ab,0+Int.toNat i2*1,none⟩)) rfl (gd_of hg (I i2)) (run_indexS Tryz.underlying126 Sz3 (by have am:=av.resolve_left (by rw [hg]; decide); first | exact am | exact am.1 | exact am.2 | omega | (have ag:=hg; simp at ag; omega)) (by have am:=av.resolve_left (by rw [hg]; decide); first | exact am | exact am.1 | exact am.2 | omega | (have ag:=hg; simp at ag; omega)))))<|d_qg (!(decide (((l.getD (Int.toNat i2) default).stage)<=threshold))) rfl (gy_f rfl) (fun hg=>(fun w' H=>x_ld (v:=I (s.getD (Int.toNat i2) 0)) (gd_of hg (.pointer (some ⟨ab,0+Int.toNat i2*1,none⟩))) (ldS (α:=Int) (k:=1) (off:=0) (i:=(Int.toNat i2)) (f:=0) (sz:=1) 0 Sc3 (H.bl 2) rfl (sgo1 rfl) rfl (by decide) (by have bY:=al; have am:=av.resolve_left (by rw [hg]; decide); first | exact am | exact am.1 | exact am.2 | omega | (have ag:=hg; simp at ag; omega)) (by omega) rfl)))<|d_l rfl ?_;obtain ⟨r5,aZ,hM⟩:=M.e_bind hM;refine t_gcallv (cap:=[Pq aa,Pq ah,Pq ab,Pq ai]) (!(decide (((l.getD (Int.toNat i2) default).stage)<=threshold))) (gy_f rfl) cf64 (fun hg=>(gd_of hg (.func (.func 64) #[] #[Pq aa,Pq ah,Pq ab,Pq ai]))) (I r5) (fun _=>[I i2]) (fun hg=>lst1 (gd_of hg (I i2))) H (fun hg=>(zcg i2 l threshold s l apart (ao.app _) ak (Has.here (k:=5) rfl) (Has.here (k:=3) rfl) al (Has.here (k:=2) rfl) (ao.app _) ak (Has.here (k:=5) rfl) (Has.here (k:=4) rfl) (Has.here (k:=1) rfl) (M.e_opt aZ hg) _ (H.give (A:=[]) rfl)).mono fun v_ w_ ⟨y_,aw,a6,H_⟩=>by subst aw; exact ⟨a6,H.via H_⟩) ?_;intro bZ H
  refine s_nil ⟨(H.pk [0,1,2,3,4,5]),?_⟩
  refine kg 1 ?_;refine d_q rfl (fun w' H=>x_por (b:=decide (((l.getD (Int.toNat i2) default).stage)<=threshold)) (r:=decide (r5<(s.getD (Int.toNat i2) 0))) rfl rfl (fun hb=>gd_of (c:=!(decide (((l.getD (Int.toNat i2) default).stage)<=threshold))) (by first | exact hb | (rw [hb]; rfl) | simp_all) (B (decide (r5<(s.getD (Int.toNat i2) 0)))))) ?_;refine d_nil ?_
  refine W.cond ((decide (((l.getD (Int.toNat i2) default).stage)<=threshold))||(decide (r5<(s.getD (Int.toNat i2) 0)))) rfl (fun aC=>?_) (fun aC=>?_)
  ·replace hM:=M.e_t hM aC;refine kg 6 ?_;refine W.exit ?_
   exact ⟨aK,aL,i2+1,l3,ar,_,upds_of _ _ ⟨rfl,rfl,rfl,rfl,rfl,rfl,rfl,trivial⟩,M.e_inl hM aB,H⟩
  replace hM:=M.e_f hM aC;refine kg 5 ?_;refine t_bs (α:=Int) T27 [I i2] [(i2:Int)] H rfl (.cons rfl (Flat.rep_enc _ (i2:Int))<|.nil) rfl rfl rfl ?_;intro a7 b3 H;obtain ⟨b4,hM⟩:=M.e_gd hM;refine t_app (α:=Int) (k:=1) (l:=l3) (l2:=[(i2:Int)]) (l':=l3++([(i2:Int)])) (vy:=a7) T27 rfl H rfl rfl rfl (H.os 0) (H.ol 0) (rfl) (by first | omega | (simp only [List.length_nil] at *; omega)) ?_;intro a8 b6 H;replace H:=H.nf;refine kg 5 ?_;obtain ⟨b7,ba,hM⟩:=M.e_bind hM;refine s_callv (f:=60) rfl cf60 [I i2] rfl (zcG i2 l apart (ao.app _) ak (Has.here (k:=6) rfl) (Has.here (k:=5) rfl) ba _ (H.gt 7)) ?_
  rintro vq b8 ⟨r6,rfl,hvq,ac⟩
  subst vq;(try dsimp only at hM);replace H:=H.bk ac;clear ac;refine kg 2 ?_
  exact ⟨aK,aL,r6,l3++([(i2:Int)]),a8,_,upds_of _ _ ⟨rfl,rfl,rfl,rfl,rfl,rfl,rfl,trivial⟩,M.e_inl hM aB,(H.pk [1,2,3,4,5,6])⟩
 replace hM:=M.e_f hM au
 replace au:=dI au
 refine W.exit ?_
 have bb:=M.e_inr hM aB
 subst bb;replace hM:=aY;(try dsimp only at hM);replace H:=H.pk [0,2];refine W.seq ?_;refine W.draw (fun W=>St w W [cOwn (α:=Int) 3 ar l3,cBlk ab (List.flatten [[],encF (α:=Int) s]) 126] R) [(0,true),(1,true),(2,true),(3,true),(4,true),(5,true)] mixed (by decide +kernel) rfl ?_;intro b9 ag;replace H:=H.ext ag;clear ag
 refine ⟨(H.pk [0,1]),?_⟩
 obtain ⟨ca,hM⟩:=M.e_gd hM;refine kg 1 ?_;refine d_q rfl (fun w' H=>x_ix (v:=.pointer (some ⟨ab,0+Int.toNat 0*1,none⟩)) rfl rfl (run_indexS Tryz.underlying126 Sz3 (by omega) (by omega)))<|d_q rfl (fun w' H=>x_ld (v:=I (s.getD 0 0)) rfl (ldS (α:=Int) (k:=1) (off:=0) (i:=0) (f:=0) (sz:=1) 0 Sc3 (H.bl 1) rfl (sgo1 rfl) rfl (by decide) (by have ax:=al; omega) (by omega) rfl)) ?_;refine kg 4 ?_;refine W.ret ?_
 have aw:=M.e_pure hM
 exact ⟨_,resE_tmp3 rfl,⟨l3,(s.getD 0 0),0,ar,aw,rfl,(H.pk [0])⟩⟩

def zcm (l:List Pk) (apart threshold:Int) (choice:List Int):(Int × Nat)->M ((Int × Nat) ⊕ (Unit ⊕ Int)):=fun (worth,s) =>
  bif decide ((s:Int)<(choice.length:Int)) then (
  M.grd (decide ((s:Int)<(choice.length:Int))) <|
  M.grd (decide ((0:Int)<=(choice.getD s 0))&&decide ((choice.getD s 0)<(l.length:Int))) <|
  M.grd ((!((!(decide (((l.getD (Int.toNat (choice.getD s 0)) default).stage)<=threshold)))&&(decide (0<(s:Int))))||(decide ((-9223372036854775808:Int)<=((s:Int)-1))&&decide (((s:Int)-1)<=(9223372036854775807:Int))))) <|
  M.grd ((!((!(decide (((l.getD (Int.toNat (choice.getD s 0)) default).stage)<=threshold)))&&(decide (0<(s:Int))))||(decide ((0:Int)<=((s:Int)-1))&&decide (((s:Int)-1)<(choice.length:Int))))) <|
  M.grd ((!((!(decide (((l.getD (Int.toNat (choice.getD s 0)) default).stage)<=threshold)))&&(decide (0<(s:Int))))||(decide ((0:Int)<=(choice.getD (Int.toNat ((s:Int)-1)) 0))&&decide ((choice.getD (Int.toNat ((s:Int)-1)) 0)<(l.length:Int))))) <|
  M.grd ((!((!(decide (((l.getD (Int.toNat (choice.getD s 0)) default).stage)<=threshold)))&&(decide (0<(s:Int))))||(decide ((-9223372036854775808:Int)<=(((l.getD (Int.toNat (choice.getD s 0)) default).day)-((l.getD (Int.toNat (choice.getD (Int.toNat ((s:Int)-1)) 0)) default).day)))&&decide ((((l.getD (Int.toNat (choice.getD s 0)) default).day)-((l.getD (Int.toNat (choice.getD (Int.toNat ((s:Int)-1)) 0)) default).day))<=(9223372036854775807:Int))))) <|
  bif ((decide (((l.getD (Int.toNat (choice.getD s 0)) default).stage)<=threshold))||((decide (0<(s:Int)))&&(decide ((((l.getD (Int.toNat (choice.getD s 0)) default).day)-((l.getD (Int.toNat (choice.getD (Int.toNat ((s:Int)-1)) 0)) default).day))<apart)))) then (
  M.pure (.inr (.inl ())))
  else (
  M.grd (decide ((-9223372036854775808:Int)<=(((l.getD (Int.toNat (choice.getD s 0)) default).stage)-threshold))&&decide ((((l.getD (Int.toNat (choice.getD s 0)) default).stage)-threshold)<=(9223372036854775807:Int))) <|
  M.grd (decide ((-9223372036854775808:Int)<=(worth+(((l.getD (Int.toNat (choice.getD s 0)) default).stage)-threshold)))&&decide ((worth+(((l.getD (Int.toNat (choice.getD s 0)) default).stage)-threshold))<=(9223372036854775807:Int))) <|
  M.pure (.inl (worth+(((l.getD (Int.toNat (choice.getD s 0)) default).stage)-threshold),s+1))))
  else (
  M.pure (.inr (.inr worth)))
def zdb (l:List Pk) (apart threshold:Int) (choice:List Int):M (Int × Int) :=
  M.bind (zbp l apart threshold) fun r2 =>
  bif r2 != 0 then (
  M.pure (0,r2))
  else (
  M.bind (zaF choice 0 ((l.length:Int)-1)) fun r3 =>
  bif !r3 then (
  M.pure (0,2))
  else (
  M.bind (M.iter (zcm l apart threshold choice) (0,0)) fun x_=>match x_ with
  | (.inl (_:Unit))=>(
  M.pure (0,7))
  | (.inr worth2)=>(
  M.pure (worth2,0))))
theorem zec {R:List Chunk} {ar:Cells} {ah:Value} {au:Cells} {ae:Value} (l:List Pk) (apart:Int) (threshold:Int) (choice:List Int) (aA:Reads R ar) (av:Sl ar ah l) (aB:Reads R au) (aw:Sl au ae choice) {r:(Int × Int)} (hM:(zdb l apart threshold choice).Ends r) (w:World) (H:St w w [] R):Ret Tryz.prog 33 #[ah,I apart,I threshold,ae] w fun v w'=>∃ (y0:Int) (y1:Int),(y0,y1)=r/\v = .tuple #[I y0,I y1]/\St w w' [] R:=by
 refine ret_of_W Tryz.func33 rfl rfl rfl ?_;refine kg 11 ?_;obtain ⟨aJ,aC,hM⟩:=M.e_bind hM;refine s_call cf59 [ah,I apart,I threshold] rfl (zb4 l apart threshold (aA.app _) av aC _ (H.gt 0)) ?_
 rintro vq aK ⟨r2,rfl,hvq,ag⟩
 subst vq;(try dsimp only at hM);replace H:=H.bk ag;clear ag;refine kg 7 ?_
 refine W.cond (r2 != 0) rfl (fun aa=>?_) (fun aa=>?_)
 ·replace hM:=M.e_t hM aa
  replace aa:=dI aa
  refine kg 6 ?_;refine W.ret ?_
  have ab:=M.e_pure hM
  exact ⟨_,resE_tmp2 rfl,⟨0,r2,ab,rfl,H⟩⟩
 replace hM:=M.e_f hM aa
 replace aa:=dI aa
 have aL:=(av).len_le
 refine kg 8 ?_;obtain ⟨aM,aD,hM⟩:=M.e_bind hM;refine s_call cf66 [ae,I 0,I ((l.length:Int)-1)] rfl (zcS choice 0 ((l.length:Int)-1) (aB.app _) aw aD _ (H.gt 0)) ?_
 rintro vq aN ⟨r3,rfl,hvq,ag⟩
 subst vq;(try dsimp only at hM);replace H:=H.bk ag;clear ag;refine kg 2 ?_
 refine W.cond (!r3) rfl (fun ai=>?_) (fun ai=>?_)
 ·replace hM:=M.e_t hM ai;refine kg 5 ?_;refine W.ret ?_
  have ab:=M.e_pure hM
  exact ⟨_,resE_tmp2 rfl,⟨0,2,ab,rfl,H⟩⟩
 replace hM:=M.e_f hM ai
 have aO:=(aw).len_le
 refine kg 13 ?_;obtain ⟨aE,aj,ax⟩:=M.e_bind hM
 obtain ⟨aP,aj⟩:=M.e_iter aj
 refine W.loop (fun m σ W=>∃ (worth:Int) (s:Nat) (ρ:Env),σ=upds ρ [(0,ah),(1,I apart),(2,I threshold),(3,ae),(11,I worth),(27,ae),(28,I (choice.length:Int)),(29,I (s:Int))]/\M.iterN (zcm l apart threshold choice) m (worth,s)=some aE/\St w W [] R) ?_ ?_
 ·exact ⟨_,0,0,_,upds_of _ _ ⟨rfl,rfl,rfl,rfl,rfl,rfl,rfl,rfl,trivial⟩,aj,H⟩
 rintro aQ σ aR ⟨worth,s,ρ,rfl,ay,H⟩
 obtain ⟨aF,aG,aS,hM,ak⟩:=M.e_iterN ay
 simp only [zcm] at hM
 clear ay;refine kg 5 ?_
 refine W.cond (decide ((s:Int)<(choice.length:Int))) rfl (fun ac=>?_) (fun ac=>?_)
 ·replace hM:=M.e_t hM ac
  replace ac:=dI ac
  obtain ⟨aT,hM⟩:=M.e_gd hM;refine kg 13 ?_;refine W.draw (fun W=>St w W [] R) [(0,true),(1,true),(2,true),(3,true),(4,true),(5,true),(6,true),(7,true),(8,true),(9,true),(10,true),(11,true),(12,true),(13,true),(14,true),(15,true),(16,true),(17,true),(18,true),(19,true),(20,true),(21,true),(22,true),(23,true),(24,true),(25,true),(26,true),(27,true),(28,true),(29,true)] mixed (by decide +kernel) rfl ?_;intro aU az;replace H:=H.ext az;clear az
  refine ⟨(H.pk []),?_⟩
  obtain ⟨aV,hM⟩:=M.e_gd hM;obtain ⟨al,hM⟩:=M.e_grd hM
  replace al:=M.imp_of al
  simp only [Bool.and_eq_true,decide_eq_true_eq] at al
  obtain ⟨am,hM⟩:=M.e_grd hM
  replace am:=M.imp_of am
  simp only [Bool.and_eq_true,decide_eq_true_eq] at am
  obtain ⟨ao,hM⟩:=M.e_grd hM
  replace ao:=M.imp_of ao
  simp only [Bool.and_eq_true,decide_eq_true_eq] at ao
  obtain ⟨ap,hM⟩:=M.e_grd hM
  replace ap:=M.imp_of ap
  simp only [Bool.and_eq_true,decide_eq_true_eq] at ap
  refine kg 28 ?_;refine d_qg (!(decide (((l.getD (Int.toNat (choice.getD s 0)) default).stage)<=threshold))) rfl (gy_f rfl) (fun hg=>(fun w' H=>x_pand (b:=decide (0<(s:Int))) (r:=decide ((((l.getD (Int.toNat (choice.getD s 0)) default).day)-((l.getD (Int.toNat (choice.getD (Int.toNat ((s:Int)-1)) 0)) default).day))<apart)) (gd_of hg (B (decide (0<(s:Int))))) (fun hb=>gd_of (c:=((!(decide (((l.getD (Int.toNat (choice.getD s 0)) default).stage)<=threshold)))&&(decide (0<(s:Int))))) (by first | exact hb | (rw [hb]; rfl) | simp_all) (B (decide ((((l.getD (Int.toNat (choice.getD s 0)) default).day)-((l.getD (Int.toNat (choice.getD (Int.toNat ((s:Int)-1)) 0)) default).day))<apart)))) rfl))<|d_q rfl (fun w' H=>x_por (b:=decide (((l.getD (Int.toNat (choice.getD s 0)) default).stage)<=threshold)) (r:=((decide (0<(s:Int)))&&(decide ((((l.getD (Int.toNat (choice.getD s 0)) default).day)-((l.getD (Int.toNat (choice.getD (Int.toNat ((s:Int)-1)) 0)) default).day))<apart)))) rfl rfl (fun hb=>gd_of (c:=!(decide (((l.getD (Int.toNat (choice.getD s 0)) default).stage)<=threshold))) (by first | exact hb | (rw [hb]; rfl) | simp_all) (B ((decide (0<(s:Int)))&&(decide ((((l.getD (Int.toNat (choice.getD s 0)) default).day)-((l.getD (Int.toNat (choice.getD (Int.toNat ((s:Int)-1)) 0)) default).day))<apart)))))) ?_;refine d_nil ?_
  refine W.cond ((decide (((l.getD (Int.toNat (choice.getD s 0)) default).stage)<=threshold))||((decide (0<(s:Int)))&&(decide ((((l.getD (Int.toNat (choice.getD s 0)) default).day)-((l.getD (Int.toNat (choice.getD (Int.toNat ((s:Int)-1)) 0)) default).day))<apart)))) rfl (fun aq=>?_) (fun aq=>?_)
  ·replace hM:=M.e_t hM aq;refine kg 5 ?_;refine W.ret ?_
   have aH:=M.e_inr hM ak
   subst aH;replace hM:=ax;(try dsimp only at hM)
   have ab:=M.e_pure hM
   exact ⟨_,resE_tmp2 rfl,⟨0,7,ab,rfl,H⟩⟩
  replace hM:=M.e_f hM aq;obtain ⟨aW,hM⟩:=M.e_gd hM;obtain ⟨aX,hM⟩:=M.e_gd hM;refine kg 17 ?_
  exact ⟨aF,aG,worth+(((l.getD (Int.toNat (choice.getD s 0)) default).stage)-threshold),s+1,_,upds_of _ _ ⟨rfl,rfl,rfl,rfl,rfl,rfl,rfl,rfl,trivial⟩,M.e_inl hM ak,H⟩
 replace hM:=M.e_f hM ac
 replace ac:=dI ac
 refine W.exit ?_
 have aI:=M.e_inr hM ak
 subst aI;replace hM:=ax;(try dsimp only at hM);refine kg 6 ?_;refine W.ret ?_
 have ab:=M.e_pure hM
 exact ⟨_,resE_tmp2 rfl,⟨worth,0,ab,rfl,H⟩⟩

def zb2 (n:Int):M Bool :=
  M.bind (zaa n 0 2000) fun r2 =>
  M.pure r2
theorem zd8 {R:List Chunk}  (n:Int)  {r:Bool} (hM:(zb2 n).Ends r) (w:World) (H:St w w [] R):Ret Tryz.prog 67 #[I n] w fun v w'=>∃ (y0:Bool),y0=r/\v=B y0/\St w w' [] R:=by
 refine ret_of_W Tryz.func67 rfl rfl rfl ?_;refine kg 7 ?_;obtain ⟨ae,ab,hM⟩:=M.e_bind hM;refine s_call cf25 [I n,I 0,I 2000] rfl (zab n 0 2000 ab _ (H.gt 0)) ?_
 rintro vq ag ⟨r2,rfl,hvq,aa⟩
 subst vq;(try dsimp only at hM);replace H:=H.bk aa;clear aa;refine kg 2 ?_;refine W.ret ?_
 have ac:=M.e_pure hM
 exact ⟨_,resE_tmp rfl,⟨r2,ac,rfl,H⟩⟩

end Go.Proofs.YtdmdhmineljlhaaGreat
end
