/- Part 2 of the texts on which the proof rests. Conditions: none. -/
import Derived.Maps.RangeRun
import Derived.Test.YtpiebomegbbpcaaGreatProg
import Derived.Shelf.SlIterI.Nil
import Derived.Shelf.SortM.Plain
import Derived.Shelf.SortM.SortNone
import Derived.WideKeyRuns
import Derived.Test.YtpiebomegbbpcaaGreatZA1
set_option linter.unusedVariables false
set_option linter.unusedSimpArgs false
set_option linter.unusedSectionVars false
namespace Go.Nm
open Go
theorem mm_old (w:World) (o:Obj) {j:Nat} (h:j<w.heap.size):(w.alloc o).heap[j]?=w.heap[j]?:=by
  show (w.heap.push o)[j]?=_
  rw [Array.getElem?_push,if_neg (by omega)]
/-! ### What is reckoned entry by entry -/
namespace M
variable {κ ν:Type}
def mapL (body:κ->ν->M ν):List (κ × ν)->M (List (κ × ν))
  | []=>pure []
  | p :: m=>bind (body p.1 p.2) fun v=>bind (mapL body m) fun m'=>pure ((p.1,v) :: m')
theorem mapL_at {body:κ->ν->M ν}:∀ {m m':List (κ × ν)},(mapL body m).Ends m'->m'.length=m.length/\∀ (i:Nat) (k:κ) (v:ν),m[i]?=some (k,v)->∃ v',(body k v).Ends v'/\m'[i]?=some (k,v')
  | [],m',h=>by
    obtain rfl:=e_pure h
    exact ⟨rfl,fun i k v h=>by simp at h⟩
  | p :: m,m',h=>by
    obtain ⟨v1,h1,h⟩:=e_bind h
    obtain ⟨m1,h2,h⟩:=e_bind h
    obtain rfl:=e_pure h
    obtain ⟨l,ih⟩:=mapL_at h2
    refine ⟨by simp [l],fun i k v hi=>?_⟩
    cases i with
    | zero =>
      simp only [List.getElem?_cons_zero,Option.some.injEq] at hi
      subst hi
      exact ⟨v1,h1,rfl⟩
    | succ i=>exact ih i k v (by simpa using hi)
theorem mapL_ends {body:κ->ν->M ν} {g:κ->ν->ν}:∀ {m:List (κ × ν)},(∀ p∈m,(body p.1 p.2).Ends (g p.1 p.2))->(mapL body m).Ends (m.map fun p=>(p.1,g p.1 p.2))
  | [],_=>i_pure
  | p :: m,h=>i_bind (h p (by simp)) (i_bind (mapL_ends fun q hq=>h q (by simp [hq])) i_pure)
end M
theorem setM_keys {κ ν:Type} [DecidableEq κ]:∀ (m:List (κ × ν)) (k:κ) (v:ν),(setM m k v).map Prod.fst=if k∈m.map Prod.fst then m.map Prod.fst else m.map Prod.fst++[k]
  | [],k,v=>by simp [setM]
  | p :: m,k,v=>by
    have ih:=setM_keys m k v
    unfold setM
    by_cases h:p.1=k
    · rw [if_pos h]; simp [h]
    · rw [if_neg h,List.map_cons,ih]
      simp only [List.map_cons,List.mem_cons,Ne.symm h,false_or]
      split <;> simp
theorem setM_once {κ ν:Type} [DecidableEq κ] {m:List (κ × ν)} (h:(m.map Prod.fst).Nodup) (k:κ) (v:ν):((setM m k v).map Prod.fst).Nodup:=by
  rw [setM_keys]
  split
  · exact h
  · rename_i hk
    rw [List.nodup_append]
    refine ⟨h,by simp,fun a ha b hb e=>?_⟩
    simp only [List.mem_singleton] at hb
    subst hb e
    exact hk ha
theorem idxM_at {κ ν:Type} [DecidableEq κ]:∀ {m:List (κ × ν)} {i:Nat} {k:κ} {v:ν},(m.map Prod.fst).Nodup->m[i]?=some (k,v)->idxM m k=some i
  | [],i,k,v,_,h=>by simp at h
  | p :: m,i,k,v,hn,h=>by
    rw [List.map_cons,List.nodup_cons] at hn
    unfold idxM
    cases i with
    | zero =>
      simp only [List.getElem?_cons_zero,Option.some.injEq] at h
      rw [if_pos (by rw [h])]
    | succ i =>
      simp only [List.getElem?_cons_succ] at h
      have hk:p.1 ≠ k:=fun e=>hn.1 (by rw [e]; exact List.mem_map.2 ⟨_,List.mem_of_getElem? h,rfl⟩)
      rw [if_neg hk,idxM_at hn.2 h]
      rfl
/-! ### In memory -/
section
variable {κ ν:Type} [DecidableEq κ] {kenc:κ->Value} {venc:ν->Value}
def cMl (kenc:κ->Value) (venc:ν->Value) (b:Nat) (m:List (κ × ν)):Chunk where
  D k:=k=b
  ex:=true
  ok w:=∃ es n,w.heap[b]?=some (.map es n)/\MapL kenc venc es n m/\(m.map Prod.fst).Nodup
  st w w':=fun ⟨es,n,h1,h2⟩ _ k=>⟨es,n,(k b rfl).trans h1,h2⟩
  bd w k:=fun ⟨_,_,h,_⟩ e=>by rw [e]; exact heap_lt h
theorem MapL.toR {es:Array MapEntry} {n:Nat} {m:List (κ × ν)} (h:MapL kenc venc es n m):MapR kenc venc es n (lookM m):=⟨⟨m,h.1,fun _=>rfl⟩,h.2⟩
theorem mlMap {w:World} {b:Nat} {m:List (κ × ν)} (h:(cMl kenc venc b m).ok w):(cMap kenc venc b (lookM m)).ok w:=by
  obtain ⟨es,n,h1,h2,_⟩:=h
  exact ⟨es,n,h1,h2.toR⟩
/-- A map that is gone through: which entries are left, and which one came last. -/
def cIt (kenc:κ->Value) (venc:ν->Value) (b r:Nat) (m:List (κ × ν)) (left:List Bool) (last:Option Nat):Chunk where
  D k:=k=b∨k=r
  ex:=true
  ok w:=∃ (es:Array MapEntry) (n since:Nat) (seen:Array Nat) (c0:Nat),w.heap[b]?=some (.map es n)/\w.heap[r]?=some (.mapIter (some b) since seen c0)/\MapL kenc venc es n m/\(m.map Prod.fst).Nodup/\(∀ e∈es.toList,e.born<since)/\since<=c0/\since<=n ∧
    left=es.toList.map (fun e=>!seen.contains e.born)/\∀ i,last=some i->c0=n/\∃ (e:MapEntry) (seen0:Array Nat),es.toList[i]?=some e/\seen=seen0.push e.born
  st w w':=fun ⟨es,n,since,seen,c0,h1,h2,h3⟩ _ k=>⟨es,n,since,seen,c0,(k b (.inl rfl)).trans h1,(k r (.inr rfl)).trans h2,h3⟩
  bd w k:=fun ⟨_,_,_,_,_,h1,h2,_⟩ e=>by
    rcases e with e | e
    · rw [e]; exact heap_lt h1
    · rw [e]; exact heap_lt h2
variable {P:Program} {w w0:World} {L L' R:List Chunk} {t kt et:TypeId} {b r:Nat} {es:Array MapEntry} {clk:Nat} {m:List (κ × ν)}
theorem run_putL (K:KeyL (ν:=ν) P kt kenc) (ht:P.underlying t=some (.map kt et)) (hb:w.heap[b]?=some (.map es clk)) (hm:MapL kenc venc es clk m) (k:κ) (v:ν) :
    ∃ es' clk' w',(Instr.mapUpdate t (.map (some b)) (kenc k) (venc v)).run P w = .ok () w'/\Put w b (.map es' clk') w'/\MapL kenc venc es' clk' (setM m k v)/\(∀ i,idxM m k=some i->es'.toList.map (·.born)=es.toList.map (·.born)/\clk'=clk):=by
  obtain ⟨h1,h3,h4⟩:=hm
  have hf:=K.find w es.toList m venc k h1
  cases hi:idxM m k with
  | none =>
    rw [hi] at hf
    refine ⟨es.push { key:=kenc k,val:=venc v,born:=clk },clk+1,_,?_,Put.setMap _ hb (by simp) rfl,⟨?_,?_,?_⟩,fun i h=>by cases h⟩
    · simp [Instr.mapUpdate,run_underlying ht,MapKept.run_getObj_map hb,K.check,hf,MapKept.run_setObj_map _ hb]
    · rw [setM_none v hi]
      simp [h1]
    · simp only [Array.toList_push,List.map_append,List.map_cons,List.map_nil]
      rw [List.nodup_append]
      refine ⟨h3,by simp,fun a ha c hc=>?_⟩
      simp at hc
      subst hc
      obtain ⟨e,he,rfl⟩:=List.mem_map.1 ha
      have:=h4 e he
      omega
    · intro e he
      simp only [Array.toList_push,List.mem_append,List.mem_singleton] at he
      rcases he with he | rfl
      · have:=h4 e he; omega
      · simp
  | some i =>
    obtain ⟨v0,hv,hl⟩:=idxM_some hi
    have he:∃ e,es.toList[i]?=some e/\e.key=kenc k:=by
      have h3:(es.toList.map (fun e=>(e.key,e.val)))[i]?=(m.map (fun p=>(kenc p.1,venc p.2)))[i]?:=by rw [h1]
      rw [List.getElem?_map,List.getElem?_map,hv] at h3
      cases he:es.toList[i]? with
      | none=>rw [he] at h3; simp at h3
      | some e=>rw [he] at h3; simp at h3; exact ⟨e,rfl,h3.1⟩
    obtain ⟨e,he1,he2⟩:=he
    have he1':es[i]?=some e:=by simpa using he1
    rw [hi] at hf
    simp only [Option.bind_some,he1,Option.map_some] at hf
    have hk:(Instr.keyThatStays (((es[i]?).map (·.key)).getD (kenc k)) (kenc k)).run P w = .ok (kenc k) w:=by
      simp [he1',Instr.keyThatStays,he2,K.same]
    have hbn:(es.modify i fun e=>{ e with key:=kenc k,val:=venc v }).toList.map (·.born)=es.toList.map (·.born):=by
      apply List.ext_getElem?
      intro j
      simp only [List.getElem?_map,Array.getElem?_toList,Array.getElem?_modify]
      by_cases hij:i=j
      · subst hij; simp [he1']
      · simp [hij]
    refine ⟨es.modify i fun e=>{ e with key:=kenc k,val:=venc v },clk,_,?_,Put.setMap _ hb (by simp) rfl,⟨?_,?_,?_⟩,fun _ _=>⟨hbn,rfl⟩⟩
    · simp [Instr.mapUpdate,run_underlying ht,MapKept.run_getObj_map hb,K.check,hf,hk,MapKept.run_setObj_map _ hb]
    · rw [setM_some v hi]
      apply List.ext_getElem?
      intro j
      have hj:(es.toList.map (fun e=>(e.key,e.val)))[j]?=(m.map (fun p=>(kenc p.1,venc p.2)))[j]?:=by rw [h1]
      simp only [List.getElem?_map,Array.getElem?_toList,Array.getElem?_modify,List.getElem?_set] at hj ⊢
      by_cases hij:i=j
      · subst hij
        have hlt:=(List.getElem?_eq_some_iff.1 hv).1
        simp [he1',hlt]
      · simp [hij,hj]
    · rw [hbn]; exact h3
    · intro e' he'
      have:e'.born∈es.toList.map (·.born):=by rw [← hbn]; exact List.mem_map.2 ⟨e',he',rfl⟩
      obtain ⟨e2,h5,h6⟩:=List.mem_map.1 this
      rw [← h6]
      exact h4 e2 h5
variable {all rest:List Oper} {Q:Post} {σ:Env} {d:Nat} {ty:TypeId} {pos:String} {af:Array Edge} {g:Option (Nat × Bool)}
omit [DecidableEq κ] in theorem t_mkMl {t':TypeId} (kenc:κ->Value) (venc:ν->Value) (H:St w0 w L R) (k:∀ b w',St w0 w' (cMl kenc venc b [] :: L) R->SL P all Q rest (upd σ d (.map (some b))) w'):SL P all Q (⟨some d,.makeMap t' none,ty,pos,af,none⟩ :: rest) σ w :=
  s_mkmap fun b w' hn=>k b w' (H.push (c:=cMl kenc venc b []) hn.ext ⟨_,_,hn.same,⟨rfl,List.nodup_nil,fun e h=>by simp at h⟩,List.nodup_nil⟩ (fun j hj=>by rw [show j=b from hj]; exact hn.ge))
theorem t_putMl {dst:Option Nat} {x y u:Operand} {i:Nat} (K:KeyL (ν:=ν) P kt kenc) (ht:P.underlying t=some (.map kt et)) (H:St w0 w L R) (hk:L[i]?=some (cMl kenc venc b m)) (hx:ev σ x = .map (some b)) {k:κ} (hy:ev σ y=kenc k) {v:ν} (hu:ev σ u=venc v)
    (hL:L.set i (cMl kenc venc b (setM m k v))=L') (kk:∀ w',St w0 w' L' R->SL P all Q rest (updo σ dst undef) w'):SL P all Q (⟨dst,.mapUpdate t x y u,ty,pos,af,none⟩ :: rest) σ w:=by
  obtain ⟨es,n,h1,h2,hn⟩:=H.get hk
  obtain ⟨es',clk',w',hr,hp,hm',_⟩:=run_putL (w:=w) K ht h1 h2 k v
  refine s_skp (w':=w') ?_ (kk _ (H.set (c':=cMl kenc venc b (setM m k v)) hk rfl hp.keep (fun i _ hne=>hp.other i hne) (fun i hi=>.inl hi) ⟨es',clk',hp.same,hm',setM_once hn k v⟩ hL))
  simp [execOp,hx,hy,hu,hr]
/-- The loop over a map begins. -/
theorem t_range {x:Operand} {i:Nat} (ht:P.underlying t=some (.map kt et)) (H:St w0 w L R) (hk:L[i]?=some (cMl kenc venc b m)) (hx:ev σ x = .map (some b))
    (kk:∀ r w',St w0 w' (L.set i (cIt kenc venc b r m (List.replicate m.length true) none)) R->SL P all Q rest (upd σ d (.pointer (some ⟨r,0,none⟩))) w'):SL P all Q (⟨some d,.range t x,ty,pos,af,none⟩ :: rest) σ w:=by
  obtain ⟨es,n,h1,h2,hn⟩:=H.get hk
  have hr:=run_range_map (P:=P) w t kt et b es n ht h1
  refine s_any (v:=.pointer (some ⟨w.heap.size,0,none⟩)) (w':=w.alloc (.mapIter (some b) n #[] n)) (by simp [execOp,hx,hr]) (kk _ _ ?_)
  have hx:Ext w (w.alloc (.mapIter (some b) n #[] n)):=⟨rfl,rfl,by show w.heap.size<=(w.heap.push _).size; simp,fun j hj=>mm_old w _ hj,fun a=>by
    unfold World.frozen?
    by_cases e:a.block<w.heap.size
    · rw [mm_old w _ e]
    · by_cases e2:a.block=w.heap.size
      · rw [e2,heap_alloc_new]; simp
      · have:(w.alloc (.mapIter (some b) n #[] n)).heap[a.block]?=none:=by
          rw [Array.getElem?_eq_none]; show (w.heap.push _).size<=_; rw [Array.size_push]; omega
        rw [this,Array.getElem?_eq_none (by omega)]⟩
  have hlen:es.toList.length=m.length:=by have:=congrArg List.length h2.1; simpa using this
  refine H.set (c':=cIt kenc venc b w.heap.size m (List.replicate m.length true) none) hk rfl hx.keep (fun j hj _=>hx.blk j hj) (fun j hj=>?_) ⟨es,n,n,#[],n,(hx.blk b (heap_lt h1)).trans h1,heap_alloc_new w _,h2,hn,h2.2.2,Nat.le_refl _,Nat.le_refl _,?_,fun i h=>by cases h⟩ rfl
  · rcases hj with hj | hj
    · exact .inl hj
    · exact .inr (by omega)
  · rw [← hlen]
    apply List.ext_getElem?
    intro j
    rw [List.getElem?_replicate,List.getElem?_map]
    split
    · rename_i hj
      rw [List.getElem?_eq_getElem hj]
      simp
    · rename_i hj
      rw [List.getElem?_eq_none (by omega)]
      rfl
/-- The next entry: none is left, or one of those that are. -/
theorem t_next {x:Operand} {i:Nat} {left:List Bool} {last:Option Nat} (H:St w0 w L R) (hk:L[i]?=some (cIt kenc venc b r m left last)) (hx:ev σ x = .pointer (some ⟨r,0,none⟩))
    (h0:(∀ j:Nat,left.getD j false=false)->SL P all Q rest (upd σ d (.tuple #[.bool false])) w)
    (h1:∀ (j:Nat) (k:κ) (v:ν) w',left.getD j false=true->m[j]?=some (k,v)->St w0 w' (L.set i (cIt kenc venc b r m (left.set j false) (some j))) R->SL P all Q rest (upd σ d (.tuple #[.bool true,kenc k,venc v])) w') :
    SL P all Q (⟨some d,.next x false,ty,pos,af,none⟩ :: rest) σ w:=by
  obtain ⟨es,n,since,seen,c0,hb,hr,hm,hn,hold,hsc,hsn,hleft,hlast⟩:=H.get hk
  have hlen:es.toList.length=m.length:=by have:=congrArg List.length hm.1; simpa using this
  have hget:∀ j:Nat,left.getD j false=((es.toList[j]?).map fun e=>!seen.contains e.born).getD false:=fun j=>by
    rw [hleft,List.getD_eq_getElem?_getD,List.getElem?_map]
  rcases run_next_at (P:=P) w ty r b since c0 seen es n hr hb hold hsc with ⟨hz,hrun⟩ | ⟨e,he,w1,hw1,hrun⟩
  · refine s_any (v:=.tuple #[.bool false]) (w':=w) (by simp [execOp,hx,hrun]) (h0 fun j=>?_)
    rw [hget]
    cases hj:es.toList[j]? with
    | none=>rfl
    | some e =>
      simp only [Option.map_some,Option.getD_some]
      cases hc:seen.contains e.born with
      | true=>rfl
      | false =>
        have hm:e∈leftOf es seen:=Array.mem_filter.2 ⟨Array.mem_toList_iff.1 (List.mem_of_getElem? hj),by rw [hc]; rfl⟩
        have:=Array.size_pos_of_mem hm
        omega
  · obtain ⟨hes,hse⟩:=mem_left he
    obtain ⟨j,hj⟩:=List.getElem?_of_mem hes
    have hjl:j<es.toList.length:=(List.getElem?_eq_some_iff.1 hj).1
    have hmj:∃ k v,m[j]?=some (k,v)/\e.key=kenc k/\e.val=venc v:=by
      have h3:(es.toList.map (fun e=>(e.key,e.val)))[j]?=(m.map (fun p=>(kenc p.1,venc p.2)))[j]?:=by rw [hm.1]
      rw [List.getElem?_map,List.getElem?_map,hj] at h3
      cases hq:m[j]? with
      | none=>rw [hq] at h3; simp at h3
      | some q=>rw [hq] at h3; simp at h3; exact ⟨q.1,q.2,rfl,h3.1,h3.2⟩
    obtain ⟨k,v,hk1,hk2,hk3⟩:=hmj
    rw [hk2,hk3] at hrun
    refine s_any (v:=.tuple #[.bool true,kenc k,venc v]) (w':=ChangeMaps.setBlock w1 r (.mapIter (some b) since (seen.push e.born) n)) (by simp [execOp,hx,hrun]) (h1 j k v _ ?_ hk1 ?_)
    · rw [hget,hj]
      simp only [Option.map_some,Option.getD_some,hse]
      rfl
    · have hw:w1.heap=w.heap/\w1.os=w.os/\w1.output=w.output:=by rcases hw1 with rfl | rfl <;> exact ⟨rfl,rfl,rfl⟩
      have hrl:=heap_lt hr
      have hsame:(ChangeMaps.setBlock w1 r (.mapIter (some b) since (seen.push e.born) n)).heap[r]?=some (.mapIter (some b) since (seen.push e.born) n):=by
        show (w1.heap.setIfInBounds r _)[r]?=_
        rw [Array.getElem?_setIfInBounds_self_of_lt (by rw [hw.1]; exact hrl)]
      have hoth:∀ q,q ≠ r->(ChangeMaps.setBlock w1 r (.mapIter (some b) since (seen.push e.born) n)).heap[q]?=w.heap[q]?:=fun q hq=>by
        show (w1.heap.setIfInBounds r _)[q]?=_
        rw [Array.getElem?_setIfInBounds_ne (Ne.symm hq),hw.1]
      have hbr:b ≠ r:=fun e=>by rw [e,hr] at hb; cases hb
      refine H.set (c':=cIt kenc venc b r m (left.set j false) (some j)) hk rfl ⟨hw.2.1,hw.2.2,by show _<=(w1.heap.setIfInBounds r _).size; rw [Array.size_setIfInBounds,hw.1]; exact Nat.le_refl _⟩ (fun q _ hq=>hoth q (fun e=>hq (.inr e))) (fun q hq=>.inl hq)
        ⟨es,n,since,seen.push e.born,n,(hoth b hbr).trans hb,hsame,hm,hn,hold,hsn,hsn,?_,fun q hq=>?_⟩ rfl
      · rw [hleft]
        apply List.ext_getElem?
        intro q
        rw [List.getElem?_set,List.getElem?_map,List.getElem?_map,List.length_map]
        by_cases hq:j=q
        · subst hq
          rw [if_pos rfl,if_pos hjl,hj]
          simp
        · rw [if_neg hq]
          cases hq2:es.toList[q]? with
          | none=>rfl
          | some e2 =>
            have hne:e2.born ≠ e.born:=fun h4=>by
              have hnd:=hm.2.1
              have hql:q<es.toList.length:=(List.getElem?_eq_some_iff.1 hq2).1
              have a1:(es.toList.map (·.born))[q]?=(es.toList.map (·.born))[j]?:=by rw [List.getElem?_map,List.getElem?_map,hq2,hj]; simp [h4]
              exact hq ((List.getElem?_inj (by simpa using hql) hnd).1 a1).symm
            simp only [Option.map_some]
            congr 1
            rw [Array.contains_push]
            simp [hne]
      · injection hq with hq
        subst hq
        exact ⟨rfl,e,seen,hj,rfl⟩
/-- The entry that came last. -/
theorem x_entry {x:Operand} {left:List Bool} {j:Nat} {k:κ} {v:ν} (ho:(cIt kenc venc b r m left (some j)).ok w) (hj:m[j]?=some (k,v)) (hx:ev σ x = .pointer (some ⟨r,0,none⟩)) :
    (execOp (ev σ) ⟨some d,.entry x,ty,pos,af,g⟩).run P w = .ok (.value (.tuple #[kenc k,venc v])) w:=by
  obtain ⟨es,n,since,seen,c0,hb,hr,hm,hn,hold,hsc,hsn,hleft,hlast⟩:=ho
  obtain ⟨rfl,e,seen0,he,rfl⟩:=hlast j rfl
  have hrun:=run_entry_at (P:=P) w r b since seen0 es _ e hr hb (List.mem_of_getElem? he) hm.2.1
  have h3:(es.toList.map (fun e=>(e.key,e.val)))[j]?=(m.map (fun p=>(kenc p.1,venc p.2)))[j]?:=by rw [hm.1]
  rw [List.getElem?_map,List.getElem?_map,he,hj] at h3
  simp only [Option.map_some,Option.some.injEq,Prod.mk.injEq] at h3
  rw [h3.1,h3.2] at hrun
  simp [execOp,hx,hrun]
/-- An entry is turned while the map is gone through. -/
theorem t_putIt {dst:Option Nat} {x y u:Operand} {i j:Nat} {left:List Bool} {last:Option Nat} (K:KeyL (ν:=ν) P kt kenc) (ht:P.underlying t=some (.map kt et)) (H:St w0 w L R) (hk:L[i]?=some (cIt kenc venc b r m left last)) (hx:ev σ x = .map (some b)) {k:κ} {v0:ν} (hj:m[j]?=some (k,v0)) (hy:ev σ y=kenc k) {v:ν} (hu:ev σ u=venc v)
    (hL:L.set i (cIt kenc venc b r (m.set j (k,v)) left last)=L') (kk:∀ w',St w0 w' L' R->SL P all Q rest (updo σ dst undef) w'):SL P all Q (⟨dst,.mapUpdate t x y u,ty,pos,af,none⟩ :: rest) σ w:=by
  obtain ⟨es,n,since,seen,c0,hb,hr,hm,hn,hold,hsc,hsn,hleft,hlast⟩:=H.get hk
  obtain ⟨es',clk',w',hrun,hp,hm',hq_⟩:=run_putL (w:=w) K ht hb hm k v
  have hi:=idxM_at hn hj
  obtain ⟨hbn,rfl⟩:=hq_ j hi
  rw [setM_some v hi] at hm'
  have hbr:r ≠ b:=fun e=>by rw [e,hb] at hr; cases hr
  have hmem:∀ e∈es'.toList,e.born<since:=fun e he=>by
    have:e.born∈es.toList.map (·.born):=by rw [← hbn]; exact List.mem_map.2 ⟨e,he,rfl⟩
    obtain ⟨e2,h5,h6⟩:=List.mem_map.1 this
    rw [← h6]
    exact hold e2 h5
  refine s_skp (w':=w') (by simp [execOp,hx,hy,hu,hrun]) (kk _ (H.set (c':=cIt kenc venc b r (m.set j (k,v)) left last) hk rfl hp.keep (fun q _ hq=>hp.other q (fun e=>hq (.inl e))) (fun q hq=>.inl hq)
    ⟨es',clk',since,seen,c0,hp.same,(hp.other r hbr).trans hr,hm',?_,hmem,hsc,hsn,?_,fun q hq=>?_⟩ hL))
  · have:=setM_once hn k v
    rwa [setM_some v hi] at this
  · rw [hleft]
    have e1:∀ l:List MapEntry,l.map (fun e=>!seen.contains e.born)=(l.map (·.born)).map (fun q=>!seen.contains q):=fun l=>by rw [List.map_map]; rfl
    rw [e1,e1,hbn]
  · obtain ⟨h1,e,seen0,h2,h3⟩:=hlast q hq
    have h4:(es'.toList.map (·.born))[q]?=(es.toList.map (·.born))[q]?:=by rw [hbn]
    rw [List.getElem?_map,List.getElem?_map,h2] at h4
    cases h5:es'.toList[q]? with
    | none=>rw [h5] at h4; simp at h4
    | some e2 =>
      rw [h5] at h4
      simp only [Option.map_some,Option.some.injEq] at h4
      exact ⟨h1,e2,seen0,rfl,by rw [h4]; exact h3⟩
/-- The loop is over. -/
theorem St.itEnd {i:Nat} {left:List Bool} {last:Option Nat} (H:St w0 w L R) (hk:L[i]?=some (cIt kenc venc b r m left last)) (hL:L.set i (cMl kenc venc b m)=L'):St w0 w L' R:=by
  obtain ⟨es,n,since,seen,c0,hb,hr,hm,hn,_⟩:=H.get hk
  exact H.set (c':=cMl kenc venc b m) hk rfl (Keep.refl w) (fun _ _ _=>rfl) (fun q hq=>.inl (.inl hq)) ⟨es,n,hb,hm,hn⟩ hL
end
/-- How far a loop over a map has come: what is left is as it was, what was met is as it will be. -/
def ItR {κ ν:Type} (m m' m1:List (κ × ν)) (left:List Bool):Prop:=m1.length=m.length/\m'.length=m.length/\left.length=m.length/\∀ i,i<m.length->m1[i]?=if left.getD i false then m[i]? else m'[i]?
namespace ItR
variable {κ ν:Type} {m m' m1:List (κ × ν)} {left:List Bool} {body:κ->ν->M ν}
theorem init (h:(M.mapL body m).Ends m'):ItR m m' m (List.replicate m.length true) :=
  ⟨rfl,(M.mapL_at h).1,by simp,fun i hi=>by rw [List.getD_eq_getElem?_getD,List.getElem?_replicate,if_pos hi]; rfl⟩
theorem fin (h:ItR m m' m1 left) (hl:∀ j:Nat,left.getD j false=false):m1=m':=by
  apply List.ext_getElem?
  intro i
  by_cases hi:i<m.length
  · rw [h.2.2.2 i hi,hl i]; rfl
  · rw [List.getElem?_eq_none (by have:=h.1; omega),List.getElem?_eq_none (by have:=h.2.1; omega)]
theorem lt (h:ItR m m' m1 left) {j:Nat} (hj:left.getD j false=true):j<m.length:=by
  rw [← h.2.2.1]
  refine Nat.lt_of_not_le fun hn=>?_
  rw [List.getD_eq_getElem?_getD,List.getElem?_eq_none hn] at hj
  cases hj
theorem at_ (h:ItR m m' m1 left) (hb:(M.mapL body m).Ends m') {j:Nat} {k:κ} {v:ν} (hj:left.getD j false=true) (hm:m1[j]?=some (k,v)):∃ v',(body k v).Ends v'/\m'[j]?=some (k,v'):=by
  have:=h.2.2.2 j (h.lt hj)
  rw [hj,hm] at this
  exact (M.mapL_at hb).2 j k v (by simpa using this.symm)
theorem step (h:ItR m m' m1 left) {j:Nat} {k:κ} {v v':ν} (hj:left.getD j false=true) (hm:m1[j]?=some (k,v)) (hv:m'[j]?=some (k,v')):ItR m m' (m1.set j (k,v')) (left.set j false):=by
  have hjl:=h.lt hj
  have hl:=h.2.2.1
  have h1:=h.1
  refine ⟨by rw [List.length_set]; exact h.1,h.2.1,by rw [List.length_set]; exact h.2.2.1,fun i hi=>?_⟩
  by_cases e:j=i
  · subst e
    rw [List.getElem?_set_self (by omega),List.getD_eq_getElem?_getD,List.getElem?_set_self (by omega),hv]
    rfl
  · rw [List.getElem?_set_ne e,List.getD_eq_getElem?_getD,List.getElem?_set_ne e,← List.getD_eq_getElem?_getD]
    exact h.2.2.2 i hi
theorem keep (h:ItR m m' m1 left) {j:Nat} {k:κ} {v:ν} (hj:left.getD j false=true) (hm:m1[j]?=some (k,v)) (hv:m'[j]?=some (k,v)):ItR m m' m1 (left.set j false):=by
  have:=h.step hj hm hv
  rwa [show m1.set j (k,v)=m1 from by
    obtain ⟨hl,e⟩:=List.getElem?_eq_some_iff.1 hm
    rw [← e,List.set_getElem_self]] at this
theorem less {j:Nat} (hj:left.getD j false=true):(left.set j false).count true<left.count true:=by
  have hl:j<left.length:=Nat.lt_of_not_le fun hn=>by
    rw [List.getD_eq_getElem?_getD,List.getElem?_eq_none hn] at hj
    cases hj
  have hg:left[j]=true:=by
    rw [List.getD_eq_getElem?_getD,List.getElem?_eq_getElem hl] at hj
    exact hj
  rw [List.count_set hl,hg]
  have:0<left.count true:=List.count_pos_iff.2 (by rw [← hg]; exact List.getElem_mem hl)
  simp
  omega
end ItR
end Go.Nm
namespace Go.Proofs
open Go.RowKit Go.Maps Go.Sort Go.Shelf
def Tryz.sortA_ren:Go.Shelf.Ren:=⟨fun | 5=>54 | 7=>66 | 8=>67 | 10=>82 | 11=>83 | 12=>84 | 13=>85 | 14=>86 | 15=>87 | 16=>88 | 17=>89 | 18=>90 | 19=>91 | 20=>92 | 30=>102 | 31=>103 | 32=>104 | 33=>105 | 34=>106 | 35=>65 | 40=>111 | n=>n,fun | 0=>0 | 3=>3 | 4=>4 | 5=>5 | 9=>9 | 22=>28 | 23=>28 | 25=>3 | 32=>131 | 35=>146 | 36=>147 | 41=>104 | 44=>152 | 46=>154 | 53=>156 | 57=>160 | 63=>166 | 64=>167 | n=>n,fun | n=>n⟩
theorem Tryz.sortA:Go.Proofs.SlLaysM.n5 Tryz.prog Tryz.sortA_ren:={
  mixed:=by kernel_rfl
  f5 := ⟨"slices.Sort[[]int,int]", by kernel_rfl, Tryz.func54.trans (congrArg some (by kernel_rfl))⟩
  f7 := ⟨"slices.pdqsortOrdered[int]", by kernel_rfl, Tryz.func66.trans (congrArg some (by kernel_rfl))⟩
  f8:=Tryz.func67.trans (congrArg some (by kernel_rfl))
  f10 := ⟨"slices.insertionSortOrdered[int]", by kernel_rfl, Tryz.func82.trans (congrArg some (by kernel_rfl))⟩
  f11 := ⟨"slices.heapSortOrdered[int]", by kernel_rfl, Tryz.func83.trans (congrArg some (by kernel_rfl))⟩
  f12 := ⟨"slices.breakPatternsOrdered[int]", by kernel_rfl, Tryz.func84.trans (congrArg some (by kernel_rfl))⟩
  f13 := ⟨"slices.choosePivotOrdered[int]", by kernel_rfl, Tryz.func85.trans (congrArg some (by kernel_rfl))⟩
  f14 := ⟨"slices.reverseRangeOrdered[int]", by kernel_rfl, Tryz.func86.trans (congrArg some (by kernel_rfl))⟩
  f15 := ⟨"slices.partialInsertionSortOrdered[int]", by kernel_rfl, Tryz.func87.trans (congrArg some (by kernel_rfl))⟩
  f16 := ⟨"cmp.Less[int]", by kernel_rfl, Tryz.func88.trans (congrArg some (by kernel_rfl))⟩
  f17 := ⟨"slices.partitionEqualOrdered[int]", by kernel_rfl, Tryz.func89.trans (congrArg some (by kernel_rfl))⟩
  f18 := ⟨"slices.partitionOrdered[int]", by kernel_rfl, Tryz.func90.trans (congrArg some (by kernel_rfl))⟩
  f19:=Tryz.func91.trans (congrArg some (by kernel_rfl))
  f20:=Tryz.func92.trans (congrArg some (by kernel_rfl))
  f30 := ⟨"slices.siftDownOrdered[int]", by kernel_rfl, Tryz.func102.trans (congrArg some (by kernel_rfl))⟩
  f31:=Tryz.func103.trans (congrArg some (by kernel_rfl))
  f32:=Tryz.func104.trans (congrArg some (by kernel_rfl))
  f33 := ⟨"slices.medianAdjacentOrdered[int]", by kernel_rfl, Tryz.func105.trans (congrArg some (by kernel_rfl))⟩
  f34 := ⟨"slices.medianOrdered[int]", by kernel_rfl, Tryz.func106.trans (congrArg some (by kernel_rfl))⟩
  f35 := ⟨"cmp.isNaN[int]", by kernel_rfl, Tryz.func65.trans (congrArg some (by kernel_rfl))⟩
  f40 := ⟨"slices.order2Ordered[int]", by kernel_rfl, Tryz.func111.trans (congrArg some (by kernel_rfl))⟩
  t0:=Tryz.underlying0
  a0:=Tryz.isAgg0
  z0:=Tryz.sizeOf0
  v0:=Tryz.zeroValue0
  t3:=Tryz.underlying3
  a3:=Tryz.isAgg3
  z3:=Tryz.sizeOf3
  v3:=Tryz.zeroValue3
  t4:=Tryz.underlying4
  a4:=Tryz.isAgg4
  z4:=Tryz.sizeOf4
  v4:=Tryz.zeroValue4
  t5:=Tryz.underlying5
  a5:=Tryz.isAgg5
  z5:=Tryz.sizeOf5
  v5:=Tryz.zeroValue5
  t9:=Tryz.underlying9
  a9:=Tryz.isAgg9
  z9:=Tryz.sizeOf9
  v9:=Tryz.zeroValue9
  t22:=Tryz.underlying28
  a22:=Tryz.isAgg28
  z22:=Tryz.sizeOf28
  v22:=Tryz.zeroValue28
  t23:=Tryz.underlying28
  a23:=Tryz.isAgg28
  z23:=Tryz.sizeOf28
  v23:=Tryz.zeroValue28
  t25:=Tryz.underlying3
  a25:=Tryz.isAgg3
  z25:=Tryz.sizeOf3
  v25:=Tryz.zeroValue3
  t32:=Tryz.underlying131
  a32:=Tryz.isAgg131
  z32:=Tryz.sizeOf131
  v32:=Tryz.zeroValue131
  t35:=Tryz.underlying146
  a35:=Tryz.isAgg146
  z35:=Tryz.sizeOf146
  v35:=Tryz.zeroValue146
  t36:=Tryz.underlying147
  a36:=Tryz.isAgg147
  z36:=Tryz.sizeOf147
  v36:=Tryz.zeroValue147
  t41:=Tryz.underlying104
  a41:=Tryz.isAgg104
  z41:=Tryz.sizeOf104
  v41:=Tryz.zeroValue104
  t44:=Tryz.underlying152
  a44:=Tryz.isAgg152
  z44:=Tryz.sizeOf152
  v44:=Tryz.zeroValue152
  t46:=Tryz.underlying154
  a46:=Tryz.isAgg154
  z46:=Tryz.sizeOf154
  v46:=Tryz.zeroValue154
  t53:=Tryz.underlying156
  a53:=Tryz.isAgg156
  z53:=Tryz.sizeOf156
  v53:=Tryz.zeroValue156
  t57:=Tryz.underlying160
  a57:=Tryz.isAgg160
  z57:=Tryz.sizeOf160
  v57:=Tryz.zeroValue160
  t63:=Tryz.underlying166
  a63:=Tryz.isAgg166
  z63:=Tryz.sizeOf166
  v63:=Tryz.zeroValue166
  t64:=Tryz.underlying167
  a64:=Tryz.isAgg167
  z64:=Tryz.sizeOf167
  v64:=Tryz.zeroValue167 }
end Go.Proofs
namespace Go.Nm
open Go
theorem OwnF.row {B:Nat} {e:TypeId} {w:World} {l:List Int} {g cap:Nat} {cur:Array Value} (ho:OwnF B e w (.slice (some ⟨g,0,none⟩) l.length cap) l) (hg:w.heap[g]?=some (.cells cur e (0,0)))
    (hcs:l.length<=cap) (hsz:cur.size=cap) (hb:B<=g) (hm:cap<=maxLen) (d:Array Int) (hl:d.size=l.length) (q:Nat) :
    OwnF B e (Sort.putRow (Value.int .i64) (Sort.ahead w q) g 0 d) (.slice (some ⟨g,0,none⟩) l.length cap) d.toList/\Grow B (.slice (some ⟨g,0,none⟩) l.length cap) w (Sort.putRow (Value.int .i64) (Sort.ahead w q) g 0 d):=by
  have hs1:Elt.sz Int=1:=rfl
  have h1:(Sort.putRow (Value.int .i64) (Sort.ahead w q) g 0 d).heap[g]?=some (.cells (Sort.putCells (Value.int .i64) 0 d cur) e (0,0)):=by
    show (w.heap.modify g _)[g]?=_
    rw [Array.getElem?_modify,if_pos rfl,hg]
    rfl
  have h2:∀ k,k ≠ g->(Sort.putRow (Value.int .i64) (Sort.ahead w q) g 0 d).heap[k]?=w.heap[k]?:=by
    intro k hk
    show (w.heap.modify g _)[k]?=_
    rw [Array.getElem?_modify,if_neg (fun h=>hk h.symm)]
  refine ⟨⟨by rw [enc_ints]; simp [hs1],.inr ⟨g,cap,_,by simp [hl],hb,h1,by simp [hl]; omega,hm,by simp [hs1,Sort.putCells]; omega,?_⟩⟩,⟨rfl,rfl,by simp [Sort.putRow,Sort.mapBlock,Sort.ahead],fun k _ hk=>?_,fun g' hg'=>(ho.lt g' hg').1,fun a=>by simp⟩⟩
  · rw [enc_ints,hs1]
    apply List.ext_getElem?
    intro i
    rw [List.getElem?_take,List.getElem?_map]
    by_cases hi:i<d.toList.length*1
    · rw [if_pos hi]
      have hi':i<d.size:=by simpa using hi
      have hc:i<cur.size:=by omega
      simp [Sort.putCells,hi',hc]
    · rw [if_neg hi,List.getElem?_eq_none (by simpa using hi)]
      rfl
  · refine h2 k (fun e'=>hk ?_)
    rw [e']
    rfl
end Go.Nm
namespace Go.Proofs.YtpiebomegbbpcaaGreat
open Go Go.Nm Go.Proofs
theorem sort_any {w:World} {v:Value} {l:List Int} (ho:OwnF 0 3 w v l) (hl:l.length<=1000000):Ret Tryz.prog 54 #[v] w fun u w'=>u = .tuple #[]/\OwnF 0 3 w' v (isort l)/\Keep w w'/\∀ b,b<w.heap.size->v.ownBlock ≠ some b->w'.heap[b]?=w.heap[b]?:=by
  have ho':=ho
  rcases ho.2 with ⟨rfl,hn⟩ | ⟨g,cap,cur,rfl,hb,hg,hc,hm,hcs,htake⟩
  · obtain rfl:=List.length_eq_zero_iff.1 hn
    have h:=AnyM.slices_Sort_int_none Tryz.sortA none 0 w
    refine Calls.mono h ?_
    rintro _ w' ⟨rfl,rfl⟩
    exact ⟨_,rfl,rfl,ho,Keep.refl _,fun _ _ _=>rfl⟩
  · have hs1:Elt.sz Int=1:=rfl
    rw [hs1] at hcs htake
    rw [enc_ints] at htake
    have hcell:∀ j,j<l.length->w.cell? ⟨g,0+j,none⟩=some (.int .i64 (l.getD j 0)):=by
      intro j hj
      rw [Nat.zero_add,cell_of_row w g j cur 3 (0,0) hg]
      have h1:(cur.toList.take (l.length*1))[j]?=(l.map I)[j]?:=by rw [htake]
      rw [List.getElem?_take,if_pos (by omega),List.getElem?_map,getD_some l hj 0] at h1
      simpa using h1
    have hH:Sort.Holds (Value.int .i64) w g 0 l.toArray:=by
      intro j hj
      have hj:j<l.length:=by simpa using hj
      refine ⟨?_,by simp [World.frozen?,hg]⟩
      rw [hcell j hj]
      have:l.getD j 0=l.toArray[j]!:=by
        rw [List.getD_eq_getElem?_getD,List.getElem?_eq_getElem hj]
        simp [getElem!_pos,hj]
      rw [this]
    have h:=AnyM.slices_Sort_int Tryz.sortA g 0 cap l w hH (heap_lt hg) (by omega)
    refine Calls.mono h ?_
    rintro _ w' ⟨rfl,q,os,rfl⟩
    rw [merge_isort (List.Perm.refl l)]
    have hlen:(isort l).length=l.length:=(isort_perm l).length_eq
    obtain ⟨h1,h2⟩:=OwnF.row ho hg hc (by omega) hb hm (isort l).toArray (by simp [hlen]) q
    have hlt:g<(Sort.putRow (Value.int .i64) (Sort.ahead w q) g 0 (isort l).toArray).heap.size:=Nat.lt_of_lt_of_le (heap_lt hg) h2.size
    refine ⟨_,rfl,rfl,?_,⟨h2.os,h2.out,by rw [Sort.size_grow]; exact Nat.le_trans h2.size (Nat.le_add_right _ _)⟩,fun b hb' hne=>?_⟩
    · rcases h1 with ⟨h3,h4 | ⟨g',cap',cur',h5,h6,h7,h8⟩⟩
      · exact absurd h4.1 (by simp)
      · simp only [Value.slice.injEq,Option.some.injEq,Addr.mk.injEq,and_true] at h5
        obtain ⟨rfl,_,rfl⟩:=h5
        refine ⟨h3,.inr ⟨g,cap,cur',by simp [hlen],h6,by rw [Sort.heap_grow_old _ _ hlt]; exact h7,h8⟩⟩
    · rw [Sort.heap_grow_old _ _ (Nat.lt_of_lt_of_le hb' h2.size)]
      exact h2.blk b hb' hne
end Go.Proofs.YtpiebomegbbpcaaGreat
namespace Go.Nm
open Go
theorem St.sorted {w0 w w':World} {L L' R:List Chunk} {k:Nat} {v:Value} {l l':List Int} {e:TypeId} (H:St w0 w L R) (hk:L[k]?=some (cOwn (α:=Int) e v l)) (ho:OwnF 0 e w' v l') (kp:Keep w w') (hs:∀ b,b<w.heap.size->v.ownBlock ≠ some b->w'.heap[b]?=w.heap[b]?)
    (hl:L.set k (cOwn (α:=Int) e v l')=L'):St w0 w' L' R :=
  H.set (c':=cOwn (α:=Int) e v l') hk rfl kp hs (fun b hb=>.inl hb) ho hl
end Go.Nm
namespace Go.Nm
open Go
theorem sl_lohi {α:Type} [Elt α] {P:Program} {t e:TypeId} (hu:P.underlying t=some (.slice e)) (hs:(P.info? e).map (·.size)=some (Elt.sz α)) {C:Cells} {v:Value} {l:List α} (h:Sl C v l) {i j:Int} (h0:0<=i) (h1:i<=j) (h2:j<=l.length) :
    ∃ u,(∀ w,(Instr.sliceAt t v (some (.int .i64 i)) (some (.int .i64 j)) none).run P w = .ok u w)/\Sl C u ((l.take j.toNat).drop i.toNat):=by
  obtain ⟨a,c,hv,hc,hm,hh⟩:=h.ex
  have hlen:((l.take j.toNat).drop i.toNat).length=j.toNat-i.toNat:=by simp; omega
  refine ⟨.slice (if c=i.toNat then a else a.map (·.add (i.toNat*Elt.sz α))) (j.toNat-i.toNat) (c-i.toNat),fun w=>?_,⟨_,c-i.toNat,by rw [hlen],by omega,by omega,fun k x hx=>?_⟩⟩
  · subst hv
    have hjc:j<=(c:Int):=by omega
    simp [Instr.sliceAt,Instr.slice,Instr.sliceBounds,Instr.sliceBound,asIntOf,run_underlying hu,run_sizeOf hs,h0,hjc]
    rw [if_pos (by omega),if_pos (by omega)]
  · rw [List.getElem?_drop,List.getElem?_take] at hx
    split at hx
    · have hlt:=(List.getElem?_eq_some_iff.1 hx).1
      obtain ⟨b,o,cs,ha,hr,hy⟩:=hh _ x hx
      refine ⟨b,o+i.toNat*Elt.sz α,cs,?_,hr,fun j y hj=>?_⟩
      · rw [if_neg (by omega),ha]
        simp [add_lit]
      · have:=hy j y hj
        rwa [show o+(i.toNat+k)*Elt.sz α+j=o+i.toNat*Elt.sz α+k*Elt.sz α+j from by rw [Nat.add_mul]; omega] at this
    · cases hx
end Go.Nm
namespace Go.Nm
open Go
section
set_option linter.unusedSectionVars false
variable {α β:Type} [Flat α] [Flat β] [Inhabited β] {iv:β->Value} {e1 e2:TypeId} {v:Value} {us:List β} {T:List (List α)} {w0 w:World} {L L' R:List Chunk}
variable {P:Program} {all rest:List Oper} {Q:Post} {σ:Env} {d:Nat} {ty:TypeId} {pos:String} {af:Array Edge}
end
end Go.Nm
namespace Go.Nm
open Go
universe u
abbrev Pq (b:Nat):Value:=.pointer (some ⟨b,0,none⟩)
abbrev Oq (b o:Nat):Value:=.pointer (some ⟨b,o,none⟩)
class NthR {α:Type u} (l:List α) (i:Nat) (x:outParam α):Prop where
  is:l[i]?=some x
instance {α:Type u} {l:List α} {x:α}:NthR (x :: l) 0 x:=⟨rfl⟩
instance {α:Type u} {l:List α} {x y:α} {i:Nat} [h:NthR l i x]:NthR (y :: l) (i+1) x:=⟨h.is⟩
instance (priority:=high) {α:Type u} {l:List α} {x a b c d:α} {i:Nat} [h:NthR l i x]:NthR (a :: b :: c :: d :: l) (i+4) x:=⟨h.is⟩
class PickR {α:Type u} (l:List α) (i:List Nat) (o:outParam (List α)):Prop where
  is:i.mapM (fun j=>l[j]?)=some o
instance {α:Type u} {l:List α}:PickR l [] []:=⟨rfl⟩
instance {α:Type u} {l o:List α} {i:Nat} {is:List Nat} {x:α} [h:NthR l i x] [k:PickR l is o]:PickR l (i :: is) (x :: o):=⟨by rw [List.mapM_cons,h.is,k.is]; rfl⟩
class AppR {α:Type u} (a b:List α) (o:outParam (List α)):Prop where
  is:a++b=o
instance {α:Type u} {b:List α}:AppR [] b b:=⟨rfl⟩
instance {α:Type u} {x:α} {a b o:List α} [h:AppR a b o]:AppR (x :: a) b (x :: o):=⟨by rw [List.cons_append,h.is]⟩
class LenR {α:Type u} (l:List α) (n:Nat):Prop where
  is:l.length=n
instance {α:Type u}:LenR ([]:List α) 0:=⟨rfl⟩
instance {α:Type u} {l:List α} {x:α} {n:Nat} [h:LenR l n]:LenR (x :: l) (n+1):=⟨by rw [List.length_cons,h.is]⟩
class EndR {α:Type u} (n:Nat) (l:List α) (a b:outParam (List α)):Prop where
  is:a++b=l
instance (priority:=low) {α:Type u} {x:α} {n:Nat} {l a b:List α} [h:EndR n l a b]:EndR n (x :: l) (x :: a) b:=⟨by rw [List.cons_append,h.is]⟩
instance {α:Type u} {n:Nat} {l:List α} [LenR l n]:EndR n l [] l:=⟨rfl⟩
class SetR {α:Type u} (l:List α) (k:Nat) (x:α) (o:outParam (List α)):Prop where
  is:l.set k x=o
instance {α:Type u} {l:List α} {x y:α}:SetR (y :: l) 0 x (x :: l):=⟨rfl⟩
instance {α:Type u} {l o:List α} {x y:α} {k:Nat} [h:SetR l k x o]:SetR (y :: l) (k+1) x (y :: o):=⟨by rw [List.set_cons_succ,h.is]⟩
class NfR {α:Type u} (l:List α) (o:outParam (List α)):Prop where
  is:l=o
instance {α:Type u}:NfR ([]:List α) []:=⟨rfl⟩
instance {α:Type u} {x:α} {l o:List α} [h:NfR l o]:NfR (x :: l) (x :: o):=⟨by rw [← h.is]⟩
instance {α:Type u} {l o p:List α} {k:Nat} {x:α} [h:NfR l o] [s:SetR o k x p]:NfR (l.set k x) p:=⟨by rw [h.is,s.is]⟩
instance {α:Type u} {a b a' b' o:List α} [h:NfR a a'] [h':NfR b b'] [s:AppR a' b' o]:NfR (a++b) o:=⟨by rw [h.is,h'.is,s.is]⟩
instance {α:Type u} {x:α} {l o:List α} [h:NfR l o]:NfR ((x :: l).eraseIdx 0) o:=⟨by rw [← h.is]; rfl⟩
instance {α:Type u} {x:α} {l o:List α} {k:Nat} [h:NfR (l.eraseIdx k) o]:NfR ((x :: l).eraseIdx (k+1)) (x :: o):=⟨by rw [List.eraseIdx_cons_succ,h.is]⟩
class OverR {α:Type u} (cs:List α) (off:Nat) (vs:List α) (o:outParam (List α)):Prop where
  is:cs.take off++vs++cs.drop (off+vs.length)=o
instance {α:Type u} {cs:List α}:OverR cs 0 [] cs:=⟨by simp⟩
instance {α:Type u} {c v:α} {cs vs o:List α} [h:OverR cs 0 vs o]:OverR (c :: cs) 0 (v :: vs) (v :: o):=⟨by
  have:=h.is
  simp only [List.take_zero,List.nil_append,Nat.zero_add] at this ⊢
  simp [this]⟩
instance {α:Type u} {c:α} {cs vs o:List α} {n:Nat} [h:OverR cs n vs o]:OverR (c :: cs) (n+1) vs (c :: o):=⟨by
  have:=h.is
  rw [List.take_succ_cons,show n+1+vs.length=n+vs.length+1 by omega,List.drop_succ_cons,List.cons_append,List.cons_append,this]⟩
section
variable {w0 w w':World} {L L' L1 R A T:List Chunk}
theorem St.os {α:Type} [Flat α] {e:TypeId} {v:Value} {l:List α} (h:St w0 w L R) (k:Nat) [n:NthR L k (cOwn e v l)]:Sl (rowC v (l.flatMap Flat.enc)) v l:=ownSl (h.get n.is)
theorem St.ol {α:Type} [Flat α] {e:TypeId} {v:Value} {l:List α} (h:St w0 w L R) (k:Nat) [n:NthR L k (cOwn e v l)]:(rowC v (l.flatMap Flat.enc)).Le w.cell?:=ownLe w (h.get n.is)
theorem rdo {α:Type} [Flat α] {e:TypeId} {v:Value} {l:List α} (k:Nat) [n:NthR L k (cOwn e v l)]:Reads (L++R) (rowC v (l.flatMap Flat.enc)):=Reads.of n.is ownLe
theorem St.bl {b:Nat} {cs:List Value} {t:TypeId} (h:St w0 w L R) (k:Nat) [n:NthR L k (cBlk b cs t)]:w.heap[b]?=some (.cells cs.toArray t (0,0)):=h.blk n.is
theorem St.nf (h:St w0 w L R) [n:NfR L L']:St w0 w L' R:=by
  have:=n.is
  subst this
  exact h
theorem St.pk (h:St w0 w L R) (i:List Nat) [n:NfR L L1] [p:PickR L1 i L'] (hn:i.Nodup:=by decide):St w0 w L' R:=h.nf.pick i hn p.is
theorem St.bk (h:St w0 w L R) (h':St w w' A (T++R)) [a:NfR (A++T) L']:St w0 w' L' R:=h.back h' a.is
theorem St.gt (h:St w0 w L R) (k:Nat) [n:NfR L L1] [s:EndR k L1 A T]:St w w A (T++R):=h.nf.give s.is
end
section
variable {P:Program} {all rest:List Oper} {Q:Post} {σ:Env} {w0 w:World} {L L' R:List Chunk} {ty:TypeId} {pos:String} {af:Array Edge}
theorem t_sw {dst:Option Nat} {t:TypeId} {x y:Operand} {b n:Nat} {cs cs':List Value} {et:TypeId} (k off:Nat) (vs:List Value) (v:Value) (H:St w0 w L R) [hk:NthR L k (cBlk b cs et)] [hc:OverR cs off vs cs'] [hL:SetR L k (cBlk b cs' et) L'] (hx:ev σ x = .pointer (some ⟨b,off,none⟩)) (hy:ev σ y=v)
    (hs:(P.info? t).map (·.size)=some n) (hv:v.cells=vs.toArray) (hn:vs.length=n) (hl:Nat.ble (off+n) cs.length=true) (h1:vs.all (·.oneCell')=true)
    (kk:∀ w',St w0 w' L' R->SL P all Q rest (updo σ dst undef) w'):SL P all Q (⟨dst,.store t x y,ty,pos,af,none⟩ :: rest) σ w :=
  t_st H hk.is hx hy hs hv hn hl h1 (by rw [← hn]; exact hc.is) hL.is kk
end
/-- What a test says, as a proposition. -/
class DcB (b c:Bool) (p:outParam Prop):Prop where
  to:b=c->p
instance (priority:=low) {b c:Bool}:DcB b c (b=c):=⟨fun h=>h⟩
instance {p:Prop} [Decidable p]:DcB (decide p) true p:=⟨of_decide_eq_true⟩
instance {p:Prop} [Decidable p]:DcB (decide p) false (¬p):=⟨of_decide_eq_false⟩
instance {α:Type _} [BEq α] [LawfulBEq α] {a b:α}:DcB (a==b) true (a=b):=⟨beq_iff_eq.1⟩
instance {α:Type _} [BEq α] [LawfulBEq α] {a b:α}:DcB (a==b) false (a ≠ b):=⟨beq_eq_false_iff_ne.1⟩
instance {α:Type _} [BEq α] [LawfulBEq α] {a b:α}:DcB (a != b) true (a ≠ b):=⟨bne_iff_ne.1⟩
instance {α:Type _} [BEq α] [LawfulBEq α] {a b:α}:DcB (a != b) false (a=b):=⟨bne_eq_false_iff_eq.1⟩
theorem dI {b c:Bool} {p:Prop} [h:DcB b c p] (x:b=c):p:=h.to x
section
variable {P:Program} {all rest:List Oper} {Q:Post} {σ:Env} {w0 w:World} {L L' R:List Chunk} {ty:TypeId} {pos:String} {af:Array Edge}
theorem t_bx {d:Nat} {e:TypeId} {x:Operand} (cs:List Value) (H:St w0 w L R) (hx:ev σ x = .agg cs.toArray)
    (k:∀ b w',St w0 w' (cBlk b cs e :: L) R->SL P all Q rest (upd σ d (.pointer (some ⟨b,0,none⟩))) w'):SL P all Q (⟨some d,.box e x,ty,pos,af,none⟩ :: rest) σ w:=t_box H hx rfl k
theorem t_b1 {d:Nat} {e:TypeId} {x:Operand} (v:Value) (H:St w0 w L R) (hx:ev σ x=v) (hv:v.cells=[v].toArray)
    (k:∀ b w',St w0 w' (cBlk b [v] e :: L) R->SL P all Q rest (upd σ d (.pointer (some ⟨b,0,none⟩))) w'):SL P all Q (⟨some d,.box e x,ty,pos,af,none⟩ :: rest) σ w:=t_box H hx hv k
end
end Go.Nm
namespace Go.Nm
open Go
universe u
/-- What a test says, as a proposition. -/
class DcQ (b c:Bool) (p:outParam Prop):Prop where
  to:b=c->p
instance (priority:=low) {b c:Bool}:DcQ b c (b=c):=⟨fun h=>h⟩
instance {p:Prop} [Decidable p]:DcQ (decide p) true p:=⟨of_decide_eq_true⟩
instance {p:Prop} [Decidable p]:DcQ (decide p) false (¬p):=⟨of_decide_eq_false⟩
instance {α:Type _} [BEq α] [LawfulBEq α] {a b:α}:DcQ (a==b) true (a=b):=⟨beq_iff_eq.1⟩
instance {α:Type _} [BEq α] [LawfulBEq α] {a b:α}:DcQ (a==b) false (a ≠ b):=⟨beq_eq_false_iff_ne.1⟩
instance {α:Type _} [BEq α] [LawfulBEq α] {a b:α}:DcQ (a != b) true (a ≠ b):=⟨bne_iff_ne.1⟩
instance {α:Type _} [BEq α] [LawfulBEq α] {a b:α}:DcQ (a != b) false (a=b):=⟨bne_eq_false_iff_eq.1⟩
/-- What a guard says, as a proposition. -/
class DeQ (b:Bool) (p:outParam Prop):Prop where
  iff:b=true↔p
instance (priority:=low) {b:Bool}:DeQ b (b=true):=⟨Iff.rfl⟩
instance {p:Prop} [Decidable p]:DeQ (decide p) p:=⟨decide_eq_true_iff⟩
instance {a b:Bool} {p q:Prop} [ha:DeQ a p] [hb:DeQ b q]:DeQ (a&&b) (p/\q):=⟨by rw [Bool.and_eq_true,ha.iff,hb.iff]⟩
/-! ### Facts on types, found by their numbers -/
class FdC (P:Program) (s k:Nat) (off ft:outParam Nat):Prop where
  h:(P.underlying s).bind (fun d=>match d with | .struct fs=>(fs[k]?).map (fun f=>(f.offset,f.type)) | _=>none)=some (off,ft)
class ScC (P:Program) (t:Nat):Prop where
  h:isSc (P.underlying t)=true
class AgC (P:Program) (t:Nat):Prop where
  h:isAg (P.underlying t)=true
class SzC (P:Program) (t:Nat) (n:outParam Nat):Prop where
  h:(P.info? t).map (·.size)=some n
class TlC (P:Program) (t:Nat) (e sz by':outParam Nat) (z:outParam Value):Prop where
  h:SlT P t e sz by' z
class AlC (P:Program) (t:Nat) (z:outParam Value):Prop where
  h:(P.info? t).map (·.zero)=some (some z)
class BdC (P:Program) (t:Nat) (pl:outParam (List (Nat × Nat))):Prop where
  h:∃ fs:Array Field,P.underlying t=some (.struct fs)/\fs.toList.mapM (fun f=>(P.info? f.type).map fun i=>(f.offset,i.size))=some pl
class CfC (P:Program) (f:FuncId):Prop where
  h:CF P f
class AddC (a b:Nat) (c:outParam Nat):Prop where
  h:a+b=c
instance (priority:=low) {a b:Nat}:AddC a b (a+b):=⟨rfl⟩
instance {a:Nat}:AddC a 0 a:=⟨rfl⟩
instance {b:Nat}:AddC 0 b b:=⟨Nat.zero_add b⟩
/-- An index as a number. -/
class IxC (i:Int) (n:outParam Nat):Prop where
  h:i.toNat=n
instance (priority:=low) {i:Int}:IxC i i.toNat:=⟨rfl⟩
instance {n:Nat}:IxC (n:Int) n:=⟨rfl⟩
instance:IxC 0 0:=⟨rfl⟩
instance:IxC 1 1:=⟨rfl⟩
instance:IxC 2 2:=⟨rfl⟩
instance:IxC 3 3:=⟨rfl⟩
instance:IxC 4 4:=⟨rfl⟩
instance:IxC 5 5:=⟨rfl⟩
instance:IxC 6 6:=⟨rfl⟩
instance:IxC 7 7:=⟨rfl⟩
instance:IxC 8 8:=⟨rfl⟩
instance:IxC 9 9:=⟨rfl⟩
/-- What is read beyond a list's end. -/
class DfC (α:Type) (d:outParam α):Prop where
  h:True
instance (priority:=low) {α:Type} [Inhabited α]:DfC α default:=⟨trivial⟩
instance:DfC Int 0:=⟨trivial⟩
instance:DfC Bool false:=⟨trivial⟩
/-- The cells of a thing, written out. -/
class EncL {α:Type} [Flat α] (x:α) (ds:outParam (List Value)):Prop where
  h:Flat.enc x=ds
/-- Some of a list's entries. -/
class SubR {α:Type u} (l:List α) (k n:Nat) (o:outParam (List α)):Prop where
  h:(l.drop k).take n=o
instance {α:Type u} {l:List α}:SubR l 0 0 []:=⟨rfl⟩
instance {α:Type u} {l o:List α} {x:α} {n:Nat} [h:SubR l 0 n o]:SubR (x :: l) 0 (n+1) (x :: o):=⟨by have:=h.h; simp at this; simp [this]⟩
instance {α:Type u} {l o:List α} {x:α} {k n:Nat} [h:SubR l k n o]:SubR (x :: l) (k+1) n o:=⟨by rw [List.drop_succ_cons]; exact h.h⟩
/-- A block among the parts. -/
class BlkR (L:List Chunk) (b:Nat) (cs:outParam (List Value)) (t:outParam TypeId):Prop where
  h:∃ k:Nat,L[k]?=some (cBlk b cs t)
instance {c:Chunk} {L:List Chunk} {b:Nat} {cs:List Value} {t:TypeId} [h:BlkR L b cs t]:BlkR (c :: L) b cs t:=⟨by obtain ⟨k,h⟩:=h.h; exact ⟨k+1,by simpa using h⟩⟩
instance {L:List Chunk} {b:Nat} {cs:List Value} {t:TypeId}:BlkR (cBlk b cs t :: L) b cs t:=⟨⟨0,rfl⟩⟩
/-- A block among the parts that is changed. -/
class BlkW (L:List Chunk) (b:Nat) (cs:List Value) (cs':List Value) (t:TypeId) (o:outParam (List Chunk)):Prop where
  h:∃ k:Nat,L[k]?=some (cBlk b cs t)/\L.set k (cBlk b cs' t)=o
instance {c:Chunk} {L o:List Chunk} {b:Nat} {cs cs':List Value} {t:TypeId} [h:BlkW L b cs cs' t o]:BlkW (c :: L) b cs cs' t (c :: o):=⟨by obtain ⟨k,h1,h2⟩:=h.h; exact ⟨k+1,by simpa using h1,by rw [List.set_cons_succ,h2]⟩⟩
instance {L:List Chunk} {b:Nat} {cs cs':List Value} {t:TypeId}:BlkW (cBlk b cs t :: L) b cs cs' t (cBlk b cs' t :: L):=⟨⟨0,rfl,rfl⟩⟩
/-- A field of an element. -/
class FldC (α:Type) [Elt α] (k:Nat) (e:outParam α) (f:outParam (α->Value)):Prop where
  h:∀ {C:Cells} {v:Value} {l:List α} {n:Nat},Sl C v l->n<l.length->At C (fat (vat v (Elt.sz α) n) k) [f (l.getD n e)]
section
variable {w0 w:World} {L R:List Chunk}
theorem St.bq {b:Nat} {cs:List Value} {t:TypeId} (H:St w0 w L R) [h:BlkR L b cs t]:w.heap[b]?=some (.cells cs.toArray t (0,0)):=by
  obtain ⟨k,hk⟩:=h.h
  exact H.get hk
end
section
variable {P:Program} {w:World} {σ:Env} {d:Nat} {ty:TypeId} {pos:String} {af:Array Edge} {g:Option (Nat × Bool)}
theorem pos_succ {m:Nat} (h:Nat.blt 0 m=true):∃ n,m=n+1:=by
  cases m with
  | zero=>cases h
  | succ n=>exact ⟨n,rfl⟩
theorem y_fab {s k off ft m b o c:Nat} {x:Operand} (hx:ev σ x = .pointer (some ⟨b,o,none⟩)) [f:FdC P s k off ft] [z:SzC P ft m] (a:AddC o off c) (hm:Nat.blt 0 m=true) :
    (execOp (ev σ) ⟨some d,.fieldAddr s x k,ty,pos,af,g⟩).run P w = .ok (.value (.pointer (some ⟨b,c,none⟩))) w:=by
  obtain ⟨n,rfl⟩:=pos_succ hm
  have:=fa_blk (w:=w) (b:=b) (o:=o) f.h z.h
  rw [a.h] at this
  exact x_fa hx this
theorem y_fap {s k off ft m:Nat} {x:Operand} {p:Value} (hx:ev σ x=p) [f:FdC P s k off ft] [z:SzC P ft m] (hm:Nat.blt 0 m=true) (hp:∃ b o,p = .pointer (some ⟨b,o,none⟩)) :
    (execOp (ev σ) ⟨some d,.fieldAddr s x k,ty,pos,af,g⟩).run P w = .ok (.value (fat p off)) w:=by
  obtain ⟨n,rfl⟩:=pos_succ hm
  exact x_fa hx (fa_pl f.h z.h hp)
theorem y_fav {α:Type} {_:Elt α} {s k off ft m sz n:Nat} {x:Operand} {C:Cells} {v:Value} {l:List α} (hx:ev σ x=vat v sz n) [f:FdC P s k off ft] [z:SzC P ft m] (hm:Nat.blt 0 m=true) (hs:Sl C v l) (hz:Elt.sz α=sz) (h1:n<l.length) :
    (execOp (ev σ) ⟨some d,.fieldAddr s x k,ty,pos,af,g⟩).run P w = .ok (.value (fat (vat v sz n) off)) w:=by
  subst hz
  have:=Sl.pl hs (i:=(n:Int)) (by omega) (by omega)
  exact y_fap hx hm (by simpa using this)
theorem y_faw {α:Type} {_:Elt α} {s k off ft m sz n a c:Nat} {x:Operand} {C:Cells} {v:Value} {l:List α} (hx:ev σ x=fat (vat v sz n) a) [f:FdC P s k off ft] [z:SzC P ft m] (ad:AddC a off c) (hm:Nat.blt 0 m=true) (hs:Sl C v l) (hz:Elt.sz α=sz) (h1:n<l.length) :
    (execOp (ev σ) ⟨some d,.fieldAddr s x k,ty,pos,af,g⟩).run P w = .ok (.value (fat (vat v sz n) c)) w:=by
  subst hz
  obtain ⟨b,o,hp⟩:=Sl.pl hs (i:=(n:Int)) (by omega) (by omega)
  have e:vat v (Elt.sz α) n = .pointer (some ⟨b,o,none⟩):=by simpa using hp
  have:=y_fap (P:=P) (w:=w) (d:=d) (ty:=ty) (pos:=pos) (af:=af) (g:=g) hx (f:=f) (z:=z) hm ⟨b,o+a,by rw [e]; simp [fat,add_lit]⟩
  rw [this,e,← ad.h]
  simp [fat,add_lit,Nat.add_assoc]
theorem y_ldb {t:TypeId} {b off:Nat} {cs:List Value} {et:TypeId} {fr:Nat × Nat} {x:Operand} {v:Value} (hx:ev σ x = .pointer (some ⟨b,off,none⟩)) [s:ScC P t] (h:w.heap[b]?=some (.cells cs.toArray et fr)) (hv:(cs.drop off).take 1=[v]) :
    (execOp (ev σ) ⟨some d,.load t x,ty,pos,af,g⟩).run P w = .ok (.value v) w:=x_ld hx (ldb_sc s.h h hv)
theorem y_lda {t:TypeId} {b off n:Nat} {cs ds:List Value} {et:TypeId} {fr:Nat × Nat} {x:Operand} (hx:ev σ x = .pointer (some ⟨b,off,none⟩)) [s:AgC P t] [z:SzC P t n] (h:w.heap[b]?=some (.cells cs.toArray et fr)) (q:SubR cs off n ds) (hn:ds.length=n) :
    (execOp (ev σ) ⟨some d,.load t x,ty,pos,af,g⟩).run P w = .ok (.value (.agg ds.toArray)) w:=x_ld hx (ldb_ag s.h z.h h q.h hn)
theorem At.flat {α:Type} [Flat α] {C:Cells} {v:Value} {l:List α} (hs:Sl C v l) {n:Nat} (h1:n<l.length) (e:α):At C (vat v (Elt.sz α) n) (Flat.enc (l.getD n e)):=by
  obtain ⟨cs,ha,hr⟩:=hs.atI (i:=(n:Int)) (by omega) (by omega) e
  rw [Flat.rep_iff] at hr
  subst hr
  simpa using ha
theorem y_lds {α:Type} {_:Flat α} {t sz n:Nat} {x:Operand} {C:Cells} {v u:Value} {l:List α} {e:α} (hx:ev σ x=vat v sz n) [s:ScC P t] (hs:Sl C v l) {ds:List Value} (de:DfC α e) (en:EncL (l.getD n e) ds) (hz:Elt.sz α=sz) (hu:ds=[u]) (hle:C.Le w.cell?) (h1:n<l.length) :
    (execOp (ev σ) ⟨some d,.load t x,ty,pos,af,g⟩).run P w = .ok (.value u) w:=by
  subst hz
  have:=(At.flat hs h1 e).mono hle
  rw [en.h,hu] at this
  exact x_ld hx (ld_sc s.h this)
theorem y_ldf {α:Type} {_:Flat α} {t sz n k:Nat} {x:Operand} {C:Cells} {v u:Value} {l:List α} {e:α} (hx:ev σ x=fat (vat v sz n) k) [s:ScC P t] (hs:Sl C v l) {ds:List Value} (de:DfC α e) (en:EncL (l.getD n e) ds) (hz:Elt.sz α=sz) (hu:(ds.drop k).take 1=[u]) (hle:C.Le w.cell?) (h1:n<l.length) :
    (execOp (ev σ) ⟨some d,.load t x,ty,pos,af,g⟩).run P w = .ok (.value u) w:=by
  subst hz
  have:=((At.flat hs h1 e).mono hle).fld k 1
  rw [en.h,hu] at this
  exact x_ld hx (ld_sc s.h this)
theorem y_ldA {α:Type} {_:Flat α} {t sz n:Nat} {x:Operand} {C:Cells} {v:Value} {l:List α} {e:α} (hx:ev σ x=vat v sz n) [s:AgC P t] [z:SzC P t sz] (hs:Sl C v l) {ds:List Value} (de:DfC α e) (en:EncL (l.getD n e) ds) (hz:Elt.sz α=sz) (hle:C.Le w.cell?) (h1:n<l.length) :
    (execOp (ev σ) ⟨some d,.load t x,ty,pos,af,g⟩).run P w = .ok (.value (.agg ds.toArray)) w:=by
  subst hz
  have:=(At.flat hs h1 e).mono hle
  rw [en.h] at this
  refine x_ld hx (ld_ag s.h ?_ this)
  rw [z.h,← en.h,Flat.enc_len]
theorem y_ldg {α:Type} {_:Elt α} {t sz n k:Nat} {x:Operand} {C:Cells} {v:Value} {l:List α} {e:α} {f:α->Value} (hx:ev σ x=fat (vat v sz n) k) [s:ScC P t] (hs:Sl C v l) (fc:FldC α k e f) (hz:Elt.sz α=sz) (hle:C.Le w.cell?) (h1:n<l.length) :
    (execOp (ev σ) ⟨some d,.load t x,ty,pos,af,g⟩).run P w = .ok (.value (f (l.getD n e))) w:=by
  subst hz
  exact x_ld hx (ld_sc s.h ((fc.h hs h1).mono hle))
theorem y_ldp {t:TypeId} {x:Operand} {p v:Value} (hx:ev σ x=p) [s:ScC P t] (ha:At w.cell? p [v]) :
    (execOp (ev σ) ⟨some d,.load t x,ty,pos,af,g⟩).run P w = .ok (.value v) w:=x_ld hx (ld_sc s.h ha)
theorem y_len {α:Type} {_:Elt α} {t e sz by':Nat} {z:Value} {x:Operand} {C:Cells} {v:Value} {l:List α} [T:TlC P t e sz by' z] (h:ev σ x=v) (hs:Sl C v l) :
    (execOp (ev σ) ⟨some d,.call ⟨.builtin .len,#[x],#[t]⟩,ty,pos,af,g⟩).run P w = .ok (.value (.int .i64 l.length)) w:=x_lenS T.h.und h hs
theorem y_ix {α:Type} {_:Elt α} {t e sz by' n:Nat} {z:Value} {x y:Operand} {C:Cells} {v:Value} {l:List α} {kd:IntKind} {i:Int} [T:TlC P t e sz by' z] (hx:ev σ x=v) (hy:ev σ y = .int kd i) (ix:IxC i n) (hs:Sl C v l) (hz:Elt.sz α=sz) (h0:0<=i) (h1:i<l.length) :
    (execOp (ev σ) ⟨some d,.indexAddr t x y,ty,pos,af,g⟩).run P w = .ok (.value (vat v sz n)) w:=by
  subst hz
  have:=Sl.ix (w:=w) (kd:=kd) T.h.und T.h.size hs h0 h1
  rw [ix.h] at this
  exact x_ix hx hy this
end
section
variable {P:Program} {all rest:List Oper} {Q:Post} {σ:Env} {w0 w:World} {L L' R:List Chunk} {ty:TypeId} {pos:String} {af:Array Edge}
end
instance {x:Int}:EncL x [I x]:=⟨rfl⟩
instance {x:Bool}:EncL x [B x]:=⟨rfl⟩
/-- A slice that reads as a list. -/
theorem jS {A:Prop} (h:A:=by first | assumption | exact H.os 0 | exact H.os 1 | exact H.os 2 | exact H.os 3 | exact H.os 4 | exact H.os 5 | exact H.os 6 | exact H.os 7 | exact H.os 8 | exact H.os 9 | exact (by assumption:_=true->Sl _ _ _) hg):A:=h
/-- Cells that can be read. -/
theorem jL {A:Prop} (h:A:=by first | exact Reads.at (by assumption) H | exact H.ol 0 | exact H.ol 1 | exact H.ol 2 | exact H.ol 3 | exact H.ol 4 | exact H.ol 5 | exact H.ol 6 | exact H.ol 7 | exact H.ol 8 | exact H.ol 9):A:=h
/-- A bound. -/
theorem jO {A:Prop} (h:A:=by first | omega | (have hx_:=hg; simp at hx_; omega) | (have hx_:=hg; simp at hx_; simp only [hg,Bool.true_eq_false,Bool.false_eq_true,reduceCtorEq,false_or,true_or,Bool.not_true,Bool.not_false] at *; omega) | (simp only [hg,Bool.true_eq_false,Bool.false_eq_true,reduceCtorEq,false_or,true_or,Bool.not_true,Bool.not_false] at *; omega)):A:=h
/-- A guard. -/
theorem jB {A:Prop} (h:A:=by first | exact hb | (rw [hb]; rfl) | simp_all):A:=h
/-- A value under a guard, or none. -/
theorem jG {A:Prop} (h:A:=by first | exact gd_of hg _ | ((conv=>lhs; whnf) <;> rfl)):A:=h
/-- A value. -/
theorem jE {A:Prop} (h:A:=by ((conv=>lhs; whnf) <;> rfl)):A:=h
/-- One operation. -/
theorem jU {A:Prop} (h:A:=by 
    first
      | (apply x_mv; exact jE)
      | (apply x_as; exact jE)
      | (apply y_fab; rfl; exact inferInstance; rfl)
      | (apply y_ldb; rfl; exact H.bq; rfl)
      | (apply x_cmp; rfl; rfl; rfl)
      | (apply y_len; exact jE; exact jS)
      | (apply y_ix; exact jE; rfl; exact inferInstance; exact jS; rfl; exact jO; exact jO)
      | (apply y_fav; rfl; rfl; exact jS; rfl; exact jO)
      | (apply y_faw; rfl; exact inferInstance; rfl; exact jS; rfl; exact jO)
      | (apply y_lds; rfl; exact jS; exact inferInstance; exact inferInstance; rfl; rfl; exact jL; exact jO)
      | (apply y_ldf; rfl; exact jS; exact inferInstance; exact inferInstance; rfl; rfl; exact jL; exact jO)
      | (apply y_ldg; rfl; exact jS; exact inferInstance; rfl; exact jL; exact jO)
      | (apply y_ldA; rfl; exact jS; exact inferInstance; exact inferInstance; rfl; exact jL; exact jO)
      | (apply y_ldp; rfl; exact At.mono (by assumption) jL)
      | (apply x_ari; rfl; rfl; rfl; exact jO)
      | (apply x_ext; rfl; rfl)
      | (apply x_nc; rfl)
      | (apply y_lda; rfl; exact H.bq; exact inferInstance; rfl)
      | (apply y_ldb; rfl; exact (by assumption:Has _ (cBlk _ _ _)).blk H; rfl)
      | (apply x_not; rfl)
      | (apply x_max; rfl; rfl)
      | (apply x_min; rfl; rfl)
      | (apply x_quo; rfl; rfl; exact jO)
      | (apply x_por; rfl; rfl; exact fun hb=>gd_of jB _)
      | (apply x_pand; rfl; exact fun hb=>gd_of jB _; rfl)):A:=h
/-- One operation under a guard. -/
theorem jV {A:Prop} (h:A:=by 
    first
      | (apply x_mv; exact jG)
      | (apply x_as; exact jG)
      | (apply y_fab; exact jG; exact inferInstance; rfl)
      | (apply y_ldb; exact jG; exact H.bq; rfl)
      | (apply x_cmp; exact jG; exact jG; rfl)
      | (apply y_len; exact jG; exact jS)
      | (apply y_ix; exact jG; exact jG; exact inferInstance; exact jS; rfl; exact jO; exact jO)
      | (apply y_fav; exact jG; rfl; exact jS; rfl; exact jO)
      | (apply y_faw; exact jG; exact inferInstance; rfl; exact jS; rfl; exact jO)
      | (apply y_lds; exact jG; exact jS; exact inferInstance; exact inferInstance; rfl; rfl; exact jL; exact jO)
      | (apply y_ldf; exact jG; exact jS; exact inferInstance; exact inferInstance; rfl; rfl; exact jL; exact jO)
      | (apply y_ldg; exact jG; exact jS; exact inferInstance; rfl; exact jL; exact jO)
      | (apply y_ldA; exact jG; exact jS; exact inferInstance; exact inferInstance; rfl; exact jL; exact jO)
      | (apply y_ldp; exact jG; exact At.mono (by assumption) jL)
      | (apply x_ari; exact jG; exact jG; rfl; exact jO)
      | (apply x_ext; exact jG; rfl)
      | (apply x_nc; exact jG)
      | (apply y_lda; exact jG; exact H.bq; exact inferInstance; rfl)
      | (apply y_ldb; exact jG; exact (by assumption:Has _ (cBlk _ _ _)).blk H; rfl)
      | (apply x_not; exact jG)
      | (apply x_max; exact jG; exact jG)
      | (apply x_min; exact jG; exact jG)
      | (apply x_quo; exact jG; exact jG; exact jO)
      | (apply x_por; exact jG; exact jG; exact fun hb=>gd_of jB _)
      | (apply x_pand; exact jG; exact fun hb=>gd_of jB _; exact jG)):A:=h
/-- What is left. -/
structure Left (B:Prop):Prop where
  h:B
/-- How many steps are left. -/
structure Cnt (n:Nat):Prop where
  h:n=n
theorem Cnt.dn {n:Nat} (c:Cnt (n+1)):Cnt n:=⟨rfl⟩
/-- So many plain steps. -/
theorem kg {A B:Prop} (n:Nat) (q:B) (f:Cnt n->Left B->A:=by
    intro cnt q
    (repeat (replace cnt:=Cnt.dn cnt; first
      | (apply s_val; exact jU)
      | refine s_nil ?_
      | refine W.seq ?_
      | refine W.region rfl ?_
      | refine W.skip ?_
      | refine W.block ?_
      | (apply d_q; rfl; (intro w' H; exact jU))
      | (apply t_q; rfl; (intro w' H; exact jU))
      | (apply g_val; (first | exact gy_t rfl | exact gy_f rfl | exact gy_gt rfl rfl | exact gy_gf rfl rfl); (intro hg; exact jV))
      | (apply d_qg; rfl; (first | exact gy_t rfl | exact gy_f rfl | exact gy_gt rfl rfl | exact gy_gf rfl rfl); (intro hg w' H; exact jV))
      | (apply t_qg; rfl; (first | exact gy_t rfl | exact gy_f rfl | exact gy_gt rfl rfl | exact gy_gf rfl rfl); (intro hg w' H; exact jV))
      | refine t_nil ?_
      | refine d_nil ?_))
    exact q.h):A:=f ⟨rfl⟩ ⟨q⟩
/-- Returns. -/
theorem rt {A:Prop} (h:A:=by
    refine W.ret ⟨_,(by first | exact resE_tmp rfl | exact resE_tmp2 rfl | exact resE_tmp3 rfl | exact resE_tmp4 rfl),?_⟩
    first
      | exact ⟨_,M.e_pure hM,rfl,H.pk []⟩
      | exact ⟨_,_,M.e_pure hM,rfl,H.pk []⟩
      | exact ⟨_,_,_,M.e_pure hM,rfl,H.pk []⟩
      | exact ⟨_,_,_,_,M.e_pure hM,rfl,H.pk []⟩
      | exact ⟨_,_,_,_,_,M.e_pure hM,rfl,H.pk []⟩):A:=h
end Go.Nm
namespace Go.Nm
open Go
section
variable {P:Program} {w:World} {σ:Env} {d:Nat} {ty:TypeId} {pos:String} {af:Array Edge} {g:Option (Nat × Bool)}
theorem x_pand0 {c x y:Operand} {b:Bool} (hc:ev σ c = .bool b) (hx:b=true->ev σ x = .bool false) (hy:ev σ y = .bool false) :
    (execOp (ev σ) ⟨some d,.pick c x y,ty,pos,af,g⟩).run P w = .ok (.value (.bool false)) w:=by
  have:=x_pand (P:=P) (w:=w) (d:=d) (ty:=ty) (pos:=pos) (af:=af) (g:=g) hc hx hy
  rwa [Bool.and_false] at this
end
end Go.Nm
namespace Go.Nm
open Go
instance {x:Pk}:EncL x [I x.day,I x.stage]:=⟨rfl⟩
instance {x:Yr}:EncL x [I x.year,I x.lo,I x.hi]:=⟨rfl⟩
instance {x:Span}:EncL x [I x.lo,I x.hi]:=⟨rfl⟩
instance {x:Rto}:EncL x [I x.num,I x.den]:=⟨rfl⟩
instance:FldC Old10 0 default (fun x=>I x.src):=⟨fun hs h1=>by have:=Old10_at0 hs (i:=(_:Nat)) (Int.natCast_nonneg _) (Int.ofNat_lt.2 h1); exact this⟩
instance:FldC Old10 1 default (fun x=>I x.dst):=⟨fun hs h1=>by have:=Old10_at1 hs (i:=(_:Nat)) (Int.natCast_nonneg _) (Int.ofNat_lt.2 h1); exact this⟩
instance:FldC Old10 2 default (fun x=>I x.stage):=⟨fun hs h1=>by have:=Old10_at2 hs (i:=(_:Nat)) (Int.natCast_nonneg _) (Int.ofNat_lt.2 h1); exact this⟩
instance {x:FRow}:EncL x [I x.stage,I x.carry]:=⟨rfl⟩
instance:FldC Sect 0 default (fun x=>I x.place):=⟨fun hs h1=>by have:=Sect_at0 hs (i:=(_:Nat)) (Int.natCast_nonneg _) (Int.ofNat_lt.2 h1); exact this⟩
instance {x:Mrk}:EncL x [I x.place,I x.lo,I x.hi]:=⟨rfl⟩
instance {x:Rch}:EncL x [I x.up,I x.down,I x.lo,I x.hi,B x.narrow]:=⟨rfl⟩
instance {x:Cas}:EncL x [I x.up,I x.down,I x.roughup,I x.roughdown]:=⟨rfl⟩
instance {x:Spot}:EncL x [I x.sec,I x.stage]:=⟨rfl⟩
end Go.Nm
namespace Go.Proofs.YtpiebomegbbpcaaGreat
open Go Go.Nm
theorem keyIntSp:KeyL (ν:=Span) Tryz.prog 3 I:=KeyL.int Tryz.underlying3
theorem cf4:CF Tryz.prog 4:=⟨_,Tryz.func4,rfl,by decide +kernel⟩
theorem cf5:CF Tryz.prog 5:=⟨_,Tryz.func5,rfl,by decide +kernel⟩
theorem cf6:CF Tryz.prog 6:=⟨_,Tryz.func6,rfl,by decide +kernel⟩
theorem cf7:CF Tryz.prog 7:=⟨_,Tryz.func7,rfl,by decide +kernel⟩
theorem cf8:CF Tryz.prog 8:=⟨_,Tryz.func8,rfl,by decide +kernel⟩
theorem cf9:CF Tryz.prog 9:=⟨_,Tryz.func9,rfl,by decide +kernel⟩
theorem cf10:CF Tryz.prog 10:=⟨_,Tryz.func10,rfl,by decide +kernel⟩
theorem cf11:CF Tryz.prog 11:=⟨_,Tryz.func11,rfl,by decide +kernel⟩
theorem cf12:CF Tryz.prog 12:=⟨_,Tryz.func12,rfl,by decide +kernel⟩
theorem cf13:CF Tryz.prog 13:=⟨_,Tryz.func13,rfl,by decide +kernel⟩
theorem cf14:CF Tryz.prog 14:=⟨_,Tryz.func14,rfl,by decide +kernel⟩
theorem cf15:CF Tryz.prog 15:=⟨_,Tryz.func15,rfl,by decide +kernel⟩
theorem cf16:CF Tryz.prog 16:=⟨_,Tryz.func16,rfl,by decide +kernel⟩
theorem cf17:CF Tryz.prog 17:=⟨_,Tryz.func17,rfl,by decide +kernel⟩
theorem cf18:CF Tryz.prog 18:=⟨_,Tryz.func18,rfl,by decide +kernel⟩
theorem cf19:CF Tryz.prog 19:=⟨_,Tryz.func19,rfl,by decide +kernel⟩
theorem cf20:CF Tryz.prog 20:=⟨_,Tryz.func20,rfl,by decide +kernel⟩
theorem cf21:CF Tryz.prog 21:=⟨_,Tryz.func21,rfl,by decide +kernel⟩
theorem cf22:CF Tryz.prog 22:=⟨_,Tryz.func22,rfl,by decide +kernel⟩
theorem cf23:CF Tryz.prog 23:=⟨_,Tryz.func23,rfl,by decide +kernel⟩
theorem cf24:CF Tryz.prog 24:=⟨_,Tryz.func24,rfl,by decide +kernel⟩
theorem cf25:CF Tryz.prog 25:=⟨_,Tryz.func25,rfl,by decide +kernel⟩
theorem cf26:CF Tryz.prog 26:=⟨_,Tryz.func26,rfl,by decide +kernel⟩
theorem cf27:CF Tryz.prog 27:=⟨_,Tryz.func27,rfl,by decide +kernel⟩
theorem cf28:CF Tryz.prog 28:=⟨_,Tryz.func28,rfl,by decide +kernel⟩
theorem cf29:CF Tryz.prog 29:=⟨_,Tryz.func29,rfl,by decide +kernel⟩
theorem cf30:CF Tryz.prog 30:=⟨_,Tryz.func30,rfl,by decide +kernel⟩
theorem cf31:CF Tryz.prog 31:=⟨_,Tryz.func31,rfl,by decide +kernel⟩
theorem cf32:CF Tryz.prog 32:=⟨_,Tryz.func32,rfl,by decide +kernel⟩
theorem cf33:CF Tryz.prog 33:=⟨_,Tryz.func33,rfl,by decide +kernel⟩
theorem cf34:CF Tryz.prog 34:=⟨_,Tryz.func34,rfl,by decide +kernel⟩
theorem cf35:CF Tryz.prog 35:=⟨_,Tryz.func35,rfl,by decide +kernel⟩
theorem cf36:CF Tryz.prog 36:=⟨_,Tryz.func36,rfl,by decide +kernel⟩
theorem cf37:CF Tryz.prog 37:=⟨_,Tryz.func37,rfl,by decide +kernel⟩
theorem cf38:CF Tryz.prog 38:=⟨_,Tryz.func38,rfl,by decide +kernel⟩
theorem cf39:CF Tryz.prog 39:=⟨_,Tryz.func39,rfl,by decide +kernel⟩
theorem cf40:CF Tryz.prog 40:=⟨_,Tryz.func40,rfl,by decide +kernel⟩
theorem cf41:CF Tryz.prog 41:=⟨_,Tryz.func41,rfl,by decide +kernel⟩
theorem cf42:CF Tryz.prog 42:=⟨_,Tryz.func42,rfl,by decide +kernel⟩
theorem cf43:CF Tryz.prog 43:=⟨_,Tryz.func43,rfl,by decide +kernel⟩
theorem cf44:CF Tryz.prog 44:=⟨_,Tryz.func44,rfl,by decide +kernel⟩
theorem cf45:CF Tryz.prog 45:=⟨_,Tryz.func45,rfl,by decide +kernel⟩
theorem cf46:CF Tryz.prog 46:=⟨_,Tryz.func46,rfl,by decide +kernel⟩
theorem cf47:CF Tryz.prog 47:=⟨_,Tryz.func47,rfl,by decide +kernel⟩
theorem cf48:CF Tryz.prog 48:=⟨_,Tryz.func48,rfl,by decide +kernel⟩
theorem cf49:CF Tryz.prog 49:=⟨_,Tryz.func49,rfl,by decide +kernel⟩
theorem cf50:CF Tryz.prog 50:=⟨_,Tryz.func50,rfl,by decide +kernel⟩
theorem cf51:CF Tryz.prog 51:=⟨_,Tryz.func51,rfl,by decide +kernel⟩
theorem cf52:CF Tryz.prog 52:=⟨_,Tryz.func52,rfl,by decide +kernel⟩
theorem cf53:CF Tryz.prog 53:=⟨_,Tryz.func53,rfl,by decide +kernel⟩
theorem cf54:CF Tryz.prog 54:=⟨_,Tryz.func54,rfl,by decide +kernel⟩
theorem cf55:CF Tryz.prog 55:=⟨_,Tryz.func55,rfl,by decide +kernel⟩
theorem cf56:CF Tryz.prog 56:=⟨_,Tryz.func56,rfl,by decide +kernel⟩
theorem cf57:CF Tryz.prog 57:=⟨_,Tryz.func57,rfl,by decide +kernel⟩
theorem cf58:CF Tryz.prog 58:=⟨_,Tryz.func58,rfl,by decide +kernel⟩
theorem cf59:CF Tryz.prog 59:=⟨_,Tryz.func59,rfl,by decide +kernel⟩
theorem cf60:CF Tryz.prog 60:=⟨_,Tryz.func60,rfl,by decide +kernel⟩
theorem cf61:CF Tryz.prog 61:=⟨_,Tryz.func61,rfl,by decide +kernel⟩
theorem cf62:CF Tryz.prog 62:=⟨_,Tryz.func62,rfl,by decide +kernel⟩
theorem cf63:CF Tryz.prog 63:=⟨_,Tryz.func63,rfl,by decide +kernel⟩
theorem cf64:CF Tryz.prog 64:=⟨_,Tryz.func64,rfl,by decide +kernel⟩
theorem cf65:CF Tryz.prog 65:=⟨_,Tryz.func65,rfl,by decide +kernel⟩
theorem cf68:CF Tryz.prog 68:=⟨_,Tryz.func68,rfl,by decide +kernel⟩
theorem cf69:CF Tryz.prog 69:=⟨_,Tryz.func69,rfl,by decide +kernel⟩
theorem cf70:CF Tryz.prog 70:=⟨_,Tryz.func70,rfl,by decide +kernel⟩
theorem cf71:CF Tryz.prog 71:=⟨_,Tryz.func71,rfl,by decide +kernel⟩
theorem cf72:CF Tryz.prog 72:=⟨_,Tryz.func72,rfl,by decide +kernel⟩
theorem cf73:CF Tryz.prog 73:=⟨_,Tryz.func73,rfl,by decide +kernel⟩
theorem cf74:CF Tryz.prog 74:=⟨_,Tryz.func74,rfl,by decide +kernel⟩
theorem cf75:CF Tryz.prog 75:=⟨_,Tryz.func75,rfl,by decide +kernel⟩
theorem cf76:CF Tryz.prog 76:=⟨_,Tryz.func76,rfl,by decide +kernel⟩
theorem cf77:CF Tryz.prog 77:=⟨_,Tryz.func77,rfl,by decide +kernel⟩
theorem cf78:CF Tryz.prog 78:=⟨_,Tryz.func78,rfl,by decide +kernel⟩
theorem cf79:CF Tryz.prog 79:=⟨_,Tryz.func79,rfl,by decide +kernel⟩
theorem cf80:CF Tryz.prog 80:=⟨_,Tryz.func80,rfl,by decide +kernel⟩
theorem cf81:CF Tryz.prog 81:=⟨_,Tryz.func81,rfl,by decide +kernel⟩
theorem cf93:CF Tryz.prog 93:=⟨_,Tryz.func93,rfl,by decide +kernel⟩
theorem cf94:CF Tryz.prog 94:=⟨_,Tryz.func94,rfl,by decide +kernel⟩
theorem cf95:CF Tryz.prog 95:=⟨_,Tryz.func95,rfl,by decide +kernel⟩
theorem cf96:CF Tryz.prog 96:=⟨_,Tryz.func96,rfl,by decide +kernel⟩
theorem cf97:CF Tryz.prog 97:=⟨_,Tryz.func97,rfl,by decide +kernel⟩
theorem cf98:CF Tryz.prog 98:=⟨_,Tryz.func98,rfl,by decide +kernel⟩
theorem cf99:CF Tryz.prog 99:=⟨_,Tryz.func99,rfl,by decide +kernel⟩
theorem cf100:CF Tryz.prog 100:=⟨_,Tryz.func100,rfl,by decide +kernel⟩
theorem cf101:CF Tryz.prog 101:=⟨_,Tryz.func101,rfl,by decide +kernel⟩
theorem cf107:CF Tryz.prog 107:=⟨_,Tryz.func107,rfl,by decide +kernel⟩
theorem cf108:CF Tryz.prog 108:=⟨_,Tryz.func108,rfl,by decide +kernel⟩
theorem cf109:CF Tryz.prog 109:=⟨_,Tryz.func109,rfl,by decide +kernel⟩
theorem cf110:CF Tryz.prog 110:=⟨_,Tryz.func110,rfl,by decide +kernel⟩
theorem T22:SlT Tryz.prog 22 5 1 1 (.int .u8 0):=⟨Tryz.underlying22,by kernel_rfl,rfl,by decide⟩
theorem T23:SlT Tryz.prog 23 64 2 32 (.agg #[I 0,.slice none 0 0]):=⟨Tryz.underlying23,by kernel_rfl,rfl,by decide⟩
theorem T24:SlT Tryz.prog 24 68 3 24 (.agg #[I 0,I 0,I 0]):=⟨Tryz.underlying24,by kernel_rfl,rfl,by decide⟩
theorem T25:SlT Tryz.prog 25 70 5 40 (.agg #[I 0,I 0,I 0,I 0,B false]):=⟨Tryz.underlying25,by kernel_rfl,rfl,by decide⟩
theorem T28:SlT Tryz.prog 28 3 1 8 (I 0):=⟨Tryz.underlying28,by kernel_rfl,rfl,by decide⟩
theorem T35:SlT Tryz.prog 35 41 2 16 (.agg #[I 0,I 0]):=⟨Tryz.underlying35,by kernel_rfl,rfl,by decide⟩
theorem T45:SlT Tryz.prog 45 44 3 24 (.agg #[I 0,I 0,I 0]):=⟨Tryz.underlying45,by kernel_rfl,rfl,by decide⟩
theorem T46:SlT Tryz.prog 46 50 4 48 (.agg #[I 0,I 0,I 0,.slice none 0 0]):=⟨Tryz.underlying46,by kernel_rfl,rfl,by decide⟩
theorem T62:SlT Tryz.prog 62 66 2 16 (.agg #[I 0,I 0]):=⟨Tryz.underlying62,by kernel_rfl,rfl,by decide⟩
theorem T80:SlT Tryz.prog 80 119 2 16 (.agg #[I 0,I 0]):=⟨Tryz.underlying80,by kernel_rfl,rfl,by decide⟩
theorem Sc3:isSc (Tryz.prog.underlying 3)=true:=by rw [Tryz.underlying3]; rfl
theorem Sc4:isSc (Tryz.prog.underlying 4)=true:=by rw [Tryz.underlying4]; rfl
theorem Sc5:isSc (Tryz.prog.underlying 5)=true:=by rw [Tryz.underlying5]; rfl
theorem Sc22:isSc (Tryz.prog.underlying 22)=true:=by rw [Tryz.underlying22]; rfl
theorem Sc23:isSc (Tryz.prog.underlying 23)=true:=by rw [Tryz.underlying23]; rfl
theorem Sc24:isSc (Tryz.prog.underlying 24)=true:=by rw [Tryz.underlying24]; rfl
theorem Sc25:isSc (Tryz.prog.underlying 25)=true:=by rw [Tryz.underlying25]; rfl
theorem Sc28:isSc (Tryz.prog.underlying 28)=true:=by rw [Tryz.underlying28]; rfl
theorem Sc36:isSc (Tryz.prog.underlying 36)=true:=by rw [Tryz.underlying36]; rfl
theorem Sc45:isSc (Tryz.prog.underlying 45)=true:=by rw [Tryz.underlying45]; rfl
theorem Sc46:isSc (Tryz.prog.underlying 46)=true:=by rw [Tryz.underlying46]; rfl
theorem Sc61:isSc (Tryz.prog.underlying 61)=true:=by rw [Tryz.underlying61]; rfl
theorem Sc62:isSc (Tryz.prog.underlying 62)=true:=by rw [Tryz.underlying62]; rfl
theorem Sc73:isSc (Tryz.prog.underlying 73)=true:=by rw [Tryz.underlying73]; rfl
theorem Sc80:isSc (Tryz.prog.underlying 80)=true:=by rw [Tryz.underlying80]; rfl
theorem Sc87:isSc (Tryz.prog.underlying 87)=true:=by rw [Tryz.underlying87]; rfl
theorem Sc92:isSc (Tryz.prog.underlying 92)=true:=by rw [Tryz.underlying92]; rfl
theorem Sc99:isSc (Tryz.prog.underlying 99)=true:=by rw [Tryz.underlying99]; rfl
theorem Sc106:isSc (Tryz.prog.underlying 106)=true:=by rw [Tryz.underlying106]; rfl
theorem Sc134:isSc (Tryz.prog.underlying 134)=true:=by rw [Tryz.underlying134]; rfl
theorem Sc139:isSc (Tryz.prog.underlying 139)=true:=by rw [Tryz.underlying139]; rfl
theorem Sc142:isSc (Tryz.prog.underlying 142)=true:=by rw [Tryz.underlying142]; rfl
theorem Sc144:isSc (Tryz.prog.underlying 144)=true:=by rw [Tryz.underlying144]; rfl
theorem Sz3:(Tryz.prog.info? 3).map (·.size)=some 1:=by kernel_rfl
theorem Sz4:(Tryz.prog.info? 4).map (·.size)=some 1:=by kernel_rfl
theorem Sz22:(Tryz.prog.info? 22).map (·.size)=some 1:=by kernel_rfl
theorem Sz23:(Tryz.prog.info? 23).map (·.size)=some 1:=by kernel_rfl
theorem Sz24:(Tryz.prog.info? 24).map (·.size)=some 1:=by kernel_rfl
theorem Sz25:(Tryz.prog.info? 25).map (·.size)=some 1:=by kernel_rfl
theorem Ag27:isAg (Tryz.prog.underlying 27)=true:=by rw [Tryz.underlying27]; rfl
theorem Sz27:(Tryz.prog.info? 27).map (·.size)=some 3:=by kernel_rfl
theorem Sz28:(Tryz.prog.info? 28).map (·.size)=some 1:=by kernel_rfl
theorem Ag30:isAg (Tryz.prog.underlying 30)=true:=by rw [Tryz.underlying30]; rfl
theorem Sz30:(Tryz.prog.info? 30).map (·.size)=some 2:=by kernel_rfl
theorem Sz36:(Tryz.prog.info? 36).map (·.size)=some 1:=by kernel_rfl
theorem Ag41:isAg (Tryz.prog.underlying 41)=true:=by rw [Tryz.underlying41]; rfl
theorem Sz41:(Tryz.prog.info? 41).map (·.size)=some 2:=by kernel_rfl
theorem Ag44:isAg (Tryz.prog.underlying 44)=true:=by rw [Tryz.underlying44]; rfl
theorem Sz44:(Tryz.prog.info? 44).map (·.size)=some 3:=by kernel_rfl
theorem Sz45:(Tryz.prog.info? 45).map (·.size)=some 1:=by kernel_rfl
theorem Sz46:(Tryz.prog.info? 46).map (·.size)=some 1:=by kernel_rfl
theorem Ag48:isAg (Tryz.prog.underlying 48)=true:=by rw [Tryz.underlying48]; rfl
theorem Sz48:(Tryz.prog.info? 48).map (·.size)=some 4:=by kernel_rfl
theorem Ag50:isAg (Tryz.prog.underlying 50)=true:=by rw [Tryz.underlying50]; rfl
theorem Sz50:(Tryz.prog.info? 50).map (·.size)=some 4:=by kernel_rfl
theorem Ag56:isAg (Tryz.prog.underlying 56)=true:=by rw [Tryz.underlying56]; rfl
theorem Sz56:(Tryz.prog.info? 56).map (·.size)=some 2:=by kernel_rfl
theorem Sz61:(Tryz.prog.info? 61).map (·.size)=some 1:=by kernel_rfl
theorem Sz62:(Tryz.prog.info? 62).map (·.size)=some 1:=by kernel_rfl
theorem Ag64:isAg (Tryz.prog.underlying 64)=true:=by rw [Tryz.underlying64]; rfl
theorem Sz64:(Tryz.prog.info? 64).map (·.size)=some 2:=by kernel_rfl
theorem Ag66:isAg (Tryz.prog.underlying 66)=true:=by rw [Tryz.underlying66]; rfl
theorem Sz66:(Tryz.prog.info? 66).map (·.size)=some 2:=by kernel_rfl
theorem Ag68:isAg (Tryz.prog.underlying 68)=true:=by rw [Tryz.underlying68]; rfl
theorem Sz68:(Tryz.prog.info? 68).map (·.size)=some 3:=by kernel_rfl
theorem Ag70:isAg (Tryz.prog.underlying 70)=true:=by rw [Tryz.underlying70]; rfl
theorem Sz70:(Tryz.prog.info? 70).map (·.size)=some 5:=by kernel_rfl
theorem Sz87:(Tryz.prog.info? 87).map (·.size)=some 1:=by kernel_rfl
theorem Sz92:(Tryz.prog.info? 92).map (·.size)=some 1:=by kernel_rfl
theorem Sz99:(Tryz.prog.info? 99).map (·.size)=some 1:=by kernel_rfl
theorem Ag101:isAg (Tryz.prog.underlying 101)=true:=by rw [Tryz.underlying101]; rfl
theorem Sz101:(Tryz.prog.info? 101).map (·.size)=some 1:=by kernel_rfl
theorem Sz106:(Tryz.prog.info? 106).map (·.size)=some 1:=by kernel_rfl
theorem Ag119:isAg (Tryz.prog.underlying 119)=true:=by rw [Tryz.underlying119]; rfl
theorem Sz119:(Tryz.prog.info? 119).map (·.size)=some 2:=by kernel_rfl
theorem Fd27_0:(Tryz.prog.underlying 27).bind (fun d=>match d with | .struct fs=>(fs[0]?).map (fun f=>(f.offset,f.type)) | _=>none)=some (0,23):=by rw [Tryz.underlying27]; rfl
theorem Fd27_1:(Tryz.prog.underlying 27).bind (fun d=>match d with | .struct fs=>(fs[1]?).map (fun f=>(f.offset,f.type)) | _=>none)=some (1,24):=by rw [Tryz.underlying27]; rfl
theorem Fd27_2:(Tryz.prog.underlying 27).bind (fun d=>match d with | .struct fs=>(fs[2]?).map (fun f=>(f.offset,f.type)) | _=>none)=some (2,25):=by rw [Tryz.underlying27]; rfl
theorem Fd30_0:(Tryz.prog.underlying 30).bind (fun d=>match d with | .struct fs=>(fs[0]?).map (fun f=>(f.offset,f.type)) | _=>none)=some (0,28):=by rw [Tryz.underlying30]; rfl
theorem Fd30_1:(Tryz.prog.underlying 30).bind (fun d=>match d with | .struct fs=>(fs[1]?).map (fun f=>(f.offset,f.type)) | _=>none)=some (1,28):=by rw [Tryz.underlying30]; rfl
theorem Fd41_0:(Tryz.prog.underlying 41).bind (fun d=>match d with | .struct fs=>(fs[0]?).map (fun f=>(f.offset,f.type)) | _=>none)=some (0,3):=by rw [Tryz.underlying41]; rfl
theorem Fd41_1:(Tryz.prog.underlying 41).bind (fun d=>match d with | .struct fs=>(fs[1]?).map (fun f=>(f.offset,f.type)) | _=>none)=some (1,3):=by rw [Tryz.underlying41]; rfl
theorem Fd44_0:(Tryz.prog.underlying 44).bind (fun d=>match d with | .struct fs=>(fs[0]?).map (fun f=>(f.offset,f.type)) | _=>none)=some (0,3):=by rw [Tryz.underlying44]; rfl
theorem Fd44_1:(Tryz.prog.underlying 44).bind (fun d=>match d with | .struct fs=>(fs[1]?).map (fun f=>(f.offset,f.type)) | _=>none)=some (1,41):=by rw [Tryz.underlying44]; rfl
theorem Fd48_0:(Tryz.prog.underlying 48).bind (fun d=>match d with | .struct fs=>(fs[0]?).map (fun f=>(f.offset,f.type)) | _=>none)=some (0,45):=by rw [Tryz.underlying48]; rfl
theorem Fd48_1:(Tryz.prog.underlying 48).bind (fun d=>match d with | .struct fs=>(fs[1]?).map (fun f=>(f.offset,f.type)) | _=>none)=some (1,46):=by rw [Tryz.underlying48]; rfl
theorem Fd48_2:(Tryz.prog.underlying 48).bind (fun d=>match d with | .struct fs=>(fs[2]?).map (fun f=>(f.offset,f.type)) | _=>none)=some (2,3):=by rw [Tryz.underlying48]; rfl
theorem Fd48_3:(Tryz.prog.underlying 48).bind (fun d=>match d with | .struct fs=>(fs[3]?).map (fun f=>(f.offset,f.type)) | _=>none)=some (3,3):=by rw [Tryz.underlying48]; rfl
theorem Fd50_0:(Tryz.prog.underlying 50).bind (fun d=>match d with | .struct fs=>(fs[0]?).map (fun f=>(f.offset,f.type)) | _=>none)=some (0,3):=by rw [Tryz.underlying50]; rfl
theorem Fd50_1:(Tryz.prog.underlying 50).bind (fun d=>match d with | .struct fs=>(fs[1]?).map (fun f=>(f.offset,f.type)) | _=>none)=some (1,3):=by rw [Tryz.underlying50]; rfl
theorem Fd50_2:(Tryz.prog.underlying 50).bind (fun d=>match d with | .struct fs=>(fs[2]?).map (fun f=>(f.offset,f.type)) | _=>none)=some (2,3):=by rw [Tryz.underlying50]; rfl
theorem Fd50_3:(Tryz.prog.underlying 50).bind (fun d=>match d with | .struct fs=>(fs[3]?).map (fun f=>(f.offset,f.type)) | _=>none)=some (3,28):=by rw [Tryz.underlying50]; rfl
theorem Fd64_0:(Tryz.prog.underlying 64).bind (fun d=>match d with | .struct fs=>(fs[0]?).map (fun f=>(f.offset,f.type)) | _=>none)=some (0,3):=by rw [Tryz.underlying64]; rfl
theorem Fd64_1:(Tryz.prog.underlying 64).bind (fun d=>match d with | .struct fs=>(fs[1]?).map (fun f=>(f.offset,f.type)) | _=>none)=some (1,62):=by rw [Tryz.underlying64]; rfl
theorem Fd66_0:(Tryz.prog.underlying 66).bind (fun d=>match d with | .struct fs=>(fs[0]?).map (fun f=>(f.offset,f.type)) | _=>none)=some (0,3):=by rw [Tryz.underlying66]; rfl
theorem Fd66_1:(Tryz.prog.underlying 66).bind (fun d=>match d with | .struct fs=>(fs[1]?).map (fun f=>(f.offset,f.type)) | _=>none)=some (1,3):=by rw [Tryz.underlying66]; rfl
theorem Fd68_0:(Tryz.prog.underlying 68).bind (fun d=>match d with | .struct fs=>(fs[0]?).map (fun f=>(f.offset,f.type)) | _=>none)=some (0,3):=by rw [Tryz.underlying68]; rfl
theorem Fd68_1:(Tryz.prog.underlying 68).bind (fun d=>match d with | .struct fs=>(fs[1]?).map (fun f=>(f.offset,f.type)) | _=>none)=some (1,41):=by rw [Tryz.underlying68]; rfl
theorem Fd70_0:(Tryz.prog.underlying 70).bind (fun d=>match d with | .struct fs=>(fs[0]?).map (fun f=>(f.offset,f.type)) | _=>none)=some (0,3):=by rw [Tryz.underlying70]; rfl
theorem Fd70_1:(Tryz.prog.underlying 70).bind (fun d=>match d with | .struct fs=>(fs[1]?).map (fun f=>(f.offset,f.type)) | _=>none)=some (1,3):=by rw [Tryz.underlying70]; rfl
theorem Fd70_2:(Tryz.prog.underlying 70).bind (fun d=>match d with | .struct fs=>(fs[2]?).map (fun f=>(f.offset,f.type)) | _=>none)=some (2,41):=by rw [Tryz.underlying70]; rfl
theorem Fd72_0:(Tryz.prog.underlying 72).bind (fun d=>match d with | .struct fs=>(fs[0]?).map (fun f=>(f.offset,f.type)) | _=>none)=some (0,22):=by rw [Tryz.underlying72]; rfl
theorem Fd72_1:(Tryz.prog.underlying 72).bind (fun d=>match d with | .struct fs=>(fs[1]?).map (fun f=>(f.offset,f.type)) | _=>none)=some (1,3):=by rw [Tryz.underlying72]; rfl
theorem Fd72_2:(Tryz.prog.underlying 72).bind (fun d=>match d with | .struct fs=>(fs[2]?).map (fun f=>(f.offset,f.type)) | _=>none)=some (2,3):=by rw [Tryz.underlying72]; rfl
theorem Fd98_0:(Tryz.prog.underlying 98).bind (fun d=>match d with | .struct fs=>(fs[0]?).map (fun f=>(f.offset,f.type)) | _=>none)=some (0,3):=by rw [Tryz.underlying98]; rfl
theorem Fd101_0:(Tryz.prog.underlying 101).bind (fun d=>match d with | .struct fs=>(fs[0]?).map (fun f=>(f.offset,f.type)) | _=>none)=some (0,99):=by rw [Tryz.underlying101]; rfl
theorem Fd108_0:(Tryz.prog.underlying 108).bind (fun d=>match d with | .struct fs=>(fs[0]?).map (fun f=>(f.offset,f.type)) | _=>none)=some (0,48):=by rw [Tryz.underlying108]; rfl
theorem Fd108_1:(Tryz.prog.underlying 108).bind (fun d=>match d with | .struct fs=>(fs[1]?).map (fun f=>(f.offset,f.type)) | _=>none)=some (4,106):=by rw [Tryz.underlying108]; rfl
theorem Fd113_0:(Tryz.prog.underlying 113).bind (fun d=>match d with | .struct fs=>(fs[0]?).map (fun f=>(f.offset,f.type)) | _=>none)=some (0,27):=by rw [Tryz.underlying113]; rfl
theorem Fd119_0:(Tryz.prog.underlying 119).bind (fun d=>match d with | .struct fs=>(fs[0]?).map (fun f=>(f.offset,f.type)) | _=>none)=some (0,3):=by rw [Tryz.underlying119]; rfl
theorem Fd119_1:(Tryz.prog.underlying 119).bind (fun d=>match d with | .struct fs=>(fs[1]?).map (fun f=>(f.offset,f.type)) | _=>none)=some (1,3):=by rw [Tryz.underlying119]; rfl
theorem Al3:(Tryz.prog.info? 3).map (·.zero)=some (some (I 0)):=by kernel_rfl
theorem Al4:(Tryz.prog.info? 4).map (·.zero)=some (some (B false)):=by kernel_rfl
theorem Al27:(Tryz.prog.info? 27).map (·.zero)=some (some (.agg #[.slice none 0 0,.slice none 0 0,.slice none 0 0])):=by kernel_rfl
theorem Al28:(Tryz.prog.info? 28).map (·.zero)=some (some (.slice none 0 0)):=by kernel_rfl
theorem Al30:(Tryz.prog.info? 30).map (·.zero)=some (some (.agg #[.slice none 0 0,.slice none 0 0])):=by kernel_rfl
theorem Al36:(Tryz.prog.info? 36).map (·.zero)=some (some (I 0)):=by kernel_rfl
theorem Al41:(Tryz.prog.info? 41).map (·.zero)=some (some (.agg #[I 0,I 0])):=by kernel_rfl
theorem Al44:(Tryz.prog.info? 44).map (·.zero)=some (some (.agg #[I 0,I 0,I 0])):=by kernel_rfl
theorem Al48:(Tryz.prog.info? 48).map (·.zero)=some (some (.agg #[.slice none 0 0,.slice none 0 0,I 0,I 0])):=by kernel_rfl
theorem Al50:(Tryz.prog.info? 50).map (·.zero)=some (some (.agg #[I 0,I 0,I 0,.slice none 0 0])):=by kernel_rfl
theorem Al56:(Tryz.prog.info? 56).map (·.zero)=some (some (.agg #[I 0,I 0])):=by kernel_rfl
theorem Al61:(Tryz.prog.info? 61).map (·.zero)=some (some (.nilFunc)):=by kernel_rfl
theorem Al64:(Tryz.prog.info? 64).map (·.zero)=some (some (.agg #[I 0,.slice none 0 0])):=by kernel_rfl
theorem Al66:(Tryz.prog.info? 66).map (·.zero)=some (some (.agg #[I 0,I 0])):=by kernel_rfl
theorem Al68:(Tryz.prog.info? 68).map (·.zero)=some (some (.agg #[I 0,I 0,I 0])):=by kernel_rfl
theorem Al70:(Tryz.prog.info? 70).map (·.zero)=some (some (.agg #[I 0,I 0,I 0,I 0,B false])):=by kernel_rfl
theorem Al72:(Tryz.prog.info? 72).map (·.zero)=some (some (.agg #[.slice none 0 0,I 0,I 0])):=by kernel_rfl
theorem Al87:(Tryz.prog.info? 87).map (·.zero)=some (some (.pointer none)):=by kernel_rfl
theorem Al92:(Tryz.prog.info? 92).map (·.zero)=some (some (.nilFunc)):=by kernel_rfl
theorem Al98:(Tryz.prog.info? 98).map (·.zero)=some (some (.agg #[I 0])):=by kernel_rfl
theorem Al101:(Tryz.prog.info? 101).map (·.zero)=some (some (.agg #[.nilFunc])):=by kernel_rfl
theorem Al108:(Tryz.prog.info? 108).map (·.zero)=some (some (.agg #[.slice none 0 0,.slice none 0 0,I 0,I 0,.map none])):=by kernel_rfl
theorem Al113:(Tryz.prog.info? 113).map (·.zero)=some (some (.agg #[.slice none 0 0,.slice none 0 0,.slice none 0 0,.map none])):=by kernel_rfl
theorem Al119:(Tryz.prog.info? 119).map (·.zero)=some (some (.agg #[I 0,I 0])):=by kernel_rfl
theorem Bd41 {fs:Array Field} (h:Tryz.prog.underlying 41=some (.struct fs)):fs.toList.mapM (fun f=>(Tryz.prog.info? f.type).map fun i=>(f.offset,i.size))=some [(0,1),(1,1)]:=by rw [Tryz.underlying41] at h; simp only [Option.some.injEq,TypeDesc.struct.injEq] at h; subst h; kernel_rfl
theorem Bd44 {fs:Array Field} (h:Tryz.prog.underlying 44=some (.struct fs)):fs.toList.mapM (fun f=>(Tryz.prog.info? f.type).map fun i=>(f.offset,i.size))=some [(0,1),(1,2)]:=by rw [Tryz.underlying44] at h; simp only [Option.some.injEq,TypeDesc.struct.injEq] at h; subst h; kernel_rfl
theorem Bd48 {fs:Array Field} (h:Tryz.prog.underlying 48=some (.struct fs)):fs.toList.mapM (fun f=>(Tryz.prog.info? f.type).map fun i=>(f.offset,i.size))=some [(0,1),(1,1),(2,1),(3,1)]:=by rw [Tryz.underlying48] at h; simp only [Option.some.injEq,TypeDesc.struct.injEq] at h; subst h; kernel_rfl
theorem Bd50 {fs:Array Field} (h:Tryz.prog.underlying 50=some (.struct fs)):fs.toList.mapM (fun f=>(Tryz.prog.info? f.type).map fun i=>(f.offset,i.size))=some [(0,1),(1,1),(2,1),(3,1)]:=by rw [Tryz.underlying50] at h; simp only [Option.some.injEq,TypeDesc.struct.injEq] at h; subst h; kernel_rfl
theorem Bd56 {fs:Array Field} (h:Tryz.prog.underlying 56=some (.struct fs)):fs.toList.mapM (fun f=>(Tryz.prog.info? f.type).map fun i=>(f.offset,i.size))=some [(0,1),(1,1)]:=by rw [Tryz.underlying56] at h; simp only [Option.some.injEq,TypeDesc.struct.injEq] at h; subst h; kernel_rfl
theorem Bd64 {fs:Array Field} (h:Tryz.prog.underlying 64=some (.struct fs)):fs.toList.mapM (fun f=>(Tryz.prog.info? f.type).map fun i=>(f.offset,i.size))=some [(0,1),(1,1)]:=by rw [Tryz.underlying64] at h; simp only [Option.some.injEq,TypeDesc.struct.injEq] at h; subst h; kernel_rfl
theorem Bd66 {fs:Array Field} (h:Tryz.prog.underlying 66=some (.struct fs)):fs.toList.mapM (fun f=>(Tryz.prog.info? f.type).map fun i=>(f.offset,i.size))=some [(0,1),(1,1)]:=by rw [Tryz.underlying66] at h; simp only [Option.some.injEq,TypeDesc.struct.injEq] at h; subst h; kernel_rfl
theorem Bd68 {fs:Array Field} (h:Tryz.prog.underlying 68=some (.struct fs)):fs.toList.mapM (fun f=>(Tryz.prog.info? f.type).map fun i=>(f.offset,i.size))=some [(0,1),(1,2)]:=by rw [Tryz.underlying68] at h; simp only [Option.some.injEq,TypeDesc.struct.injEq] at h; subst h; kernel_rfl
theorem Bd70 {fs:Array Field} (h:Tryz.prog.underlying 70=some (.struct fs)):fs.toList.mapM (fun f=>(Tryz.prog.info? f.type).map fun i=>(f.offset,i.size))=some [(0,1),(1,1),(2,2),(4,1)]:=by rw [Tryz.underlying70] at h; simp only [Option.some.injEq,TypeDesc.struct.injEq] at h; subst h; kernel_rfl
theorem Bd72 {fs:Array Field} (h:Tryz.prog.underlying 72=some (.struct fs)):fs.toList.mapM (fun f=>(Tryz.prog.info? f.type).map fun i=>(f.offset,i.size))=some [(0,1),(1,1),(2,1)]:=by rw [Tryz.underlying72] at h; simp only [Option.some.injEq,TypeDesc.struct.injEq] at h; subst h; kernel_rfl
theorem Bd98 {fs:Array Field} (h:Tryz.prog.underlying 98=some (.struct fs)):fs.toList.mapM (fun f=>(Tryz.prog.info? f.type).map fun i=>(f.offset,i.size))=some [(0,1)]:=by rw [Tryz.underlying98] at h; simp only [Option.some.injEq,TypeDesc.struct.injEq] at h; subst h; kernel_rfl
theorem Bd101 {fs:Array Field} (h:Tryz.prog.underlying 101=some (.struct fs)):fs.toList.mapM (fun f=>(Tryz.prog.info? f.type).map fun i=>(f.offset,i.size))=some [(0,1)]:=by rw [Tryz.underlying101] at h; simp only [Option.some.injEq,TypeDesc.struct.injEq] at h; subst h; kernel_rfl
theorem Bd108 {fs:Array Field} (h:Tryz.prog.underlying 108=some (.struct fs)):fs.toList.mapM (fun f=>(Tryz.prog.info? f.type).map fun i=>(f.offset,i.size))=some [(0,4),(4,1)]:=by rw [Tryz.underlying108] at h; simp only [Option.some.injEq,TypeDesc.struct.injEq] at h; subst h; kernel_rfl
theorem Bd113 {fs:Array Field} (h:Tryz.prog.underlying 113=some (.struct fs)):fs.toList.mapM (fun f=>(Tryz.prog.info? f.type).map fun i=>(f.offset,i.size))=some [(0,3),(3,1)]:=by rw [Tryz.underlying113] at h; simp only [Option.some.injEq,TypeDesc.struct.injEq] at h; subst h; kernel_rfl
theorem Bd119 {fs:Array Field} (h:Tryz.prog.underlying 119=some (.struct fs)):fs.toList.mapM (fun f=>(Tryz.prog.info? f.type).map fun i=>(f.offset,i.size))=some [(0,1),(1,1)]:=by rw [Tryz.underlying119] at h; simp only [Option.some.injEq,TypeDesc.struct.injEq] at h; subst h; kernel_rfl
theorem mixed:Tryz.prog.follows .mixedOrders=true:=by kernel_rfl
theorem Al116:(Tryz.prog.info? 116).map (·.zero)=some (some (.agg (List.flatten [[],encF (α:=Int) (List.replicate 41 0)]).toArray)):=by kernel_rfl

instance:TlC Tryz.prog 22 5 1 1 (.int .u8 0):=⟨T22⟩
instance:TlC Tryz.prog 23 64 2 32 (.agg #[I 0,.slice none 0 0]):=⟨T23⟩
instance:TlC Tryz.prog 24 68 3 24 (.agg #[I 0,I 0,I 0]):=⟨T24⟩
instance:TlC Tryz.prog 25 70 5 40 (.agg #[I 0,I 0,I 0,I 0,B false]):=⟨T25⟩
instance:TlC Tryz.prog 28 3 1 8 (I 0):=⟨T28⟩
instance:TlC Tryz.prog 35 41 2 16 (.agg #[I 0,I 0]):=⟨T35⟩
instance:TlC Tryz.prog 45 44 3 24 (.agg #[I 0,I 0,I 0]):=⟨T45⟩
instance:TlC Tryz.prog 46 50 4 48 (.agg #[I 0,I 0,I 0,.slice none 0 0]):=⟨T46⟩
instance:TlC Tryz.prog 62 66 2 16 (.agg #[I 0,I 0]):=⟨T62⟩
instance:TlC Tryz.prog 80 119 2 16 (.agg #[I 0,I 0]):=⟨T80⟩
instance:ScC Tryz.prog 3:=⟨Sc3⟩
instance:ScC Tryz.prog 4:=⟨Sc4⟩
instance:ScC Tryz.prog 5:=⟨Sc5⟩
instance:ScC Tryz.prog 22:=⟨Sc22⟩
instance:ScC Tryz.prog 23:=⟨Sc23⟩
instance:ScC Tryz.prog 24:=⟨Sc24⟩
instance:ScC Tryz.prog 25:=⟨Sc25⟩
instance:ScC Tryz.prog 28:=⟨Sc28⟩
instance:ScC Tryz.prog 36:=⟨Sc36⟩
instance:ScC Tryz.prog 45:=⟨Sc45⟩
instance:ScC Tryz.prog 46:=⟨Sc46⟩
instance:ScC Tryz.prog 61:=⟨Sc61⟩
instance:ScC Tryz.prog 62:=⟨Sc62⟩
instance:ScC Tryz.prog 73:=⟨Sc73⟩
instance:ScC Tryz.prog 80:=⟨Sc80⟩
instance:ScC Tryz.prog 87:=⟨Sc87⟩
instance:ScC Tryz.prog 92:=⟨Sc92⟩
instance:ScC Tryz.prog 99:=⟨Sc99⟩
instance:ScC Tryz.prog 106:=⟨Sc106⟩
instance:ScC Tryz.prog 134:=⟨Sc134⟩
instance:ScC Tryz.prog 139:=⟨Sc139⟩
instance:ScC Tryz.prog 142:=⟨Sc142⟩
instance:ScC Tryz.prog 144:=⟨Sc144⟩
instance:SzC Tryz.prog 3 1:=⟨Sz3⟩
instance:SzC Tryz.prog 4 1:=⟨Sz4⟩
instance:SzC Tryz.prog 22 1:=⟨Sz22⟩
instance:SzC Tryz.prog 23 1:=⟨Sz23⟩
instance:SzC Tryz.prog 24 1:=⟨Sz24⟩
instance:SzC Tryz.prog 25 1:=⟨Sz25⟩
instance:AgC Tryz.prog 27:=⟨Ag27⟩
instance:SzC Tryz.prog 27 3:=⟨Sz27⟩
instance:SzC Tryz.prog 28 1:=⟨Sz28⟩
instance:AgC Tryz.prog 30:=⟨Ag30⟩
instance:SzC Tryz.prog 30 2:=⟨Sz30⟩
instance:SzC Tryz.prog 36 1:=⟨Sz36⟩
instance:AgC Tryz.prog 41:=⟨Ag41⟩
instance:SzC Tryz.prog 41 2:=⟨Sz41⟩
instance:AgC Tryz.prog 44:=⟨Ag44⟩
instance:SzC Tryz.prog 44 3:=⟨Sz44⟩
instance:SzC Tryz.prog 45 1:=⟨Sz45⟩
instance:SzC Tryz.prog 46 1:=⟨Sz46⟩
instance:AgC Tryz.prog 48:=⟨Ag48⟩
instance:SzC Tryz.prog 48 4:=⟨Sz48⟩
instance:AgC Tryz.prog 50:=⟨Ag50⟩
instance:SzC Tryz.prog 50 4:=⟨Sz50⟩
instance:AgC Tryz.prog 56:=⟨Ag56⟩
instance:SzC Tryz.prog 56 2:=⟨Sz56⟩
instance:SzC Tryz.prog 61 1:=⟨Sz61⟩
instance:SzC Tryz.prog 62 1:=⟨Sz62⟩
instance:AgC Tryz.prog 64:=⟨Ag64⟩
instance:SzC Tryz.prog 64 2:=⟨Sz64⟩
instance:AgC Tryz.prog 66:=⟨Ag66⟩
instance:SzC Tryz.prog 66 2:=⟨Sz66⟩
instance:AgC Tryz.prog 68:=⟨Ag68⟩
instance:SzC Tryz.prog 68 3:=⟨Sz68⟩
instance:AgC Tryz.prog 70:=⟨Ag70⟩
instance:SzC Tryz.prog 70 5:=⟨Sz70⟩
instance:SzC Tryz.prog 87 1:=⟨Sz87⟩
instance:SzC Tryz.prog 92 1:=⟨Sz92⟩
instance:SzC Tryz.prog 99 1:=⟨Sz99⟩
instance:AgC Tryz.prog 101:=⟨Ag101⟩
instance:SzC Tryz.prog 101 1:=⟨Sz101⟩
instance:SzC Tryz.prog 106 1:=⟨Sz106⟩
instance:AgC Tryz.prog 119:=⟨Ag119⟩
instance:SzC Tryz.prog 119 2:=⟨Sz119⟩
instance:FdC Tryz.prog 27 0 0 23:=⟨Fd27_0⟩
instance:FdC Tryz.prog 27 1 1 24:=⟨Fd27_1⟩
instance:FdC Tryz.prog 27 2 2 25:=⟨Fd27_2⟩
instance:FdC Tryz.prog 30 0 0 28:=⟨Fd30_0⟩
instance:FdC Tryz.prog 30 1 1 28:=⟨Fd30_1⟩
instance:FdC Tryz.prog 41 0 0 3:=⟨Fd41_0⟩
instance:FdC Tryz.prog 41 1 1 3:=⟨Fd41_1⟩
instance:FdC Tryz.prog 44 0 0 3:=⟨Fd44_0⟩
instance:FdC Tryz.prog 44 1 1 41:=⟨Fd44_1⟩
instance:FdC Tryz.prog 48 0 0 45:=⟨Fd48_0⟩
instance:FdC Tryz.prog 48 1 1 46:=⟨Fd48_1⟩
instance:FdC Tryz.prog 48 2 2 3:=⟨Fd48_2⟩
instance:FdC Tryz.prog 48 3 3 3:=⟨Fd48_3⟩
instance:FdC Tryz.prog 50 0 0 3:=⟨Fd50_0⟩
instance:FdC Tryz.prog 50 1 1 3:=⟨Fd50_1⟩
instance:FdC Tryz.prog 50 2 2 3:=⟨Fd50_2⟩
instance:FdC Tryz.prog 50 3 3 28:=⟨Fd50_3⟩
instance:FdC Tryz.prog 64 0 0 3:=⟨Fd64_0⟩
instance:FdC Tryz.prog 64 1 1 62:=⟨Fd64_1⟩
instance:FdC Tryz.prog 66 0 0 3:=⟨Fd66_0⟩
instance:FdC Tryz.prog 66 1 1 3:=⟨Fd66_1⟩
instance:FdC Tryz.prog 68 0 0 3:=⟨Fd68_0⟩
instance:FdC Tryz.prog 68 1 1 41:=⟨Fd68_1⟩
instance:FdC Tryz.prog 70 0 0 3:=⟨Fd70_0⟩
instance:FdC Tryz.prog 70 1 1 3:=⟨Fd70_1⟩
instance:FdC Tryz.prog 70 2 2 41:=⟨Fd70_2⟩
instance:FdC Tryz.prog 72 0 0 22:=⟨Fd72_0⟩
instance:FdC Tryz.prog 72 1 1 3:=⟨Fd72_1⟩
instance:FdC Tryz.prog 72 2 2 3:=⟨Fd72_2⟩
instance:FdC Tryz.prog 98 0 0 3:=⟨Fd98_0⟩
instance:FdC Tryz.prog 101 0 0 99:=⟨Fd101_0⟩
instance:FdC Tryz.prog 108 0 0 48:=⟨Fd108_0⟩
instance:FdC Tryz.prog 108 1 4 106:=⟨Fd108_1⟩
instance:FdC Tryz.prog 113 0 0 27:=⟨Fd113_0⟩
instance:FdC Tryz.prog 119 0 0 3:=⟨Fd119_0⟩
instance:FdC Tryz.prog 119 1 1 3:=⟨Fd119_1⟩
instance:AlC Tryz.prog 3 (I 0):=⟨Al3⟩
instance:AlC Tryz.prog 4 (B false):=⟨Al4⟩
instance:AlC Tryz.prog 27 (.agg #[.slice none 0 0,.slice none 0 0,.slice none 0 0]):=⟨Al27⟩
instance:AlC Tryz.prog 28 (.slice none 0 0):=⟨Al28⟩
instance:AlC Tryz.prog 30 (.agg #[.slice none 0 0,.slice none 0 0]):=⟨Al30⟩
instance:AlC Tryz.prog 36 (I 0):=⟨Al36⟩
instance:AlC Tryz.prog 41 (.agg #[I 0,I 0]):=⟨Al41⟩
instance:AlC Tryz.prog 44 (.agg #[I 0,I 0,I 0]):=⟨Al44⟩
instance:AlC Tryz.prog 48 (.agg #[.slice none 0 0,.slice none 0 0,I 0,I 0]):=⟨Al48⟩
instance:AlC Tryz.prog 50 (.agg #[I 0,I 0,I 0,.slice none 0 0]):=⟨Al50⟩
instance:AlC Tryz.prog 56 (.agg #[I 0,I 0]):=⟨Al56⟩
instance:AlC Tryz.prog 61 (.nilFunc):=⟨Al61⟩
instance:AlC Tryz.prog 64 (.agg #[I 0,.slice none 0 0]):=⟨Al64⟩
instance:AlC Tryz.prog 66 (.agg #[I 0,I 0]):=⟨Al66⟩
instance:AlC Tryz.prog 68 (.agg #[I 0,I 0,I 0]):=⟨Al68⟩
instance:AlC Tryz.prog 70 (.agg #[I 0,I 0,I 0,I 0,B false]):=⟨Al70⟩
instance:AlC Tryz.prog 72 (.agg #[.slice none 0 0,I 0,I 0]):=⟨Al72⟩
instance:AlC Tryz.prog 87 (.pointer none):=⟨Al87⟩
instance:AlC Tryz.prog 92 (.nilFunc):=⟨Al92⟩
instance:AlC Tryz.prog 98 (.agg #[I 0]):=⟨Al98⟩
instance:AlC Tryz.prog 101 (.agg #[.nilFunc]):=⟨Al101⟩
instance:AlC Tryz.prog 108 (.agg #[.slice none 0 0,.slice none 0 0,I 0,I 0,.map none]):=⟨Al108⟩
instance:AlC Tryz.prog 113 (.agg #[.slice none 0 0,.slice none 0 0,.slice none 0 0,.map none]):=⟨Al113⟩
instance:AlC Tryz.prog 119 (.agg #[I 0,I 0]):=⟨Al119⟩
instance:BdC Tryz.prog 41 [(0,1),(1,1)]:=⟨_,Tryz.underlying41,Bd41 Tryz.underlying41⟩
instance:BdC Tryz.prog 44 [(0,1),(1,2)]:=⟨_,Tryz.underlying44,Bd44 Tryz.underlying44⟩
instance:BdC Tryz.prog 48 [(0,1),(1,1),(2,1),(3,1)]:=⟨_,Tryz.underlying48,Bd48 Tryz.underlying48⟩
instance:BdC Tryz.prog 50 [(0,1),(1,1),(2,1),(3,1)]:=⟨_,Tryz.underlying50,Bd50 Tryz.underlying50⟩
instance:BdC Tryz.prog 56 [(0,1),(1,1)]:=⟨_,Tryz.underlying56,Bd56 Tryz.underlying56⟩
instance:BdC Tryz.prog 64 [(0,1),(1,1)]:=⟨_,Tryz.underlying64,Bd64 Tryz.underlying64⟩
instance:BdC Tryz.prog 66 [(0,1),(1,1)]:=⟨_,Tryz.underlying66,Bd66 Tryz.underlying66⟩
instance:BdC Tryz.prog 68 [(0,1),(1,2)]:=⟨_,Tryz.underlying68,Bd68 Tryz.underlying68⟩
instance:BdC Tryz.prog 70 [(0,1),(1,1),(2,2),(4,1)]:=⟨_,Tryz.underlying70,Bd70 Tryz.underlying70⟩
instance:BdC Tryz.prog 72 [(0,1),(1,1),(2,1)]:=⟨_,Tryz.underlying72,Bd72 Tryz.underlying72⟩
instance:BdC Tryz.prog 98 [(0,1)]:=⟨_,Tryz.underlying98,Bd98 Tryz.underlying98⟩
instance:BdC Tryz.prog 101 [(0,1)]:=⟨_,Tryz.underlying101,Bd101 Tryz.underlying101⟩
instance:BdC Tryz.prog 108 [(0,4),(4,1)]:=⟨_,Tryz.underlying108,Bd108 Tryz.underlying108⟩
instance:BdC Tryz.prog 113 [(0,3),(3,1)]:=⟨_,Tryz.underlying113,Bd113 Tryz.underlying113⟩
instance:BdC Tryz.prog 119 [(0,1),(1,1)]:=⟨_,Tryz.underlying119,Bd119 Tryz.underlying119⟩
instance:AlC Tryz.prog 116 (.agg (List.flatten [[],encF (α:=Int) (List.replicate 41 0)]).toArray):=⟨Al116⟩
end Go.Proofs.YtpiebomegbbpcaaGreat
namespace Go.Nm
open Go
abbrev encSpt (x:Spot):Value:=.agg #[I x.sec,I x.stage]
end Go.Nm
namespace Go.Proofs.YtpiebomegbbpcaaGreat
open Go Go.Nm Go.Proofs
/-- Nothing is kept here: no section of a river is asked. -/
def zaJ (_:List Sect) (_:List Mrk) (_:List Rch) (_:Spot):M Int:=M.pure 0
end Go.Proofs.YtpiebomegbbpcaaGreat
section
set_option maxRecDepth 100000
set_option maxHeartbeats 16000000
namespace Go.Proofs.YtpiebomegbbpcaaGreat
open Go Go.Nm
attribute [local irreducible] gd execOp SL SLD SLT WR
def zae (n aa greatest:Int):M Bool :=
  M.pure ((decide (aa<=n))&&(decide (n<=greatest)))
theorem zaf {R:List Chunk}  (n:Int) (aa:Int) (greatest:Int)  {r:Bool} (hM:(zae n aa greatest).Ends r) (w:World) (H:St w w [] R):Ret Tryz.prog 37 #[I n,I aa,I greatest] w fun v w'=>∃ (y0:Bool),y0=r/\v=B y0/\St w w' [] R:=by
 refine ret_of_W Tryz.func37 rfl rfl rfl ?_;refine kg 16 ?_;refine W.ret ?_
 have ab:=M.e_pure hM
 exact ⟨_,resE_tmp rfl,⟨((decide (aa<=n))&&(decide (n<=greatest))),ab,rfl,H⟩⟩

def zaQ (s:List Sect) (f:Sect->M Bool):Nat->M (Nat ⊕ (Int ⊕ Unit)):=fun s2 =>
  bif decide ((s2:Int)<(s.length:Int)) then (
  M.grd (decide ((s2:Int)<(s.length:Int))) <|
  M.bind (f (s.getD s2 default)) fun r2 =>
  bif r2 then (
  M.pure (.inr (.inl (s2:Int))))
  else (
  M.pure (.inl (s2+1))))
  else (
  M.pure (.inr (.inr ())))
def zcc (s:List Sect) (f:Sect->M Bool):M Int :=
  M.bind (M.iter (zaQ s f) 0) fun x_=>match x_ with
  | (.inl s3)=>(
  M.pure s3)
  | (.inr (_:Unit))=>(
  M.pure (-1))
theorem zdw {R:List Chunk} {ak:Cells} {ac:Value} {ae:Value} (s:List Sect) (f:Sect->M Bool) (al:Reads R ak) (am:Sl ak ac s) (ar:FnM Tryz.prog R ae f) {r:Int} (hM:(zcc s f).Ends r) (w:World) (H:St w w [] R):Ret Tryz.prog 108 #[ac,ae] w fun v w'=>∃ (y0:Int),y0=r/\v=I y0/\St w w' [] R:=by
 refine ret_of_W Tryz.func108 rfl rfl rfl ?_
 have aB:=(am).len_le
 refine kg 12 ?_;obtain ⟨au,ag,ao⟩:=M.e_bind hM
 obtain ⟨aC,ag⟩:=M.e_iter ag
 refine W.loop (fun m σ W=>∃ (s2:Nat) (ρ:Env),σ=upds ρ [(0,ac),(1,ae),(7,I (s.length:Int)),(8,I (s2:Int))]/\M.iterN (zaQ s f) m s2=some au/\St w W [] R) ?_ ?_
 ·exact ⟨_,0,_,upds_of _ _ ⟨rfl,rfl,rfl,rfl,trivial⟩,ag,H⟩
 rintro aD σ aE ⟨s2,ρ,rfl,ap,H⟩
 obtain ⟨av,aw,aF,hM,ah⟩:=M.e_iterN ap
 simp only [zaQ] at hM
 clear ap;refine kg 5 ?_
 refine W.cond (decide ((s2:Int)<(s.length:Int))) rfl (fun aa=>?_) (fun aa=>?_)
 ·replace hM:=M.e_t hM aa
  replace aa:=dI aa
  obtain ⟨aG,hM⟩:=M.e_gd hM;refine kg 14 ?_
  obtain ⟨aq,ax,ab⟩:=Sect_atA am (i:=(s2:Int)) (by omega) (by omega)
  replace ab:Sl _ aq (s.getD s2 default).rows:=ab
  have aH:=ab.len_le
  refine s_val (x_ld (v:=.agg #[I ((s.getD s2 default).place),aq]) rfl (ld_ag Ag64 Sz64 (At.mono ax (al.at H)))) ?_;obtain ⟨r2,ay,hM⟩:=M.e_bind hM;refine t_callM H ar rfl rfl (s.getD s2 default) (al.app _) ⟨_,Sect_mk ab,rfl⟩ ay ?_;intro aI H;refine s_nil ?_
  refine W.cond r2 rfl (fun ai=>?_) (fun ai=>?_)
  ·replace hM:=M.e_t hM ai;refine kg 5 ?_;refine W.ret ?_
   have az:=M.e_inr hM ah
   subst az;replace hM:=ao;(try dsimp only at hM)
   have aj:=M.e_pure hM
   exact ⟨_,resE_tmp rfl,⟨(s2:Int),aj,rfl,H⟩⟩
  replace hM:=M.e_f hM ai;refine kg 5 ?_
  exact ⟨av,aw,s2+1,_,upds_of _ _ ⟨rfl,rfl,rfl,rfl,trivial⟩,M.e_inl hM ah,H⟩
 replace hM:=M.e_f hM aa
 replace aa:=dI aa
 refine W.exit ?_
 have aA:=M.e_inr hM ah
 subst aA;replace hM:=ao;(try dsimp only at hM);refine kg 4 ?_;refine W.ret ?_
 have aj:=M.e_pure hM
 exact ⟨_,resE_tmp rfl,⟨(-1),aj,rfl,H⟩⟩

def zce (s:List Sect) (f:Sect->M Bool):M Bool :=
  M.bind (zcc s f) fun r2 =>
  M.pure (decide (0<=r2))
theorem zcX {R:List Chunk} {ac:Cells} {aa:Value} {ab:Value} (s:List Sect) (f:Sect->M Bool) (ag:Reads R ac) (ah:Sl ac aa s) (ai:FnM Tryz.prog R ab f) {r:Bool} (hM:(zce s f).Ends r) (w:World) (H:St w w [] R):Ret Tryz.prog 95 #[aa,ab] w fun v w'=>∃ (y0:Bool),y0=r/\v=B y0/\St w w' [] R:=by
 refine ret_of_W Tryz.func95 rfl rfl rfl ?_;refine kg 8 ?_;obtain ⟨al,aj,hM⟩:=M.e_bind hM;refine s_call cf108 [aa,ab] rfl (zdw s f (ag.app _) ah (ai.app _) aj _ (H.gt 0)) ?_
 rintro vq am ⟨r2,rfl,hvq,ae⟩
 subst vq;(try dsimp only at hM);replace H:=H.bk ae;clear ae;refine kg 3 ?_;refine W.ret ?_
 have ak:=M.e_pure hM
 exact ⟨_,resE_tmp rfl,⟨(decide (0<=r2)),ak,rfl,H⟩⟩

def zbA (x:Sect) (aa:Sect->M Bool):M Bool :=
  M.bind (aa x) fun r2 =>
  M.pure (!r2)
theorem zdb {R:List Chunk} {ab:Cells} {aa:Value} {ac:Nat} {ae:Value} (x:Sect) (ag:Sect->M Bool) (ah:Reads R ab) (ai:Sl ab aa x.rows) (aj:FnM Tryz.prog R ae ag) (am:Has R (cBlk ac [ae] 139)) {r:Bool} (hM:(zbA x ag).Ends r) (w:World) (H:St w w [] R):Ret Tryz.prog 96 #[.agg #[I x.place,aa],Pq ac] w fun v w'=>∃ (y0:Bool),y0=r/\v=B y0/\St w w' [] R:=by
 refine ret_of_W Tryz.func96 rfl rfl rfl ?_;refine kg 2 ?_;refine t_bx [I x.place,aa] H rfl ?_;intro ao ap H;refine kg 6 ?_;obtain ⟨r2,ak,hM⟩:=M.e_bind hM;refine t_callM H aj rfl rfl x (ah.app _) ⟨_,Sect_mk ai,rfl⟩ ak ?_;intro aq H;refine kg 3 ?_;refine W.ret ?_
 have al:=M.e_pure hM
 exact ⟨_,resE_tmp rfl,⟨(!r2),al,rfl,(H.pk [])⟩⟩

def zbD (l:List Sect) (so:Sect->M Bool):M Bool :=
  M.bind (zce l (fun aa=>zbA aa so)) fun r2 =>
  M.pure (!r2)
theorem zdE {R:List Chunk} {ag:Cells} {ab:Value} {aa:Value} (l:List Sect) (so:Sect->M Bool) (ak:Reads R ag) (al:Sl ag ab l) (ah:FnM Tryz.prog R aa so) {r:Bool} (hM:(zbD l so).Ends r) (w:World) (H:St w w [] R):Ret Tryz.prog 75 #[ab,aa] w fun v w'=>∃ (y0:Bool),y0=r/\v=B y0/\St w w' [] R:=by
 refine ret_of_W Tryz.func75 rfl rfl rfl ?_;refine kg 2 ?_;refine t_box (v:=aa) (cs:=[aa]) H rfl (FnM.cells ah) ?_;intro ac aA H;refine kg 5 ?_;refine s_val (x_mf (fs:=[]) (cs:=[Pq ac]) rfl rfl) ?_;obtain ⟨aB,am,hM⟩:=M.e_bind hM;refine s_call cf95 [ab,.func (.func 96) #[] #[Pq ac]] rfl (zcX l (fun ae=>zbA ae so) (ak.app _) al ⟨96,[Pq ac],rfl,cf96,fun ai aC aD ao ae aE ap aq ar au=>by obtain ⟨aF,rfl,av⟩:=Sect_arg ar; exact (zdb ae so aq av (FnM.app (ah.app _) _) (Has.app (Has.here (k:=0) rfl) _) au ai (St.refl ap)).mono fun ao ai ⟨aG,aw,ax,ay⟩=>by subst aw; exact ⟨ax,ay⟩⟩ am _ (H.gt 1)) ?_
 rintro vq aH ⟨r2,rfl,hvq,aj⟩
 subst vq;(try dsimp only at hM);replace H:=H.bk aj;clear aj;refine kg 3 ?_;refine W.ret ?_
 have az:=M.e_pure hM
 exact ⟨_,resE_tmp rfl,⟨(!r2),az,rfl,(H.pk [])⟩⟩

def zbX (x:Sect):M Bool :=
  M.bind (zae (x.rows.length:Int) 2 8) fun r2 =>
  M.pure r2
theorem zdP {R:List Chunk} {ab:Cells} {aa:Value} (x:Sect) (ai:Reads R ab) (ae:Sl ab aa x.rows) {r:Bool} (hM:(zbX x).Ends r) (w:World) (H:St w w [] R):Ret Tryz.prog 74 #[.agg #[I x.place,aa]] w fun v w'=>∃ (y0:Bool),y0=r/\v=B y0/\St w w' [] R:=by
 refine ret_of_W Tryz.func74 rfl rfl rfl ?_;refine kg 2 ?_;refine t_bx [I x.place,aa] H rfl ?_;intro aj ak H
 have al:=(ae).len_le
 refine kg 7 ?_;obtain ⟨am,ag,hM⟩:=M.e_bind hM;refine s_call cf37 [I (x.rows.length:Int),I 2,I 8] rfl (zaf (x.rows.length:Int) 2 8 ag _ (H.gt 1)) ?_
 rintro vq ao ⟨r2,rfl,hvq,ac⟩
 subst vq;(try dsimp only at hM);replace H:=H.bk ac;clear ac;refine kg 2 ?_;refine W.ret ?_
 have ah:=M.e_pure hM
 exact ⟨_,resE_tmp rfl,⟨r2,ah,rfl,(H.pk [])⟩⟩

def zaW (x:Sect):(Int × Int × Nat)->M ((Int × Int × Nat) ⊕ ((Int × Int) ⊕ (Int × Int))):=fun (s,s2,s3) =>
  bif decide ((s3:Int)<(x.rows.length:Int)) then (
  M.grd (decide ((s3:Int)<(x.rows.length:Int))) <|
  M.grd (decide ((-9223372036854775808:Int)<=(s+1))&&decide ((s+1)<=(9223372036854775807:Int))) <|
  M.bind (zae ((x.rows.getD s3 default).stage) (s+1) 2000) fun r2 =>
  M.bind (M.opt (!(!r2)) (zae ((x.rows.getD s3 default).carry) s2 100000) false) fun r3 =>
  bif ((!r2)||(!r3)) then (
  M.pure (.inr (.inl (s,s2))))
  else (
  M.pure (.inl ((x.rows.getD s3 default).stage,(x.rows.getD s3 default).carry,s3+1))))
  else (
  M.pure (.inr (.inr (s,s2))))
def zbG (x:Sect):M Bool :=
  M.bind (M.iter (zaW x) (-1,0,0)) fun x_=>match x_ with
  | (.inl (s4,s5))=>(
  M.pure false)
  | (.inr (s6,s7))=>(
  M.bind (zae x.place 0 10000) fun r4 =>
  M.pure r4)
theorem zc6 {R:List Chunk} {aj:Cells} {ab:Value} (x:Sect) (aB:Reads R aj) (ap:Sl aj ab x.rows) {r:Bool} (hM:(zbG x).Ends r) (w:World) (H:St w w [] R):Ret Tryz.prog 76 #[.agg #[I x.place,ab]] w fun v w'=>∃ (y0:Bool),y0=r/\v=B y0/\St w w' [] R:=by
 refine ret_of_W Tryz.func76 rfl rfl rfl ?_;refine kg 2 ?_;refine t_bx [I x.place,ab] H rfl ?_;intro ak aC H;refine kg 4 ?_;refine s_val (x_bld (ps:=[(0,I (-1))]) (zs:=[I 0,I 0]) (L':=[I (-1),I 0]) rfl Tryz.underlying66 Al66 rfl (Bd66 Tryz.underlying66) (.cons (cs:=[I (-1)]) rfl rfl rfl rfl rfl<|.nil)) ?_;refine t_alloc (cs:=[I 0,I 0]) H Al66 rfl ?_;intro al aD H;refine t_sw 0 0 [I (-1),I 0] (.agg #[I (-1),I 0]) H rfl rfl Sz66 rfl rfl rfl rfl ?_;intro aE H
 have aF:=(ap).len_le
 refine kg 10 ?_;obtain ⟨aq,ag,am⟩:=M.e_bind hM
 obtain ⟨aG,ag⟩:=M.e_iter ag
 refine W.loop (fun m σ W=>∃ (s:Int) (s2:Int) (s3:Nat) (ρ:Env),σ=upds ρ [(1,Pq ak),(3,Pq al),(8,ab),(9,I (x.rows.length:Int)),(10,I (s3:Int))]/\M.iterN (zaW x) m (s,s2,s3)=some aq/\St w W [cBlk al [I s,I s2] 66,cBlk ak [I x.place,ab] 64] R) ?_ ?_
 ·exact ⟨_,-1,0,0,_,upds_of _ _ ⟨rfl,rfl,rfl,rfl,rfl,trivial⟩,ag,H⟩
 rintro aH σ aI ⟨s,s2,s3,ρ,rfl,ao,H⟩
 obtain ⟨ar,au,aJ,hM,ah⟩:=M.e_iterN ao
 simp only [zaW] at hM
 clear ao;refine kg 5 ?_
 refine W.cond (decide ((s3:Int)<(x.rows.length:Int))) rfl (fun aa=>?_) (fun aa=>?_)
 ·replace hM:=M.e_t hM aa
  replace aa:=dI aa
  obtain ⟨aK,hM⟩:=M.e_gd hM;refine kg 7 ?_;refine t_alloc (cs:=[I 0,I 0]) H Al66 rfl ?_;intro aL aM H;refine t_sw 0 0 [I ((x.rows.getD s3 default).stage),I ((x.rows.getD s3 default).carry)] (.agg #[I ((x.rows.getD s3 default).stage),I ((x.rows.getD s3 default).carry)]) H rfl rfl Sz66 rfl rfl rfl rfl ?_;intro aN H;obtain ⟨aO,hM⟩:=M.e_gd hM;refine kg 9 ?_;obtain ⟨aP,av,hM⟩:=M.e_bind hM;refine s_call cf37 [I ((x.rows.getD s3 default).stage),I (s+1),I 2000] rfl (zaf ((x.rows.getD s3 default).stage) (s+1) 2000 av _ (H.gt 3)) ?_
  rintro vq aQ ⟨r2,rfl,hvq,ac⟩
  subst vq;(try dsimp only at hM);replace H:=H.bk ac;clear ac;refine kg 6 ?_;obtain ⟨r3,aw,hM⟩:=M.e_bind hM;refine t_gcall (!(!r2)) (gy_f rfl) cf37 (B r3) (fun _=>[I ((x.rows.getD s3 default).carry),I s2,I 100000]) (fun hg=>lst3 (gd_of hg (I ((x.rows.getD s3 default).carry))) (gd_of hg (I s2)) rfl) H (fun hg=>(zaf ((x.rows.getD s3 default).carry) s2 100000 (M.e_opt aw hg) _ (H.give (A:=[]) rfl)).mono fun v_ w_ ⟨y_,ae,ax,H_⟩=>by subst ae; exact ⟨ax,H.via H_⟩) ?_;intro aR H;refine kg 3 ?_
  refine W.cond ((!r2)||(!r3)) rfl (fun ai=>?_) (fun ai=>?_)
  ·replace hM:=M.e_t hM ai;refine kg 4 ?_;refine W.ret ?_
   have ay:=M.e_inr hM ah
   subst ay;replace hM:=am;(try dsimp only at hM)
   have ae:=M.e_pure hM
   exact ⟨_,resE_tmp rfl,⟨false,ae,rfl,(H.pk [])⟩⟩
  replace hM:=M.e_f hM ai;refine kg 3 ?_;refine t_sw 1 0 [I ((x.rows.getD s3 default).stage),I ((x.rows.getD s3 default).carry)] (.agg #[I ((x.rows.getD s3 default).stage),I ((x.rows.getD s3 default).carry)]) H rfl rfl Sz66 rfl rfl rfl rfl ?_;intro aS H;refine kg 5 ?_
  exact ⟨ar,au,(x.rows.getD s3 default).stage,(x.rows.getD s3 default).carry,s3+1,_,upds_of _ _ ⟨rfl,rfl,rfl,rfl,rfl,trivial⟩,M.e_inl hM ah,(H.pk [1,2])⟩
 replace hM:=M.e_f hM aa
 replace aa:=dI aa
 refine W.exit ?_
 have az:=M.e_inr hM ah
 subst az;replace hM:=am;(try dsimp only at hM);refine kg 4 ?_;obtain ⟨aT,aA,hM⟩:=M.e_bind hM;refine s_call cf37 [I x.place,I 0,I 10000] rfl (zaf x.place 0 10000 aA _ (H.gt 2)) ?_
 rintro vq aU ⟨r4,rfl,hvq,ac⟩
 subst vq;(try dsimp only at hM);replace H:=H.bk ac;clear ac;refine kg 2 ?_;replace H:=H.pk [];refine W.ret ?_
 have ae:=M.e_pure hM
 exact ⟨_,resE_tmp rfl,⟨r4,ae,rfl,H⟩⟩

def zbc (s:List Mrk) (f:Mrk->M Bool):Nat->M (Nat ⊕ (Int ⊕ Unit)):=fun s2 =>
  bif decide ((s2:Int)<(s.length:Int)) then (
  M.grd (decide ((s2:Int)<(s.length:Int))) <|
  M.bind (f (s.getD s2 default)) fun r2 =>
  bif r2 then (
  M.pure (.inr (.inl (s2:Int))))
  else (
  M.pure (.inl (s2+1))))
  else (
  M.pure (.inr (.inr ())))
def zch (s:List Mrk) (f:Mrk->M Bool):M Int :=
  M.bind (M.iter (zbc s f) 0) fun x_=>match x_ with
  | (.inl s3)=>(
  M.pure s3)
  | (.inr (_:Unit))=>(
  M.pure (-1))
theorem zdB {R:List Chunk} {aj:Cells} {ab:Value} {ac:Value} (s:List Mrk) (f:Mrk->M Bool) (ax:Reads R aj) (am:Sl aj ab s) (ao:FnM Tryz.prog R ac f) {r:Int} (hM:(zch s f).Ends r) (w:World) (H:St w w [] R):Ret Tryz.prog 109 #[ab,ac] w fun v w'=>∃ (y0:Int),y0=r/\v=I y0/\St w w' [] R:=by
 refine ret_of_W Tryz.func109 rfl rfl rfl ?_
 have ay:=(am).len_le
 refine kg 12 ?_;obtain ⟨ap,ae,ak⟩:=M.e_bind hM
 obtain ⟨az,ae⟩:=M.e_iter ae
 refine W.loop (fun m σ W=>∃ (s2:Nat) (ρ:Env),σ=upds ρ [(0,ab),(1,ac),(7,I (s.length:Int)),(8,I (s2:Int))]/\M.iterN (zbc s f) m s2=some ap/\St w W [] R) ?_ ?_
 ·exact ⟨_,0,_,upds_of _ _ ⟨rfl,rfl,rfl,rfl,trivial⟩,ae,H⟩
 rintro aA σ aB ⟨s2,ρ,rfl,al,H⟩
 obtain ⟨aq,ar,aC,hM,ag⟩:=M.e_iterN al
 simp only [zbc] at hM
 clear al;refine kg 5 ?_
 refine W.cond (decide ((s2:Int)<(s.length:Int))) rfl (fun aa=>?_) (fun aa=>?_)
 ·replace hM:=M.e_t hM aa
  replace aa:=dI aa
  obtain ⟨aD,hM⟩:=M.e_gd hM;refine kg 15 ?_;obtain ⟨r2,au,hM⟩:=M.e_bind hM;refine t_callM H ao rfl rfl (s.getD s2 default) Reads.none ⟨_,rfl,rfl⟩ au ?_;intro aE H;refine s_nil ?_
  refine W.cond r2 rfl (fun ah=>?_) (fun ah=>?_)
  ·replace hM:=M.e_t hM ah;refine kg 5 ?_;refine W.ret ?_
   have av:=M.e_inr hM ag
   subst av;replace hM:=ak;(try dsimp only at hM)
   have ai:=M.e_pure hM
   exact ⟨_,resE_tmp rfl,⟨(s2:Int),ai,rfl,H⟩⟩
  replace hM:=M.e_f hM ah;refine kg 5 ?_
  exact ⟨aq,ar,s2+1,_,upds_of _ _ ⟨rfl,rfl,rfl,rfl,trivial⟩,M.e_inl hM ag,H⟩
 replace hM:=M.e_f hM aa
 replace aa:=dI aa
 refine W.exit ?_
 have aw:=M.e_inr hM ag
 subst aw;replace hM:=ak;(try dsimp only at hM);refine kg 4 ?_;refine W.ret ?_
 have ai:=M.e_pure hM
 exact ⟨_,resE_tmp rfl,⟨(-1),ai,rfl,H⟩⟩

def zck (s:List Mrk) (f:Mrk->M Bool):M Bool :=
  M.bind (zch s f) fun r2 =>
  M.pure (decide (0<=r2))
theorem zdh {R:List Chunk} {ac:Cells} {aa:Value} {ab:Value} (s:List Mrk) (f:Mrk->M Bool) (ag:Reads R ac) (ah:Sl ac aa s) (ai:FnM Tryz.prog R ab f) {r:Bool} (hM:(zck s f).Ends r) (w:World) (H:St w w [] R):Ret Tryz.prog 97 #[aa,ab] w fun v w'=>∃ (y0:Bool),y0=r/\v=B y0/\St w w' [] R:=by
 refine ret_of_W Tryz.func97 rfl rfl rfl ?_;refine kg 8 ?_;obtain ⟨al,aj,hM⟩:=M.e_bind hM;refine s_call cf109 [aa,ab] rfl (zdB s f (ag.app _) ah (ai.app _) aj _ (H.gt 0)) ?_
 rintro vq am ⟨r2,rfl,hvq,ae⟩
 subst vq;(try dsimp only at hM);replace H:=H.bk ae;clear ae;refine kg 3 ?_;refine W.ret ?_
 have ak:=M.e_pure hM
 exact ⟨_,resE_tmp rfl,⟨(decide (0<=r2)),ak,rfl,H⟩⟩

def zbQ (x:Mrk) (aa:Mrk->M Bool):M Bool :=
  M.bind (aa x) fun r2 =>
  M.pure (!r2)
theorem zdj {R:List Chunk} {aa:Nat} {ab:Value} (x:Mrk) (ac:Mrk->M Bool) (ae:FnM Tryz.prog R ab ac) (ai:Has R (cBlk aa [ab] 142)) {r:Bool} (hM:(zbQ x ac).Ends r) (w:World) (H:St w w [] R):Ret Tryz.prog 98 #[.agg #[I x.place,I x.lo,I x.hi],Pq aa] w fun v w'=>∃ (y0:Bool),y0=r/\v=B y0/\St w w' [] R:=by
 refine ret_of_W Tryz.func98 rfl rfl rfl ?_;refine kg 2 ?_;refine t_bx [I x.place,I x.lo,I x.hi] H rfl ?_;intro aj ak H;refine kg 6 ?_;obtain ⟨r2,ag,hM⟩:=M.e_bind hM;refine t_callM H ae rfl rfl x Reads.none ⟨_,rfl,rfl⟩ ag ?_;intro al H;refine kg 3 ?_;refine W.ret ?_
 have ah:=M.e_pure hM
 exact ⟨_,resE_tmp rfl,⟨(!r2),ah,rfl,(H.pk [])⟩⟩

def zbr (l:List Mrk) (so:Mrk->M Bool):M Bool :=
  M.bind (zck l (fun aa=>zbQ aa so)) fun r2 =>
  M.pure (!r2)
theorem zdG {R:List Chunk} {ag:Cells} {ab:Value} {aa:Value} (l:List Mrk) (so:Mrk->M Bool) (ak:Reads R ag) (al:Sl ag ab l) (ah:FnM Tryz.prog R aa so) {r:Bool} (hM:(zbr l so).Ends r) (w:World) (H:St w w [] R):Ret Tryz.prog 77 #[ab,aa] w fun v w'=>∃ (y0:Bool),y0=r/\v=B y0/\St w w' [] R:=by
 refine ret_of_W Tryz.func77 rfl rfl rfl ?_;refine kg 2 ?_;refine t_box (v:=aa) (cs:=[aa]) H rfl (FnM.cells ah) ?_;intro ac ay H;refine kg 5 ?_;refine s_val (x_mf (fs:=[]) (cs:=[Pq ac]) rfl rfl) ?_;obtain ⟨az,am,hM⟩:=M.e_bind hM;refine s_call cf97 [ab,.func (.func 98) #[] #[Pq ac]] rfl (zdh l (fun ae=>zbQ ae so) (ak.app _) al ⟨98,[Pq ac],rfl,cf98,fun ai aA aB ao ae aC ap aD aq ar=>by obtain rfl:=Mrk_arg aq; exact (zdj ae so (FnM.app (ah.app _) _) (Has.app (Has.here (k:=0) rfl) _) ar ai (St.refl ap)).mono fun ao ai ⟨aE,au,av,aw⟩=>by subst au; exact ⟨av,aw⟩⟩ am _ (H.gt 1)) ?_
 rintro vq aF ⟨r2,rfl,hvq,aj⟩
 subst vq;(try dsimp only at hM);replace H:=H.bk aj;clear aj;refine kg 3 ?_;refine W.ret ?_
 have ax:=M.e_pure hM
 exact ⟨_,resE_tmp rfl,⟨(!r2),ax,rfl,(H.pk [])⟩⟩

def zaL (s:Span) (aa greatest:Int):M Bool :=
  M.bind (zae s.lo aa greatest) fun r2 =>
  M.bind (M.opt r2 (zae s.hi s.lo greatest) false) fun r3 =>
  M.pure (r2&&r3)
theorem zcN {R:List Chunk}  (s:Span) (aa:Int) (greatest:Int)  {r:Bool} (hM:(zaL s aa greatest).Ends r) (w:World) (H:St w w [] R):Ret Tryz.prog 99 #[.agg #[I s.lo,I s.hi],I aa,I greatest] w fun v w'=>∃ (y0:Bool),y0=r/\v=B y0/\St w w' [] R:=by
 refine ret_of_W Tryz.func99 rfl rfl rfl ?_;refine kg 2 ?_;refine t_bx [I s.lo,I s.hi] H rfl ?_;intro ai aj H;refine kg 8 ?_;obtain ⟨ak,ae,hM⟩:=M.e_bind hM;refine s_call cf37 [I s.lo,I aa,I greatest] rfl (zaf s.lo aa greatest ae _ (H.gt 1)) ?_
 rintro vq al ⟨r2,rfl,hvq,ac⟩
 subst vq;(try dsimp only at hM);replace H:=H.bk ac;clear ac;refine kg 6 ?_;obtain ⟨r3,ag,hM⟩:=M.e_bind hM;refine t_gcall r2 (gy_t rfl) cf37 (B r3) (fun _=>[I s.hi,I s.lo,I greatest]) (fun hg=>lst3 (gd_of hg (I s.hi)) (gd_of hg (I s.lo)) (gd_of hg (I greatest))) H (fun hg=>(zaf s.hi s.lo greatest (M.e_opt ag hg) _ (H.give (A:=[]) rfl)).mono fun v_ w_ ⟨y_,ab,ah,H_⟩=>by subst ab; exact ⟨ah,H.via H_⟩) ?_;intro am H;refine kg 3 ?_;refine W.ret ?_
 have ab:=M.e_pure hM
 exact ⟨_,resE_tmp rfl,⟨(r2&&r3),ab,rfl,(H.pk [])⟩⟩

def zaR (m_:Mrk):M Bool :=
  M.bind (zae m_.place 0 10000) fun r2 =>
  M.bind (M.opt r2 (zaL (⟨(m_.lo:Int),(m_.hi:Int)⟩:Span) 0 2000) false) fun r3 =>
  M.pure (r2&&r3)
theorem zc4 {R:List Chunk}  (m_:Mrk)  {r:Bool} (hM:(zaR m_).Ends r) (w:World) (H:St w w [] R):Ret Tryz.prog 78 #[.agg #[I m_.place,I m_.lo,I m_.hi]] w fun v w'=>∃ (y0:Bool),y0=r/\v=B y0/\St w w' [] R:=by
 refine ret_of_W Tryz.func78 rfl rfl rfl ?_;refine kg 2 ?_;refine t_bx [I m_.place,I m_.lo,I m_.hi] H rfl ?_;intro ah ai H;refine kg 6 ?_;obtain ⟨aj,ac,hM⟩:=M.e_bind hM;refine s_call cf37 [I m_.place,I 0,I 10000] rfl (zaf m_.place 0 10000 ac _ (H.gt 1)) ?_
 rintro vq ak ⟨r2,rfl,hvq,ab⟩
 subst vq;(try dsimp only at hM);replace H:=H.bk ab;clear ab;refine kg 3 ?_;obtain ⟨r3,ae,hM⟩:=M.e_bind hM;refine t_gcall r2 (gy_t rfl) cf99 (B r3) (fun _=>[.agg #[I m_.lo,I m_.hi],I 0,I 2000]) (fun hg=>lst3 (gd_of hg (.agg #[I m_.lo,I m_.hi])) rfl rfl) H (fun hg=>(zcN (⟨(m_.lo:Int),(m_.hi:Int)⟩:Span) 0 2000 (M.e_opt ae hg) _ (H.give (A:=[]) rfl)).mono fun v_ w_ ⟨y_,aa,ag,H_⟩=>by subst aa; exact ⟨ag,H.via H_⟩) ?_;intro al H;refine kg 3 ?_;refine W.ret ?_
 have aa:=M.e_pure hM
 exact ⟨_,resE_tmp rfl,⟨(r2&&r3),aa,rfl,(H.pk [])⟩⟩

def zaZ (s:List Rch) (f:Rch->M Bool):Nat->M (Nat ⊕ (Int ⊕ Unit)):=fun s2 =>
  bif decide ((s2:Int)<(s.length:Int)) then (
  M.grd (decide ((s2:Int)<(s.length:Int))) <|
  M.bind (f (s.getD s2 default)) fun r2 =>
  bif r2 then (
  M.pure (.inr (.inl (s2:Int))))
  else (
  M.pure (.inl (s2+1))))
  else (
  M.pure (.inr (.inr ())))
def zcd (s:List Rch) (f:Rch->M Bool):M Int :=
  M.bind (M.iter (zaZ s f) 0) fun x_=>match x_ with
  | (.inl s3)=>(
  M.pure s3)
  | (.inr (_:Unit))=>(
  M.pure (-1))
theorem zdv {R:List Chunk} {aj:Cells} {ab:Value} {ac:Value} (s:List Rch) (f:Rch->M Bool) (ax:Reads R aj) (am:Sl aj ab s) (ao:FnM Tryz.prog R ac f) {r:Int} (hM:(zcd s f).Ends r) (w:World) (H:St w w [] R):Ret Tryz.prog 110 #[ab,ac] w fun v w'=>∃ (y0:Int),y0=r/\v=I y0/\St w w' [] R:=by
 refine ret_of_W Tryz.func110 rfl rfl rfl ?_
 have ay:=(am).len_le
 refine kg 12 ?_;obtain ⟨ap,ae,ak⟩:=M.e_bind hM
 obtain ⟨az,ae⟩:=M.e_iter ae
 refine W.loop (fun m σ W=>∃ (s2:Nat) (ρ:Env),σ=upds ρ [(0,ab),(1,ac),(7,I (s.length:Int)),(8,I (s2:Int))]/\M.iterN (zaZ s f) m s2=some ap/\St w W [] R) ?_ ?_
 ·exact ⟨_,0,_,upds_of _ _ ⟨rfl,rfl,rfl,rfl,trivial⟩,ae,H⟩
 rintro aA σ aB ⟨s2,ρ,rfl,al,H⟩
 obtain ⟨aq,ar,aC,hM,ag⟩:=M.e_iterN al
 simp only [zaZ] at hM
 clear al;refine kg 5 ?_
 refine W.cond (decide ((s2:Int)<(s.length:Int))) rfl (fun aa=>?_) (fun aa=>?_)
 ·replace hM:=M.e_t hM aa
  replace aa:=dI aa
  obtain ⟨aD,hM⟩:=M.e_gd hM;refine kg 15 ?_;obtain ⟨r2,au,hM⟩:=M.e_bind hM;refine t_callM H ao rfl rfl (s.getD s2 default) Reads.none ⟨_,rfl,rfl⟩ au ?_;intro aE H;refine s_nil ?_
  refine W.cond r2 rfl (fun ah=>?_) (fun ah=>?_)
  ·replace hM:=M.e_t hM ah;refine kg 5 ?_;refine W.ret ?_
   have av:=M.e_inr hM ag
   subst av;replace hM:=ak;(try dsimp only at hM)
   have ai:=M.e_pure hM
   exact ⟨_,resE_tmp rfl,⟨(s2:Int),ai,rfl,H⟩⟩
  replace hM:=M.e_f hM ah;refine kg 5 ?_
  exact ⟨aq,ar,s2+1,_,upds_of _ _ ⟨rfl,rfl,rfl,rfl,trivial⟩,M.e_inl hM ag,H⟩
 replace hM:=M.e_f hM aa
 replace aa:=dI aa
 refine W.exit ?_
 have aw:=M.e_inr hM ag
 subst aw;replace hM:=ak;(try dsimp only at hM);refine kg 4 ?_;refine W.ret ?_
 have ai:=M.e_pure hM
 exact ⟨_,resE_tmp rfl,⟨(-1),ai,rfl,H⟩⟩

def zb4 (s:List Rch) (f:Rch->M Bool):M Bool :=
  M.bind (zcd s f) fun r2 =>
  M.pure (decide (0<=r2))
theorem zdA {R:List Chunk} {ac:Cells} {aa:Value} {ab:Value} (s:List Rch) (f:Rch->M Bool) (ag:Reads R ac) (ah:Sl ac aa s) (ai:FnM Tryz.prog R ab f) {r:Bool} (hM:(zb4 s f).Ends r) (w:World) (H:St w w [] R):Ret Tryz.prog 100 #[aa,ab] w fun v w'=>∃ (y0:Bool),y0=r/\v=B y0/\St w w' [] R:=by
 refine ret_of_W Tryz.func100 rfl rfl rfl ?_;refine kg 8 ?_;obtain ⟨al,aj,hM⟩:=M.e_bind hM;refine s_call cf110 [aa,ab] rfl (zdv s f (ag.app _) ah (ai.app _) aj _ (H.gt 0)) ?_
 rintro vq am ⟨r2,rfl,hvq,ae⟩
 subst vq;(try dsimp only at hM);replace H:=H.bk ae;clear ae;refine kg 3 ?_;refine W.ret ?_
 have ak:=M.e_pure hM
 exact ⟨_,resE_tmp rfl,⟨(decide (0<=r2)),ak,rfl,H⟩⟩

def zbT (x:Rch) (aa:Rch->M Bool):M Bool :=
  M.bind (aa x) fun r2 =>
  M.pure (!r2)
theorem zc1 {R:List Chunk} {aa:Nat} {ab:Value} (x:Rch) (ac:Rch->M Bool) (ae:FnM Tryz.prog R ab ac) (ai:Has R (cBlk aa [ab] 144)) {r:Bool} (hM:(zbT x ac).Ends r) (w:World) (H:St w w [] R):Ret Tryz.prog 101 #[.agg #[I x.up,I x.down,I x.lo,I x.hi,B x.narrow],Pq aa] w fun v w'=>∃ (y0:Bool),y0=r/\v=B y0/\St w w' [] R:=by
 refine ret_of_W Tryz.func101 rfl rfl rfl ?_;refine kg 2 ?_;refine t_bx [I x.up,I x.down,I x.lo,I x.hi,B x.narrow] H rfl ?_;intro aj ak H;refine kg 6 ?_;obtain ⟨r2,ag,hM⟩:=M.e_bind hM;refine t_callM H ae rfl rfl x Reads.none ⟨_,rfl,rfl⟩ ag ?_;intro al H;refine kg 3 ?_;refine W.ret ?_
 have ah:=M.e_pure hM
 exact ⟨_,resE_tmp rfl,⟨(!r2),ah,rfl,(H.pk [])⟩⟩

def zbR (l:List Rch) (so:Rch->M Bool):M Bool :=
  M.bind (zb4 l (fun aa=>zbT aa so)) fun r2 =>
  M.pure (!r2)
theorem zdH {R:List Chunk} {ag:Cells} {ab:Value} {aa:Value} (l:List Rch) (so:Rch->M Bool) (ak:Reads R ag) (al:Sl ag ab l) (ah:FnM Tryz.prog R aa so) {r:Bool} (hM:(zbR l so).Ends r) (w:World) (H:St w w [] R):Ret Tryz.prog 79 #[ab,aa] w fun v w'=>∃ (y0:Bool),y0=r/\v=B y0/\St w w' [] R:=by
 refine ret_of_W Tryz.func79 rfl rfl rfl ?_;refine kg 2 ?_;refine t_box (v:=aa) (cs:=[aa]) H rfl (FnM.cells ah) ?_;intro ac ay H;refine kg 5 ?_;refine s_val (x_mf (fs:=[]) (cs:=[Pq ac]) rfl rfl) ?_;obtain ⟨az,am,hM⟩:=M.e_bind hM;refine s_call cf100 [ab,.func (.func 101) #[] #[Pq ac]] rfl (zdA l (fun ae=>zbT ae so) (ak.app _) al ⟨101,[Pq ac],rfl,cf101,fun ai aA aB ao ae aC ap aD aq ar=>by obtain rfl:=Rch_arg aq; exact (zc1 ae so (FnM.app (ah.app _) _) (Has.app (Has.here (k:=0) rfl) _) ar ai (St.refl ap)).mono fun ao ai ⟨aE,au,av,aw⟩=>by subst au; exact ⟨av,aw⟩⟩ am _ (H.gt 1)) ?_
 rintro vq aF ⟨r2,rfl,hvq,aj⟩
 subst vq;(try dsimp only at hM);replace H:=H.bk aj;clear aj;refine kg 3 ?_;refine W.ret ?_
 have ax:=M.e_pure hM
 exact ⟨_,resE_tmp rfl,⟨(!r2),ax,rfl,(H.pk [])⟩⟩

def zbt (r_:Rch) (sections:Int):M Bool :=
  M.grd (decide ((-9223372036854775808:Int)<=(sections-1))&&decide ((sections-1)<=(9223372036854775807:Int))) <|
  M.bind (zae r_.up 0 (sections-1)) fun r2 =>
  M.grd ((!r2||(decide ((-9223372036854775808:Int)<=(r_.up+1))&&decide ((r_.up+1)<=(9223372036854775807:Int))))) <|
  M.bind (M.opt r2 (zae r_.down (r_.up+1) (sections-1)) false) fun r3 =>
  M.bind (M.opt (r2&&r3) (zaL (⟨(r_.lo:Int),(r_.hi:Int)⟩:Span) 1 400) false) fun r4 =>
  M.pure ((r2&&r3)&&r4)
theorem zcZ {R:List Chunk}  (r_:Rch) (sections:Int)  {r:Bool} (hM:(zbt r_ sections).Ends r) (w:World) (H:St w w [] R):Ret Tryz.prog 81 #[.agg #[I r_.up,I r_.down,I r_.lo,I r_.hi,B r_.narrow],I sections] w fun v w'=>∃ (y0:Bool),y0=r/\v=B y0/\St w w' [] R:=by
 refine ret_of_W Tryz.func81 rfl rfl rfl ?_;refine kg 2 ?_;refine t_bx [I r_.up,I r_.down,I r_.lo,I r_.hi,B r_.narrow] H rfl ?_;intro aj ak H;obtain ⟨al,hM⟩:=M.e_gd hM;refine kg 8 ?_;obtain ⟨am,ag,hM⟩:=M.e_bind hM;refine s_call cf37 [I r_.up,I 0,I (sections-1)] rfl (zaf r_.up 0 (sections-1) ag _ (H.gt 1)) ?_
 rintro vq ao ⟨r2,rfl,hvq,ae⟩
 subst vq;(try dsimp only at hM);replace H:=H.bk ae;clear ae;obtain ⟨ab,hM⟩:=M.e_grd hM
 replace ab:=M.imp_of ab
 simp only [Bool.and_eq_true,decide_eq_true_eq] at ab
 refine kg 8 ?_;obtain ⟨r3,ah,hM⟩:=M.e_bind hM;refine t_gcall r2 (gy_t rfl) cf37 (B r3) (fun _=>[I r_.down,I (r_.up+1),I (sections-1)]) (fun hg=>lst3 (gd_of hg (I r_.down)) (gd_of hg (I (r_.up+1))) (gd_of hg (I (sections-1)))) H (fun hg=>(zaf r_.down (r_.up+1) (sections-1) (M.e_opt ah hg) _ (H.give (A:=[]) rfl)).mono fun v_ w_ ⟨y_,aa,ac,H_⟩=>by subst aa; exact ⟨ac,H.via H_⟩) ?_;intro ap H;refine kg 4 ?_;obtain ⟨r4,ai,hM⟩:=M.e_bind hM;refine t_gcall (r2&&r3) (gy_t rfl) cf99 (B r4) (fun _=>[.agg #[I r_.lo,I r_.hi],I 1,I 400]) (fun hg=>lst3 (gd_of hg (.agg #[I r_.lo,I r_.hi])) rfl rfl) H (fun hg=>(zcN (⟨(r_.lo:Int),(r_.hi:Int)⟩:Span) 1 400 (M.e_opt ai hg) _ (H.give (A:=[]) rfl)).mono fun v_ w_ ⟨y_,aa,ac,H_⟩=>by subst aa; exact ⟨ac,H.via H_⟩) ?_;intro aq H;refine kg 3 ?_;refine W.ret ?_
 have aa:=M.e_pure hM
 exact ⟨_,resE_tmp rfl,⟨((r2&&r3)&&r4),aa,rfl,(H.pk [])⟩⟩

def zbm (r_:Rch) (aa:List Sect) (ab:List Mrk) (ac:List Rch):M Bool :=
  M.bind (zbt r_ (aa.length:Int)) fun r2 =>
  M.pure r2
theorem zdC {R:List Chunk} {ab:Nat} {ac:Cells} {ae:Value} {ag:Cells} {ah:Value} {ai:Cells} {aj:Value} (r_:Rch) (aa:List Sect) (ak:List Mrk) (al:List Rch) (ar:Reads R ac) (ao:Sl ac ae aa) (au:Reads R ag) (av:Sl ag ah ak) (aw:Reads R ai) (ax:Sl ai aj al) (ay:Has R (cBlk ab [ae,ah,aj] 27)) {r:Bool} (hM:(zbm r_ aa ak al).Ends r) (w:World) (H:St w w [] R):Ret Tryz.prog 80 #[.agg #[I r_.up,I r_.down,I r_.lo,I r_.hi,B r_.narrow],Pq ab] w fun v w'=>∃ (y0:Bool),y0=r/\v=B y0/\St w w' [] R:=by
 refine ret_of_W Tryz.func80 rfl rfl rfl ?_;refine kg 2 ?_;refine t_bx [I r_.up,I r_.down,I r_.lo,I r_.hi,B r_.narrow] H rfl ?_;intro az aA H
 have aB:=(ao).len_le
 refine kg 8 ?_;obtain ⟨aC,ap,hM⟩:=M.e_bind hM;refine s_call cf81 [.agg #[I r_.up,I r_.down,I r_.lo,I r_.hi,B r_.narrow],I (aa.length:Int)] rfl (zcZ r_ (aa.length:Int) ap _ (H.gt 1)) ?_
 rintro vq aD ⟨r2,rfl,hvq,am⟩
 subst vq;(try dsimp only at hM);replace H:=H.bk am;clear am;refine kg 2 ?_;refine W.ret ?_
 have aq:=M.e_pure hM
 exact ⟨_,resE_tmp rfl,⟨r2,aq,rfl,(H.pk [])⟩⟩

def zbh (s_Sections:List Sect):(Int × Nat)->M ((Int × Nat) ⊕ (Unit ⊕ Unit)):=fun (last,s2) =>
  bif decide ((s2:Int)<(s_Sections.length:Int)) then (
  M.grd (decide ((s2:Int)<(s_Sections.length:Int))) <|
  M.bind (zbG (s_Sections.getD s2 default)) fun r6 =>
  bif ((!r6)||(decide (((s_Sections.getD s2 default).place)<=last))) then (
  M.pure (.inr (.inl ())))
  else (
  M.pure (.inl ((s_Sections.getD s2 default).place,s2+1))))
  else (
  M.pure (.inr (.inr ())))
def zbz (s_Sections:List Sect) (s_Marks:List Mrk) (s_Reaches:List Rch):M Int :=
  M.bind (zae (s_Sections.length:Int) 2 6) fun r2 =>
  M.bind (M.opt (!(!r2)) (zae (s_Marks.length:Int) 1 16) false) fun r3 =>
  M.bind (M.opt (!((!r2)||(!r3))) (zae (s_Reaches.length:Int) 1 6) false) fun r4 =>
  M.bind (M.opt (!(((!r2)||(!r3))||(!r4))) (zbD s_Sections (fun aa=>zbX aa)) false) fun r5 =>
  bif ((((!r2)||(!r3))||(!r4))||(!r5)) then (
  M.pure 3)
  else (
  M.bind (M.iter (zbh s_Sections) (-1,0)) fun x_=>match x_ with
  | (.inl (_:Unit))=>(
  M.pure 70)
  | (.inr (_:Unit))=>(
  M.bind (zbr s_Marks (fun aa=>zaR aa)) fun r7 =>
  M.bind (M.opt (!(!r7)) (zbR s_Reaches (fun aa=>zbm aa s_Sections s_Marks s_Reaches)) false) fun r8 =>
  bif ((!r7)||(!r8)) then (
  M.pure 70)
  else (
  M.pure 0)))
theorem zc7 {R:List Chunk} {aI:Cells} {ag:Value} {aJ:Cells} {al:Value} {aK:Cells} {aj:Value} (s_Sections:List Sect) (s_Marks:List Mrk) (s_Reaches:List Rch) (az:Reads R aI) (am:Sl aI ag s_Sections) (aL:Reads R aJ) (aA:Sl aJ al s_Marks) (aM:Reads R aK) (aB:Sl aK aj s_Reaches) {r:Int} (hM:(zbz s_Sections s_Marks s_Reaches).Ends r) (w:World) (H:St w w [] R):Ret Tryz.prog 62 #[.agg #[ag,al,aj]] w fun v w'=>∃ (y0:Int),y0=r/\v=I y0/\St w w' [] R:=by
 refine ret_of_W Tryz.func62 rfl rfl rfl ?_;refine kg 2 ?_;refine t_bx [ag,al,aj] H rfl ?_;intro ak bg H
 have bh:=(am).len_le
 refine kg 12 ?_;obtain ⟨bi,aT,hM⟩:=M.e_bind hM;refine s_call cf37 [I (s_Sections.length:Int),I 2,I 6] rfl (zaf (s_Sections.length:Int) 2 6 aT _ (H.gt 1)) ?_
 rintro vq bj ⟨r2,rfl,hvq,ac⟩
 subst vq;(try dsimp only at hM);replace H:=H.bk ac;clear ac
 have bm:=(aA).len_le
 refine kg 5 ?_;obtain ⟨r3,aU,hM⟩:=M.e_bind hM;refine t_gcall (!(!r2)) (gy_f rfl) cf37 (B r3) (fun _=>[I (s_Marks.length:Int),I 1,I 16]) (fun hg=>lst3 (gd_of hg (I (s_Marks.length:Int))) rfl rfl) H (fun hg=>(zaf (s_Marks.length:Int) 1 16 (M.e_opt aU hg) _ (H.give (A:=[]) rfl)).mono fun v_ w_ ⟨y_,aa,ah,H_⟩=>by subst aa; exact ⟨ah,H.via H_⟩) ?_;intro bn H
 have bo:=(aB).len_le
 refine kg 6 ?_;obtain ⟨r4,aV,hM⟩:=M.e_bind hM;refine t_gcall (!((!r2)||(!r3))) (gy_f rfl) cf37 (B r4) (fun _=>[I (s_Reaches.length:Int),I 1,I 6]) (fun hg=>lst3 (gd_of hg (I (s_Reaches.length:Int))) rfl rfl) H (fun hg=>(zaf (s_Reaches.length:Int) 1 6 (M.e_opt aV hg) _ (H.give (A:=[]) rfl)).mono fun v_ w_ ⟨y_,aa,ah,H_⟩=>by subst aa; exact ⟨ah,H.via H_⟩) ?_;intro bp H;refine kg 6 ?_;obtain ⟨r5,aW,hM⟩:=M.e_bind hM;refine t_gcall (!(((!r2)||(!r3))||(!r4))) (gy_f rfl) cf75 (B r5) (fun _=>[ag,.func (.func 74) #[] #[]]) (fun hg=>lst2 (gd_of hg (ag)) (gd_of hg (.func (.func 74) #[] #[]))) H (fun hg=>(zdE s_Sections (fun ab=>zbX ab) (az.app _) am ⟨74,[],rfl,cf74,fun ae aN aO ao ab aP ap aC aq ar=>by obtain ⟨br,rfl,aX⟩:=Sect_arg aq; exact (zdP ab aC aX ar ae (St.refl ap)).mono fun ao ae ⟨aQ,au,av,aw⟩=>by subst au; exact ⟨av,aw⟩⟩ (M.e_opt aW hg) _ (H.give (A:=[]) rfl)).mono fun v_ w_ ⟨y_,aa,ah,H_⟩=>by subst aa; exact ⟨ah,H.via H_⟩) ?_;intro bt H;refine kg 3 ?_
 refine W.cond ((((!r2)||(!r3))||(!r4))||(!r5)) rfl (fun aD=>?_) (fun aD=>?_)
 ·replace hM:=M.e_t hM aD;refine kg 4 ?_;refine W.ret ?_
  have aa:=M.e_pure hM
  exact ⟨_,resE_tmp rfl,⟨3,aa,rfl,(H.pk [])⟩⟩
 replace hM:=M.e_f hM aD
 have bu:=(am).len_le
 refine kg 14 ?_;obtain ⟨aY,aE,aR⟩:=M.e_bind hM
 obtain ⟨bv,aE⟩:=M.e_iter aE
 refine W.loop (fun m σ W=>∃ (last:Int) (s2:Nat) (ρ:Env),σ=upds ρ [(1,Pq ak),(4,I last),(34,ag),(35,I (s_Sections.length:Int)),(36,I (s2:Int))]/\M.iterN (zbh s_Sections) m (last,s2)=some aY/\St w W [cBlk ak [ag,al,aj] 27] R) ?_ ?_
 ·exact ⟨_,-1,0,_,upds_of _ _ ⟨rfl,rfl,rfl,rfl,rfl,trivial⟩,aE,H⟩
 rintro bw σ bx ⟨last,s2,ρ,rfl,aS,H⟩
 obtain ⟨aZ,a6,bz,hM,aF⟩:=M.e_iterN aS
 simp only [zbh] at hM
 clear aS;refine kg 5 ?_
 refine W.cond (decide ((s2:Int)<(s_Sections.length:Int))) rfl (fun ai=>?_) (fun ai=>?_)
 ·replace hM:=M.e_t hM ai
  replace ai:=dI ai
  obtain ⟨bA,hM⟩:=M.e_gd hM;refine kg 6 ?_
  obtain ⟨ax,a7,ay⟩:=Sect_atA am (i:=(s2:Int)) (by omega) (by omega)
  replace ay:Sl _ ax (s_Sections.getD s2 default).rows:=ay
  have bB:=ay.len_le
  refine s_val (x_ld (v:=.agg #[I ((s_Sections.getD s2 default).place),ax]) rfl (ld_ag Ag64 Sz64 (At.mono a7 (az.at H)))) ?_;refine t_alloc (cs:=[I 0,.slice none 0 0]) H Al64 rfl ?_;intro bC bD H;refine t_sw 0 0 [I ((s_Sections.getD s2 default).place),ax] (.agg #[I ((s_Sections.getD s2 default).place),ax]) H rfl rfl Sz64 rfl rfl rfl (by simp only [List.all_cons,List.all_nil,Bool.true_and,Bool.and_true,Sl.oc ay]; try rfl) ?_;intro bE H;refine kg 5 ?_;obtain ⟨bF,a8,hM⟩:=M.e_bind hM;refine s_call cf76 [.agg #[I ((s_Sections.getD s2 default).place),ax]] rfl (zc6 (s_Sections.getD s2 default) (az.app _) ay a8 _ (H.gt 2)) ?_
  rintro vq bG ⟨r6,rfl,hvq,ac⟩
  subst vq;(try dsimp only at hM);replace H:=H.bk ac;clear ac;refine kg 8 ?_
  refine W.cond ((!r6)||(decide (((s_Sections.getD s2 default).place)<=last))) rfl (fun aG=>?_) (fun aG=>?_)
  ·replace hM:=M.e_t hM aG;refine kg 4 ?_;refine W.ret ?_
   have ba:=M.e_inr hM aF
   subst ba;replace hM:=aR;(try dsimp only at hM)
   have aa:=M.e_pure hM
   exact ⟨_,resE_tmp rfl,⟨70,aa,rfl,(H.pk [])⟩⟩
  replace hM:=M.e_f hM aG;refine kg 10 ?_
  exact ⟨aZ,a6,(s_Sections.getD s2 default).place,s2+1,_,upds_of _ _ ⟨rfl,rfl,rfl,rfl,rfl,trivial⟩,M.e_inl hM aF,(H.pk [1])⟩
 replace hM:=M.e_f hM ai
 replace ai:=dI ai
 refine W.exit ?_
 have bb:=M.e_inr hM aF
 subst bb;replace hM:=aR;(try dsimp only at hM);refine kg 5 ?_;obtain ⟨bH,bc,hM⟩:=M.e_bind hM;refine s_call cf77 [al,.func (.func 78) #[] #[]] rfl (zdG s_Marks (fun ab=>zaR ab) (aL.app _) aA ⟨78,[],rfl,cf78,fun ae aN aO ao ab aP ap aC aq ar=>by obtain rfl:=Mrk_arg aq; exact (zc4 ab ar ae (St.refl ap)).mono fun ao ae ⟨aQ,au,av,aw⟩=>by subst au; exact ⟨av,aw⟩⟩ bc _ (H.gt 1)) ?_
 rintro vq bI ⟨r7,rfl,hvq,ac⟩
 subst vq;(try dsimp only at hM);replace H:=H.bk ac;clear ac;refine kg 4 ?_;refine g_val (!(!r7)) (gy_f rfl) (fun hg=>x_mf (fs:=[]) (cs:=[Pq ak]) rfl rfl) ?_;obtain ⟨r8,bf,hM⟩:=M.e_bind hM;refine t_gcall (!(!r7)) (gy_f rfl) cf79 (B r8) (fun _=>[aj,.func (.func 80) #[] #[Pq ak]]) (fun hg=>lst2 (gd_of hg (aj)) (gd_of hg (.func (.func 80) #[] #[Pq ak]))) H (fun hg=>(zdH s_Reaches (fun ab=>zbm ab s_Sections s_Marks s_Reaches) (aM.app _) aB ⟨80,[Pq ak],rfl,cf80,fun ae aN aO ao ab aP ap aC aq ar=>by obtain rfl:=Rch_arg aq; exact (zdC ab s_Sections s_Marks s_Reaches (Reads.app (az.app _) _) am (Reads.app (aL.app _) _) aA (Reads.app (aM.app _) _) aB (Has.app (Has.here (k:=0) rfl) _) ar ae (St.refl ap)).mono fun ao ae ⟨aQ,au,av,aw⟩=>by subst au; exact ⟨av,aw⟩⟩ (M.e_opt bf hg) _ (H.give (A:=[]) rfl)).mono fun v_ w_ ⟨y_,aa,ah,H_⟩=>by subst aa; exact ⟨ah,H.via H_⟩) ?_;intro bJ H;refine kg 3 ?_
 refine W.cond ((!r7)||(!r8)) rfl (fun aH=>?_) (fun aH=>?_)
 ·replace hM:=M.e_t hM aH;refine kg 4 ?_;refine W.ret ?_
  have aa:=M.e_pure hM
  exact ⟨_,resE_tmp rfl,⟨70,aa,rfl,(H.pk [])⟩⟩
 replace hM:=M.e_f hM aH;refine kg 5 ?_;refine W.ret ?_
 have aa:=M.e_pure hM
 exact ⟨_,resE_tmp rfl,⟨0,aa,rfl,(H.pk [])⟩⟩

def zbL (s_Sections:List Sect) (s_Marks:List Mrk) (s_Reaches:List Rch):M (Int ⊕ Int) :=
  M.bind (zbz s_Sections s_Marks s_Reaches) fun r2 =>
  bif r2 != 0 then (
  M.pure (.inl r2))
  else (
  M.pure (.inr 0))
theorem zdf {R:List Chunk} {ai:Cells} {aa:Value} {aj:Cells} {ab:Value} {ak:Cells} {ac:Value} (s_Sections:List Sect) (s_Marks:List Mrk) (s_Reaches:List Rch) (ap:Reads R ai) (aq:Sl ai aa s_Sections) (ar:Reads R aj) (au:Sl aj ab s_Marks) (av:Reads R ak) (aw:Sl ak ac s_Reaches) {r:(Int ⊕ Int)} (hM:(zbL s_Sections s_Marks s_Reaches).Ends r) (w:World) (H:St w w [] R):Ret Tryz.prog 36 #[.agg #[aa,ab,ac]] w fun v w'=>(∃ (y0:Int),(.inl y0)=r/\v = .tuple #[.pointer none,I y0]/\St w w' [] R)∨(∃ (y0:Int) (al:Nat) (am:Nat),(.inr y0)=r/\v = .tuple #[Pq al,I y0]/\St w w' [cBlk al [aa,ab,ac,.map (some am)] 113,cMemI encSpt am (zaJ s_Sections s_Marks s_Reaches)] R):=by
 refine ret_of_W Tryz.func36 rfl rfl rfl ?_;refine kg 2 ?_;refine t_bx [aa,ab,ac] H rfl ?_;intro az aA H;refine kg 7 ?_;obtain ⟨aB,ax,hM⟩:=M.e_bind hM;refine s_call cf62 [.agg #[aa,ab,ac]] rfl (zc7 s_Sections s_Marks s_Reaches (ap.app _) aq (ar.app _) au (av.app _) aw ax _ (H.gt 1)) ?_
 rintro vq aC ⟨r2,rfl,hvq,ao⟩
 subst vq;(try dsimp only at hM);replace H:=H.bk ao;clear ao;refine kg 7 ?_
 refine W.cond (r2 != 0) rfl (fun ae=>?_) (fun ae=>?_)
 ·replace hM:=M.e_t hM ae
  replace ae:=dI ae
  refine kg 6 ?_;refine W.ret ?_
  have ah:=M.e_pure hM
  exact ⟨_,resE_tmp2 rfl,.inl (⟨r2,ah,rfl,(H.pk [])⟩)⟩
 replace hM:=M.e_f hM ae
 replace ae:=dI ae
 refine kg 4 ?_;refine t_mkmemI encSpt (zaJ s_Sections s_Marks s_Reaches) H ?_;intro ag aD H;refine s_val (x_bld (ps:=[(0,.agg #[aa,ab,ac]),(1,.map (some ag))]) (zs:=[.slice none 0 0,.slice none 0 0,.slice none 0 0,.map none]) (L':=[aa,ab,ac,.map (some ag)]) rfl Tryz.underlying113 Al113 rfl (Bd113 Tryz.underlying113) (.cons (cs:=[aa,ab,ac]) rfl rfl rfl rfl rfl<|.cons (cs:=[.map (some ag)]) rfl rfl rfl rfl rfl<|.nil)) ?_;refine t_bx [aa,ab,ac,.map (some ag)] H rfl ?_;intro ay aE H;refine kg 3 ?_;refine W.ret ?_
 have ah:=M.e_pure hM
 exact ⟨_,resE_tmp2 rfl,.inr (⟨0,ay,ag,ah,rfl,(H.pk [0,1])⟩)⟩

def zb6 (s_Marks:List Mrk) (marks:List Int):(Int × Int × Nat)->M ((Int × Int × Nat) ⊕ Int):=fun (e2,last,s2) =>
  bif decide ((s2:Int)<(marks.length:Int)) then (
  M.grd (decide ((s2:Int)<(marks.length:Int))) <|
  M.grd ((!(e2==0)||(decide ((-9223372036854775808:Int)<=(last+1))&&decide ((last+1)<=(9223372036854775807:Int))))) <|
  M.bind (M.opt (e2==0) (zae (marks.getD s2 0) (last+1) ((s_Marks.length:Int)-1)) false) fun r2 =>
  bif ((e2==0)&&(!r2)) then (
  M.pure (.inl (2,marks.getD s2 0,s2+1)))
  else (
  M.pure (.inl (e2,marks.getD s2 0,s2+1))))
  else (
  M.pure (.inr e2))
def zba (s_Marks:List Mrk) (marks:List Int):(Int × Int × Nat)->M ((Int × Int × Nat) ⊕ Int):=fun (e2,last,s2) =>
  bif decide ((s2:Int)<(marks.length:Int)) then (
  M.grd (decide ((s2:Int)<(marks.length:Int))) <|
  M.grd ((!(e2==0)||(decide ((-9223372036854775808:Int)<=(last+1))&&decide ((last+1)<=(9223372036854775807:Int))))) <|
  M.bind (M.opt (e2==0) (zae (marks.getD s2 0) (last+1) ((s_Marks.length:Int)-1)) false) fun r2 =>
  bif ((e2==0)&&(!r2)) then (
  M.pure (.inl (2,marks.getD s2 0,s2+1)))
  else (
  M.pure (.inl (e2,marks.getD s2 0,s2+1))))
  else (
  M.pure (.inr e2))
def zbl (s_Sections:List Sect) (s_Marks:List Mrk) (s_Reaches:List Rch) (marks:List Int):M (Int ⊕ Int) :=
  M.bind (zbL s_Sections s_Marks s_Reaches) fun x_=>match x_ with
  | (.inl r1)=>(
  M.bind (M.iter (zb6 s_Marks marks) (r1,-1,0)) fun e3 =>
  M.pure (.inl e3))
  | (.inr aa)=>(
  M.bind (M.iter (zba s_Marks marks) (aa,-1,0)) fun e3 =>
  M.pure (.inr e3))
theorem zc0 {R:List Chunk} {aA:Cells} {aa:Value} {aB:Cells} {ab:Value} {aC:Cells} {ac:Value} {aD:Cells} {aj:Value} (s_Sections:List Sect) (s_Marks:List Mrk) (s_Reaches:List Rch) (marks:List Int) (aN:Reads R aA) (aO:Sl aA aa s_Sections) (aP:Reads R aB) (al:Sl aB ab s_Marks) (aQ:Reads R aC) (aR:Sl aC ac s_Reaches) (bc:Reads R aD) (aE:Sl aD aj marks) {r:(Int ⊕ Int)} (hM:(zbl s_Sections s_Marks s_Reaches marks).Ends r) (w:World) (H:St w w [] R):Ret Tryz.prog 15 #[.agg #[aa,ab,ac],aj] w fun v w'=>(∃ (y0:Int),(.inl y0)=r/\v = .tuple #[.pointer none,I y0]/\St w w' [] R)∨(∃ (y0:Int) (aF:Nat) (aG:Nat),(.inr y0)=r/\v = .tuple #[Pq aF,I y0]/\St w w' [cBlk aF [aa,ab,ac,.map (some aG)] 113,cMemI encSpt aG (zaJ s_Sections s_Marks s_Reaches)] R):=by
 refine ret_of_W Tryz.func15 rfl rfl rfl ?_;refine kg 2 ?_;refine t_bx [aa,ab,ac] H rfl ?_;intro ak bf H;refine kg 6 ?_;obtain ⟨bg,aS,hM⟩:=M.e_bind hM;refine s_call cf36 [.agg #[aa,ab,ac]] rfl (zdf s_Sections s_Marks s_Reaches (aN.app _) aO (aP.app _) al (aQ.app _) aR aS _ (H.gt 1)) ?_
 rintro vq bh (⟨r1,aT,hvq,ai⟩ | ⟨aU,am,ao,aV,hvq,ai⟩)
 ·subst aT;subst vq;(try dsimp only at hM);replace H:=H.bk ai;clear ai
  have bi:=(aE).len_le
  refine kg 18 ?_;obtain ⟨aW,ap,aX⟩:=M.e_bind hM
  obtain ⟨aY,ap⟩:=M.e_iter ap
  refine W.loop (fun m σ W=>∃ (e2:Int) (last:Int) (s2:Nat) (ρ:Env),σ=upds ρ [(2,Pq ak),(6,.pointer none),(7,I e2),(8,I last),(16,aj),(17,I (marks.length:Int)),(18,I (s2:Int))]/\M.iterN (zb6 s_Marks marks) m (e2,last,s2)=some aW/\St w W [cBlk ak [aa,ab,ac] 27] R) ?_ ?_
  ·exact ⟨_,r1,-1,0,_,upds_of _ _ ⟨rfl,rfl,rfl,rfl,rfl,rfl,rfl,trivial⟩,ap,H⟩
  rintro bj σ bm ⟨e2,last,s2,ρ,rfl,aH,H⟩
  obtain ⟨aI,aJ,bn,hM,aq⟩:=M.e_iterN aH
  simp only [zb6] at hM
  clear aH;refine kg 5 ?_
  refine W.cond (decide ((s2:Int)<(marks.length:Int))) rfl (fun ae=>?_) (fun ae=>?_)
  ·replace hM:=M.e_t hM ae
   replace ae:=dI ae
   obtain ⟨bo,hM⟩:=M.e_gd hM;obtain ⟨ar,hM⟩:=M.e_grd hM
   replace ar:=M.imp_of ar
   simp only [Bool.and_eq_true,decide_eq_true_eq] at ar
   have bp:=(al).len_le
   refine kg 22 ?_;obtain ⟨r2,aZ,hM⟩:=M.e_bind hM;refine t_gcall (e2==0) (gy_t rfl) cf37 (B r2) (fun _=>[I (marks.getD s2 0),I (last+1),I ((s_Marks.length:Int)-1)]) (fun hg=>lst3 (gd_of hg (I (marks.getD s2 0))) (gd_of hg (I (last+1))) (gd_of hg (I ((s_Marks.length:Int)-1)))) H (fun hg=>(zaf (marks.getD s2 0) (last+1) ((s_Marks.length:Int)-1) (M.e_opt aZ hg) _ (H.give (A:=[]) rfl)).mono fun v_ w_ ⟨y_,ag,au,H_⟩=>by subst ag; exact ⟨au,H.via H_⟩) ?_;intro br H;refine kg 3 ?_
   refine W.cond ((e2==0)&&(!r2)) rfl (fun av=>?_) (fun av=>?_)
   ·replace hM:=M.e_t hM av;refine kg 11 ?_
    exact ⟨aI,aJ,2,marks.getD s2 0,s2+1,_,upds_of _ _ ⟨rfl,rfl,rfl,rfl,rfl,rfl,rfl,trivial⟩,M.e_inl hM aq,H⟩
   replace hM:=M.e_f hM av;refine kg 9 ?_
   exact ⟨aI,aJ,e2,marks.getD s2 0,s2+1,_,upds_of _ _ ⟨rfl,rfl,rfl,rfl,rfl,rfl,rfl,trivial⟩,M.e_inl hM aq,H⟩
  replace hM:=M.e_f hM ae
  replace ae:=dI ae
  refine W.exit ?_
  have a6:=M.e_inr hM aq
  subst a6;replace hM:=aX;(try dsimp only at hM);refine kg 7 ?_;refine W.ret ?_
  have ag:=M.e_pure hM
  exact ⟨_,resE_tmp2 rfl,.inl (⟨e2,ag,rfl,(H.pk [])⟩)⟩
 subst aV;subst vq;(try dsimp only at hM);replace H:=H.bk ai;clear ai
 have bt:=(aE).len_le
 refine kg 18 ?_;obtain ⟨a7,aw,a8⟩:=M.e_bind hM
 obtain ⟨aY,aw⟩:=M.e_iter aw
 refine W.loop (fun m σ W=>∃ (e2:Int) (last:Int) (s2:Nat) (ρ:Env),σ=upds ρ [(2,Pq ak),(6,Pq am),(7,I e2),(8,I last),(16,aj),(17,I (marks.length:Int)),(18,I (s2:Int))]/\M.iterN (zba s_Marks marks) m (e2,last,s2)=some a7/\St w W [cBlk am [aa,ab,ac,.map (some ao)] 113,cMemI encSpt ao (zaJ s_Sections s_Marks s_Reaches),cBlk ak [aa,ab,ac] 27] R) ?_ ?_
 ·exact ⟨_,aU,-1,0,_,upds_of _ _ ⟨rfl,rfl,rfl,rfl,rfl,rfl,rfl,trivial⟩,aw,H⟩
 rintro bu σ bv ⟨e2,last,s2,ρ,rfl,aK,H⟩
 obtain ⟨aL,aM,bw,hM,ax⟩:=M.e_iterN aK
 simp only [zba] at hM
 clear aK;refine kg 5 ?_
 refine W.cond (decide ((s2:Int)<(marks.length:Int))) rfl (fun ah=>?_) (fun ah=>?_)
 ·replace hM:=M.e_t hM ah
  replace ah:=dI ah
  obtain ⟨bx,hM⟩:=M.e_gd hM;obtain ⟨ay,hM⟩:=M.e_grd hM
  replace ay:=M.imp_of ay
  simp only [Bool.and_eq_true,decide_eq_true_eq] at ay
  have bz:=(al).len_le
  refine kg 22 ?_;obtain ⟨r2,ba,hM⟩:=M.e_bind hM;refine t_gcall (e2==0) (gy_t rfl) cf37 (B r2) (fun _=>[I (marks.getD s2 0),I (last+1),I ((s_Marks.length:Int)-1)]) (fun hg=>lst3 (gd_of hg (I (marks.getD s2 0))) (gd_of hg (I (last+1))) (gd_of hg (I ((s_Marks.length:Int)-1)))) H (fun hg=>(zaf (marks.getD s2 0) (last+1) ((s_Marks.length:Int)-1) (M.e_opt ba hg) _ (H.give (A:=[]) rfl)).mono fun v_ w_ ⟨y_,ag,au,H_⟩=>by subst ag; exact ⟨au,H.via H_⟩) ?_;intro bA H;refine kg 3 ?_
  refine W.cond ((e2==0)&&(!r2)) rfl (fun az=>?_) (fun az=>?_)
  ·replace hM:=M.e_t hM az;refine kg 11 ?_
   exact ⟨aL,aM,2,marks.getD s2 0,s2+1,_,upds_of _ _ ⟨rfl,rfl,rfl,rfl,rfl,rfl,rfl,trivial⟩,M.e_inl hM ax,H⟩
  replace hM:=M.e_f hM az;refine kg 9 ?_
  exact ⟨aL,aM,e2,marks.getD s2 0,s2+1,_,upds_of _ _ ⟨rfl,rfl,rfl,rfl,rfl,rfl,rfl,trivial⟩,M.e_inl hM ax,H⟩
 replace hM:=M.e_f hM ah
 replace ah:=dI ah
 refine W.exit ?_
 have bb:=M.e_inr hM ax
 subst bb;replace hM:=a8;(try dsimp only at hM);refine kg 7 ?_;refine W.ret ?_
 have ag:=M.e_pure hM
 exact ⟨_,resE_tmp2 rfl,.inr (⟨e2,am,ao,ag,rfl,(H.pk [0,1])⟩)⟩

def zan (s:List Int) (f:Int->M Bool):Nat->M (Nat ⊕ (Int ⊕ Unit)):=fun s2 =>
  bif decide ((s2:Int)<(s.length:Int)) then (
  M.grd (decide ((s2:Int)<(s.length:Int))) <|
  M.bind (f (s.getD s2 0)) fun r2 =>
  bif r2 then (
  M.pure (.inr (.inl (s2:Int))))
  else (
  M.pure (.inl (s2+1))))
  else (
  M.pure (.inr (.inr ())))
def zat (s:List Int) (f:Int->M Bool):M Int :=
  M.bind (M.iter (zan s f) 0) fun x_=>match x_ with
  | (.inl s3)=>(
  M.pure s3)
  | (.inr (_:Unit))=>(
  M.pure (-1))
theorem zde {R:List Chunk} {aj:Cells} {ab:Value} {ac:Value} (s:List Int) (f:Int->M Bool) (ax:Reads R aj) (am:Sl aj ab s) (ao:FnM Tryz.prog R ac f) {r:Int} (hM:(zat s f).Ends r) (w:World) (H:St w w [] R):Ret Tryz.prog 73 #[ab,ac] w fun v w'=>∃ (y0:Int),y0=r/\v=I y0/\St w w' [] R:=by
 refine ret_of_W Tryz.func73 rfl rfl rfl ?_
 have ay:=(am).len_le
 refine kg 12 ?_;obtain ⟨ap,ae,ak⟩:=M.e_bind hM
 obtain ⟨az,ae⟩:=M.e_iter ae
 refine W.loop (fun m σ W=>∃ (s2:Nat) (ρ:Env),σ=upds ρ [(0,ab),(1,ac),(7,I (s.length:Int)),(8,I (s2:Int))]/\M.iterN (zan s f) m s2=some ap/\St w W [] R) ?_ ?_
 ·exact ⟨_,0,_,upds_of _ _ ⟨rfl,rfl,rfl,rfl,trivial⟩,ae,H⟩
 rintro aA σ aB ⟨s2,ρ,rfl,al,H⟩
 obtain ⟨aq,ar,aC,hM,ag⟩:=M.e_iterN al
 simp only [zan] at hM
 clear al;refine kg 5 ?_
 refine W.cond (decide ((s2:Int)<(s.length:Int))) rfl (fun aa=>?_) (fun aa=>?_)
 ·replace hM:=M.e_t hM aa
  replace aa:=dI aa
  obtain ⟨aD,hM⟩:=M.e_gd hM;refine kg 15 ?_;obtain ⟨r2,au,hM⟩:=M.e_bind hM;refine t_callM H ao rfl rfl (s.getD s2 0) Reads.none (Arg.mkI (fun _=>none) _) au ?_;intro aE H;refine s_nil ?_
  refine W.cond r2 rfl (fun ah=>?_) (fun ah=>?_)
  ·replace hM:=M.e_t hM ah;refine kg 5 ?_;refine W.ret ?_
   have av:=M.e_inr hM ag
   subst av;replace hM:=ak;(try dsimp only at hM)
   have ai:=M.e_pure hM
   exact ⟨_,resE_tmp rfl,⟨(s2:Int),ai,rfl,H⟩⟩
  replace hM:=M.e_f hM ah;refine kg 5 ?_
  exact ⟨aq,ar,s2+1,_,upds_of _ _ ⟨rfl,rfl,rfl,rfl,trivial⟩,M.e_inl hM ag,H⟩
 replace hM:=M.e_f hM aa
 replace aa:=dI aa
 refine W.exit ?_
 have aw:=M.e_inr hM ag
 subst aw;replace hM:=ak;(try dsimp only at hM);refine kg 4 ?_;refine W.ret ?_
 have ai:=M.e_pure hM
 exact ⟨_,resE_tmp rfl,⟨(-1),ai,rfl,H⟩⟩

def zaS (s:List Int) (f:Int->M Bool):M Bool :=
  M.bind (zat s f) fun r2 =>
  M.pure (decide (0<=r2))
theorem zcD {R:List Chunk} {ac:Cells} {aa:Value} {ab:Value} (s:List Int) (f:Int->M Bool) (ag:Reads R ac) (ah:Sl ac aa s) (ai:FnM Tryz.prog R ab f) {r:Bool} (hM:(zaS s f).Ends r) (w:World) (H:St w w [] R):Ret Tryz.prog 57 #[aa,ab] w fun v w'=>∃ (y0:Bool),y0=r/\v=B y0/\St w w' [] R:=by
 refine ret_of_W Tryz.func57 rfl rfl rfl ?_;refine kg 8 ?_;obtain ⟨al,aj,hM⟩:=M.e_bind hM;refine s_call cf73 [aa,ab] rfl (zde s f (ag.app _) ah (ai.app _) aj _ (H.gt 0)) ?_
 rintro vq am ⟨r2,rfl,hvq,ae⟩
 subst vq;(try dsimp only at hM);replace H:=H.bk ae;clear ae;refine kg 3 ?_;refine W.ret ?_
 have ak:=M.e_pure hM
 exact ⟨_,resE_tmp rfl,⟨(decide (0<=r2)),ak,rfl,H⟩⟩

def zbM (x:Int) (aa:Int->M Bool):M Bool :=
  M.bind (aa x) fun r2 =>
  M.pure (!r2)
theorem zc3 {R:List Chunk} {aa:Nat} {ab:Value} (x:Int) (ac:Int->M Bool) (ae:FnM Tryz.prog R ab ac) (ai:Has R (cBlk aa [ab] 92)) {r:Bool} (hM:(zbM x ac).Ends r) (w:World) (H:St w w [] R):Ret Tryz.prog 63 #[I x,Pq aa] w fun v w'=>∃ (y0:Bool),y0=r/\v=B y0/\St w w' [] R:=by
 refine ret_of_W Tryz.func63 rfl rfl rfl ?_;refine kg 8 ?_;obtain ⟨r2,ag,hM⟩:=M.e_bind hM;refine t_callM H ae rfl rfl x Reads.none (Arg.mkI (fun _=>none) _) ag ?_;intro aj H;refine kg 3 ?_;refine W.ret ?_
 have ah:=M.e_pure hM
 exact ⟨_,resE_tmp rfl,⟨(!r2),ah,rfl,H⟩⟩

def za9 (l:List Int) (so:Int->M Bool):M Bool :=
  M.bind (zaS l (fun aa=>zbM aa so)) fun r2 =>
  M.pure (!r2)
theorem zcP {R:List Chunk} {ag:Cells} {ab:Value} {aa:Value} (l:List Int) (so:Int->M Bool) (ak:Reads R ag) (al:Sl ag ab l) (ah:FnM Tryz.prog R aa so) {r:Bool} (hM:(za9 l so).Ends r) (w:World) (H:St w w [] R):Ret Tryz.prog 38 #[ab,aa] w fun v w'=>∃ (y0:Bool),y0=r/\v=B y0/\St w w' [] R:=by
 refine ret_of_W Tryz.func38 rfl rfl rfl ?_;refine kg 2 ?_;refine t_box (v:=aa) (cs:=[aa]) H rfl (FnM.cells ah) ?_;intro ac ay H;refine kg 5 ?_;refine s_val (x_mf (fs:=[]) (cs:=[Pq ac]) rfl rfl) ?_;obtain ⟨az,am,hM⟩:=M.e_bind hM;refine s_call cf57 [ab,.func (.func 63) #[] #[Pq ac]] rfl (zcD l (fun ae=>zbM ae so) (ak.app _) al ⟨63,[Pq ac],rfl,cf63,fun ai aA aB ao ae aC ap aD aq ar=>by obtain rfl:=Arg.int aq; exact (zc3 ae so (FnM.app (ah.app _) _) (Has.app (Has.here (k:=0) rfl) _) ar ai (St.refl ap)).mono fun ao ai ⟨aE,au,av,aw⟩=>by subst au; exact ⟨av,aw⟩⟩ am _ (H.gt 1)) ?_
 rintro vq aF ⟨r2,rfl,hvq,aj⟩
 subst vq;(try dsimp only at hM);replace H:=H.bk aj;clear aj;refine kg 3 ?_;refine W.ret ?_
 have ax:=M.e_pure hM
 exact ⟨_,resE_tmp rfl,⟨(!r2),ax,rfl,(H.pk [])⟩⟩

def za0 (ab:List Sect) (aa:List Mrk) (ac:List Rch) (a b:Int):M Bool :=
  M.grd (decide ((0:Int)<=a)&&decide (a<(aa.length:Int))) <|
  M.grd (decide ((0:Int)<=b)&&decide (b<(aa.length:Int))) <|
  M.pure ((decide (((aa.getD (Int.toNat a) default).place)<=((aa.getD (Int.toNat b) default).place)))&&(decide (((aa.getD (Int.toNat a) default).hi)<((aa.getD (Int.toNat b) default).lo))))
theorem zdo {R:List Chunk} {ab:Nat} {ac:Cells} {ae:Value} {ag:Cells} {ah:Value} {ai:Cells} {aj:Value} {ao:Nat} (ak:List Sect) (aa:List Mrk) (al:List Rch) (a:Int) (b:Int) (aq:Reads R ac) (ar:Sl ac ae ak) (au:Reads R ag) (av:Sl ag ah aa) (aw:Reads R ai) (ax:Sl ai aj al) (ay:Has R (cBlk ab [ae,ah,aj,.map (some ao)] 113)) {r:Bool} (hM:(za0 ak aa al a b).Ends r) (w:World) (H:St w w [] R):Ret Tryz.prog 41 #[Pq ab,I a,I b] w fun v w'=>∃ (y0:Bool),y0=r/\v=B y0/\St w w' [] R:=by
 refine ret_of_W Tryz.func41 rfl rfl rfl ?_;refine kg 5 ?_;refine W.draw (fun W=>St w W [] R) [(0,true),(1,true),(2,true),(3,true),(4,true),(5,true),(6,true),(7,true),(8,true),(9,true),(10,true),(11,true),(12,true),(13,true),(14,true),(15,true),(16,true),(17,true),(18,true),(19,true),(20,true),(21,true),(22,true),(23,true),(24,true),(25,true),(26,true),(27,true),(28,true),(29,true),(30,true),(31,true),(32,true),(33,true),(34,true),(35,true),(36,true),(37,true),(38,true),(39,true),(40,true),(41,true),(42,true)] mixed (by decide +kernel) rfl ?_;intro az am;replace H:=H.ext am;clear am
 refine ⟨(H.pk []),?_⟩
 obtain ⟨aA,hM⟩:=M.e_gd hM;obtain ⟨aB,hM⟩:=M.e_gd hM;refine kg 44 ?_;refine W.ret ?_
 have ap:=M.e_pure hM
 exact ⟨_,resE_tmp rfl,⟨((decide (((aa.getD (Int.toNat a) default).place)<=((aa.getD (Int.toNat b) default).place)))&&(decide (((aa.getD (Int.toNat a) default).hi)<((aa.getD (Int.toNat b) default).lo)))),ap,rfl,H⟩⟩

def zbu (b:Int) (aa:List Sect) (ab:List Mrk) (ac:List Rch) (ae:Int):M Bool :=
  M.bind (za0 aa ab ac ae b) fun r2 =>
  M.pure (!r2)
theorem zda {R:List Chunk} {ah:Nat} {ab:Nat} {ai:Cells} {aj:Value} {ak:Cells} {al:Value} {am:Cells} {ao:Value} {ar:Nat} {ap:Nat} (b:Int) (ac:List Sect) (ae:List Mrk) (ag:List Rch) (aa:Int) (au:Reads R ai) (av:Sl ai aj ac) (aw:Reads R ak) (ax:Sl ak al ae) (ay:Reads R am) (az:Sl am ao ag) (aA:Has R (cBlk ab [aj,al,ao,.map (some ar)] 113)) (aD:Has R (cBlk ah [Pq ab] 73)) (aE:Has R (cBlk ap [I aa] 3)) {r:Bool} (hM:(zbu b ac ae ag aa).Ends r) (w:World) (H:St w w [] R):Ret Tryz.prog 40 #[I b,Pq ah,Pq ap] w fun v w'=>∃ (y0:Bool),y0=r/\v=B y0/\St w w' [] R:=by
 refine ret_of_W Tryz.func40 rfl rfl rfl ?_;refine kg 9 ?_;obtain ⟨aF,aB,hM⟩:=M.e_bind hM;refine s_call cf41 [Pq ab,I aa,I b] rfl (zdo ac ae ag aa b (au.app _) av (aw.app _) ax (ay.app _) az (aA.app _) aB _ (H.gt 0)) ?_
 rintro vq aG ⟨r2,rfl,hvq,aq⟩
 subst vq;(try dsimp only at hM);replace H:=H.bk aq;clear aq;refine kg 3 ?_;refine W.ret ?_
 have aC:=M.e_pure hM
 exact ⟨_,resE_tmp rfl,⟨(!r2),aC,rfl,H⟩⟩

def zbp (a:Int) (aa:List Int) (ab:List Sect) (ac:List Mrk) (ae:List Rch):M Bool :=
  M.bind (za9 aa (fun ag=>zbu ag ab ac ae a)) fun r2 =>
  M.pure r2
theorem zc2 {R:List Chunk} {ak:Nat} {al:Cells} {ag:Value} {aa:Nat} {am:Nat} {ao:Cells} {ap:Value} {aq:Cells} {ar:Value} {au:Cells} {av:Value} {ay:Nat} (a:Int) (ah:List Int) (ab:List Sect) (ac:List Mrk) (ae:List Rch) (az:Reads R al) (aA:Sl al ag ah) (aS:Has R (cBlk ak [ag] 28)) (aB:Reads R ao) (aC:Sl ao ap ab) (aD:Reads R aq) (aE:Sl aq ar ac) (aF:Reads R au) (aG:Sl au av ae) (aH:Has R (cBlk am [ap,ar,av,.map (some ay)] 113)) (aI:Has R (cBlk aa [Pq am] 73)) {r:Bool} (hM:(zbp a ah ab ac ae).Ends r) (w:World) (H:St w w [] R):Ret Tryz.prog 39 #[I a,Pq ak,Pq aa] w fun v w'=>∃ (y0:Bool),y0=r/\v=B y0/\St w w' [] R:=by
 refine ret_of_W Tryz.func39 rfl rfl rfl ?_;refine kg 2 ?_;refine t_b1 (I a) H rfl rfl ?_;intro ai aT H;refine kg 5 ?_;refine s_val (x_mf (fs:=[]) (cs:=[Pq aa,Pq ai]) rfl rfl) ?_;obtain ⟨aU,aJ,hM⟩:=M.e_bind hM;refine s_call cf38 [ag,.func (.func 40) #[] #[Pq aa,Pq ai]] rfl (zcP ah (fun aj=>zbu aj ab ac ae a) (az.app _) aA ⟨40,[Pq aa,Pq ai],rfl,cf40,fun aw aV aW aK aj aX aL aY aM aN=>by obtain rfl:=Arg.int aM; exact (zda aj ab ac ae a (Reads.app (aB.app _) _) aC (Reads.app (aD.app _) _) aE (Reads.app (aF.app _) _) aG (Has.app (aH.app _) _) (Has.app (aI.app _) _) (Has.app (Has.here (k:=0) rfl) _) aN aw (St.refl aL)).mono fun aK aw ⟨aZ,aO,aP,aQ⟩=>by subst aO; exact ⟨aP,aQ⟩⟩ aJ _ (H.gt 1)) ?_
 rintro vq a6 ⟨r2,rfl,hvq,ax⟩
 subst vq;(try dsimp only at hM);replace H:=H.bk ax;clear ax;refine kg 2 ?_;refine W.ret ?_
 have aR:=M.e_pure hM
 exact ⟨_,resE_tmp rfl,⟨r2,aR,rfl,(H.pk [])⟩⟩

def zbF (aa:List Sect) (ab:List Mrk) (ac:List Rch) (marks:List Int):M Bool :=
  M.bind (za9 marks (fun ae=>zbp ae marks aa ab ac)) fun r2 =>
  M.pure r2
theorem zcW {R:List Chunk} {ag:Nat} {al:Cells} {am:Value} {ao:Cells} {ap:Value} {aq:Cells} {ar:Value} {ay:Nat} {au:Cells} {aa:Value} (ab:List Sect) (ac:List Mrk) (ae:List Rch) (marks:List Int) (az:Reads R al) (aA:Sl al am ab) (aB:Reads R ao) (aC:Sl ao ap ac) (aD:Reads R aq) (aE:Sl aq ar ae) (aF:Has R (cBlk ag [am,ap,ar,.map (some ay)] 113)) (av:Reads R au) (ah:Sl au aa marks) {r:Bool} (hM:(zbF ab ac ae marks).Ends r) (w:World) (H:St w w [] R):Ret Tryz.prog 16 #[Pq ag,aa] w fun v w'=>∃ (y0:Bool),y0=r/\v=B y0/\St w w' [] R:=by
 refine ret_of_W Tryz.func16 rfl rfl rfl ?_;refine kg 2 ?_;refine t_b1 (Pq ag) H rfl rfl ?_;intro ai aP H;refine t_box (v:=aa) (cs:=[aa]) H rfl (Sl.cells ah) ?_;intro aj aQ H;refine kg 5 ?_;refine s_val (x_mf (fs:=[]) (cs:=[Pq aj,Pq ai]) rfl rfl) ?_;obtain ⟨aR,aG,hM⟩:=M.e_bind hM;refine s_call cf38 [aa,.func (.func 39) #[] #[Pq aj,Pq ai]] rfl (zcP marks (fun ak=>zbp ak marks ab ac ae) (av.app _) ah ⟨39,[Pq aj,Pq ai],rfl,cf39,fun aw aS aT aH ak aU aI aV aJ aK=>by obtain rfl:=Arg.int aJ; exact (zc2 ak marks ab ac ae (Reads.app (av.app _) _) ah (Has.app (Has.here (k:=0) rfl) _) (Reads.app (az.app _) _) aA (Reads.app (aB.app _) _) aC (Reads.app (aD.app _) _) aE (Has.app (aF.app _) _) (Has.app (Has.here (k:=1) rfl) _) aK aw (St.refl aI)).mono fun aH aw ⟨aW,aL,aM,aN⟩=>by subst aL; exact ⟨aM,aN⟩⟩ aG _ (H.gt 2)) ?_
 rintro vq aX ⟨r2,rfl,hvq,ax⟩
 subst vq;(try dsimp only at hM);replace H:=H.bk ax;clear ax;refine kg 2 ?_;replace H:=H.pk [];refine W.ret ?_
 have aO:=M.e_pure hM
 exact ⟨_,resE_tmp rfl,⟨r2,aO,rfl,H⟩⟩

def zaI (l:List Int):(Int × Nat)->M ((Int × Nat) ⊕ Int):=fun (first2,s) =>
  bif decide ((s:Int)<(l.length:Int)) then (
  M.grd (decide ((s:Int)<(l.length:Int))) <|
  M.pure (.inl (min first2 (l.getD s 0),s+1)))
  else (
  M.pure (.inr first2))
def zby (first:Int) (l:List Int):M Int :=
  M.bind (M.iter (zaI l) (first,0)) fun first3 =>
  M.pure first3
theorem zdr {R:List Chunk} {ae:Cells} {ab:Value} (first:Int) (l:List Int) (aq:Reads R ae) (ai:Sl ae ab l) {r:Int} (hM:(zby first l).Ends r) (w:World) (H:St w w [] R):Ret Tryz.prog 42 #[I first,ab] w fun v w'=>∃ (y0:Int),y0=r/\v=I y0/\St w w' [] R:=by
 refine ret_of_W Tryz.func42 rfl rfl rfl ?_
 have ar:=(ai).len_le
 refine kg 12 ?_;obtain ⟨aj,ac,ak⟩:=M.e_bind hM
 obtain ⟨au,ac⟩:=M.e_iter ac
 refine W.loop (fun m σ W=>∃ (first2:Int) (s:Nat) (ρ:Env),σ=upds ρ [(0,I first2),(7,ab),(8,I (l.length:Int)),(9,I (s:Int))]/\M.iterN (zaI l) m (first2,s)=some aj/\St w W [] R) ?_ ?_
 ·exact ⟨_,first,0,_,upds_of _ _ ⟨rfl,rfl,rfl,rfl,trivial⟩,ac,H⟩
 rintro av σ aw ⟨first2,s,ρ,rfl,ag,H⟩
 obtain ⟨al,am,ax,hM,ah⟩:=M.e_iterN ag
 simp only [zaI] at hM
 clear ag;refine kg 5 ?_
 refine W.cond (decide ((s:Int)<(l.length:Int))) rfl (fun aa=>?_) (fun aa=>?_)
 ·replace hM:=M.e_t hM aa
  replace aa:=dI aa
  obtain ⟨ay,hM⟩:=M.e_gd hM;refine kg 19 ?_
  exact ⟨al,am,min first2 (l.getD s 0),s+1,_,upds_of _ _ ⟨rfl,rfl,rfl,rfl,trivial⟩,M.e_inl hM ah,H⟩
 replace hM:=M.e_f hM aa
 replace aa:=dI aa
 refine W.exit ?_
 have ao:=M.e_inr hM ah
 subst ao;replace hM:=ak;(try dsimp only at hM);refine kg 5 ?_;refine W.ret ?_
 have ap:=M.e_pure hM
 exact ⟨_,resE_tmp rfl,⟨first2,ap,rfl,H⟩⟩

def zbf (ac:List Sect) (aa:List Mrk) (marks:List Int) (ab:Int):(Int × Int × Nat)->M ((Int × Int × Nat) ⊕ (Int × Int)):=fun (s2,s3,s4) =>
  bif decide ((s4:Int)<(marks.length:Int)) then (
  M.grd (decide ((s4:Int)<(marks.length:Int))) <|
  M.grd (decide ((0:Int)<=(marks.getD s4 0))&&decide ((marks.getD s4 0)<(aa.length:Int))) <|
  M.grd (decide ((0:Int)<=ab)&&decide (ab<(ac.length:Int))) <|
  bif decide (((aa.getD (Int.toNat (marks.getD s4 0)) default).place)<=((ac.getD (Int.toNat ab) default).place)) then (
  M.bind (zby s3 ([((aa.getD (Int.toNat (marks.getD s4 0)) default).hi:Int)])) fun r2 =>
  bif decide (((ac.getD (Int.toNat ab) default).place)<=((aa.getD (Int.toNat (marks.getD s4 0)) default).place)) then (
  M.pure (.inl (max s2 ((aa.getD (Int.toNat (marks.getD s4 0)) default).lo),r2,s4+1)))
  else (
  M.pure (.inl (s2,r2,s4+1))))
  else (
  bif decide (((ac.getD (Int.toNat ab) default).place)<=((aa.getD (Int.toNat (marks.getD s4 0)) default).place)) then (
  M.pure (.inl (max s2 ((aa.getD (Int.toNat (marks.getD s4 0)) default).lo),s3,s4+1)))
  else (
  M.pure (.inl (s2,s3,s4+1)))))
  else (
  M.pure (.inr (s2,s3)))
def zbO (aa:List Sect) (ab:List Mrk) (ae:List Rch) (marks:List Int) (ac:Int):M (Int × Int) :=
  M.bind (M.iter (zbf aa ab marks ac) (0,2000,0)) fun (s5,s6) =>
  M.pure (s5,s6)
theorem zdN {R:List Chunk} {aq:Nat} {aw:Cells} {ax:Value} {ay:Cells} {az:Value} {aA:Cells} {aB:Value} {aH:Nat} {aC:Cells} {ar:Value} (aj:List Sect) (aa:List Mrk) (aD:List Rch) (marks:List Int) (ac:Int) (aP:Reads R aw) (aQ:Sl aw ax aj) (aR:Reads R ay) (aS:Sl ay az aa) (aT:Reads R aA) (aU:Sl aA aB aD) (aV:Has R (cBlk aq [ax,az,aB,.map (some aH)] 113)) (aW:Reads R aC) (aI:Sl aC ar marks) {r:(Int × Int)} (hM:(zbO aj aa aD marks ac).Ends r) (w:World) (H:St w w [] R):Ret Tryz.prog 17 #[Pq aq,ar,I ac] w fun v w'=>∃ (y0:Int) (y1:Int),(y0,y1)=r/\v = .agg #[I y0,I y1]/\St w w' [] R:=by
 refine ret_of_W Tryz.func17 rfl rfl rfl ?_;refine kg 2 ?_;refine t_alloc (cs:=[I 0,I 0]) H Al41 rfl ?_;intro ak aX H;refine kg 3 ?_;refine s_val (x_bld (ps:=[(1,I 2000)]) (zs:=[I 0,I 0]) (L':=[I 0,I 2000]) rfl Tryz.underlying41 Al41 rfl (Bd41 Tryz.underlying41) (.cons (cs:=[I 2000]) rfl rfl rfl rfl rfl<|.nil)) ?_;refine t_alloc (cs:=[I 0,I 0]) H Al41 rfl ?_;intro al aY H;refine t_sw 0 0 [I 0,I 2000] (.agg #[I 0,I 2000]) H rfl rfl Sz41 rfl rfl rfl rfl ?_;intro aZ H
 have a6:=(aI).len_le
 refine kg 9 ?_;obtain ⟨aJ,au,aK⟩:=M.e_bind hM
 obtain ⟨a7,au⟩:=M.e_iter au
 refine W.loop (fun m σ W=>∃ (s2:Int) (s3:Int) (s4:Nat) (ρ:Env),σ=upds ρ [(0,Pq aq),(2,I ac),(6,Pq ak),(7,Pq al),(12,ar),(13,I (marks.length:Int)),(14,I (s4:Int))]/\M.iterN (zbf aj aa marks ac) m (s2,s3,s4)=some aJ/\St w W [cBlk al [I s2,I s3] 41,cBlk ak [I 0,I 0] 41] R) ?_ ?_
 ·exact ⟨_,0,2000,0,_,upds_of _ _ ⟨rfl,rfl,rfl,rfl,rfl,rfl,rfl,trivial⟩,au,H⟩
 rintro a8 σ ba ⟨s2,s3,s4,ρ,rfl,aE,H⟩
 obtain ⟨ao,ap,bb,hM,am⟩:=M.e_iterN aE
 simp only [zbf] at hM
 clear aE;refine kg 5 ?_
 refine W.cond (decide ((s4:Int)<(marks.length:Int))) rfl (fun ae=>?_) (fun ae=>?_)
 ·replace hM:=M.e_t hM ae
  replace ae:=dI ae
  obtain ⟨bc,hM⟩:=M.e_gd hM;obtain ⟨bf,hM⟩:=M.e_gd hM;refine kg 19 ?_;refine t_alloc (cs:=[I 0,I 0,I 0]) H Al68 rfl ?_;intro av bg H;refine t_sw 0 0 [I ((aa.getD (Int.toNat (marks.getD s4 0)) default).place),I ((aa.getD (Int.toNat (marks.getD s4 0)) default).lo),I ((aa.getD (Int.toNat (marks.getD s4 0)) default).hi)] (.agg #[I ((aa.getD (Int.toNat (marks.getD s4 0)) default).place),I ((aa.getD (Int.toNat (marks.getD s4 0)) default).lo),I ((aa.getD (Int.toNat (marks.getD s4 0)) default).hi)]) H rfl rfl Sz68 rfl rfl rfl rfl ?_;intro bh H;refine kg 3 ?_;refine W.draw (fun W=>St w W [cBlk av [I ((aa.getD (Int.toNat (marks.getD s4 0)) default).place),I ((aa.getD (Int.toNat (marks.getD s4 0)) default).lo),I ((aa.getD (Int.toNat (marks.getD s4 0)) default).hi)] 68,cBlk al [I s2,I s3] 41,cBlk ak [I 0,I 0] 41] R) [(0,true),(1,true),(2,true),(3,true),(4,true),(5,true),(6,true),(7,true),(8,true),(9,true),(10,true),(11,true)] mixed (by decide +kernel) rfl ?_;intro bi ab;replace H:=H.ext ab;clear ab
  refine ⟨(H.pk [0,1,2]),?_⟩
  obtain ⟨bj,hM⟩:=M.e_gd hM;refine kg 13 ?_
  refine W.cond (decide (((aa.getD (Int.toNat (marks.getD s4 0)) default).place)<=((aj.getD (Int.toNat ac) default).place))) rfl (fun ag=>?_) (fun ag=>?_)
  ·replace hM:=M.e_t hM ag
   replace ag:=dI ag
   refine kg 6 ?_;refine t_bs (α:=Int) T28 [I ((aa.getD (Int.toNat (marks.getD s4 0)) default).hi)] [((aa.getD (Int.toNat (marks.getD s4 0)) default).hi:Int)] H rfl (.cons rfl (Flat.rep_enc _ ((aa.getD (Int.toNat (marks.getD s4 0)) default).hi:Int))<|.nil) rfl rfl rfl ?_;intro aF bm H;obtain ⟨bn,aL,hM⟩:=M.e_bind hM;refine s_call cf42 [I s3,aF] rfl (zdr s3 ([((aa.getD (Int.toNat (marks.getD s4 0)) default).hi:Int)]) (rdo 0) (H.os 0) aL _ (H.gt 4)) ?_
   rintro vq bo ⟨r2,rfl,hvq,aG⟩
   subst vq;(try dsimp only at hM);replace H:=H.bk aG;clear aG;refine kg 1 ?_;refine t_sw 2 1 [I r2] (I r2) H rfl rfl Sz3 rfl rfl rfl rfl ?_;intro bp H;refine kg 2 ?_;refine W.draw (fun W=>St w W [cOwn (α:=Int) 3 aF ([((aa.getD (Int.toNat (marks.getD s4 0)) default).hi:Int)]),cBlk av [I ((aa.getD (Int.toNat (marks.getD s4 0)) default).place),I ((aa.getD (Int.toNat (marks.getD s4 0)) default).lo),I ((aa.getD (Int.toNat (marks.getD s4 0)) default).hi)] 68,cBlk al [I s2,I r2] 41,cBlk ak [I 0,I 0] 41] R) [(0,true),(1,true),(2,true),(3,true),(4,true),(5,true),(6,true),(7,true),(8,true),(9,true),(10,true),(11,true)] mixed (by decide +kernel) rfl ?_;intro br ab;replace H:=H.ext ab;clear ab
   refine ⟨(H.pk [0,1,2,3]),?_⟩
   refine kg 13 ?_
   refine W.cond (decide (((aj.getD (Int.toNat ac) default).place)<=((aa.getD (Int.toNat (marks.getD s4 0)) default).place))) rfl (fun ah=>?_) (fun ah=>?_)
   ·replace hM:=M.e_t hM ah
    replace ah:=dI ah
    refine kg 8 ?_;refine t_sw 2 0 [I (max s2 ((aa.getD (Int.toNat (marks.getD s4 0)) default).lo))] (I (max s2 ((aa.getD (Int.toNat (marks.getD s4 0)) default).lo))) H rfl rfl Sz3 rfl rfl rfl rfl ?_;intro bt H;refine s_nil ?_;replace H:=H.pk [2,3];refine kg 4 ?_
    exact ⟨ao,ap,max s2 ((aa.getD (Int.toNat (marks.getD s4 0)) default).lo),r2,s4+1,_,upds_of _ _ ⟨rfl,rfl,rfl,rfl,rfl,rfl,rfl,trivial⟩,M.e_inl hM am,H⟩
   replace hM:=M.e_f hM ah
   replace ah:=dI ah
   refine W.skip ?_;replace H:=H.pk [2,3];refine kg 4 ?_
   exact ⟨ao,ap,s2,r2,s4+1,_,upds_of _ _ ⟨rfl,rfl,rfl,rfl,rfl,rfl,rfl,trivial⟩,M.e_inl hM am,H⟩
  replace hM:=M.e_f hM ag
  replace ag:=dI ag
  refine kg 2 ?_;refine W.draw (fun W=>St w W [cBlk av [I ((aa.getD (Int.toNat (marks.getD s4 0)) default).place),I ((aa.getD (Int.toNat (marks.getD s4 0)) default).lo),I ((aa.getD (Int.toNat (marks.getD s4 0)) default).hi)] 68,cBlk al [I s2,I s3] 41,cBlk ak [I 0,I 0] 41] R) [(0,true),(1,true),(2,true),(3,true),(4,true),(5,true),(6,true),(7,true),(8,true),(9,true),(10,true),(11,true)] mixed (by decide +kernel) rfl ?_;intro bu ab;replace H:=H.ext ab;clear ab
  refine ⟨(H.pk [0,1,2]),?_⟩
  refine kg 13 ?_
  refine W.cond (decide (((aj.getD (Int.toNat ac) default).place)<=((aa.getD (Int.toNat (marks.getD s4 0)) default).place))) rfl (fun ai=>?_) (fun ai=>?_)
  ·replace hM:=M.e_t hM ai
   replace ai:=dI ai
   refine kg 8 ?_;refine t_sw 1 0 [I (max s2 ((aa.getD (Int.toNat (marks.getD s4 0)) default).lo))] (I (max s2 ((aa.getD (Int.toNat (marks.getD s4 0)) default).lo))) H rfl rfl Sz3 rfl rfl rfl rfl ?_;intro bv H;refine kg 5 ?_
   exact ⟨ao,ap,max s2 ((aa.getD (Int.toNat (marks.getD s4 0)) default).lo),s3,s4+1,_,upds_of _ _ ⟨rfl,rfl,rfl,rfl,rfl,rfl,rfl,trivial⟩,M.e_inl hM am,(H.pk [1,2])⟩
  replace hM:=M.e_f hM ai
  replace ai:=dI ai
  refine kg 5 ?_
  exact ⟨ao,ap,s2,s3,s4+1,_,upds_of _ _ ⟨rfl,rfl,rfl,rfl,rfl,rfl,rfl,trivial⟩,M.e_inl hM am,(H.pk [1,2])⟩
 replace hM:=M.e_f hM ae
 replace ae:=dI ae
 refine W.exit ?_
 have aM:=M.e_inr hM am
 subst aM;replace hM:=aK;(try dsimp only at hM);refine kg 3 ?_;refine t_sw 1 0 [I s2,I s3] (.agg #[I s2,I s3]) H rfl rfl Sz41 rfl rfl rfl rfl ?_;intro bw H;refine s_nil ?_;refine W.ret ?_
 have aN:=(H.bl 1)
 have aO:=M.e_pure hM
 exact ⟨_,(resE_of1 (v:=.agg #[I s2,I s3]) rfl (.cell (v:=.agg #[I s2,I s3]) rfl (run_loadVar_ag (ds:=[I s2,I s3]) Ag41 Sz41 aN rfl rfl)<|.nil)),⟨s2,s3,aO,rfl,(H.pk [])⟩⟩

def zaT (s_Sections:List Sect) (s_Marks:List Mrk) (s_Reaches:List Rch) (marks:List Int):(Nat × (List Span))->M ((Nat × (List Span)) ⊕ ((List Span) × (List Span))):=fun (s2,l) =>
  bif decide ((s2:Int)<(s_Sections.length:Int)) then (
  M.bind (zbO s_Sections s_Marks s_Reaches marks (s2:Int)) fun (r0,aa) =>
  M.grd (decide ((l.length+([(⟨(r0:Int),(aa:Int)⟩:Span)]).length)*16<=140737488355328)) <|
  M.pure (.inl (s2+1,l++([(⟨(r0:Int),(aa:Int)⟩:Span)]))))
  else (
  M.pure (.inr (l,l)))
def zbU (s_Sections:List Sect) (s_Marks:List Mrk) (s_Reaches:List Rch) (marks:List Int):M ((List Span) × Int) :=
  M.bind (zbl s_Sections s_Marks s_Reaches marks) fun x_=>match x_ with
  | (.inl r1)=>(
  bif r1 != 0 then (
  M.pure (([]),r1))
  else (
  M.fail))
  | (.inr aa)=>(
  bif aa != 0 then (
  M.fail)
  else (
  M.bind (zbF s_Sections s_Marks s_Reaches marks) fun r2 =>
  bif !r2 then (
  M.pure (([]),7))
  else (
  M.bind (M.iter (zaT s_Sections s_Marks s_Reaches marks) (0,[])) fun (l2,l3) =>
  M.pure (l3,0))))
theorem zdd {R:List Chunk} {aB:Cells} {ac:Value} {aC:Cells} {ae:Value} {aD:Cells} {ag:Value} {aE:Cells} {ah:Value} (s_Sections:List Sect) (s_Marks:List Mrk) (s_Reaches:List Rch) (marks:List Int) (aq:Reads R aB) (am:Sl aB ac s_Sections) (ar:Reads R aC) (au:Sl aC ae s_Marks) (av:Reads R aD) (aw:Sl aD ag s_Reaches) (ax:Reads R aE) (ay:Sl aE ah marks) {r:((List Span) × Int)} (hM:(zbU s_Sections s_Marks s_Reaches marks).Ends r) (w:World) (H:St w w [] R):Ret Tryz.prog 6 #[.agg #[ac,ae,ag],ah] w fun v w'=>∃ (y0:List Span) (y1:Int) (u0:Value),(y0,y1)=r/\v = .tuple #[u0,I y1]/\St w w' [cOwn (α:=Span) 41 u0 y0] R:=by
 refine ret_of_W Tryz.func6 rfl rfl rfl ?_;refine kg 2 ?_;refine t_bx [ac,ae,ag] H rfl ?_;intro aI aW H;refine kg 7 ?_;obtain ⟨aX,aJ,hM⟩:=M.e_bind hM;refine s_call cf15 [.agg #[ac,ae,ag],ah] rfl (zc0 s_Sections s_Marks s_Reaches marks (aq.app _) am (ar.app _) au (av.app _) aw (ax.app _) ay aJ _ (H.gt 1)) ?_
 rintro vq aY (⟨r1,aK,hvq,aa⟩ | ⟨aL,ao,aF,aM,hvq,aa⟩)
 ·subst aK;subst vq;(try dsimp only at hM);replace H:=H.bk aa;clear aa;refine kg 14 ?_
  refine W.cond (r1 != 0) rfl (fun aj=>?_) (fun aj=>?_)
  ·replace hM:=M.e_t hM aj
   replace aj:=dI aj
   refine kg 6 ?_;refine W.ret ?_
   have ak:=M.e_pure hM
   replace H:=H.nilOwn (α:=Span) 41
   exact ⟨_,resE_tmp2 rfl,⟨([]),r1,(.slice none 0 0),ak,rfl,(H.pk [0])⟩⟩
  replace hM:=M.e_f hM aj
  exact (M.e_fail hM).elim
 subst aM;subst vq;(try dsimp only at hM);replace H:=H.bk aa;clear aa;refine kg 14 ?_
 refine W.cond (aL != 0) rfl (fun al=>?_) (fun al=>?_)
 ·replace hM:=M.e_t hM al
  exact (M.e_fail hM).elim
 replace hM:=M.e_f hM al
 replace al:=dI al
 refine kg 4 ?_;obtain ⟨aZ,aN,hM⟩:=M.e_bind hM;refine s_call cf16 [Pq ao,ah] rfl (zcW s_Sections s_Marks s_Reaches marks (aq.app _) am (ar.app _) au (av.app _) aw (Has.here (k:=0) rfl) (ax.app _) ay aN _ (H.gt 3)) ?_
 rintro vq a6 ⟨r2,rfl,hvq,aa⟩
 subst vq;(try dsimp only at hM);replace H:=H.bk aa;clear aa;refine kg 3 ?_
 refine W.cond (!r2) rfl (fun az=>?_) (fun az=>?_)
 ·replace hM:=M.e_t hM az;refine kg 5 ?_;replace H:=H.pk [];refine W.ret ?_
  have ak:=M.e_pure hM
  replace H:=H.nilOwn (α:=Span) 41
  exact ⟨_,resE_tmp2 rfl,⟨([]),7,(.slice none 0 0),ak,rfl,H⟩⟩
 replace hM:=M.e_f hM az
 have a7:=(am).len_le
 refine kg 14 ?_
 replace H:=H.nilOwn (α:=Span) 41
 obtain ⟨aO,aA,aP⟩:=M.e_bind hM
 obtain ⟨a8,aA⟩:=M.e_iter aA
 refine W.loop (fun m σ W=>∃ (s2:Nat) (l:List Span) (ap:Value) (ρ:Env),σ=upds ρ [(1,ah),(6,Pq ao),(8,ap),(27,I (s_Sections.length:Int)),(28,I (s2:Int))]/\M.iterN (zaT s_Sections s_Marks s_Reaches marks) m (s2,l)=some aO/\St w W [cOwn (α:=Span) 41 ap l,cBlk ao [ac,ae,ag,.map (some aF)] 113,cMemI encSpt aF (zaJ s_Sections s_Marks s_Reaches),cBlk aI [ac,ae,ag] 27] R) ?_ ?_
 ·exact ⟨_,0,[],(.slice none 0 0),_,upds_of _ _ ⟨rfl,rfl,rfl,rfl,rfl,trivial⟩,aA,H⟩
 rintro ba σ bb ⟨s2,l,ap,ρ,rfl,aG,H⟩
 obtain ⟨aQ,aR,bc,hM,aH⟩:=M.e_iterN aG
 simp only [zaT] at hM
 clear aG;refine kg 5 ?_
 refine W.cond (decide ((s2:Int)<(s_Sections.length:Int))) rfl (fun ab=>?_) (fun ab=>?_)
 ·replace hM:=M.e_t hM ab
  replace ab:=dI ab
  refine kg 13 ?_;obtain ⟨bf,aS,hM⟩:=M.e_bind hM;refine s_call cf17 [Pq ao,ah,I (s2:Int)] rfl (zdN s_Sections s_Marks s_Reaches marks (s2:Int) (aq.app _) am (ar.app _) au (av.app _) aw (Has.here (k:=1) rfl) (ax.app _) ay aS _ (H.gt 4)) ?_
  rintro vq bg ⟨r0,ai,rfl,hvq,aa⟩
  subst vq;(try dsimp only at hM);replace H:=H.bk aa;clear aa;refine t_bs (α:=Span) T35 [.agg #[I r0,I ai]] [(⟨(r0:Int),(ai:Int)⟩:Span)] H rfl (.cons rfl (Flat.rep_enc _ (⟨(r0:Int),(ai:Int)⟩:Span))<|.nil) rfl rfl rfl ?_;intro aT bh H;obtain ⟨bi,hM⟩:=M.e_gd hM;refine t_app (α:=Span) (k:=1) (l:=l) (l2:=[(⟨(r0:Int),(ai:Int)⟩:Span)]) (l':=l++([(⟨(r0:Int),(ai:Int)⟩:Span)])) (vy:=aT) T35 rfl H rfl rfl rfl (H.os 0) (H.ol 0) (rfl) (by first | omega | (simp only [List.length_nil] at *; omega)) ?_;intro aU bj H;replace H:=H.nf;refine kg 6 ?_
  exact ⟨aQ,aR,s2+1,l++([(⟨(r0:Int),(ai:Int)⟩:Span)]),aU,_,upds_of _ _ ⟨rfl,rfl,rfl,rfl,rfl,trivial⟩,M.e_inl hM aH,(H.pk [1,2,3,4])⟩
 replace hM:=M.e_f hM ab
 replace ab:=dI ab
 refine W.exit ?_
 have aV:=M.e_inr hM aH
 subst aV;replace hM:=aP;(try dsimp only at hM);replace H:=H.pk [0];refine kg 6 ?_;refine W.ret ?_
 have ak:=M.e_pure hM
 exact ⟨_,resE_tmp2 rfl,⟨l,0,ap,ak,rfl,H⟩⟩

end Go.Proofs.YtpiebomegbbpcaaGreat
end
section
set_option maxRecDepth 100000
set_option maxHeartbeats 16000000
namespace Go.Proofs.YtpiebomegbbpcaaGreat
open Go Go.Nm
attribute [local irreducible] gd execOp SL SLD SLT WR
def zcb (bytes:List UInt8):M (Int × Int) :=
  M.pure (0,0)
theorem zdp {R:List Chunk} {ab:Cells} {aa:Value} (bytes:List UInt8) (ai:Reads R ab) (ae:Sl ab aa bytes) {r:(Int × Int)} (hM:(zcb bytes).Ends r) (w:World) (H:St w w [] R):Ret Tryz.prog 5 #[aa] w fun v w'=>∃ (y0:Int) (y1:Int) (ac:Nat),(y0,y1)=r/\v=Pq ac/\St w w' [cBlk ac [aa,I y0,I y1] 72] R:=by
 refine ret_of_W Tryz.func5 rfl rfl rfl ?_;refine kg 7 ?_;refine s_val (x_bld (ps:=[(0,aa)]) (zs:=[.slice none 0 0,I 0,I 0]) (L':=[aa,I 0,I 0]) rfl Tryz.underlying72 Al72 rfl (Bd72 Tryz.underlying72) (.cons (cs:=[aa]) (Sl.cells ae) rfl rfl rfl rfl<|.nil)) ?_;refine t_bx [aa,I 0,I 0] H rfl ?_;intro ag aj H;refine kg 2 ?_;refine W.ret ?_
 have ah:=M.e_pure hM
 exact ⟨_,resE_tmp rfl,⟨0,0,ag,ah,rfl,H⟩⟩

def zaq (v n:Int):M Int :=
  bif decide (n<1) then (
  M.pure 0)
  else (
  M.grd (decide ((0:Int)<n)) <|
  bif decide ((Int.tmod v n)<0) then (
  M.grd (decide ((-9223372036854775808:Int)<=((Int.tmod v n)+n))&&decide (((Int.tmod v n)+n)<=(9223372036854775807:Int))) <|
  M.pure ((Int.tmod v n)+n))
  else (
  M.pure (Int.tmod v n)))
theorem zam {R:List Chunk}  (v:Int) (n:Int)  {r:Int} (hM:(zaq v n).Ends r) (w:World) (H:St w w [] R):Ret Tryz.prog 7 #[I v,I n] w fun v w'=>∃ (y0:Int),y0=r/\v=I y0/\St w w' [] R:=by
 refine ret_of_W Tryz.func7 rfl rfl rfl ?_;refine kg 10 ?_
 refine W.cond (decide (n<1)) rfl (fun aa=>?_) (fun aa=>?_)
 ·replace hM:=M.e_t hM aa
  replace aa:=dI aa
  refine kg 4 ?_;refine W.ret ?_
  have ac:=M.e_pure hM
  exact ⟨_,resE_tmp rfl,⟨0,ac,rfl,H⟩⟩
 replace hM:=M.e_f hM aa
 replace aa:=dI aa
 obtain ⟨ae,hM⟩:=M.e_gd hM;refine kg 5 ?_;refine s_val (x_rem (a:=v) (b:=n) rfl rfl (by omega)) ?_;refine kg 8 ?_
 refine W.cond (decide ((Int.tmod v n)<0)) rfl (fun ab=>?_) (fun ab=>?_)
 ·replace hM:=M.e_t hM ab
  replace ab:=dI ab
  obtain ⟨ag,hM⟩:=M.e_gd hM;refine kg 11 ?_;refine W.ret ?_
  have ac:=M.e_pure hM
  exact ⟨_,resE_tmp rfl,⟨((Int.tmod v n)+n),ac,rfl,H⟩⟩
 replace hM:=M.e_f hM ab
 replace ab:=dI ab
 refine kg 6 ?_;refine W.ret ?_
 have ac:=M.e_pure hM
 exact ⟨_,resE_tmp rfl,⟨(Int.tmod v n),ac,rfl,H⟩⟩

def zbP (s_used s_mix n b:Int):M (Int × Int × Int) :=
  M.grd (decide ((-9223372036854775808:Int)<=(5*s_mix))&&decide ((5*s_mix)<=(9223372036854775807:Int))) <|
  M.grd (decide ((-9223372036854775808:Int)<=((5*s_mix)+b))&&decide (((5*s_mix)+b)<=(9223372036854775807:Int))) <|
  M.grd (decide ((-9223372036854775808:Int)<=(((5*s_mix)+b)+1))&&decide ((((5*s_mix)+b)+1)<=(9223372036854775807:Int))) <|
  M.grd (decide ((0:Int)<=(((5*s_mix)+b)+1))&&decide ((0:Int)<251)) <|
  M.grd (decide ((-9223372036854775808:Int)<=(s_used+1))&&decide ((s_used+1)<=(9223372036854775807:Int))) <|
  bif decide (256<n) then (
  M.grd (decide ((-9223372036854775808:Int)<=(256*b))&&decide ((256*b)<=(9223372036854775807:Int))) <|
  M.grd (decide ((-9223372036854775808:Int)<=((256*b)+((((5*s_mix)+b)+1) % 251)))&&decide (((256*b)+((((5*s_mix)+b)+1) % 251))<=(9223372036854775807:Int))) <|
  M.grd (decide ((0:Int)<=((256*b)+((((5*s_mix)+b)+1) % 251)))&&decide ((0:Int)<n)) <|
  M.pure ((((256*b)+((((5*s_mix)+b)+1) % 251)) % n),(s_used+1),((((5*s_mix)+b)+1) % 251)))
  else (
  M.grd (decide ((0:Int)<=b)&&decide ((0:Int)<n)) <|
  M.pure ((b % n),(s_used+1),((((5*s_mix)+b)+1) % 251)))
def zac (s_bytes:List UInt8) (s_used s_mix n:Int):M (Int × Int × Int) :=
  bif ((decide (n<2))||((s_bytes.length:Int)==0)) then (
  M.pure (0,s_used,s_mix))
  else (
  M.grd (decide ((0:Int)<=s_used)&&decide ((0:Int)<(s_bytes.length:Int))) <|
  M.grd (decide ((0:Int)<=(s_used % (s_bytes.length:Int)))&&decide ((s_used % (s_bytes.length:Int))<(s_bytes.length:Int))) <|
  M.grd (decide ((0:Int)<=((s_bytes.getD (Int.toNat (s_used % (s_bytes.length:Int))) 0).toNat:Int))&&decide (((s_bytes.getD (Int.toNat (s_used % (s_bytes.length:Int))) 0).toNat:Int)<(256:Int))) <|
  bif decide ((s_bytes.length:Int)<=s_used) then (
  M.grd (decide ((-9223372036854775808:Int)<=(11*s_mix))&&decide ((11*s_mix)<=(9223372036854775807:Int))) <|
  M.grd (decide (0<=s_used)&&decide (s_used<=(9223372036854775807:Int))&&decide ((0:Int)<(s_bytes.length:Int))) <|
  M.grd (decide ((-9223372036854775808:Int)<=((11*s_mix)+(s_used / (s_bytes.length:Int))))&&decide (((11*s_mix)+(s_used / (s_bytes.length:Int)))<=(9223372036854775807:Int))) <|
  M.grd (decide ((-9223372036854775808:Int)<=(((s_bytes.getD (Int.toNat (s_used % (s_bytes.length:Int))) 0).toNat:Int)+((11*s_mix)+(s_used / (s_bytes.length:Int)))))&&decide ((((s_bytes.getD (Int.toNat (s_used % (s_bytes.length:Int))) 0).toNat:Int)+((11*s_mix)+(s_used / (s_bytes.length:Int))))<=(9223372036854775807:Int))) <|
  zbP s_used s_mix n (((s_bytes.getD (Int.toNat (s_used % (s_bytes.length:Int))) 0).toNat:Int)+((11*s_mix)+(s_used / (s_bytes.length:Int)))))
  else (
  zbP s_used s_mix n ((s_bytes.getD (Int.toNat (s_used % (s_bytes.length:Int))) 0).toNat:Int)))
theorem zad {R:List Chunk} {aa:Nat} {ak:Cells} {ac:Value} (s_bytes:List UInt8) (s_used:Int) (s_mix:Int) (n:Int) (al:Reads R ak) (ah:Sl ak ac s_bytes) {r:(Int × Int × Int)} (hM:(zac s_bytes s_used s_mix n).Ends r) (w:World) (H:St w w [cBlk aa [ac,I s_used,I s_mix] 72] R):Ret Tryz.prog 13 #[Pq aa,I n] w fun v w'=>∃ (y0:Int) (y1:Int) (y2:Int),(y0,y1,y2)=r/\v=I y0/\St w w' [cBlk aa [ac,I y1,I y2] 72] R:=by
 refine ret_of_W Tryz.func13 rfl rfl rfl ?_
 have am:=(ah).len_le
 refine kg 18 ?_
 refine W.cond ((decide (n<2))||((s_bytes.length:Int)==0)) rfl (fun aj=>?_) (fun aj=>?_)
 ·replace hM:=M.e_t hM aj;refine kg 4 ?_;refine W.ret ?_
  have ai:=M.e_pure hM
  exact ⟨_,resE_tmp rfl,⟨0,s_used,s_mix,ai,rfl,H⟩⟩
 replace hM:=M.e_f hM aj;refine kg 2 ?_;refine W.draw (fun W=>St w W [cBlk aa [ac,I s_used,I s_mix] 72] R) [(0,true),(1,true),(2,true),(3,true),(4,true),(5,true),(6,true),(7,true),(8,true),(9,true),(10,true),(11,true),(12,true),(13,true),(14,true),(15,true),(16,true),(17,true)] mixed (by decide +kernel) rfl ?_;intro ao ab;replace H:=H.ext ab;clear ab
 refine ⟨(H.pk [0]),?_⟩
 have ap:=(ah).len_le
 obtain ⟨aq,hM⟩:=M.e_gd hM;refine kg 13 ?_;refine d_q rfl (fun w' H=>x_rem' (a:=s_used) (b:=(s_bytes.length:Int)) rfl rfl (by omega)) ?_;obtain ⟨ar,hM⟩:=M.e_gd hM;refine kg 1 ?_;refine d_q rfl (fun w' H=>x_ld (v:=.int .u8 (((s_bytes.getD (Int.toNat (s_used % (s_bytes.length:Int))) 0).toNat:Int))) rfl (ld_sc Sc5 (At.mono (UInt8_at ah (i:=s_used % (s_bytes.length:Int)) (by omega) (by omega)) (al.at H)))) ?_;obtain ⟨au,hM⟩:=M.e_gd hM;refine d_q rfl (fun w' H=>x_conv64 (kd:=.u8) (a:=((s_bytes.getD (Int.toNat (s_used % (s_bytes.length:Int))) 0).toNat:Int)) Tryz.underlying5 Tryz.underlying3 rfl (by omega)) ?_;refine kg 2 ?_;refine W.seqJ (fun σ W=>∃ (b:Int) (ρ:Env),σ=upds ρ [(0,Pq aa),(1,I n),(5,I b)]/\(zbP s_used s_mix n b).Ends r/\St w W [cBlk aa [ac,I s_used,I s_mix] 72] R) ?_ ?_
 ·skip
  refine W.seq ?_;refine W.draw (fun W=>St w W [cBlk aa [ac,I s_used,I s_mix] 72] R) [(0,true),(1,true),(2,true),(3,true),(4,true),(5,true),(6,true),(7,true),(8,true),(9,true)] mixed (by decide +kernel) rfl ?_;intro av ab;replace H:=H.ext ab;clear ab
  refine ⟨(H.pk [0]),?_⟩
  have aw:=(ah).len_le
  refine kg 11 ?_
  refine W.cond (decide ((s_bytes.length:Int)<=s_used)) rfl (fun ae=>?_) (fun ae=>?_)
  ·replace hM:=M.e_t hM ae
   replace ae:=dI ae
   refine W.draw (fun W=>St w W [cBlk aa [ac,I s_used,I s_mix] 72] R) [(0,true),(1,true),(2,true),(3,true),(4,true),(5,true),(6,true),(7,true),(8,true),(9,true),(10,true),(11,true),(12,true),(13,true),(14,true),(15,true),(16,true),(17,true),(18,true)] mixed (by decide +kernel) rfl ?_;intro ax ab;replace H:=H.ext ab;clear ab
   refine ⟨(H.pk [0]),?_⟩
   obtain ⟨ay,hM⟩:=M.e_gd hM
   have az:=(ah).len_le
   obtain ⟨aA,hM⟩:=M.e_gd hM;obtain ⟨aB,hM⟩:=M.e_gd hM;obtain ⟨aC,hM⟩:=M.e_gd hM;refine kg 20 ?_
   exact ⟨((s_bytes.getD (Int.toNat (s_used % (s_bytes.length:Int))) 0).toNat:Int)+((11*s_mix)+(s_used / (s_bytes.length:Int))),_,upds_of _ _ ⟨rfl,rfl,rfl,trivial⟩,hM,H⟩
  replace hM:=M.e_f hM ae
  replace ae:=dI ae
  refine W.skip ?_
  exact ⟨((s_bytes.getD (Int.toNat (s_used % (s_bytes.length:Int))) 0).toNat:Int),_,upds_of _ _ ⟨rfl,rfl,rfl,trivial⟩,hM,H⟩
 rintro _ aD ⟨b,ρ,rfl,hM,H⟩
 unfold zbP at hM
 obtain ⟨aE,hM⟩:=M.e_gd hM;obtain ⟨aF,hM⟩:=M.e_gd hM;obtain ⟨aG,hM⟩:=M.e_gd hM;obtain ⟨aH,hM⟩:=M.e_gd hM;refine kg 11 ?_;refine s_val (x_rem' (a:=((5*s_mix)+b)+1) (b:=251) rfl rfl (by omega)) ?_;refine kg 2 ?_;refine t_sw 0 2 [I ((((5*s_mix)+b)+1) % 251)] (I ((((5*s_mix)+b)+1) % 251)) H rfl rfl Sz3 rfl rfl rfl rfl ?_;intro aI H;obtain ⟨aJ,hM⟩:=M.e_gd hM;refine kg 10 ?_;refine t_sw 0 1 [I (s_used+1)] (I (s_used+1)) H rfl rfl Sz3 rfl rfl rfl rfl ?_;intro aK H;refine kg 7 ?_
 refine W.cond (decide (256<n)) rfl (fun ag=>?_) (fun ag=>?_)
 ·replace hM:=M.e_t hM ag
  replace ag:=dI ag
  obtain ⟨aL,hM⟩:=M.e_gd hM;obtain ⟨aM,hM⟩:=M.e_gd hM;obtain ⟨aN,hM⟩:=M.e_gd hM;refine kg 14 ?_;refine s_val (x_rem' (a:=(256*b)+((((5*s_mix)+b)+1) % 251)) (b:=n) rfl rfl (by omega)) ?_;refine kg 2 ?_;refine W.ret ?_
  have ai:=M.e_pure hM
  exact ⟨_,resE_tmp rfl,⟨(((256*b)+((((5*s_mix)+b)+1) % 251)) % n),(s_used+1),((((5*s_mix)+b)+1) % 251),ai,rfl,H⟩⟩
 replace hM:=M.e_f hM ag
 replace ag:=dI ag
 obtain ⟨aO,hM⟩:=M.e_gd hM;refine kg 5 ?_;refine s_val (x_rem' (a:=b) (b:=n) rfl rfl (by omega)) ?_;refine kg 2 ?_;refine W.ret ?_
 have ai:=M.e_pure hM
 exact ⟨_,resE_tmp rfl,⟨(b % n),(s_used+1),((((5*s_mix)+b)+1) % 251),ai,rfl,H⟩⟩

def zag (s_bytes:List UInt8) (s_used s_mix lo hi:Int):M (Int × Int × Int) :=
  M.grd (decide ((-9223372036854775808:Int)<=(hi-lo))&&decide ((hi-lo)<=(9223372036854775807:Int))) <|
  M.grd (decide ((-9223372036854775808:Int)<=((hi-lo)+1))&&decide (((hi-lo)+1)<=(9223372036854775807:Int))) <|
  M.bind (zac s_bytes s_used s_mix ((hi-lo)+1)) fun (r2,q1,q2) =>
  M.grd (decide ((-9223372036854775808:Int)<=(lo+r2))&&decide ((lo+r2)<=(9223372036854775807:Int))) <|
  M.pure ((lo+r2),q1,q2)
theorem zah {R:List Chunk} {aa:Nat} {ac:Cells} {ab:Value} (s_bytes:List UInt8) (s_used:Int) (s_mix:Int) (lo:Int) (hi:Int) (ag:Reads R ac) (ah:Sl ac ab s_bytes) {r:(Int × Int × Int)} (hM:(zag s_bytes s_used s_mix lo hi).Ends r) (w:World) (H:St w w [cBlk aa [ab,I s_used,I s_mix] 72] R):Ret Tryz.prog 14 #[Pq aa,I lo,I hi] w fun v w'=>∃ (y0:Int) (y1:Int) (y2:Int),(y0,y1,y2)=r/\v=I y0/\St w w' [cBlk aa [ab,I y1,I y2] 72] R:=by
 refine ret_of_W Tryz.func14 rfl rfl rfl ?_;obtain ⟨ak,hM⟩:=M.e_gd hM;obtain ⟨al,hM⟩:=M.e_gd hM;refine kg 12 ?_;obtain ⟨am,ai,hM⟩:=M.e_bind hM;refine s_call cf13 [Pq aa,I ((hi-lo)+1)] rfl (zad s_bytes s_used s_mix ((hi-lo)+1) (ag.app _) ah ai _ (H.gt 0)) ?_
 rintro vq ao ⟨r2,q1,q2,rfl,hvq,ae⟩
 subst vq;(try dsimp only at hM);replace H:=H.bk ae;clear ae;obtain ⟨ap,hM⟩:=M.e_gd hM;refine kg 3 ?_;refine W.ret ?_
 have aj:=M.e_pure hM
 exact ⟨_,resE_tmp rfl,⟨(lo+r2),q1,q2,aj,rfl,H⟩⟩

end Go.Proofs.YtpiebomegbbpcaaGreat
end
section
set_option maxRecDepth 100000
set_option maxHeartbeats 16000000
namespace Go.Proofs.YtpiebomegbbpcaaGreat
open Go Go.Nm
attribute [local irreducible] gd execOp SL SLD SLT WR
def za1 (s_bytes:List UInt8):(Int × Int × Int × Int × Int × (List FRow))->M ((Int × Int × Int × Int × Int × (List FRow)) ⊕ (Int × Int × (List FRow) × (List FRow))):=fun (s2,s3,s4,carry,k,l) =>
  bif decide (0<k) then (
  M.grd (decide ((l.length+([(⟨(s4:Int),(carry:Int)⟩:FRow)]).length)*16<=140737488355328)) <|
  M.bind (zag s_bytes s2 s3 1 200) fun (r8,aa,ab) =>
  M.grd (decide ((-9223372036854775808:Int)<=(s4+r8))&&decide ((s4+r8)<=(9223372036854775807:Int))) <|
  M.bind (zac s_bytes aa ab 2000) fun (r9,ac,ae) =>
  M.grd (decide ((-9223372036854775808:Int)<=(carry+r9))&&decide ((carry+r9)<=(9223372036854775807:Int))) <|
  M.grd (decide ((-9223372036854775808:Int)<=(k-1))&&decide ((k-1)<=(9223372036854775807:Int))) <|
  M.pure (.inl (ac,ae,s4+r8,carry+r9,k-1,l++([(⟨(s4:Int),(carry:Int)⟩:FRow)]))))
  else (
  M.pure (.inr (s2,s3,l,l)))
def zaM (s_bytes:List UInt8) (marks:Int) (lies:Bool) (place stage:Int):(Int × Int × Int × (List Mrk))->M ((Int × Int × Int × (List Mrk)) ⊕ (Int × Int × (List Mrk) × (List Mrk))):=fun (ai,aj,k2,l7) =>
  bif ((decide (0<k2))&&(decide ((l7.length:Int)<marks))) then (
  M.bind (zac s_bytes ai aj 2) fun (aa,ap,aq) =>
  M.bind (zac s_bytes ap aq 20) fun (ab,ar,au) =>
  M.grd (decide ((-9223372036854775808:Int)<=(aa*ab))&&decide ((aa*ab)<=(9223372036854775807:Int))) <|
  M.grd (decide ((-9223372036854775808:Int)<=(place+(aa*ab)))&&decide ((place+(aa*ab))<=(9223372036854775807:Int))) <|
  M.bind (zac s_bytes ar au 9) fun (ac,av,aw) =>
  M.grd (decide ((-9223372036854775808:Int)<=(stage-ac))&&decide ((stage-ac)<=(9223372036854775807:Int))) <|
  M.bind (zac s_bytes av aw 9) fun (ae,ak,al) =>
  M.grd (decide ((-9223372036854775808:Int)<=(stage+ae))&&decide ((stage+ae)<=(9223372036854775807:Int))) <|
  bif lies then (
  M.bind (zac s_bytes ak al 3) fun (ax,am,ao) =>
  bif (lies&&(ax==0)) then (
  M.bind (zag s_bytes am ao 50 420) fun (ag,ay,az) =>
  M.bind (zac s_bytes ay az 9) fun (ah,aA,aB) =>
  M.grd (decide ((-9223372036854775808:Int)<=(ag+ah))&&decide ((ag+ah)<=(9223372036854775807:Int))) <|
  M.grd (decide ((l7.length+([(⟨(place+(aa*ab):Int),(ag:Int),(ag+ah:Int)⟩:Mrk)]).length)*24<=140737488355328)) <|
  M.grd (decide ((-9223372036854775808:Int)<=(k2-1))&&decide ((k2-1)<=(9223372036854775807:Int))) <|
  M.pure (.inl (aA,aB,k2-1,l7++([(⟨(place+(aa*ab):Int),(ag:Int),(ag+ah:Int)⟩:Mrk)]))))
  else (
  M.grd (decide ((l7.length+([(⟨(place+(aa*ab):Int),(max 0 (stage-ac):Int),(stage+ae:Int)⟩:Mrk)]).length)*24<=140737488355328)) <|
  M.grd (decide ((-9223372036854775808:Int)<=(k2-1))&&decide ((k2-1)<=(9223372036854775807:Int))) <|
  M.pure (.inl (am,ao,k2-1,l7++([(⟨(place+(aa*ab):Int),(max 0 (stage-ac):Int),(stage+ae:Int)⟩:Mrk)])))))
  else (
  M.grd (decide ((l7.length+([(⟨(place+(aa*ab):Int),(max 0 (stage-ac):Int),(stage+ae:Int)⟩:Mrk)]).length)*24<=140737488355328)) <|
  M.grd (decide ((-9223372036854775808:Int)<=(k2-1))&&decide ((k2-1)<=(9223372036854775807:Int))) <|
  M.pure (.inl (ak,al,k2-1,l7++([(⟨(place+(aa*ab):Int),(max 0 (stage-ac):Int),(stage+ae:Int)⟩:Mrk)])))))
  else (
  M.pure (.inr (ai,aj,l7,l7)))
def zbv (s_bytes:List UInt8) (marks:Int) (lies:Bool) (place stage n:Int) (l9:List Sect) (ac:List Mrk) (ae ag:List Int) (l3:List FRow) (ah ai aj:Int):M ((Int × Int × Int × Int × Int × (List Sect) × (List Mrk) × (List Int) × (List Int)) ⊕ (Int × Int × (List Sect) × (List Mrk) × (List Int) × (List Int) × (List Int) × (List Int) × (List Mrk) × (List Sect))) :=
  M.bind (zac s_bytes ai aj 3) fun (ak,al,am) =>
  M.bind (M.iter (zaM s_bytes marks lies place stage) (al,am,ak,ac)) fun (ao,ap,l5,l8) =>
  M.bind (zag s_bytes ao ap 21 200) fun (aa,aq,ar) =>
  M.grd (decide ((-9223372036854775808:Int)<=(place+aa))&&decide ((place+aa)<=(9223372036854775807:Int))) <|
  M.bind (zac s_bytes aq ar 20) fun (ab,au,av) =>
  M.grd (decide ((-9223372036854775808:Int)<=(stage-ab))&&decide ((stage-ab)<=(9223372036854775807:Int))) <|
  M.grd (decide ((-9223372036854775808:Int)<=(n-1))&&decide ((n-1)<=(9223372036854775807:Int))) <|
  M.pure (.inl (au,av,place+aa,stage-ab,n-1,l9++([(⟨(place:Int),l3⟩:Sect)]),l8,ae++([(stage:Int)]),ag++([(ah:Int)])))
def zaO (s_bytes:List UInt8) (marks:Int) (lies:Bool):(Int × Int × Int × Int × Int × (List Sect) × (List Mrk) × (List Int) × (List Int))->M ((Int × Int × Int × Int × Int × (List Sect) × (List Mrk) × (List Int) × (List Int)) ⊕ (Int × Int × (List Sect) × (List Mrk) × (List Int) × (List Int) × (List Int) × (List Int) × (List Mrk) × (List Sect))):=fun (ae,ag,place,stage,n,l9,ac,aa,ab) =>
  bif decide (0<n) then (
  M.bind (zac s_bytes ae ag 60) fun (r5,ai,aj) =>
  M.bind (zac s_bytes ai aj 50) fun (r6,ak,al) =>
  M.bind (zag s_bytes ak al 2 4) fun (r7,am,ao) =>
  M.bind (M.iter (za1 s_bytes) (am,ao,r5,r6,r7,[])) fun (s5,s6,l2,l3) =>
  M.grd (decide ((l9.length+([(⟨(place:Int),l3⟩:Sect)]).length)*32<=140737488355328)) <|
  M.grd (decide ((aa.length+([(stage:Int)]).length)*8<=140737488355328)) <|
  M.bind (zag s_bytes s5 s6 30 90) fun (ah,ap,aq) =>
  M.grd (decide ((ab.length+([(ah:Int)]).length)*8<=140737488355328)) <|
  zbv s_bytes marks lies place stage n l9 ac aa ab l3 ah ap aq)
  else (
  M.pure (.inr (ae,ag,l9,ac,aa,ab,ab,aa,ac,l9)))
def zaK (s_bytes:List UInt8) (ab:List Int) (ae:List Sect):(Int × Int × Int × (List Rch))->M ((Int × Int × Int × (List Rch)) ⊕ ((List Rch) × (List Rch) × Int × Int)):=fun (aj,ak,n2,ag) =>
  bif decide (0<n2) then (
  M.bind (zac s_bytes aj ak ((ae.length:Int)-1)) fun (aa,am,ao) =>
  M.bind (zac s_bytes am ao 4) fun (al,ap,aq) =>
  M.grd (decide ((-9223372036854775808:Int)<=(((ae.length:Int)-1)-aa))&&decide ((((ae.length:Int)-1)-aa)<=(9223372036854775807:Int))) <|
  M.bind (zag s_bytes ap aq 1 (((ae.length:Int)-1)-aa)) fun (ac,ar,au) =>
  M.grd (decide ((-9223372036854775808:Int)<=(aa+ac))&&decide ((aa+ac)<=(9223372036854775807:Int))) <|
  M.grd (decide ((0:Int)<=aa)&&decide (aa<(ab.length:Int))) <|
  M.grd (decide ((0:Int)<=(aa+ac))&&decide ((aa+ac)<(ab.length:Int))) <|
  M.bind (zac s_bytes ar au 8) fun (ah,av,aw) =>
  M.grd (decide ((-9223372036854775808:Int)<=((min (ab.getD (Int.toNat aa) 0) (ab.getD (Int.toNat (aa+ac)) 0))-ah))&&decide (((min (ab.getD (Int.toNat aa) 0) (ab.getD (Int.toNat (aa+ac)) 0))-ah)<=(9223372036854775807:Int))) <|
  M.bind (zac s_bytes av aw 8) fun (ai,ax,ay) =>
  M.grd (decide ((-9223372036854775808:Int)<=((max (ab.getD (Int.toNat aa) 0) (ab.getD (Int.toNat (aa+ac)) 0))+ai))&&decide (((max (ab.getD (Int.toNat aa) 0) (ab.getD (Int.toNat (aa+ac)) 0))+ai)<=(9223372036854775807:Int))) <|
  M.grd (decide ((ag.length+([(⟨(aa:Int),(aa+ac:Int),((min (ab.getD (Int.toNat aa) 0) (ab.getD (Int.toNat (aa+ac)) 0))-ah:Int),((max (ab.getD (Int.toNat aa) 0) (ab.getD (Int.toNat (aa+ac)) 0))+ai:Int),(al==0)⟩:Rch)]).length)*40<=140737488355328)) <|
  M.grd (decide ((-9223372036854775808:Int)<=(n2-1))&&decide ((n2-1)<=(9223372036854775807:Int))) <|
  M.pure (.inl (ax,ay,n2-1,ag++([(⟨(aa:Int),(aa+ac:Int),((min (ab.getD (Int.toNat aa) 0) (ab.getD (Int.toNat (aa+ac)) 0))-ah:Int),((max (ab.getD (Int.toNat aa) 0) (ab.getD (Int.toNat (aa+ac)) 0))+ai:Int),(al==0)⟩:Rch)]))))
  else (
  M.pure (.inr (ag,ag,aj,ak)))
def zaB (s_bytes:List UInt8) (ac ae:Int) (aa ag:List Int) (ab:List Sect) (ah:List Mrk):M ((List Sect) × (List Mrk) × (List Rch) × (List Int) × (List Int) × Int × Int) :=
  M.bind (zag s_bytes ac ae 1 4) fun (ai,aj,ak) =>
  M.bind (M.iter (zaK s_bytes aa ab) (aj,ak,ai,[])) fun (ap,al,am,ao) =>
  M.pure (ab,ah,al,ag,aa,am,ao)
def zbK (s_bytes:List UInt8) (s_used s_mix marks:Int) (lies:Bool):M ((List Sect) × (List Mrk) × (List Rch) × (List Int) × (List Int) × Int × Int) :=
  M.bind (zac s_bytes s_used s_mix 50) fun (r2,q1,q2) =>
  M.bind (zag s_bytes q1 q2 100 400) fun (r3,ai,aj) =>
  M.bind (zag s_bytes ai aj 2 5) fun (r4,ak,al) =>
  M.bind (M.iter (zaO s_bytes marks lies) (ak,al,r2,r3,r4,[],[],[],[])) fun (ae,ag,am,ao,ap,aq,ah,aa,ac,ab) =>
  bif (ac.length:Int)==0 then (
  M.grd (decide (0<(ab.length:Int))) <|
  M.grd (decide (0<(aa.length:Int))) <|
  M.grd (decide ((-9223372036854775808:Int)<=((aa.getD 0 0)-5))&&decide (((aa.getD 0 0)-5)<=(9223372036854775807:Int))) <|
  M.grd (decide ((-9223372036854775808:Int)<=((aa.getD 0 0)+5))&&decide (((aa.getD 0 0)+5)<=(9223372036854775807:Int))) <|
  M.grd (decide ((ac.length+([(⟨((ab.getD 0 default).place:Int),((aa.getD 0 0)-5:Int),((aa.getD 0 0)+5:Int)⟩:Mrk)]).length)*24<=140737488355328)) <|
  zaB s_bytes ae ag ah aa ab (ac++([(⟨((ab.getD 0 default).place:Int),((aa.getD 0 0)-5:Int),((aa.getD 0 0)+5:Int)⟩:Mrk)])))
  else (
  zaB s_bytes ae ag ah aa ab ac)
theorem zdJ {R:List Chunk} {ag:Nat} {b7:Cells} {aJ:Value} (s_bytes:List UInt8) (s_used:Int) (s_mix:Int) (marks:Int) (lies:Bool) (al:Reads R b7) (am:Sl b7 aJ s_bytes) {r:((List Sect) × (List Mrk) × (List Rch) × (List Int) × (List Int) × Int × Int)} (hM:(zbK s_bytes s_used s_mix marks lies).Ends r) (w:World) (H:St w w [cBlk ag [aJ,I s_used,I s_mix] 72] R):Ret Tryz.prog 4 #[Pq ag,I marks,B lies] w fun v w'=>∃ (y0:List Sect) (y1:List Mrk) (y2:List Rch) (y3:List Int) (y4:List Int) (y5:Int) (y6:Int) (u0:Value) (rr1:List (Raw 1)) (b8:Base) (u3:Value) (u4:Value) (u5:Value) (u6:Value),(y0,y1,y2,y3,y4,y5,y6)=r/\v = .tuple #[.agg #[u0,u3,u4],.agg #[u5,u6]]/\St w w' [cOwn (α:=Raw 1) 64 u0 rr1,cRo b8,cOwn (α:=Mrk) 68 u3 y1,cOwn (α:=Rch) 70 u4 y2,cOwn (α:=Int) 3 u5 y3,cOwn (α:=Int) 3 u6 y4,cBlk ag [aJ,I y5,I y6] 72] R/\RepR (α:=Sect) b8.cells rr1 y0:=by
 refine ret_of_W Tryz.func4 rfl rfl rfl ?_;refine kg 2 ?_;refine t_alloc (cs:=[.slice none 0 0,.slice none 0 0,.slice none 0 0]) H Al27 rfl ?_;intro aA eR H;refine t_alloc (cs:=[.slice none 0 0,.slice none 0 0]) H Al30 rfl ?_;intro aB eS H;refine kg 3 ?_;refine t_alloc (cs:=[.slice none 0 0,.slice none 0 0,.slice none 0 0]) H Al27 rfl ?_;intro ao eT H;refine kg 3 ?_;refine t_alloc (cs:=[.slice none 0 0,.slice none 0 0]) H Al30 rfl ?_;intro au eU H;refine kg 4 ?_;obtain ⟨eV,cG,hM⟩:=M.e_bind hM;refine s_call cf13 [Pq ag,I 50] rfl (zad s_bytes s_used s_mix 50 (al.app _) am cG _ ((H.pk [4,0,1,2,3]).gt 4)) ?_
 rintro vq eW ⟨r2,q1,q2,rfl,hvq,aa⟩
 subst vq;(try dsimp only at hM)
 replace H:=H.pk [4,0,1,2,3] |>.bk aa
 clear aa;refine kg 1 ?_;obtain ⟨eX,cH,hM⟩:=M.e_bind hM;refine s_call cf14 [Pq ag,I 100,I 400] rfl (zah s_bytes q1 q2 100 400 (al.app _) am cH _ (H.gt 4)) ?_
 rintro vq eY ⟨r3,cI,cJ,rfl,hvq,aa⟩
 subst vq;(try dsimp only at hM);replace H:=H.bk aa;clear aa;refine kg 7 ?_;obtain ⟨eZ,cK,hM⟩:=M.e_bind hM;refine s_call cf14 [Pq ag,I 2,I 5] rfl (zah s_bytes cI cJ 2 5 (al.app _) am cK _ (H.gt 4)) ?_
 rintro vq e5 ⟨r4,cL,cM,rfl,hvq,aa⟩
 subst vq;(try dsimp only at hM);replace H:=H.bk aa;clear aa;refine kg 3 ?_
 obtain ⟨b9,H⟩:=H.emptyE
 replace H:=H.nilOwn (α:=Raw 1) 64
 have cN:RepR (α:=Sect) (n:=1) b9.cells [] []:=.nil
 replace H:=H.nilOwn (α:=Mrk) 68
 replace H:=H.nilOwn (α:=Int) 3
 replace H:=H.nilOwn (α:=Int) 3
 obtain ⟨cO,bC,cP⟩:=M.e_bind hM
 obtain ⟨bD,bC⟩:=M.e_iter bC
 refine W.loop (fun m σ W=>∃ (aT:Int) (aU:Int) (place:Int) (stage:Int) (n:Int) (l9:List Sect) (aF:List Mrk) (ae:List Int) (ac:List Int) (ai:Value) (aG:Value) (aj:Value) (ap:Value) (ax:List (Raw 1)) (B_l9:Base) (ρ:Env),σ=upds ρ [(0,Pq ag),(1,I marks),(2,B lies),(6,Pq aA),(7,Pq aB),(8,Pq ao),(9,Pq au),(10,I place),(11,I stage),(12,I n)]/\M.iterN (zaO s_bytes marks lies) m (aT,aU,place,stage,n,l9,aF,ae,ac)=some cO/\St w W [cOwn (α:=Int) 3 ap ac,cOwn (α:=Int) 3 aj ae,cOwn (α:=Mrk) 68 aG aF,cOwn (α:=Raw 1) 64 ai ax,cRo B_l9,cBlk ag [aJ,I aT,I aU] 72,cBlk au [aj,ap] 30,cBlk ao [ai,aG,.slice none 0 0] 27,cBlk aB [.slice none 0 0,.slice none 0 0] 30,cBlk aA [.slice none 0 0,.slice none 0 0,.slice none 0 0] 27] R/\RepR (α:=Sect) B_l9.cells ax l9) ?_ ?_
 ·exact ⟨_,cL,cM,r2,r3,r4,[],[],[],[],(.slice none 0 0),(.slice none 0 0),(.slice none 0 0),(.slice none 0 0),[],b9,_,upds_of _ _ ⟨rfl,rfl,rfl,rfl,rfl,rfl,rfl,rfl,rfl,rfl,trivial⟩,bC,H,cN⟩
 rintro e6 σ e7 ⟨aT,aU,place,stage,n,l9,aF,ae,ac,ai,aG,aj,ap,ax,B_l9,ρ,rfl,cb,H,aw⟩
 obtain ⟨cQ,cR,cS,hM,cc⟩:=M.e_iterN cb
 simp only [zaO] at hM
 clear cb;refine kg 6 ?_
 refine W.cond (decide (0<n)) rfl (fun a6=>?_) (fun a6=>?_)
 ·replace hM:=M.e_t hM a6
  replace a6:=dI a6
  refine kg 6 ?_;refine s_val (x_bld (ps:=[(0,I place)]) (zs:=[I 0,.slice none 0 0]) (L':=[I place,.slice none 0 0]) rfl Tryz.underlying64 Al64 rfl (Bd64 Tryz.underlying64) (.cons (cs:=[I place]) rfl rfl rfl rfl rfl<|.nil)) ?_;refine t_alloc (cs:=[I 0,.slice none 0 0]) H Al64 rfl ?_;intro br e8 H;refine t_sw 0 0 [I place,.slice none 0 0] (.agg #[I place,.slice none 0 0]) H rfl rfl Sz64 rfl rfl rfl rfl ?_;intro e9 H;refine kg 4 ?_;obtain ⟨fa,cT,hM⟩:=M.e_bind hM;refine s_call cf13 [Pq ag,I 60] rfl (zad s_bytes aT aU 60 (al.app _) am cT _ ((H.pk [6,0,1,2,3,4,5,7,8,9,10]).gt 10)) ?_
  rintro vq fb ⟨r5,cU,cV,rfl,hvq,aa⟩
  subst vq;(try dsimp only at hM)
  replace H:=H.pk [6,0,1,2,3,4,5,7,8,9,10] |>.bk aa
  clear aa;refine kg 1 ?_;obtain ⟨fd,cW,hM⟩:=M.e_bind hM;refine s_call cf13 [Pq ag,I 50] rfl (zad s_bytes cU cV 50 (al.app _) am cW _ (H.gt 10)) ?_
  rintro vq ff ⟨r6,cX,cY,rfl,hvq,aa⟩
  subst vq;(try dsimp only at hM);replace H:=H.bk aa;clear aa;refine kg 7 ?_;obtain ⟨fg,cZ,hM⟩:=M.e_bind hM;refine s_call cf14 [Pq ag,I 2,I 4] rfl (zah s_bytes cX cY 2 4 (al.app _) am cZ _ (H.gt 10)) ?_
  rintro vq fh ⟨r7,c3,c4,rfl,hvq,aa⟩
  subst vq;(try dsimp only at hM);replace H:=H.bk aa;clear aa;refine kg 3 ?_
  replace H:=H.nilOwn (α:=FRow) 66
  obtain ⟨c5,bE,c6⟩:=M.e_bind hM
  obtain ⟨bD,bE⟩:=M.e_iter bE
  refine W.loop (fun m σ W=>∃ (s2:Int) (s3:Int) (s4:Int) (carry:Int) (k:Int) (l:List FRow) (aH:Value) (ρ:Env),σ=upds ρ [(0,Pq ag),(1,I marks),(2,B lies),(6,Pq aA),(7,Pq aB),(8,Pq ao),(9,Pq au),(10,I place),(11,I stage),(12,I n),(13,Pq br),(14,I s4),(15,I carry),(16,I k)]/\M.iterN (za1 s_bytes) m (s2,s3,s4,carry,k,l)=some c5/\St w W [cOwn (α:=FRow) 66 aH l,cBlk ag [aJ,I s2,I s3] 72,cBlk br [I place,aH] 64,cOwn (α:=Int) 3 ap ac,cOwn (α:=Int) 3 aj ae,cOwn (α:=Mrk) 68 aG aF,cOwn (α:=Raw 1) 64 ai ax,cRo B_l9,cBlk au [aj,ap] 30,cBlk ao [ai,aG,.slice none 0 0] 27,cBlk aB [.slice none 0 0,.slice none 0 0] 30,cBlk aA [.slice none 0 0,.slice none 0 0,.slice none 0 0] 27] R) ?_ ?_
  ·exact ⟨_,c3,c4,r5,r6,r7,[],(.slice none 0 0),_,upds_of _ _ ⟨rfl,rfl,rfl,rfl,rfl,rfl,rfl,rfl,rfl,rfl,rfl,rfl,rfl,rfl,trivial⟩,bE,H⟩
  rintro fi σ fj ⟨s2,s3,s4,carry,k,l,aH,ρ,rfl,cd,H⟩
  obtain ⟨c7,c8,fk,hM,ce⟩:=M.e_iterN cd
  simp only [za1] at hM
  clear cd;refine kg 6 ?_
  refine W.cond (decide (0<k)) rfl (fun a7=>?_) (fun a7=>?_)
  ·replace hM:=M.e_t hM a7
   replace a7:=dI a7
   refine kg 9 ?_;refine s_val (x_bld (ps:=[(0,I s4),(1,I carry)]) (zs:=[I 0,I 0]) (L':=[I s4,I carry]) rfl Tryz.underlying66 Al66 rfl (Bd66 Tryz.underlying66) (.cons (cs:=[I s4]) rfl rfl rfl rfl rfl<|.cons (cs:=[I carry]) rfl rfl rfl rfl rfl<|.nil)) ?_;refine t_bs (α:=FRow) T62 [.agg #[I s4,I carry]] [(⟨(s4:Int),(carry:Int)⟩:FRow)] H rfl (.cons rfl (Flat.rep_enc _ (⟨(s4:Int),(carry:Int)⟩:FRow))<|.nil) rfl rfl rfl ?_;intro c9 fm H;obtain ⟨fo,hM⟩:=M.e_gd hM;refine t_app (α:=FRow) (k:=1) (l:=l) (l2:=[(⟨(s4:Int),(carry:Int)⟩:FRow)]) (l':=l++([(⟨(s4:Int),(carry:Int)⟩:FRow)])) (vy:=c9) T62 rfl H rfl rfl rfl (H.os 0) (H.ol 0) (rfl) (by first | omega | (simp only [List.length_nil] at *; omega)) ?_;intro bF fp H;replace H:=H.nf;refine kg 1 ?_;refine t_sw 3 1 [bF] bF H rfl rfl Sz62 (Sl.cells (H.os 1)) rfl rfl (by simp only [List.all_cons,List.all_nil,Bool.true_and,Bool.and_true,Sl.oc (H.os 1)]; try rfl) ?_;intro fq H;refine kg 4 ?_;obtain ⟨fu,da,hM⟩:=M.e_bind hM;refine s_call cf14 [Pq ag,I 1,I 200] rfl (zah s_bytes s2 s3 1 200 (al.app _) am da _ ((H.pk [2,0,1,3,4,5,6,7,8,9,10,11,12]).gt 12)) ?_
   rintro vq fv ⟨r8,db,dc,rfl,hvq,aa⟩
   subst vq;(try dsimp only at hM)
   replace H:=H.pk [2,0,1,3,4,5,6,7,8,9,10,11,12] |>.bk aa
   clear aa;obtain ⟨fw,hM⟩:=M.e_gd hM;refine kg 3 ?_;obtain ⟨fx,dg,hM⟩:=M.e_bind hM;refine s_call cf13 [Pq ag,I 2000] rfl (zad s_bytes db dc 2000 (al.app _) am dg _ (H.gt 12)) ?_
   rintro vq fy ⟨r9,dh,di,rfl,hvq,aa⟩
   subst vq;(try dsimp only at hM);replace H:=H.bk aa;clear aa;obtain ⟨fA,hM⟩:=M.e_gd hM;obtain ⟨fB,hM⟩:=M.e_gd hM;refine kg 9 ?_
   exact ⟨c7,c8,dh,di,s4+r8,carry+r9,k-1,l++([(⟨(s4:Int),(carry:Int)⟩:FRow)]),bF,_,upds_of _ _ ⟨rfl,rfl,rfl,rfl,rfl,rfl,rfl,rfl,rfl,rfl,rfl,rfl,rfl,rfl,trivial⟩,M.e_inl hM ce,(H.pk [2,0,3,4,5,6,7,8,9,10,11,12])⟩
  replace hM:=M.e_f hM a7
  replace a7:=dI a7
  refine W.exit ?_
  have dj:=M.e_inr hM ce
  subst dj;replace hM:=c6;(try dsimp only at hM);refine W.seqJ (fun σ W=>∃ (ak:Int) (aO:Int) (aP:Int) (cf:Value) (cg:Value) (aK:Base) (ch:Value) (bG:List (Raw 1)) (aQ:Base) (a8:Base) (ba:Base) (aV:Value) (aW:Value) (aX:Value) (bf:List (Raw 1)) (ρ:Env),σ=upds ρ [(0,Pq ag),(1,I marks),(2,B lies),(6,Pq aA),(7,Pq aB),(8,Pq ao),(9,Pq au),(10,I place),(11,I stage),(12,I n)]/\(zbv s_bytes marks lies place stage n l9 aF ae ac l ak aO aP).Ends cS/\St w W [cOwn (α:=Int) 3 cf ([(ak:Int)]),cBlk ag [aJ,I aO,I aP] 72,cOwn (α:=Int) 3 cg ([(stage:Int)]),cRo aK,cOwn (α:=Raw 1) 64 ch bG,cRo aQ,cRo a8,cRo ba,cBlk br [I place,aH] 64,cOwn (α:=Int) 3 aV (ac++([(ak:Int)])),cOwn (α:=Int) 3 aW (ae++([(stage:Int)])),cOwn (α:=Mrk) 68 aG aF,cOwn (α:=Raw 1) 64 aX bf,cRo B_l9,cBlk au [aW,aV] 30,cBlk ao [aX,aG,.slice none 0 0] 27,cBlk aB [.slice none 0 0,.slice none 0 0] 30,cBlk aA [.slice none 0 0,.slice none 0 0,.slice none 0 0] 27] R/\RepR (α:=Sect) aQ.cells bG ([(⟨(place:Int),l⟩:Sect)])/\RepR (α:=Sect) aK.cells bf (l9++([(⟨(place:Int),l⟩:Sect)]))) ?_ ?_
  ·skip
   refine W.drawTS (fun W=>St w W [cBlk br [I place,aH] 64,cOwn (α:=Mrk) 68 aG aF,cRo B_l9,cBlk au [aj,ap] 30,cBlk ao [ai,aG,.slice none 0 0] 27,cBlk aB [.slice none 0 0,.slice none 0 0] 30,cBlk aA [.slice none 0 0,.slice none 0 0,.slice none 0 0] 27] R) (.q 0 (.q 1 (.q 2 (.q 5 (.q 6 (.q 7 (.q 10 (.q 11 (.q 12 (.l2 3 (.l2 4 (.q 16 (.l 8 (.l 9 (.l 13 (.l 14 (.l 15 .nil)))))) 8 (.l 4 (.q 16 (.l 9 (.l 13 (.l 14 (.l 15 .nil))))))) 8 (.l 3 (.l 4 (.q 16 (.l 9 (.l 13 (.l 14 (.l 15 .nil))))))))))))))))) 17 [17,18,19,20,21] mixed (by decide +kernel) rfl ?_;intro fC aC;replace H:=H.ext aC;clear aC
   refine ⟨(H.pk [2,5,7,8,9,10,11]),?_⟩
   refine ts_q rfl (fun w' H=>x_fa (v:=Pq ao) rfl (fa_blk (o:=0) Fd27_0 Sz23)) ?_;refine ts_q rfl (fun w' H=>x_ld (v:=ai) rfl (ldb_sc Sc23 (H.bl 4) rfl)) ?_;refine ts_q rfl (fun w' H=>x_ld (v:=.agg #[I place,aH]) rfl (ldb_ag (ds:=[I place,aH]) Ag64 Sz64 (H.bl 0) rfl rfl)) ?_;refine ts_q rfl (fun w' H=>x_fa (v:=Pq au) rfl (fa_blk (o:=0) Fd30_0 Sz28)) ?_;refine ts_q rfl (fun w' H=>x_ld (v:=aj) rfl (ldb_sc Sc28 (H.bl 3) rfl)) ?_;refine ts_q rfl (fun w' H=>x_mv (v:=I stage) rfl) ?_;refine ts_q rfl (fun w' H=>x_fa (v:=Oq au 1) rfl (fa_blk (o:=0) Fd30_1 Sz28)) ?_;refine ts_q rfl (fun w' H=>x_ld (v:=ap) rfl (ldb_sc Sc28 (H.bl 3) rfl)) ?_;refine ts_q rfl (fun w' H=>x_mv (v:=Pq ag) rfl) ?_;refine ts_l2 rfl rfl ?_ ?_
   ·skip
    obtain ⟨a8,H⟩:=H.emptyE
    obtain ⟨ba,H,dk⟩:=H.freezeE (k:=1) rfl
    replace H:=H.nf
    have bt:=dk
    obtain ⟨aQ,H,fD,dl⟩:=H.joinE (i:=0) (j:=1) rfl rfl
    replace bt:=bt.mono dl
    obtain ⟨aL,ci⟩:∃ r:Raw 1,r.cs=[I place,aH]:=⟨Raw.of [I place,aH] rfl (by simp only [List.all_cons,List.all_nil,Bool.true_and,Bool.and_true,Sl.oc bt]; try rfl),rfl⟩
    have bu:RepR (α:=Sect) aQ.cells [aL] [(⟨(place:Int),l⟩:Sect)]:=.cons (by rw [ci]; exact ⟨_,rfl,bt⟩)<|.nil
    refine t_bs (α:=Raw 1) T23 [.agg #[I place,aH]] [aL] H rfl (.cons (by rw [show (Flat.enc aL:List Value)=aL.cs from rfl,ci]; rfl) (Flat.rep_enc _ _)<|.nil) rfl rfl rfl ?_;intro bv fE H;replace H:=H.nf
    have fF:=Sl.cells (H.os 0)
    have fG:=Sl.oc (H.os 0)
    have fH:=Sl.cells (H.os 6)
    have fI:=Sl.oc (H.os 6)
    have fJ:=Sl.cells (H.os 7)
    have fK:=Sl.oc (H.os 7)
    have fL:=Sl.cells (H.os 9)
    have fM:=Sl.oc (H.os 9)
    refine s_nil ⟨(H.pk [5,8,10,11,12,13,14]),?_⟩
    refine ts_l2 rfl rfl ?_ ?_
    ·skip
     obtain ⟨fN,hM⟩:=M.e_gd hM
     have bw:=bu
     obtain ⟨aK,H,dm,dp⟩:=H.joinE (i:=10) (j:=1) rfl rfl
     replace aw:=aw.mono dm
     replace bw:=bw.mono dp
     have bH:=aw.app bw
     refine t_app (α:=Raw 1) (k:=10) (l:=ax) (l2:=[aL]) (l':=ax++([aL])) (vy:=bv) T23 rfl H rfl rfl rfl (H.os 1) (H.ol 1) (rfl) (by have a_:=aw.len; have b_:=bw.len; (try simp only [List.length_nil] at *); first | omega | (rw [a_,b_]; omega)) ?_;intro bI fO H;replace H:=H.nf
     have fP:=Sl.cells (H.os 10)
     have fQ:=Sl.oc (H.os 10)
     refine s_nil ⟨(H.pk [6,9,11,12,13,14,15]),?_⟩
     refine ts_q rfl (fun w' H=>x_fa (v:=Pq ao) rfl (fa_blk (o:=0) Fd27_0 Sz23)) ?_;refine ts_l rfl ?_;refine t_bs (α:=Int) T28 [I stage] [(stage:Int)] H rfl (.cons rfl (Flat.rep_enc _ (stage:Int))<|.nil) rfl rfl rfl ?_;intro cj fR H
     have fS:=Sl.cells (H.os 0)
     have fT:=Sl.oc (H.os 0)
     refine s_nil ⟨(H.pk [7,10,12,13,14,15,16]),?_⟩
     refine ts_l rfl ?_;obtain ⟨fU,hM⟩:=M.e_gd hM;refine t_app (α:=Int) (k:=9) (l:=ae) (l2:=[(stage:Int)]) (l':=ae++([(stage:Int)])) (vy:=cj) T28 rfl H rfl rfl rfl (H.os 0) (H.ol 0) (rfl) (by first | omega | (simp only [List.length_nil] at *; omega)) ?_;intro bJ fV H;replace H:=H.nf
     have fW:=Sl.cells (H.os 9)
     have fX:=Sl.oc (H.os 9)
     refine s_nil ⟨(H.pk [7,10,12,13,14,15,16]),?_⟩
     refine ts_l rfl ?_;obtain ⟨fY,dq,hM⟩:=M.e_bind hM;refine s_call cf14 [Pq ag,I 30,I 90] rfl (zah s_bytes s2 s3 30 90 (al.app _) am dq _ ((H.pk [6,0,1,2,3,4,5,7,8,9,10,11,12,13,14,15,16]).gt 16)) ?_
     rintro vq fZ ⟨ak,aO,aP,rfl,hvq,aa⟩
     subst vq;(try dsimp only at hM)
     replace H:=H.pk [6,0,1,2,3,4,5,7,8,9,10,11,12,13,14,15,16] |>.bk aa
     clear aa
     refine s_nil ⟨(H.pk [7,10,12,13,14,15,16]),?_⟩
     refine ts_l rfl ?_;refine t_bs (α:=Int) T28 [I ak] [(ak:Int)] H rfl (.cons rfl (Flat.rep_enc _ (ak:Int))<|.nil) rfl rfl rfl ?_;intro ck f4 H
     have f6:=Sl.cells (H.os 0)
     have f9:=Sl.oc (H.os 0)
     refine s_nil ⟨(H.pk [8,11,13,14,15,16,17]),?_⟩
     refine ts_l rfl ?_;obtain ⟨ga,hM⟩:=M.e_gd hM;refine t_app (α:=Int) (k:=9) (l:=ac) (l2:=[(ak:Int)]) (l':=ac++([(ak:Int)])) (vy:=ck) T28 rfl H rfl rfl rfl (H.os 0) (H.ol 0) (rfl) (by first | omega | (simp only [List.length_nil] at *; omega)) ?_;intro bK gc H;replace H:=H.nf
     have gf:=Sl.cells (H.os 9)
     have gg:=Sl.oc (H.os 9)
     refine s_nil ⟨(H.pk [8,11,13,14,15,16,17]),?_⟩
     refine ts_nil ?_;refine sr_l rfl ?_;refine t_sw 15 0 [bI] bI H rfl rfl Sz23 (Sl.cells (rowSl rfl (H.get (k:=12) rfl) (roLe _ (H.get (k:=3) rfl)) bH)) rfl rfl (by simp only [List.all_cons,List.all_nil,Bool.true_and,Bool.and_true,Sl.oc (rowSl rfl (H.get (k:=12) rfl) (roLe _ (H.get (k:=3) rfl)) bH)]; try rfl) ?_;intro gh H
     refine s_nil ⟨trivial,?_⟩
     refine sr_l rfl ?_;refine kg 1 ?_
     refine s_nil ⟨trivial,?_⟩
     refine sr_l rfl ?_;refine t_sw 14 0 [bJ] bJ H rfl rfl Sz28 (Sl.cells (H.os 10)) rfl rfl (by simp only [List.all_cons,List.all_nil,Bool.true_and,Bool.and_true,Sl.oc (H.os 10)]; try rfl) ?_;intro gi H
     refine s_nil ⟨trivial,?_⟩
     refine sr_l rfl ?_;refine kg 1 ?_
     refine s_nil ⟨trivial,?_⟩
     refine sr_l rfl ?_;refine t_sw 14 1 [bK] bK H rfl rfl Sz28 (Sl.cells (H.os 9)) rfl rfl (by simp only [List.all_cons,List.all_nil,Bool.true_and,Bool.and_true,Sl.oc (H.os 9)]; try rfl) ?_;intro gj H
     refine s_nil ⟨trivial,?_⟩
     refine sr_nil ?_
     exact ⟨ak,aO,aP,ck,cj,aK,bv,[aL],aQ,a8,ba,bK,bJ,bI,ax++([aL]),_,upds_of _ _ ⟨rfl,rfl,rfl,rfl,rfl,rfl,rfl,rfl,rfl,rfl,trivial⟩,hM,H,bu,bH⟩
    skip
    refine t_bs (α:=Int) T28 [I stage] [(stage:Int)] H rfl (.cons rfl (Flat.rep_enc _ (stage:Int))<|.nil) rfl rfl rfl ?_;intro cl gk H
    have gl:=Sl.cells (H.os 0)
    have gm:=Sl.oc (H.os 0)
    refine s_nil ⟨(H.pk [6,9,11,12,13,14,15]),?_⟩
    refine ts_l rfl ?_;obtain ⟨gn,hM⟩:=M.e_gd hM
    have bx:=bu
    obtain ⟨aK,H,dr,dt⟩:=H.joinE (i:=11) (j:=2) rfl rfl
    replace aw:=aw.mono dr
    replace bx:=bx.mono dt
    have bL:=aw.app bx
    refine t_app (α:=Raw 1) (k:=11) (l:=ax) (l2:=[aL]) (l':=ax++([aL])) (vy:=bv) T23 rfl H rfl rfl rfl (H.os 2) (H.ol 2) (rfl) (by have a_:=aw.len; have b_:=bx.len; (try simp only [List.length_nil] at *); first | omega | (rw [a_,b_]; omega)) ?_;intro bM gp H;replace H:=H.nf
    have gq:=Sl.cells (H.os 11)
    have gr:=Sl.oc (H.os 11)
    refine s_nil ⟨(H.pk [7,10,12,13,14,15,16]),?_⟩
    refine ts_q rfl (fun w' H=>x_fa (v:=Pq ao) rfl (fa_blk (o:=0) Fd27_0 Sz23)) ?_;refine ts_l rfl ?_;obtain ⟨gu,hM⟩:=M.e_gd hM;refine t_app (α:=Int) (k:=9) (l:=ae) (l2:=[(stage:Int)]) (l':=ae++([(stage:Int)])) (vy:=cl) T28 rfl H rfl rfl rfl (H.os 1) (H.ol 1) (rfl) (by first | omega | (simp only [List.length_nil] at *; omega)) ?_;intro bN gv H;replace H:=H.nf
    have gw:=Sl.cells (H.os 9)
    have gx:=Sl.oc (H.os 9)
    refine s_nil ⟨(H.pk [7,10,12,13,14,15,16]),?_⟩
    refine ts_l rfl ?_;obtain ⟨gy,du,hM⟩:=M.e_bind hM;refine s_call cf14 [Pq ag,I 30,I 90] rfl (zah s_bytes s2 s3 30 90 (al.app _) am du _ ((H.pk [6,0,1,2,3,4,5,7,8,9,10,11,12,13,14,15,16]).gt 16)) ?_
    rintro vq gz ⟨ak,aO,aP,rfl,hvq,aa⟩
    subst vq;(try dsimp only at hM)
    replace H:=H.pk [6,0,1,2,3,4,5,7,8,9,10,11,12,13,14,15,16] |>.bk aa
    clear aa
    refine s_nil ⟨(H.pk [7,10,12,13,14,15,16]),?_⟩
    refine ts_l rfl ?_;refine t_bs (α:=Int) T28 [I ak] [(ak:Int)] H rfl (.cons rfl (Flat.rep_enc _ (ak:Int))<|.nil) rfl rfl rfl ?_;intro cn gA H
    have gB:=Sl.cells (H.os 0)
    have gC:=Sl.oc (H.os 0)
    refine s_nil ⟨(H.pk [8,11,13,14,15,16,17]),?_⟩
    refine ts_l rfl ?_;obtain ⟨gD,hM⟩:=M.e_gd hM;refine t_app (α:=Int) (k:=9) (l:=ac) (l2:=[(ak:Int)]) (l':=ac++([(ak:Int)])) (vy:=cn) T28 rfl H rfl rfl rfl (H.os 0) (H.ol 0) (rfl) (by first | omega | (simp only [List.length_nil] at *; omega)) ?_;intro bO gE H;replace H:=H.nf
    have gF:=Sl.cells (H.os 9)
    have gG:=Sl.oc (H.os 9)
    refine s_nil ⟨(H.pk [8,11,13,14,15,16,17]),?_⟩
    refine ts_nil ?_;refine sr_l rfl ?_;refine t_sw 15 0 [bM] bM H rfl rfl Sz23 (Sl.cells (rowSl rfl (H.get (k:=12) rfl) (roLe _ (H.get (k:=2) rfl)) bL)) rfl rfl (by simp only [List.all_cons,List.all_nil,Bool.true_and,Bool.and_true,Sl.oc (rowSl rfl (H.get (k:=12) rfl) (roLe _ (H.get (k:=2) rfl)) bL)]; try rfl) ?_;intro gH H
    refine s_nil ⟨trivial,?_⟩
    refine sr_l rfl ?_;refine kg 1 ?_
    refine s_nil ⟨trivial,?_⟩
    refine sr_l rfl ?_;refine t_sw 14 0 [bN] bN H rfl rfl Sz28 (Sl.cells (H.os 10)) rfl rfl (by simp only [List.all_cons,List.all_nil,Bool.true_and,Bool.and_true,Sl.oc (H.os 10)]; try rfl) ?_;intro gI H
    refine s_nil ⟨trivial,?_⟩
    refine sr_l rfl ?_;refine kg 1 ?_
    refine s_nil ⟨trivial,?_⟩
    refine sr_l rfl ?_;refine t_sw 14 1 [bO] bO H rfl rfl Sz28 (Sl.cells (H.os 9)) rfl rfl (by simp only [List.all_cons,List.all_nil,Bool.true_and,Bool.and_true,Sl.oc (H.os 9)]; try rfl) ?_;intro gJ H
    refine s_nil ⟨trivial,?_⟩
    refine sr_nil ?_
    exact ⟨ak,aO,aP,cn,cl,aK,bv,[aL],aQ,a8,ba,bO,bN,bM,ax++([aL]),_,upds_of _ _ ⟨rfl,rfl,rfl,rfl,rfl,rfl,rfl,rfl,rfl,rfl,trivial⟩,hM,(H.pk [0,1,3,2,4,5,6,7,8,9,10,11,12,13,14,15,16,17]),bu,bL⟩
   skip
   refine t_bs (α:=Int) T28 [I stage] [(stage:Int)] H rfl (.cons rfl (Flat.rep_enc _ (stage:Int))<|.nil) rfl rfl rfl ?_;intro co gK H
   have gL:=Sl.cells (H.os 0)
   have gM:=Sl.oc (H.os 0)
   have gN:=Sl.cells (H.os 1)
   have gO:=Sl.oc (H.os 1)
   have gP:=Sl.cells (H.os 4)
   have gQ:=Sl.oc (H.os 4)
   have gS:=Sl.cells (H.os 5)
   have gT:=Sl.oc (H.os 5)
   have gU:=Sl.cells (H.os 7)
   have gV:=Sl.oc (H.os 7)
   refine s_nil ⟨(H.pk [3,6,8,9,10,11,12]),?_⟩
   refine ts_l rfl ?_
   obtain ⟨a8,H⟩:=H.emptyE
   obtain ⟨ba,H,dv⟩:=H.freezeE (k:=2) rfl
   replace H:=H.nf
   have bz:=dv
   obtain ⟨aQ,H,gW,dx⟩:=H.joinE (i:=0) (j:=2) rfl rfl
   replace bz:=bz.mono dx
   obtain ⟨aY,cp⟩:∃ r:Raw 1,r.cs=[I place,aH]:=⟨Raw.of [I place,aH] rfl (by simp only [List.all_cons,List.all_nil,Bool.true_and,Bool.and_true,Sl.oc bz]; try rfl),rfl⟩
   have cq:RepR (α:=Sect) aQ.cells [aY] [(⟨(place:Int),l⟩:Sect)]:=.cons (by rw [cp]; exact ⟨_,rfl,bz⟩)<|.nil
   refine t_bs (α:=Raw 1) T23 [.agg #[I place,aH]] [aY] H rfl (.cons (by rw [show (Flat.enc aY:List Value)=aY.cs from rfl,cp]; rfl) (Flat.rep_enc _ _)<|.nil) rfl rfl rfl ?_;intro cr gX H;replace H:=H.nf
   have gY:=Sl.cells (H.os 0)
   have gZ:=Sl.oc (H.os 0)
   refine s_nil ⟨(H.pk [6,9,11,12,13,14,15]),?_⟩
   refine ts_l rfl ?_;obtain ⟨g0,hM⟩:=M.e_gd hM
   have bA:=cq
   obtain ⟨aK,H,dy,dz⟩:=H.joinE (i:=11) (j:=1) rfl rfl
   replace aw:=aw.mono dy
   replace bA:=bA.mono dz
   have bP:=aw.app bA
   refine t_app (α:=Raw 1) (k:=11) (l:=ax) (l2:=[aY]) (l':=ax++([aY])) (vy:=cr) T23 rfl H rfl rfl rfl (H.os 1) (H.ol 1) (rfl) (by have a_:=aw.len; have b_:=bA.len; (try simp only [List.length_nil] at *); first | omega | (rw [a_,b_]; omega)) ?_;intro bQ hG H;replace H:=H.nf
   have hZ:=Sl.cells (H.os 11)
   have ia:=Sl.oc (H.os 11)
   refine s_nil ⟨(H.pk [7,10,12,13,14,15,16]),?_⟩
   refine ts_q rfl (fun w' H=>x_fa (v:=Pq ao) rfl (fa_blk (o:=0) Fd27_0 Sz23)) ?_;refine ts_l rfl ?_;obtain ⟨ib,hM⟩:=M.e_gd hM;refine t_app (α:=Int) (k:=9) (l:=ae) (l2:=[(stage:Int)]) (l':=ae++([(stage:Int)])) (vy:=co) T28 rfl H rfl rfl rfl (H.os 4) (H.ol 4) (rfl) (by first | omega | (simp only [List.length_nil] at *; omega)) ?_;intro bR ic H;replace H:=H.nf
   have ie:=Sl.cells (H.os 9)
   have ig:=Sl.oc (H.os 9)
   refine s_nil ⟨(H.pk [7,10,12,13,14,15,16]),?_⟩
   refine ts_l rfl ?_;obtain ⟨ii,dA,hM⟩:=M.e_bind hM;refine s_call cf14 [Pq ag,I 30,I 90] rfl (zah s_bytes s2 s3 30 90 (al.app _) am dA _ ((H.pk [6,0,1,2,3,4,5,7,8,9,10,11,12,13,14,15,16]).gt 16)) ?_
   rintro vq ij ⟨ak,aO,aP,rfl,hvq,aa⟩
   subst vq;(try dsimp only at hM)
   replace H:=H.pk [6,0,1,2,3,4,5,7,8,9,10,11,12,13,14,15,16] |>.bk aa
   clear aa
   refine s_nil ⟨(H.pk [7,10,12,13,14,15,16]),?_⟩
   refine ts_l rfl ?_;refine t_bs (α:=Int) T28 [I ak] [(ak:Int)] H rfl (.cons rfl (Flat.rep_enc _ (ak:Int))<|.nil) rfl rfl rfl ?_;intro ct ik H
   have il:=Sl.cells (H.os 0)
   have im:=Sl.oc (H.os 0)
   refine s_nil ⟨(H.pk [8,11,13,14,15,16,17]),?_⟩
   refine ts_l rfl ?_;obtain ⟨io,hM⟩:=M.e_gd hM;refine t_app (α:=Int) (k:=9) (l:=ac) (l2:=[(ak:Int)]) (l':=ac++([(ak:Int)])) (vy:=ct) T28 rfl H rfl rfl rfl (H.os 0) (H.ol 0) (rfl) (by first | omega | (simp only [List.length_nil] at *; omega)) ?_;intro bS iq H;replace H:=H.nf
   have ir:=Sl.cells (H.os 9)
   have iw:=Sl.oc (H.os 9)
   refine s_nil ⟨(H.pk [8,11,13,14,15,16,17]),?_⟩
   refine ts_nil ?_;refine sr_l rfl ?_;refine t_sw 15 0 [bQ] bQ H rfl rfl Sz23 (Sl.cells (rowSl rfl (H.get (k:=12) rfl) (roLe _ (H.get (k:=2) rfl)) bP)) rfl rfl (by simp only [List.all_cons,List.all_nil,Bool.true_and,Bool.and_true,Sl.oc (rowSl rfl (H.get (k:=12) rfl) (roLe _ (H.get (k:=2) rfl)) bP)]; try rfl) ?_;intro iy H
   refine s_nil ⟨trivial,?_⟩
   refine sr_l rfl ?_;refine kg 1 ?_
   refine s_nil ⟨trivial,?_⟩
   refine sr_l rfl ?_;refine t_sw 14 0 [bR] bR H rfl rfl Sz28 (Sl.cells (H.os 10)) rfl rfl (by simp only [List.all_cons,List.all_nil,Bool.true_and,Bool.and_true,Sl.oc (H.os 10)]; try rfl) ?_;intro iz H
   refine s_nil ⟨trivial,?_⟩
   refine sr_l rfl ?_;refine kg 1 ?_
   refine s_nil ⟨trivial,?_⟩
   refine sr_l rfl ?_;refine t_sw 14 1 [bS] bS H rfl rfl Sz28 (Sl.cells (H.os 9)) rfl rfl (by simp only [List.all_cons,List.all_nil,Bool.true_and,Bool.and_true,Sl.oc (H.os 9)]; try rfl) ?_;intro iA H
   refine s_nil ⟨trivial,?_⟩
   refine sr_nil ?_
   exact ⟨ak,aO,aP,ct,co,aK,cr,[aY],aQ,a8,ba,bS,bR,bQ,ax++([aY]),_,upds_of _ _ ⟨rfl,rfl,rfl,rfl,rfl,rfl,rfl,rfl,rfl,rfl,trivial⟩,hM,(H.pk [0,1,6,2,3,4,5,7,8,9,10,11,12,13,14,15,16,17]),cq,bP⟩
  rintro _ iB ⟨ak,aO,aP,cf,cg,aK,ch,bG,aQ,a8,ba,aV,aW,aX,bf,ρ,rfl,hM,H,iC,dB⟩
  unfold zbv at hM
  refine kg 4 ?_;obtain ⟨iD,dC,hM⟩:=M.e_bind hM;refine s_call cf13 [Pq ag,I 3] rfl (zad s_bytes aO aP 3 (al.app _) am dC _ ((H.pk [1,0,2,3,4,5,6,7,8,9,10,11,12,13,14,15,16,17]).gt 17)) ?_
  rintro vq iE ⟨dD,dE,dF,rfl,hvq,aa⟩
  subst vq;(try dsimp only at hM)
  replace H:=H.pk [1,0,2,3,4,5,6,7,8,9,10,11,12,13,14,15,16,17] |>.bk aa
  clear aa;refine kg 2 ?_;replace H:=H.pk [0,3,9,10,11,12,13,14,15,16,17];refine W.block ?_;obtain ⟨dG,bT,dH⟩:=M.e_bind hM
  obtain ⟨bD,bT⟩:=M.e_iter bT
  refine W.loop (fun m σ W=>∃ (bj:Int) (bm:Int) (k2:Int) (l7:List Mrk) (bg:Value) (ρ:Env),σ=upds ρ [(0,Pq ag),(1,I marks),(2,B lies),(6,Pq aA),(7,Pq aB),(8,Pq ao),(9,Pq au),(10,I place),(11,I stage),(12,I n),(17,I k2)]/\M.iterN (zaM s_bytes marks lies place stage) m (bj,bm,k2,l7)=some dG/\St w W [cBlk ag [aJ,I bj,I bm] 72,cRo aK,cOwn (α:=Int) 3 aV (ac++([(ak:Int)])),cOwn (α:=Int) 3 aW (ae++([(stage:Int)])),cOwn (α:=Mrk) 68 bg l7,cOwn (α:=Raw 1) 64 aX bf,cRo B_l9,cBlk au [aW,aV] 30,cBlk ao [aX,bg,.slice none 0 0] 27,cBlk aB [.slice none 0 0,.slice none 0 0] 30,cBlk aA [.slice none 0 0,.slice none 0 0,.slice none 0 0] 27] R) ?_ ?_
  ·exact ⟨_,dE,dF,dD,aF,aG,_,upds_of _ _ ⟨rfl,rfl,rfl,rfl,rfl,rfl,rfl,rfl,rfl,rfl,rfl,trivial⟩,bT,H⟩
  rintro iF σ iG ⟨bj,bm,k2,l7,bg,ρ,rfl,cu,H⟩
  obtain ⟨bU,bV,iH,hM,bB⟩:=M.e_iterN cu
  simp only [zaM] at hM
  clear cu;refine kg 13 ?_
  refine W.cond ((decide (0<k2))&&(decide ((l7.length:Int)<marks))) rfl (fun bW=>?_) (fun bW=>?_)
  ·replace hM:=M.e_t hM bW;refine kg 7 ?_;obtain ⟨iI,dJ,hM⟩:=M.e_bind hM;refine s_call cf13 [Pq ag,I 2] rfl (zad s_bytes bj bm 2 (al.app _) am dJ _ (H.gt 10)) ?_
   rintro vq iJ ⟨aq,dK,dL,rfl,hvq,aa⟩
   subst vq;(try dsimp only at hM);replace H:=H.bk aa;clear aa;refine kg 1 ?_;obtain ⟨iK,dM,hM⟩:=M.e_bind hM;refine s_call cf13 [Pq ag,I 20] rfl (zad s_bytes dK dL 20 (al.app _) am dM _ (H.gt 10)) ?_
   rintro vq iL ⟨ar,dN,dO,rfl,hvq,aa⟩
   subst vq;(try dsimp only at hM);replace H:=H.bk aa;clear aa;obtain ⟨iM,hM⟩:=M.e_gd hM;obtain ⟨iN,hM⟩:=M.e_gd hM;refine kg 4 ?_;obtain ⟨iO,dP,hM⟩:=M.e_bind hM;refine s_call cf13 [Pq ag,I 9] rfl (zad s_bytes dN dO 9 (al.app _) am dP _ (H.gt 10)) ?_
   rintro vq iP ⟨ay,dQ,dR,rfl,hvq,aa⟩
   subst vq;(try dsimp only at hM);replace H:=H.bk aa;clear aa;obtain ⟨iQ,hM⟩:=M.e_gd hM;refine kg 4 ?_;obtain ⟨iR,dS,hM⟩:=M.e_bind hM;refine s_call cf13 [Pq ag,I 9] rfl (zad s_bytes dQ dR 9 (al.app _) am dS _ (H.gt 10)) ?_
   rintro vq iS ⟨az,cv,cx,rfl,hvq,aa⟩
   subst vq;(try dsimp only at hM);replace H:=H.bk aa;clear aa;obtain ⟨iT,hM⟩:=M.e_gd hM;refine kg 1 ?_;refine s_val (x_bld (ps:=[(0,I (max 0 (stage-ay))),(1,I (stage+az))]) (zs:=[I 0,I 0]) (L':=[I (max 0 (stage-ay)),I (stage+az)]) rfl Tryz.underlying41 Al41 rfl (Bd41 Tryz.underlying41) (.cons (cs:=[I (max 0 (stage-ay))]) rfl rfl rfl rfl rfl<|.cons (cs:=[I (stage+az)]) rfl rfl rfl rfl rfl<|.nil))<|s_val (x_bld (ps:=[(0,I (place+(aq*ar))),(1,.agg #[I (max 0 (stage-ay)),I (stage+az)])]) (zs:=[I 0,I 0,I 0]) (L':=[I (place+(aq*ar)),I (max 0 (stage-ay)),I (stage+az)]) rfl Tryz.underlying68 Al68 rfl (Bd68 Tryz.underlying68) (.cons (cs:=[I (place+(aq*ar))]) rfl rfl rfl rfl rfl<|.cons (cs:=[I (max 0 (stage-ay)),I (stage+az)]) rfl rfl rfl rfl rfl<|.nil)) ?_;refine t_alloc (cs:=[I 0,I 0,I 0]) H Al68 rfl ?_;intro bn iU H;refine t_sw 0 0 [I (place+(aq*ar)),I (max 0 (stage-ay)),I (stage+az)] (.agg #[I (place+(aq*ar)),I (max 0 (stage-ay)),I (stage+az)]) H rfl rfl Sz68 rfl rfl rfl rfl ?_;intro iV H;refine kg 7 ?_
   refine g_splitV lies (I 0) (gy_t rfl) (fun bo=>?_) (fun bo=>?_)
   ·replace hM:=M.e_t hM bo;obtain ⟨iW,dT,hM⟩:=M.e_bind hM;refine s_call cf13 [Pq ag,I 3] (lst2 (gd_of (c:=lies) bo (Pq ag)) rfl) (zad s_bytes cv cx 3 (al.app _) am dT _ ((H.pk [1,0,2,3,4,5,6,7,8,9,10,11]).gt 11)) ?_
    rintro vq iX ⟨dU,cy,cz,rfl,hvq,aa⟩
    subst vq;(try dsimp only at hM)
    replace H:=H.pk [1,0,2,3,4,5,6,7,8,9,10,11] |>.bk aa
    clear aa;refine kg 3 ?_
    refine W.cond (lies&&(dU==0)) rfl (fun bX=>?_) (fun bX=>?_)
    ·replace hM:=M.e_t hM bX;refine kg 3 ?_;obtain ⟨iY,dV,hM⟩:=M.e_bind hM;refine s_call cf14 [Pq ag,I 50,I 420] rfl (zah s_bytes cy cz 50 420 (al.app _) am dV _ (H.gt 11)) ?_
     rintro vq iZ ⟨av,dW,dX,rfl,hvq,aa⟩
     subst vq;(try dsimp only at hM);replace H:=H.bk aa;clear aa;refine s_val (x_bld (ps:=[(0,I av)]) (zs:=[I 0,I 0]) (L':=[I av,I 0]) rfl Tryz.underlying41 Al41 rfl (Bd41 Tryz.underlying41) (.cons (cs:=[I av]) rfl rfl rfl rfl rfl<|.nil)) ?_;refine kg 1 ?_;refine t_sw 1 1 [I av,I 0] (.agg #[I av,I 0]) H rfl rfl Sz41 rfl rfl rfl rfl ?_;intro i0 H;refine s_nil ?_;refine W.drawTS (fun W=>St w W [cBlk bn [I (place+(aq*ar)),I av,I 0] 68,cRo aK,cOwn (α:=Int) 3 aV (ac++([(ak:Int)])),cOwn (α:=Int) 3 aW (ae++([(stage:Int)])),cOwn (α:=Mrk) 68 bg l7,cOwn (α:=Raw 1) 64 aX bf,cRo B_l9,cBlk au [aW,aV] 30,cBlk ao [aX,bg,.slice none 0 0] 27,cBlk aB [.slice none 0 0,.slice none 0 0] 30,cBlk aA [.slice none 0 0,.slice none 0 0,.slice none 0 0] 27] R) (.q 0 (.q 1 (.q 2 (.q 3 (.l 4 (.q 5 (.q 6 (.q 7 .nil)))))))) 8 [8] mixed (by decide +kernel) rfl ?_;intro i6 aC;replace H:=H.ext aC;clear aC
     refine ⟨(H.pk [1,2,3,4,5,6,7,8,9,10,11]),?_⟩
     refine ts_q rfl (fun w' H=>x_fa (v:=Oq bn 1) rfl (fa_blk (o:=0) Fd68_1 Sz41)) ?_;refine ts_q rfl (fun w' H=>x_fa (v:=Oq bn 1) rfl (fa_blk (o:=1) Fd41_0 Sz3)) ?_;refine ts_q rfl (fun w' H=>x_ld (v:=I av) rfl (ldb_sc Sc3 (H.bl 0) rfl)) ?_;refine ts_q rfl (fun w' H=>x_mv (v:=Pq ag) rfl) ?_;refine ts_l rfl ?_;obtain ⟨i7,dY,hM⟩:=M.e_bind hM;refine s_call cf13 [Pq ag,I 9] rfl (zad s_bytes dW dX 9 (al.app _) am dY _ (H.gt 11)) ?_
     rintro vq i8 ⟨aS,dZ,d5,rfl,hvq,aa⟩
     subst vq;(try dsimp only at hM);replace H:=H.bk aa;clear aa
     refine s_nil ⟨(H.pk [1,2,3,4,5,6,7,8,9,10,11]),?_⟩
     obtain ⟨i9,hM⟩:=M.e_gd hM;refine ts_q rfl (fun w' H=>x_ari (r:=av+aS) rfl rfl rfl (by omega)) ?_;refine ts_q rfl (fun w' H=>x_fa (v:=Oq bn 1) rfl (fa_blk (o:=0) Fd68_1 Sz41)) ?_;refine ts_q rfl (fun w' H=>x_fa (v:=Oq bn 2) rfl (fa_blk (o:=1) Fd41_1 Sz3)) ?_;refine ts_nil ?_;refine sr_l rfl ?_;refine t_sw 1 2 [I (av+aS)] (I (av+aS)) H rfl rfl Sz3 rfl rfl rfl rfl ?_;intro ja H
     refine s_nil ⟨trivial,?_⟩
     refine sr_nil ?_;refine kg 4 ?_;refine t_bs (α:=Mrk) T24 [.agg #[I (place+(aq*ar)),I av,I (av+aS)]] [(⟨(place+(aq*ar):Int),(av:Int),(av+aS:Int)⟩:Mrk)] H rfl (.cons rfl (Flat.rep_enc _ (⟨(place+(aq*ar):Int),(av:Int),(av+aS:Int)⟩:Mrk))<|.nil) rfl rfl rfl ?_;intro d6 jb H;obtain ⟨jc,hM⟩:=M.e_gd hM;refine t_app (α:=Mrk) (k:=6) (l:=l7) (l2:=[(⟨(place+(aq*ar):Int),(av:Int),(av+aS:Int)⟩:Mrk)]) (l':=l7++([(⟨(place+(aq*ar):Int),(av:Int),(av+aS:Int)⟩:Mrk)])) (vy:=d6) T24 rfl H rfl rfl rfl (H.os 0) (H.ol 0) (rfl) (by first | omega | (simp only [List.length_nil] at *; omega)) ?_;intro bY jd H;replace H:=H.nf;refine kg 1 ?_;refine t_sw 10 1 [bY] bY H rfl rfl Sz24 (Sl.cells (H.os 6)) rfl rfl (by simp only [List.all_cons,List.all_nil,Bool.true_and,Bool.and_true,Sl.oc (H.os 6)]; try rfl) ?_;intro je H;refine s_nil ?_;replace H:=H.pk [1,3,4,5,6,7,8,9,10,11,12];obtain ⟨jf,hM⟩:=M.e_gd hM;refine kg 5 ?_
     exact ⟨bU,bV,dZ,d5,k2-1,l7++([(⟨(place+(aq*ar):Int),(av:Int),(av+aS:Int)⟩:Mrk)]),bY,_,upds_of _ _ ⟨rfl,rfl,rfl,rfl,rfl,rfl,rfl,rfl,rfl,rfl,rfl,trivial⟩,M.e_inl hM bB,H⟩
    replace hM:=M.e_f hM bX;refine kg 5 ?_;refine t_bs (α:=Mrk) T24 [.agg #[I (place+(aq*ar)),I (max 0 (stage-ay)),I (stage+az)]] [(⟨(place+(aq*ar):Int),(max 0 (stage-ay):Int),(stage+az:Int)⟩:Mrk)] H rfl (.cons rfl (Flat.rep_enc _ (⟨(place+(aq*ar):Int),(max 0 (stage-ay):Int),(stage+az:Int)⟩:Mrk))<|.nil) rfl rfl rfl ?_;intro d7 jg H;obtain ⟨jh,hM⟩:=M.e_gd hM;refine t_app (α:=Mrk) (k:=6) (l:=l7) (l2:=[(⟨(place+(aq*ar):Int),(max 0 (stage-ay):Int),(stage+az:Int)⟩:Mrk)]) (l':=l7++([(⟨(place+(aq*ar):Int),(max 0 (stage-ay):Int),(stage+az:Int)⟩:Mrk)])) (vy:=d7) T24 rfl H rfl rfl rfl (H.os 0) (H.ol 0) (rfl) (by first | omega | (simp only [List.length_nil] at *; omega)) ?_;intro bZ ji H;replace H:=H.nf;refine kg 1 ?_;refine t_sw 10 1 [bZ] bZ H rfl rfl Sz24 (Sl.cells (H.os 6)) rfl rfl (by simp only [List.all_cons,List.all_nil,Bool.true_and,Bool.and_true,Sl.oc (H.os 6)]; try rfl) ?_;intro jj H;refine s_nil ?_;replace H:=H.pk [1,3,4,5,6,7,8,9,10,11,12];obtain ⟨jk,hM⟩:=M.e_gd hM;refine kg 5 ?_
    exact ⟨bU,bV,cy,cz,k2-1,l7++([(⟨(place+(aq*ar):Int),(max 0 (stage-ay):Int),(stage+az:Int)⟩:Mrk)]),bZ,_,upds_of _ _ ⟨rfl,rfl,rfl,rfl,rfl,rfl,rfl,rfl,rfl,rfl,rfl,trivial⟩,M.e_inl hM bB,H⟩
   replace hM:=M.e_f hM bo;refine g_val (v:=B false) lies (gy_t rfl) (fun hg=>Bool.noConfusion (bo.symm.trans hg))<|s_val (x_pand0 (b:=lies) rfl (fun hb=>gd_of (c:=lies) (by first | exact hb | (rw [hb]; rfl) | simp_all) (B false)) rfl)<|s_nil ?_
   refine W.cond false rfl (fun cB=>?_) (fun cB=>?_)
   ·skip
    exact absurd cB (by decide)
   skip
   refine kg 5 ?_;refine t_bs (α:=Mrk) T24 [.agg #[I (place+(aq*ar)),I (max 0 (stage-ay)),I (stage+az)]] [(⟨(place+(aq*ar):Int),(max 0 (stage-ay):Int),(stage+az:Int)⟩:Mrk)] H rfl (.cons rfl (Flat.rep_enc _ (⟨(place+(aq*ar):Int),(max 0 (stage-ay):Int),(stage+az:Int)⟩:Mrk))<|.nil) rfl rfl rfl ?_;intro d8 jl H;obtain ⟨jm,hM⟩:=M.e_gd hM;refine t_app (α:=Mrk) (k:=6) (l:=l7) (l2:=[(⟨(place+(aq*ar):Int),(max 0 (stage-ay):Int),(stage+az:Int)⟩:Mrk)]) (l':=l7++([(⟨(place+(aq*ar):Int),(max 0 (stage-ay):Int),(stage+az:Int)⟩:Mrk)])) (vy:=d8) T24 rfl H rfl rfl rfl (H.os 0) (H.ol 0) (rfl) (by first | omega | (simp only [List.length_nil] at *; omega)) ?_;intro b3 jn H;replace H:=H.nf;refine kg 1 ?_;refine t_sw 10 1 [b3] b3 H rfl rfl Sz24 (Sl.cells (H.os 6)) rfl rfl (by simp only [List.all_cons,List.all_nil,Bool.true_and,Bool.and_true,Sl.oc (H.os 6)]; try rfl) ?_;intro jo H;refine s_nil ?_;replace H:=H.pk [2,3,4,5,6,7,8,9,10,11,12];obtain ⟨jp,hM⟩:=M.e_gd hM;refine kg 5 ?_
   exact ⟨bU,bV,cv,cx,k2-1,l7++([(⟨(place+(aq*ar):Int),(max 0 (stage-ay):Int),(stage+az:Int)⟩:Mrk)]),b3,_,upds_of _ _ ⟨rfl,rfl,rfl,rfl,rfl,rfl,rfl,rfl,rfl,rfl,rfl,trivial⟩,M.e_inl hM bB,H⟩
  replace hM:=M.e_f hM bW;refine W.exit ?_
  have d9:=M.e_inr hM bB
  subst d9;replace hM:=dH;(try dsimp only at hM);refine kg 3 ?_;obtain ⟨jq,ea,hM⟩:=M.e_bind hM;refine s_call cf14 [Pq ag,I 21,I 200] rfl (zah s_bytes bj bm 21 200 (al.app _) am ea _ (H.gt 10)) ?_
  rintro vq jr ⟨eb,ec,ed,rfl,hvq,aa⟩
  subst vq;(try dsimp only at hM);replace H:=H.bk aa;clear aa;obtain ⟨js,hM⟩:=M.e_gd hM;refine kg 3 ?_;obtain ⟨jt,ee,hM⟩:=M.e_bind hM;refine s_call cf13 [Pq ag,I 20] rfl (zad s_bytes ec ed 20 (al.app _) am ee _ (H.gt 10)) ?_
  rintro vq ju ⟨ef,eg,ei,rfl,hvq,aa⟩
  subst vq;(try dsimp only at hM);replace H:=H.bk aa;clear aa;obtain ⟨jv,hM⟩:=M.e_gd hM;obtain ⟨jw,hM⟩:=M.e_gd hM;refine kg 9 ?_
  exact ⟨cQ,cR,eg,ei,place+eb,stage-ef,n-1,l9++([(⟨(place:Int),l⟩:Sect)]),l7,ae++([(stage:Int)]),ac++([(ak:Int)]),aX,bg,aW,aV,bf,aK,_,upds_of _ _ ⟨rfl,rfl,rfl,rfl,rfl,rfl,rfl,rfl,rfl,rfl,trivial⟩,M.e_inl hM cc,(H.pk [2,3,4,5,1,0,7,8,9,10]),dB⟩
 replace hM:=M.e_f hM a6
 replace a6:=dI a6
 refine W.exit ?_
 have ej:=M.e_inr hM cc
 subst ej;replace hM:=cP;(try dsimp only at hM);refine W.seqJ (fun σ W=>∃ (aZ:List Mrk) (aD:Value) (ρ:Env),σ=upds ρ [(0,Pq ag),(6,Pq aA),(7,Pq aB),(8,Pq ao),(9,Pq au)]/\(zaB s_bytes aT aU ac ae l9 aZ).Ends r/\St w W [cOwn (α:=Int) 3 ap ac,cOwn (α:=Int) 3 aj ae,cOwn (α:=Mrk) 68 aD aZ,cOwn (α:=Raw 1) 64 ai ax,cRo B_l9,cBlk ag [aJ,I aT,I aU] 72,cBlk au [aj,ap] 30,cBlk ao [ai,aD,.slice none 0 0] 27,cBlk aB [.slice none 0 0,.slice none 0 0] 30,cBlk aA [.slice none 0 0,.slice none 0 0,.slice none 0 0] 27] R) ?_ ?_
 ·skip
  have jx:=((H.os 2)).len_le
  refine kg 7 ?_
  refine W.cond ((aF.length:Int)==0) rfl (fun bb=>?_) (fun bb=>?_)
  ·replace hM:=M.e_t hM bb
   replace bb:=dI bb
   refine W.drawTS (fun W=>St w W [cOwn (α:=Int) 3 ap ac,cOwn (α:=Int) 3 aj ae,cOwn (α:=Raw 1) 64 ai ax,cRo B_l9,cBlk ag [aJ,I aT,I aU] 72,cBlk au [aj,ap] 30,cBlk ao [ai,aG,.slice none 0 0] 27,cBlk aB [.slice none 0 0,.slice none 0 0] 30,cBlk aA [.slice none 0 0,.slice none 0 0,.slice none 0 0] 27] R) (.q 0 (.q 1 (.q 2 (.q 3 (.q 4 (.q 5 (.q 6 (.q 7 (.q 8 (.q 9 (.q 10 (.q 11 (.q 12 (.q 13 (.q 14 (.q 15 (.q 16 (.q 17 (.q 18 (.l 19 (.l 20 (.q 21 .nil)))))))))))))))))))))) 22 [22] mixed (by decide +kernel) rfl ?_;intro jy aC;replace H:=H.ext aC;clear aC
   refine ⟨(H.pk [0,1,3,4,5,6,7,8,9]),?_⟩
   refine ts_q rfl (fun w' H=>x_fa (v:=Oq ao 1) rfl (fa_blk (o:=0) Fd27_1 Sz24)) ?_;refine ts_q rfl (fun w' H=>x_ld (v:=aG) rfl (ldb_sc Sc24 (H.bl 6) rfl)) ?_;refine ts_q rfl (fun w' H=>x_fa (v:=Pq ao) rfl (fa_blk (o:=0) Fd27_0 Sz23)) ?_;refine ts_q rfl (fun w' H=>x_ld (v:=ai) rfl (ldb_sc Sc23 (H.bl 6) rfl)) ?_;obtain ⟨jz,hM⟩:=M.e_gd hM;refine ts_q rfl (fun w' H=>x_ix (v:=vat ai 2 (Int.toNat 0)) rfl rfl (Sl.ix (α:=Sect) T23.und T23.size (rowSl rfl (H.get (k:=2) rfl) (roLe _ (H.get (k:=3) rfl)) aw) (by omega) (by omega))) ?_;refine ts_q rfl (fun w' H=>x_fa (v:=fat (vat ai 2 (Int.toNat 0)) 0) rfl (fa_pl Fd64_0 Sz3 (Sl.pl (i:=0) (rowSl rfl (H.get (k:=2) rfl) (roLe _ (H.get (k:=3) rfl)) aw) (by omega) (by omega)))) ?_;refine ts_q rfl (fun w' H=>x_ld (v:=I ((l9.getD 0 default).place)) rfl (ld_sc Sc3 (At.mono (Sect_at0 (rowSl rfl (H.get (k:=2) rfl) (roLe _ (H.get (k:=3) rfl)) aw) (i:=0) (by omega) (by omega)) (Cells.sup_le (H.ol 2) (roLe _ (H.get (k:=3) rfl)))))) ?_;refine ts_q rfl (fun w' H=>x_fa (v:=Pq au) rfl (fa_blk (o:=0) Fd30_0 Sz28)) ?_;refine ts_q rfl (fun w' H=>x_ld (v:=aj) rfl (ldb_sc Sc28 (H.bl 5) rfl)) ?_;obtain ⟨jA,hM⟩:=M.e_gd hM;refine ts_q rfl (fun w' H=>x_ix (v:=vat aj 1 (Int.toNat 0)) rfl rfl (Sl.ix (α:=Int) T28.und T28.size (H.os 1) (by omega) (by omega))) ?_;refine ts_q rfl (fun w' H=>x_ld (v:=I (ae.getD 0 0)) rfl (ld_sc Sc3 (At.mono (Int_at (H.os 1) (i:=0) (by omega) (by omega)) (H.ol 1)))) ?_;obtain ⟨jC,hM⟩:=M.e_gd hM;refine ts_q rfl (fun w' H=>x_ari (r:=(ae.getD 0 0)-5) rfl rfl rfl (by omega)) ?_;refine ts_q rfl (fun w' H=>x_fa (v:=Pq au) rfl (fa_blk (o:=0) Fd30_0 Sz28)) ?_;refine ts_q rfl (fun w' H=>x_ld (v:=aj) rfl (ldb_sc Sc28 (H.bl 5) rfl)) ?_;refine ts_q rfl (fun w' H=>x_ix (v:=vat aj 1 (Int.toNat 0)) rfl rfl (Sl.ix (α:=Int) T28.und T28.size (H.os 1) (by omega) (by omega))) ?_;refine ts_q rfl (fun w' H=>x_ld (v:=I (ae.getD 0 0)) rfl (ld_sc Sc3 (At.mono (Int_at (H.os 1) (i:=0) (by omega) (by omega)) (H.ol 1)))) ?_;obtain ⟨jD,hM⟩:=M.e_gd hM;refine ts_q rfl (fun w' H=>x_ari (r:=(ae.getD 0 0)+5) rfl rfl rfl (by omega)) ?_;refine ts_q rfl (fun w' H=>x_bld (ps:=[(0,I ((ae.getD 0 0)-5)),(1,I ((ae.getD 0 0)+5))]) (zs:=[I 0,I 0]) (L':=[I ((ae.getD 0 0)-5),I ((ae.getD 0 0)+5)]) rfl Tryz.underlying41 Al41 rfl (Bd41 Tryz.underlying41) (.cons (cs:=[I ((ae.getD 0 0)-5)]) rfl rfl rfl rfl rfl<|.cons (cs:=[I ((ae.getD 0 0)+5)]) rfl rfl rfl rfl rfl<|.nil)) ?_;refine ts_q rfl (fun w' H=>x_bld (ps:=[(0,I ((l9.getD 0 default).place)),(1,.agg #[I ((ae.getD 0 0)-5),I ((ae.getD 0 0)+5)])]) (zs:=[I 0,I 0,I 0]) (L':=[I ((l9.getD 0 default).place),I ((ae.getD 0 0)-5),I ((ae.getD 0 0)+5)]) rfl Tryz.underlying68 Al68 rfl (Bd68 Tryz.underlying68) (.cons (cs:=[I ((l9.getD 0 default).place)]) rfl rfl rfl rfl rfl<|.cons (cs:=[I ((ae.getD 0 0)-5),I ((ae.getD 0 0)+5)]) rfl rfl rfl rfl rfl<|.nil)) ?_;refine ts_l rfl ?_;refine t_bs (α:=Mrk) T24 [.agg #[I ((l9.getD 0 default).place),I ((ae.getD 0 0)-5),I ((ae.getD 0 0)+5)]] [(⟨((l9.getD 0 default).place:Int),((ae.getD 0 0)-5:Int),((ae.getD 0 0)+5:Int)⟩:Mrk)] H rfl (.cons rfl (Flat.rep_enc _ (⟨((l9.getD 0 default).place:Int),((ae.getD 0 0)-5:Int),((ae.getD 0 0)+5:Int)⟩:Mrk))<|.nil) rfl rfl rfl ?_;intro ek jF H
   have jH:=Sl.cells (H.os 0)
   have jI:=Sl.oc (H.os 0)
   have jJ:=Sl.cells (H.os 3)
   have jK:=Sl.oc (H.os 3)
   refine s_nil ⟨(H.pk [1,2,4,5,6,7,8,9,10]),?_⟩
   refine ts_l rfl ?_;obtain ⟨jM,hM⟩:=M.e_gd hM;refine t_app (α:=Mrk) (k:=3) (l:=aF) (l2:=[(⟨((l9.getD 0 default).place:Int),((ae.getD 0 0)-5:Int),((ae.getD 0 0)+5:Int)⟩:Mrk)]) (l':=aF++([(⟨((l9.getD 0 default).place:Int),((ae.getD 0 0)-5:Int),((ae.getD 0 0)+5:Int)⟩:Mrk)])) (vy:=ek) T24 rfl H rfl rfl rfl (H.os 0) (H.ol 0) (rfl) (by first | omega | (simp only [List.length_nil] at *; omega)) ?_;intro b4 jN H;replace H:=H.nf
   have jP:=Sl.cells (H.os 3)
   have jQ:=Sl.oc (H.os 3)
   refine s_nil ⟨(H.pk [1,2,4,5,6,7,8,9,10]),?_⟩
   refine ts_q rfl (fun w' H=>x_fa (v:=Oq ao 1) rfl (fa_blk (o:=0) Fd27_1 Sz24)) ?_;refine ts_nil ?_;refine sr_l rfl ?_;refine t_sw 8 1 [b4] b4 H rfl rfl Sz24 (Sl.cells (H.os 3)) rfl rfl (by simp only [List.all_cons,List.all_nil,Bool.true_and,Bool.and_true,Sl.oc (H.os 3)]; try rfl) ?_;intro jR H
   refine s_nil ⟨trivial,?_⟩
   refine sr_nil ?_
   exact ⟨aF++([(⟨((l9.getD 0 default).place:Int),((ae.getD 0 0)-5:Int),((ae.getD 0 0)+5:Int)⟩:Mrk)]),b4,_,upds_of _ _ ⟨rfl,rfl,rfl,rfl,rfl,trivial⟩,hM,(H.pk [1,2,3,4,5,6,7,8,9,10])⟩
  replace hM:=M.e_f hM bb
  replace bb:=dI bb
  refine W.skip ?_
  exact ⟨aF,aG,_,upds_of _ _ ⟨rfl,rfl,rfl,rfl,rfl,trivial⟩,hM,H⟩
 rintro _ jT ⟨aZ,aD,ρ,rfl,hM,H⟩
 unfold zaB at hM
 refine kg 4 ?_;obtain ⟨jW,em,hM⟩:=M.e_bind hM;refine s_call cf14 [Pq ag,I 1,I 4] rfl (zah s_bytes aT aU 1 4 (al.app _) am em _ ((H.pk [5,0,1,2,3,4,6,7,8,9]).gt 9)) ?_
 rintro vq jX ⟨eo,ep,eq,rfl,hvq,aa⟩
 subst vq;(try dsimp only at hM)
 replace H:=H.pk [5,0,1,2,3,4,6,7,8,9] |>.bk aa
 clear aa;refine kg 3 ?_
 replace H:=H.nilOwn (α:=Rch) 70
 obtain ⟨er,b5,eu⟩:=M.e_bind hM
 obtain ⟨bD,b5⟩:=M.e_iter b5
 refine W.loop (fun m σ W=>∃ (bh:Int) (bi:Int) (n2:Int) (aR:List Rch) (aE:Value) (ρ:Env),σ=upds ρ [(0,Pq ag),(6,Pq aA),(7,Pq aB),(8,Pq ao),(9,Pq au),(19,I n2)]/\M.iterN (zaK s_bytes ac l9) m (bh,bi,n2,aR)=some er/\St w W [cOwn (α:=Rch) 70 aE aR,cBlk ag [aJ,I bh,I bi] 72,cOwn (α:=Int) 3 ap ac,cOwn (α:=Int) 3 aj ae,cOwn (α:=Mrk) 68 aD aZ,cOwn (α:=Raw 1) 64 ai ax,cRo B_l9,cBlk au [aj,ap] 30,cBlk ao [ai,aD,aE] 27,cBlk aB [.slice none 0 0,.slice none 0 0] 30,cBlk aA [.slice none 0 0,.slice none 0 0,.slice none 0 0] 27] R) ?_ ?_
 ·exact ⟨_,ep,eq,eo,[],(.slice none 0 0),_,upds_of _ _ ⟨rfl,rfl,rfl,rfl,rfl,rfl,trivial⟩,b5,H⟩
 rintro jY σ jZ ⟨bh,bi,n2,aR,aE,ρ,rfl,cC,H⟩
 obtain ⟨ew,ey,j0,hM,cD⟩:=M.e_iterN cC
 simp only [zaK] at hM
 clear cC;refine kg 6 ?_
 refine W.cond (decide (0<n2)) rfl (fun bc=>?_) (fun bc=>?_)
 ·replace hM:=M.e_t hM bc
  replace bc:=dI bc
  have j6:=((rowSl rfl (H.get (k:=5) rfl) (roLe _ (H.get (k:=6) rfl)) aw)).len_le
  refine kg 8 ?_;refine s_val (x_lenS T23.und rfl (rowSl rfl (H.get (k:=5) rfl) (roLe _ (H.get (k:=6) rfl)) aw)) ?_;refine kg 1 ?_;obtain ⟨j7,ez,hM⟩:=M.e_bind hM;refine s_call cf13 [Pq ag,I ((l9.length:Int)-1)] rfl (zad s_bytes bh bi ((l9.length:Int)-1) (al.app _) am ez _ ((H.pk [1,0,2,3,4,5,6,7,8,9,10]).gt 10)) ?_
  rintro vq j8 ⟨ab,eA,eB,rfl,hvq,aa⟩
  subst vq;(try dsimp only at hM)
  replace H:=H.pk [1,0,2,3,4,5,6,7,8,9,10] |>.bk aa
  clear aa;refine kg 1 ?_;obtain ⟨j9,eC,hM⟩:=M.e_bind hM;refine s_call cf13 [Pq ag,I 4] rfl (zad s_bytes eA eB 4 (al.app _) am eC _ (H.gt 10)) ?_
  rintro vq ka ⟨aI,eD,eE,rfl,hvq,aa⟩
  subst vq;(try dsimp only at hM);replace H:=H.bk aa;clear aa;refine kg 1 ?_;refine s_val (x_bld (ps:=[(0,I ab),(3,B (aI==0))]) (zs:=[I 0,I 0,I 0,I 0,B false]) (L':=[I ab,I 0,I 0,I 0,B (aI==0)]) rfl Tryz.underlying70 Al70 rfl (Bd70 Tryz.underlying70) (.cons (cs:=[I ab]) rfl rfl rfl rfl rfl<|.cons (cs:=[B (aI==0)]) rfl rfl rfl rfl rfl<|.nil)) ?_;refine t_alloc (cs:=[I 0,I 0,I 0,I 0,B false]) H Al70 rfl ?_;intro bp kb H;refine t_sw 0 0 [I ab,I 0,I 0,I 0,B (aI==0)] (.agg #[I ab,I 0,I 0,I 0,B (aI==0)]) H rfl rfl Sz70 rfl rfl rfl rfl ?_;intro ke H;refine kg 2 ?_;refine W.drawTS (fun W=>St w W [cBlk bp [I ab,I 0,I 0,I 0,B (aI==0)] 70,cOwn (α:=Rch) 70 aE aR,cOwn (α:=Int) 3 ap ac,cOwn (α:=Int) 3 aj ae,cOwn (α:=Mrk) 68 aD aZ,cOwn (α:=Raw 1) 64 ai ax,cRo B_l9,cBlk au [aj,ap] 30,cBlk ao [ai,aD,aE] 27,cBlk aB [.slice none 0 0,.slice none 0 0] 30,cBlk aA [.slice none 0 0,.slice none 0 0,.slice none 0 0] 27] R) (.q 0 (.q 1 (.q 2 (.q 3 (.q 4 (.q 5 (.q 6 (.q 7 (.q 8 (.q 9 (.l 10 (.q 11 (.q 12 .nil))))))))))))) 13 [13] mixed (by decide +kernel) rfl ?_;intro kh aC;replace H:=H.ext aC;clear aC
  refine ⟨(H.pk [0,2,3,4,5,6,7,8,9,10,11]),?_⟩
  refine ts_q rfl (fun w' H=>x_fa (v:=Pq bp) rfl (fa_blk (o:=0) Fd70_0 Sz3)) ?_;refine ts_q rfl (fun w' H=>x_ld (v:=I ab) rfl (ldb_sc Sc3 (H.bl 0) rfl)) ?_;refine ts_q rfl (fun w' H=>x_mv (v:=Pq ag) rfl) ?_;refine ts_q rfl (fun w' H=>x_fa (v:=Pq ao) rfl (fa_blk (o:=0) Fd27_0 Sz23)) ?_;refine ts_q rfl (fun w' H=>x_ld (v:=ai) rfl (ldb_sc Sc23 (H.bl 8) rfl)) ?_
  have ki:=((rowSl rfl (H.get (k:=6) rfl) (roLe _ (H.get (k:=7) rfl)) aw)).len_le
  refine ts_q rfl (fun w' H=>x_lenS T23.und rfl (rowSl rfl (H.get (k:=5) rfl) (roLe _ (H.get (k:=6) rfl)) aw)) ?_;refine ts_q rfl (fun w' H=>x_ari (r:=(l9.length:Int)-1) rfl rfl rfl (by omega)) ?_;refine ts_q rfl (fun w' H=>x_fa (v:=Pq bp) rfl (fa_blk (o:=0) Fd70_0 Sz3)) ?_;refine ts_q rfl (fun w' H=>x_ld (v:=I ab) rfl (ldb_sc Sc3 (H.bl 0) rfl)) ?_;obtain ⟨kj,hM⟩:=M.e_gd hM;refine ts_q rfl (fun w' H=>x_ari (r:=((l9.length:Int)-1)-ab) rfl rfl rfl (by omega)) ?_;refine ts_l rfl ?_;obtain ⟨km,eF,hM⟩:=M.e_bind hM;refine s_call cf14 [Pq ag,I 1,I (((l9.length:Int)-1)-ab)] rfl (zah s_bytes eD eE 1 (((l9.length:Int)-1)-ab) (al.app _) am eF _ ((H.pk [1,0,2,3,4,5,6,7,8,9,10,11]).gt 11)) ?_
  rintro vq ko ⟨ah,cE,cF,rfl,hvq,aa⟩
  subst vq;(try dsimp only at hM)
  replace H:=H.pk [1,0,2,3,4,5,6,7,8,9,10,11] |>.bk aa
  clear aa
  refine s_nil ⟨(H.pk [1,2,3,4,5,6,7,8,9,10,11]),?_⟩
  obtain ⟨kq,hM⟩:=M.e_gd hM;refine ts_q rfl (fun w' H=>x_ari (r:=ab+ah) rfl rfl rfl (by omega)) ?_;refine ts_q rfl (fun w' H=>x_fa (v:=Oq bp 1) rfl (fa_blk (o:=0) Fd70_1 Sz3)) ?_;refine ts_nil ?_;refine sr_l rfl ?_;refine t_sw 1 1 [I (ab+ah)] (I (ab+ah)) H rfl rfl Sz3 rfl rfl rfl rfl ?_;intro kr H
  refine s_nil ⟨trivial,?_⟩
  refine sr_nil<|W.seq ?_;refine W.draw (fun W=>St w W [cBlk ag [aJ,I cE,I cF] 72,cBlk bp [I ab,I (ab+ah),I 0,I 0,B (aI==0)] 70,cOwn (α:=Rch) 70 aE aR,cOwn (α:=Int) 3 ap ac,cOwn (α:=Int) 3 aj ae,cOwn (α:=Mrk) 68 aD aZ,cOwn (α:=Raw 1) 64 ai ax,cRo B_l9,cBlk au [aj,ap] 30,cBlk ao [ai,aD,aE] 27,cBlk aB [.slice none 0 0,.slice none 0 0] 30,cBlk aA [.slice none 0 0,.slice none 0 0,.slice none 0 0] 27] R) [(0,true),(1,true),(2,true),(3,true),(4,true),(5,true),(6,true),(7,true),(8,true),(9,true),(10,true),(11,true),(12,true),(13,true)] mixed (by decide +kernel) rfl ?_;intro ku aC;replace H:=H.ext aC;clear aC
  refine ⟨(H.pk [0,1,2,3,4,5,6,7,8,9,10,11]),?_⟩
  obtain ⟨kv,hM⟩:=M.e_gd hM;obtain ⟨kw,hM⟩:=M.e_gd hM;refine kg 21 ?_;obtain ⟨kx,eG,hM⟩:=M.e_bind hM;refine s_call cf13 [Pq ag,I 8] rfl (zad s_bytes cE cF 8 (al.app _) am eG _ (H.gt 11)) ?_
  rintro vq kz ⟨aM,eH,eI,rfl,hvq,aa⟩
  subst vq;(try dsimp only at hM);replace H:=H.bk aa;clear aa;obtain ⟨kA,hM⟩:=M.e_gd hM;refine kg 5 ?_;obtain ⟨kB,eJ,hM⟩:=M.e_bind hM;refine s_call cf13 [Pq ag,I 8] rfl (zad s_bytes eH eI 8 (al.app _) am eJ _ (H.gt 11)) ?_
  rintro vq kC ⟨aN,eK,eL,rfl,hvq,aa⟩
  subst vq;(try dsimp only at hM);replace H:=H.bk aa;clear aa;obtain ⟨kD,hM⟩:=M.e_gd hM;refine kg 1 ?_;refine s_val (x_bld (ps:=[(0,I ((min (ac.getD (Int.toNat ab) 0) (ac.getD (Int.toNat (ab+ah)) 0))-aM)),(1,I ((max (ac.getD (Int.toNat ab) 0) (ac.getD (Int.toNat (ab+ah)) 0))+aN))]) (zs:=[I 0,I 0]) (L':=[I ((min (ac.getD (Int.toNat ab) 0) (ac.getD (Int.toNat (ab+ah)) 0))-aM),I ((max (ac.getD (Int.toNat ab) 0) (ac.getD (Int.toNat (ab+ah)) 0))+aN)]) rfl Tryz.underlying41 Al41 rfl (Bd41 Tryz.underlying41) (.cons (cs:=[I ((min (ac.getD (Int.toNat ab) 0) (ac.getD (Int.toNat (ab+ah)) 0))-aM)]) rfl rfl rfl rfl rfl<|.cons (cs:=[I ((max (ac.getD (Int.toNat ab) 0) (ac.getD (Int.toNat (ab+ah)) 0))+aN)]) rfl rfl rfl rfl rfl<|.nil)) ?_;refine kg 1 ?_;refine t_sw 1 2 [I ((min (ac.getD (Int.toNat ab) 0) (ac.getD (Int.toNat (ab+ah)) 0))-aM),I ((max (ac.getD (Int.toNat ab) 0) (ac.getD (Int.toNat (ab+ah)) 0))+aN)] (.agg #[I ((min (ac.getD (Int.toNat ab) 0) (ac.getD (Int.toNat (ab+ah)) 0))-aM),I ((max (ac.getD (Int.toNat ab) 0) (ac.getD (Int.toNat (ab+ah)) 0))+aN)]) H rfl rfl Sz41 rfl rfl rfl rfl ?_;intro kE H;refine kg 5 ?_;refine t_bs (α:=Rch) T25 [.agg #[I ab,I (ab+ah),I ((min (ac.getD (Int.toNat ab) 0) (ac.getD (Int.toNat (ab+ah)) 0))-aM),I ((max (ac.getD (Int.toNat ab) 0) (ac.getD (Int.toNat (ab+ah)) 0))+aN),B (aI==0)]] [(⟨(ab:Int),(ab+ah:Int),((min (ac.getD (Int.toNat ab) 0) (ac.getD (Int.toNat (ab+ah)) 0))-aM:Int),((max (ac.getD (Int.toNat ab) 0) (ac.getD (Int.toNat (ab+ah)) 0))+aN:Int),(aI==0)⟩:Rch)] H rfl (.cons rfl (Flat.rep_enc _ (⟨(ab:Int),(ab+ah:Int),((min (ac.getD (Int.toNat ab) 0) (ac.getD (Int.toNat (ab+ah)) 0))-aM:Int),((max (ac.getD (Int.toNat ab) 0) (ac.getD (Int.toNat (ab+ah)) 0))+aN:Int),(aI==0)⟩:Rch))<|.nil) rfl rfl rfl ?_;intro eM kF H;obtain ⟨kG,hM⟩:=M.e_gd hM;refine t_app (α:=Rch) (k:=3) (l:=aR) (l2:=[(⟨(ab:Int),(ab+ah:Int),((min (ac.getD (Int.toNat ab) 0) (ac.getD (Int.toNat (ab+ah)) 0))-aM:Int),((max (ac.getD (Int.toNat ab) 0) (ac.getD (Int.toNat (ab+ah)) 0))+aN:Int),(aI==0)⟩:Rch)]) (l':=aR++([(⟨(ab:Int),(ab+ah:Int),((min (ac.getD (Int.toNat ab) 0) (ac.getD (Int.toNat (ab+ah)) 0))-aM:Int),((max (ac.getD (Int.toNat ab) 0) (ac.getD (Int.toNat (ab+ah)) 0))+aN:Int),(aI==0)⟩:Rch)])) (vy:=eM) T25 rfl H rfl rfl rfl (H.os 0) (H.ol 0) (rfl) (by first | omega | (simp only [List.length_nil] at *; omega)) ?_;intro b6 kH H;replace H:=H.nf;refine kg 1 ?_;refine t_sw 10 2 [b6] b6 H rfl rfl Sz25 (Sl.cells (H.os 3)) rfl rfl (by simp only [List.all_cons,List.all_nil,Bool.true_and,Bool.and_true,Sl.oc (H.os 3)]; try rfl) ?_;intro kI H;refine s_nil ?_;replace H:=H.pk [1,3,4,5,6,7,8,9,10,11,12];obtain ⟨kJ,hM⟩:=M.e_gd hM;refine kg 5 ?_
  exact ⟨ew,ey,eK,eL,n2-1,aR++([(⟨(ab:Int),(ab+ah:Int),((min (ac.getD (Int.toNat ab) 0) (ac.getD (Int.toNat (ab+ah)) 0))-aM:Int),((max (ac.getD (Int.toNat ab) 0) (ac.getD (Int.toNat (ab+ah)) 0))+aN:Int),(aI==0)⟩:Rch)]),b6,_,upds_of _ _ ⟨rfl,rfl,rfl,rfl,rfl,rfl,trivial⟩,M.e_inl hM cD,(H.pk [1,0,2,3,4,5,6,7,8,9,10])⟩
 replace hM:=M.e_f hM bc
 replace bc:=dI bc
 refine W.exit ?_
 have eN:=M.e_inr hM cD
 subst eN;replace hM:=eu;(try dsimp only at hM);refine W.seq ?_;refine W.draw (fun W=>St w W [cOwn (α:=Rch) 70 aE aR,cBlk ag [aJ,I bh,I bi] 72,cOwn (α:=Int) 3 ap ac,cOwn (α:=Int) 3 aj ae,cOwn (α:=Mrk) 68 aD aZ,cOwn (α:=Raw 1) 64 ai ax,cRo B_l9,cBlk au [aj,ap] 30,cBlk ao [ai,aD,aE] 27] R) [(0,true),(1,true),(2,false),(3,false)] mixed (by decide +kernel) rfl ?_;intro kK aC;replace H:=H.ext aC;clear aC
 refine ⟨(H.pk [0,1,2,3,4,5,6,7,8]),?_⟩
 refine kg 2 ?_;refine d_l rfl ?_;refine t_sw 10 0 [ai,aD,aE] (.agg #[ai,aD,aE]) H rfl rfl Sz27 rfl rfl rfl (by simp only [List.all_cons,List.all_nil,Bool.true_and,Bool.and_true,Sl.oc (rowSl rfl (H.get (k:=5) rfl) (roLe _ (H.get (k:=6) rfl)) aw),Sl.oc (H.os 4),Sl.oc (H.os 0)]; try rfl) ?_;intro kL H
 refine s_nil ⟨(H.pk [0,1,2,3,4,5,6,7,8]),?_⟩
 refine d_l rfl ?_;refine t_sw 9 0 [aj,ap] (.agg #[aj,ap]) H rfl rfl Sz30 rfl rfl rfl (by simp only [List.all_cons,List.all_nil,Bool.true_and,Bool.and_true,Sl.oc (H.os 3),Sl.oc (H.os 2)]; try rfl) ?_;intro kM H
 refine s_nil ⟨(H.pk [0,1,2,3,4,5,6,7,8]),?_⟩
 refine d_nil ?_;replace H:=H.pk [0,1,2,3,4,5,6,9,10];refine W.ret ?_
 have eO:=(H.bl 8)
 have eP:=(H.bl 7)
 have eQ:=M.e_pure hM
 exact ⟨_,(resE_ofn (vs:=[.agg #[ai,aD,aE],.agg #[aj,ap]]) rfl rfl (.cell (v:=.agg #[ai,aD,aE]) rfl (run_loadVar_ag (ds:=[ai,aD,aE]) Ag27 Sz27 eO rfl rfl)<|.cell (v:=.agg #[aj,ap]) rfl (run_loadVar_ag (ds:=[aj,ap]) Ag30 Sz30 eP rfl rfl)<|.nil)),⟨l9,aZ,aR,ae,ac,bh,bi,ai,ax,B_l9,aD,aE,aj,ap,eQ,rfl,(H.pk [5,6,4,0,3,2,1]),aw⟩⟩

end Go.Proofs.YtpiebomegbbpcaaGreat
end
