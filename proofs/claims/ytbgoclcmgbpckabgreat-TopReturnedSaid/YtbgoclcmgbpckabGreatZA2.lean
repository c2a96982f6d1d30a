/- Part 2 of the texts on which the proof rests. Conditions: none. -/
import Derived.Maps.RangeRun
import Derived.Laws.IdiomCopy
import Derived.Laws.CopyRow
import Derived.ScopeJumps
import Derived.Test.YtbgoclcmgbpckabGreatProg
import Derived.Shelf.SlIterI.Nil
import Derived.Shelf.SortM.Plain
import Derived.Shelf.SortM.SortNone
import Derived.WideKeyRuns
import Derived.Test.YtbgoclcmgbpckabGreatZA1
set_option linter.unusedVariables false
set_option linter.unusedSimpArgs false
set_option linter.unusedSectionVars false
namespace Go.Nm
open Go
theorem mm_old (w:World) (o:Obj) {j:Nat} (h:j<w.heap.size):(w.alloc o).heap[j]?=w.heap[j]?:=by
  show (w.heap.push o)[j]?=_;rw [Array.getElem?_push,if_neg (by omega)]
/-! ### What is reckoned entry by entry -/
namespace M
variable {κ ν:Type}
def mapL (body:κ->ν->M ν):List (κ × ν)->M (List (κ × ν))
  | []=>pure []
  | p :: m=>bind (body p.1 p.2) fun v=>bind (mapL body m) fun m'=>pure ((p.1,v) :: m')
theorem mapL_at {body:κ->ν->M ν}:∀ {m m':List (κ × ν)},(mapL body m).Ends m'->m'.length=m.length/\∀ (i:Nat) (k:κ) (v:ν),m[i]?=some (k,v)->∃ v',(body k v).Ends v'/\m'[i]?=some (k,v')
  | [],m',h=>by
    obtain rfl:=e_pure h;exact ⟨rfl,fun i k v h=>by simp at h⟩
  | p :: m,m',h=>by
    obtain ⟨v1,h1,h⟩:=e_bind h;obtain ⟨m1,h2,h⟩:=e_bind h;obtain rfl:=e_pure h;obtain ⟨l,ih⟩:=mapL_at h2;refine ⟨by simp [l],fun i k v hi=>?_⟩;cases i with
    | zero =>
      simp only [List.getElem?_cons_zero,Option.some.injEq] at hi;subst hi;exact ⟨v1,h1,rfl⟩
    | succ i=>exact ih i k v (by simpa using hi)
theorem mapL_ends {body:κ->ν->M ν} {g:κ->ν->ν}:∀ {m:List (κ × ν)},(∀ p∈m,(body p.1 p.2).Ends (g p.1 p.2))->(mapL body m).Ends (m.map fun p=>(p.1,g p.1 p.2))
  | [],_=>i_pure
  | p :: m,h=>i_bind (h p (by simp)) (i_bind (mapL_ends fun q hq=>h q (by simp [hq])) i_pure)
end M
theorem setM_keys {κ ν:Type} [DecidableEq κ]:∀ (m:List (κ × ν)) (k:κ) (v:ν),(setM m k v).map Prod.fst=if k∈m.map Prod.fst then m.map Prod.fst else m.map Prod.fst++[k]
  | [],k,v=>by simp [setM]
  | p :: m,k,v=>by
    have ih:=setM_keys m k v;unfold setM;by_cases h:p.1=k
    · rw [if_pos h]; simp [h]
    · rw [if_neg h,List.map_cons,ih];simp only [List.map_cons,List.mem_cons,Ne.symm h,false_or];split <;> simp
theorem setM_once {κ ν:Type} [DecidableEq κ] {m:List (κ × ν)} (h:(m.map Prod.fst).Nodup) (k:κ) (v:ν):((setM m k v).map Prod.fst).Nodup:=by
  rw [setM_keys];split
  · exact h
  · rename_i hk
    rw [List.nodup_append];refine ⟨h,by simp,fun a ha b hb e=>?_⟩;simp only [List.mem_singleton] at hb;subst hb e;exact hk ha
theorem idxM_at {κ ν:Type} [DecidableEq κ]:∀ {m:List (κ × ν)} {i:Nat} {k:κ} {v:ν},(m.map Prod.fst).Nodup->m[i]?=some (k,v)->idxM m k=some i
  | [],i,k,v,_,h=>by simp at h
  | p :: m,i,k,v,hn,h=>by
    rw [List.map_cons,List.nodup_cons] at hn;unfold idxM;cases i with
    | zero =>
      simp only [List.getElem?_cons_zero,Option.some.injEq] at h;rw [if_pos (by rw [h])]
    | succ i =>
      simp only [List.getElem?_cons_succ] at h;have hk:p.1 ≠ k:=fun e=>hn.1 (by rw [e]; exact List.mem_map.2 ⟨_,List.mem_of_getElem? h,rfl⟩);rw [if_neg hk,idxM_at hn.2 h];rfl
/-! ### In memory -/
section
variable {κ ν:Type} [DecidableEq κ] {kenc:κ->Value} {venc:ν->Value}
def cMl (kenc:κ->Value) (venc:ν->Value) (b:Nat) (m:List (κ × ν)):Chunk where
  D k:=k=b
  ex:=true
  ok w:=∃ es n,w.heap[b]?=some (.map es n)/\MapL kenc venc es n m/\(m.map Prod.fst).Nodup
  st w w':=fun ⟨es,n,h1,h2⟩ _ k=>⟨es,n,(k b rfl).trans h1,h2⟩
  bd w k:=fun ⟨_,_,h,_⟩ e=>by rw [e]; exact heap_lt h
theorem MapL.toR {es:Array MapEntry} {n:Nat} {m:List (κ × ν)} (h:MapL kenc venc es n m):MapR kenc venc es n (lookM m):=⟨⟨m,h.1,fun _=>rfl⟩,h.2⟩
theorem mlMap {w:World} {b:Nat} {m:List (κ × ν)} (h:(cMl kenc venc b m).ok w):(cMap kenc venc b (lookM m)).ok w:=by
  obtain ⟨es,n,h1,h2,_⟩:=h;exact ⟨es,n,h1,h2.toR⟩
/-- A map that is gone through: which entries are left, and which one came last. -/
def cIt (kenc:κ->Value) (venc:ν->Value) (b r:Nat) (m:List (κ × ν)) (left:List Bool) (last:Option Nat):Chunk where
  D k:=k=b∨k=r
  ex:=true
  ok w:=∃ (es:Array MapEntry) (n since:Nat) (seen:Array Nat) (c0:Nat),w.heap[b]?=some (.map es n)/\w.heap[r]?=some (.mapIter (some b) since seen c0)/\MapL kenc venc es n m/\(m.map Prod.fst).Nodup/\(∀ e∈es.toList,e.born<since)/\since<=c0/\since<=n ∧
    left=es.toList.map (fun e=>!seen.contains e.born)/\∀ i,last=some i->c0=n/\∃ (e:MapEntry) (seen0:Array Nat),es.toList[i]?=some e/\seen=seen0.push e.born
  st w w':=fun ⟨es,n,since,seen,c0,h1,h2,h3⟩ _ k=>⟨es,n,since,seen,c0,(k b (.inl rfl)).trans h1,(k r (.inr rfl)).trans h2,h3⟩
  bd w k:=fun ⟨_,_,_,_,_,h1,h2,_⟩ e=>by
    rcases e with e | e
    · rw [e]; exact heap_lt h1
    · rw [e]; exact heap_lt h2
variable {P:Program} {w w0:World} {L L' R:List Chunk} {t kt et:TypeId} {b r:Nat} {es:Array MapEntry} {clk:Nat} {m:List (κ × ν)}
theorem run_putL (K:KeyL (ν:=ν) P kt kenc) (ht:P.underlying t=some (.map kt et)) (hb:w.heap[b]?=some (.map es clk)) (hm:MapL kenc venc es clk m) (k:κ) (v:ν) :
    ∃ es' clk' w',(Instr.mapUpdate t (.map (some b)) (kenc k) (venc v)).run P w = .ok () w'/\Put w b (.map es' clk') w'/\MapL kenc venc es' clk' (setM m k v)/\(∀ i,idxM m k=some i->es'.toList.map (·.born)=es.toList.map (·.born)/\clk'=clk):=by
  obtain ⟨h1,h3,h4⟩:=hm;have hf:=K.find w es.toList m venc k h1;cases hi:idxM m k with
  | none =>
    rw [hi] at hf;refine ⟨es.push { key:=kenc k,val:=venc v,born:=clk },clk+1,_,?_,Put.setMap _ hb (by simp) rfl,⟨?_,?_,?_⟩,fun i h=>by cases h⟩
    · simp [Instr.mapUpdate,run_underlying ht,MapKept.run_getObj_map hb,K.check,hf,MapKept.run_setObj_map _ hb]
    · rw [setM_none v hi];simp [h1]
    · simp only [Array.toList_push,List.map_append,List.map_cons,List.map_nil];rw [List.nodup_append];refine ⟨h3,by simp,fun a ha c hc=>?_⟩;simp at hc;subst hc;obtain ⟨e,he,rfl⟩:=List.mem_map.1 ha;have:=h4 e he;omega
    · intro e he;simp only [Array.toList_push,List.mem_append,List.mem_singleton] at he;rcases he with he | rfl
      · have:=h4 e he; omega
      · simp
  | some i =>
    obtain ⟨v0,hv,hl⟩:=idxM_some hi;have he:∃ e,es.toList[i]?=some e/\e.key=kenc k:=by
      have h3:(es.toList.map (fun e=>(e.key,e.val)))[i]?=(m.map (fun p=>(kenc p.1,venc p.2)))[i]?:=by rw [h1]
      rw [List.getElem?_map,List.getElem?_map,hv] at h3;cases he:es.toList[i]? with
      | none=>rw [he] at h3; simp at h3
      | some e=>rw [he] at h3; simp at h3; exact ⟨e,rfl,h3.1⟩
    obtain ⟨e,he1,he2⟩:=he;have he1':es[i]?=some e:=by simpa using he1
    rw [hi] at hf;simp only [Option.bind_some,he1,Option.map_some] at hf;have hk:(Instr.keyThatStays (((es[i]?).map (·.key)).getD (kenc k)) (kenc k)).run P w = .ok (kenc k) w:=by
      simp [he1',Instr.keyThatStays,he2,K.same]
    have hbn:(es.modify i fun e=>{ e with key:=kenc k,val:=venc v }).toList.map (·.born)=es.toList.map (·.born):=by
      apply List.ext_getElem?;intro j;simp only [List.getElem?_map,Array.getElem?_toList,Array.getElem?_modify];by_cases hij:i=j
      · subst hij; simp [he1']
      · simp [hij]
    refine ⟨es.modify i fun e=>{ e with key:=kenc k,val:=venc v },clk,_,?_,Put.setMap _ hb (by simp) rfl,⟨?_,?_,?_⟩,fun _ _=>⟨hbn,rfl⟩⟩
    · simp [Instr.mapUpdate,run_underlying ht,MapKept.run_getObj_map hb,K.check,hf,hk,MapKept.run_setObj_map _ hb]
    · rw [setM_some v hi];apply List.ext_getElem?;intro j;have hj:(es.toList.map (fun e=>(e.key,e.val)))[j]?=(m.map (fun p=>(kenc p.1,venc p.2)))[j]?:=by rw [h1]
      simp only [List.getElem?_map,Array.getElem?_toList,Array.getElem?_modify,List.getElem?_set] at hj ⊢;by_cases hij:i=j
      · subst hij;have hlt:=(List.getElem?_eq_some_iff.1 hv).1;simp [he1',hlt]
      · simp [hij,hj]
    · rw [hbn]; exact h3
    · intro e' he';have:e'.born∈es.toList.map (·.born):=by rw [← hbn]; exact List.mem_map.2 ⟨e',he',rfl⟩
      obtain ⟨e2,h5,h6⟩:=List.mem_map.1 this;rw [← h6];exact h4 e2 h5
variable {all rest:List Oper} {Q:Post} {σ:Env} {d:Nat} {ty:TypeId} {pos:String} {af:Array Edge} {g:Option (Nat × Bool)}
omit [DecidableEq κ] in theorem t_mkMl {t':TypeId} (kenc:κ->Value) (venc:ν->Value) (H:St w0 w L R) (k:∀ b w',St w0 w' (cMl kenc venc b [] :: L) R->SL P all Q rest (upd σ d (.map (some b))) w'):SL P all Q (⟨some d,.makeMap t' none,ty,pos,af,none⟩ :: rest) σ w :=
  s_mkmap fun b w' hn=>k b w' (H.push (c:=cMl kenc venc b []) hn.ext ⟨_,_,hn.same,⟨rfl,List.nodup_nil,fun e h=>by simp at h⟩,List.nodup_nil⟩ (fun j hj=>by rw [show j=b from hj]; exact hn.ge))
theorem t_putMl {dst:Option Nat} {x y u:Operand} {i:Nat} (K:KeyL (ν:=ν) P kt kenc) (ht:P.underlying t=some (.map kt et)) (H:St w0 w L R) (hk:L[i]?=some (cMl kenc venc b m)) (hx:ev σ x = .map (some b)) {k:κ} (hy:ev σ y=kenc k) {v:ν} (hu:ev σ u=venc v)
    (hL:L.set i (cMl kenc venc b (setM m k v))=L') (kk:∀ w',St w0 w' L' R->SL P all Q rest (updo σ dst undef) w'):SL P all Q (⟨dst,.mapUpdate t x y u,ty,pos,af,none⟩ :: rest) σ w:=by
  obtain ⟨es,n,h1,h2,hn⟩:=H.get hk;obtain ⟨es',clk',w',hr,hp,hm',_⟩:=run_putL (w:=w) K ht h1 h2 k v;refine s_skp (w':=w') ?_ (kk _ (H.set (c':=cMl kenc venc b (setM m k v)) hk rfl hp.keep (fun i _ hne=>hp.other i hne) (fun i hi=>.inl hi) ⟨es',clk',hp.same,hm',setM_once hn k v⟩ hL));simp [execOp,hx,hy,hu,hr]
/-- The loop over a map begins. -/
theorem t_range {x:Operand} {i:Nat} (ht:P.underlying t=some (.map kt et)) (H:St w0 w L R) (hk:L[i]?=some (cMl kenc venc b m)) (hx:ev σ x = .map (some b))
    (kk:∀ r w',St w0 w' (L.set i (cIt kenc venc b r m (List.replicate m.length true) none)) R->SL P all Q rest (upd σ d (.pointer (some ⟨r,0,none⟩))) w'):SL P all Q (⟨some d,.range t x,ty,pos,af,none⟩ :: rest) σ w:=by
  obtain ⟨es,n,h1,h2,hn⟩:=H.get hk;have hr:=run_range_map (P:=P) w t kt et b es n ht h1;refine s_any (v:=.pointer (some ⟨w.heap.size,0,none⟩)) (w':=w.alloc (.mapIter (some b) n #[] n)) (by simp [execOp,hx,hr]) (kk _ _ ?_);have hx:Ext w (w.alloc (.mapIter (some b) n #[] n)):=⟨rfl,rfl,by show w.heap.size<=(w.heap.push _).size; simp,fun j hj=>mm_old w _ hj,fun a=>by
    unfold World.frozen?;by_cases e:a.block<w.heap.size
    · rw [mm_old w _ e]
    · by_cases e2:a.block=w.heap.size
      · rw [e2,heap_alloc_new]; simp
      · have:(w.alloc (.mapIter (some b) n #[] n)).heap[a.block]?=none:=by
          rw [Array.getElem?_eq_none]; show (w.heap.push _).size<=_; rw [Array.size_push]; omega
        rw [this,Array.getElem?_eq_none (by omega)]⟩
  have hlen:es.toList.length=m.length:=by have:=congrArg List.length h2.1; simpa using this
  refine H.set (c':=cIt kenc venc b w.heap.size m (List.replicate m.length true) none) hk rfl hx.keep (fun j hj _=>hx.blk j hj) (fun j hj=>?_) ⟨es,n,n,#[],n,(hx.blk b (heap_lt h1)).trans h1,heap_alloc_new w _,h2,hn,h2.2.2,Nat.le_refl _,Nat.le_refl _,?_,fun i h=>by cases h⟩ rfl
  · rcases hj with hj | hj
    · exact .inl hj
    · exact .inr (by omega)
  · rw [← hlen];apply List.ext_getElem?;intro j;rw [List.getElem?_replicate,List.getElem?_map];split
    · rename_i hj
      rw [List.getElem?_eq_getElem hj];simp
    · rename_i hj
      rw [List.getElem?_eq_none (by omega)];rfl
/-- The next entry: none is left, or one of those that are. -/
theorem t_next {x:Operand} {i:Nat} {left:List Bool} {last:Option Nat} (H:St w0 w L R) (hk:L[i]?=some (cIt kenc venc b r m left last)) (hx:ev σ x = .pointer (some ⟨r,0,none⟩))
    (h0:(∀ j:Nat,left.getD j false=false)->SL P all Q rest (upd σ d (.tuple #[.bool false])) w)
    (h1:∀ (j:Nat) (k:κ) (v:ν) w',left.getD j false=true->m[j]?=some (k,v)->St w0 w' (L.set i (cIt kenc venc b r m (left.set j false) (some j))) R->SL P all Q rest (upd σ d (.tuple #[.bool true,kenc k,venc v])) w') :
    SL P all Q (⟨some d,.next x false,ty,pos,af,none⟩ :: rest) σ w:=by
  obtain ⟨es,n,since,seen,c0,hb,hr,hm,hn,hold,hsc,hsn,hleft,hlast⟩:=H.get hk;have hlen:es.toList.length=m.length:=by have:=congrArg List.length hm.1; simpa using this
  have hget:∀ j:Nat,left.getD j false=((es.toList[j]?).map fun e=>!seen.contains e.born).getD false:=fun j=>by
    rw [hleft,List.getD_eq_getElem?_getD,List.getElem?_map]
  rcases run_next_at (P:=P) w ty r b since c0 seen es n hr hb hold hsc with ⟨hz,hrun⟩ | ⟨e,he,w1,hw1,hrun⟩
  · refine s_any (v:=.tuple #[.bool false]) (w':=w) (by simp [execOp,hx,hrun]) (h0 fun j=>?_);rw [hget];cases hj:es.toList[j]? with
    | none=>rfl
    | some e =>
      simp only [Option.map_some,Option.getD_some];cases hc:seen.contains e.born with
      | true=>rfl
      | false =>
        have hm:e∈leftOf es seen:=Array.mem_filter.2 ⟨Array.mem_toList_iff.1 (List.mem_of_getElem? hj),by rw [hc]; rfl⟩;have:=Array.size_pos_of_mem hm;omega
  · obtain ⟨hes,hse⟩:=mem_left he;obtain ⟨j,hj⟩:=List.getElem?_of_mem hes;have hjl:j<es.toList.length:=(List.getElem?_eq_some_iff.1 hj).1;have hmj:∃ k v,m[j]?=some (k,v)/\e.key=kenc k/\e.val=venc v:=by
      have h3:(es.toList.map (fun e=>(e.key,e.val)))[j]?=(m.map (fun p=>(kenc p.1,venc p.2)))[j]?:=by rw [hm.1]
      rw [List.getElem?_map,List.getElem?_map,hj] at h3;cases hq:m[j]? with
      | none=>rw [hq] at h3; simp at h3
      | some q=>rw [hq] at h3; simp at h3; exact ⟨q.1,q.2,rfl,h3.1,h3.2⟩
    obtain ⟨k,v,hk1,hk2,hk3⟩:=hmj;rw [hk2,hk3] at hrun;refine s_any (v:=.tuple #[.bool true,kenc k,venc v]) (w':=ChangeMaps.setBlock w1 r (.mapIter (some b) since (seen.push e.born) n)) (by simp [execOp,hx,hrun]) (h1 j k v _ ?_ hk1 ?_)
    · rw [hget,hj];simp only [Option.map_some,Option.getD_some,hse];rfl
    · have hw:w1.heap=w.heap/\w1.os=w.os/\w1.output=w.output:=by rcases hw1 with rfl | rfl <;> exact ⟨rfl,rfl,rfl⟩
      have hrl:=heap_lt hr;have hsame:(ChangeMaps.setBlock w1 r (.mapIter (some b) since (seen.push e.born) n)).heap[r]?=some (.mapIter (some b) since (seen.push e.born) n):=by
        show (w1.heap.setIfInBounds r _)[r]?=_;rw [Array.getElem?_setIfInBounds_self_of_lt (by rw [hw.1]; exact hrl)]
      have hoth:∀ q,q ≠ r->(ChangeMaps.setBlock w1 r (.mapIter (some b) since (seen.push e.born) n)).heap[q]?=w.heap[q]?:=fun q hq=>by
        show (w1.heap.setIfInBounds r _)[q]?=_;rw [Array.getElem?_setIfInBounds_ne (Ne.symm hq),hw.1]
      have hbr:b ≠ r:=fun e=>by rw [e,hr] at hb; cases hb
      refine H.set (c':=cIt kenc venc b r m (left.set j false) (some j)) hk rfl ⟨hw.2.1,hw.2.2,by show _<=(w1.heap.setIfInBounds r _).size; rw [Array.size_setIfInBounds,hw.1]; exact Nat.le_refl _⟩ (fun q _ hq=>hoth q (fun e=>hq (.inr e))) (fun q hq=>.inl hq)
        ⟨es,n,since,seen.push e.born,n,(hoth b hbr).trans hb,hsame,hm,hn,hold,hsn,hsn,?_,fun q hq=>?_⟩ rfl
      · rw [hleft];apply List.ext_getElem?;intro q;rw [List.getElem?_set,List.getElem?_map,List.getElem?_map,List.length_map];by_cases hq:j=q
        · subst hq;rw [if_pos rfl,if_pos hjl,hj];simp
        · rw [if_neg hq];cases hq2:es.toList[q]? with
          | none=>rfl
          | some e2 =>
            have hne:e2.born ≠ e.born:=fun h4=>by
              have hnd:=hm.2.1;have hql:q<es.toList.length:=(List.getElem?_eq_some_iff.1 hq2).1;have a1:(es.toList.map (·.born))[q]?=(es.toList.map (·.born))[j]?:=by rw [List.getElem?_map,List.getElem?_map,hq2,hj]; simp [h4]
              exact hq ((List.getElem?_inj (by simpa using hql) hnd).1 a1).symm
            simp only [Option.map_some]
            congr 1
            rw [Array.contains_push];simp [hne]
      · injection hq with hq
        subst hq;exact ⟨rfl,e,seen,hj,rfl⟩
/-- The entry that came last. -/
theorem x_entry {x:Operand} {left:List Bool} {j:Nat} {k:κ} {v:ν} (ho:(cIt kenc venc b r m left (some j)).ok w) (hj:m[j]?=some (k,v)) (hx:ev σ x = .pointer (some ⟨r,0,none⟩)) :
    (execOp (ev σ) ⟨some d,.entry x,ty,pos,af,g⟩).run P w = .ok (.value (.tuple #[kenc k,venc v])) w:=by
  obtain ⟨es,n,since,seen,c0,hb,hr,hm,hn,hold,hsc,hsn,hleft,hlast⟩:=ho;obtain ⟨rfl,e,seen0,he,rfl⟩:=hlast j rfl;have hrun:=run_entry_at (P:=P) w r b since seen0 es _ e hr hb (List.mem_of_getElem? he) hm.2.1;have h3:(es.toList.map (fun e=>(e.key,e.val)))[j]?=(m.map (fun p=>(kenc p.1,venc p.2)))[j]?:=by rw [hm.1]
  rw [List.getElem?_map,List.getElem?_map,he,hj] at h3;simp only [Option.map_some,Option.some.injEq,Prod.mk.injEq] at h3;rw [h3.1,h3.2] at hrun;simp [execOp,hx,hrun]
/-- An entry is turned while the map is gone through. -/
theorem t_putIt {dst:Option Nat} {x y u:Operand} {i j:Nat} {left:List Bool} {last:Option Nat} (K:KeyL (ν:=ν) P kt kenc) (ht:P.underlying t=some (.map kt et)) (H:St w0 w L R) (hk:L[i]?=some (cIt kenc venc b r m left last)) (hx:ev σ x = .map (some b)) {k:κ} {v0:ν} (hj:m[j]?=some (k,v0)) (hy:ev σ y=kenc k) {v:ν} (hu:ev σ u=venc v)
    (hL:L.set i (cIt kenc venc b r (m.set j (k,v)) left last)=L') (kk:∀ w',St w0 w' L' R->SL P all Q rest (updo σ dst undef) w'):SL P all Q (⟨dst,.mapUpdate t x y u,ty,pos,af,none⟩ :: rest) σ w:=by
  obtain ⟨es,n,since,seen,c0,hb,hr,hm,hn,hold,hsc,hsn,hleft,hlast⟩:=H.get hk;obtain ⟨es',clk',w',hrun,hp,hm',hq_⟩:=run_putL (w:=w) K ht hb hm k v;have hi:=idxM_at hn hj;obtain ⟨hbn,rfl⟩:=hq_ j hi;rw [setM_some v hi] at hm';have hbr:r ≠ b:=fun e=>by rw [e,hb] at hr; cases hr
  have hmem:∀ e∈es'.toList,e.born<since:=fun e he=>by
    have:e.born∈es.toList.map (·.born):=by rw [← hbn]; exact List.mem_map.2 ⟨e,he,rfl⟩
    obtain ⟨e2,h5,h6⟩:=List.mem_map.1 this;rw [← h6];exact hold e2 h5
  refine s_skp (w':=w') (by simp [execOp,hx,hy,hu,hrun]) (kk _ (H.set (c':=cIt kenc venc b r (m.set j (k,v)) left last) hk rfl hp.keep (fun q _ hq=>hp.other q (fun e=>hq (.inl e))) (fun q hq=>.inl hq)
    ⟨es',clk',since,seen,c0,hp.same,(hp.other r hbr).trans hr,hm',?_,hmem,hsc,hsn,?_,fun q hq=>?_⟩ hL))
  · have:=setM_once hn k v
    rwa [setM_some v hi] at this
  · rw [hleft];have e1:∀ l:List MapEntry,l.map (fun e=>!seen.contains e.born)=(l.map (·.born)).map (fun q=>!seen.contains q):=fun l=>by rw [List.map_map]; rfl
    rw [e1,e1,hbn]
  · obtain ⟨h1,e,seen0,h2,h3⟩:=hlast q hq;have h4:(es'.toList.map (·.born))[q]?=(es.toList.map (·.born))[q]?:=by rw [hbn]
    rw [List.getElem?_map,List.getElem?_map,h2] at h4;cases h5:es'.toList[q]? with
    | none=>rw [h5] at h4; simp at h4
    | some e2 =>
      rw [h5] at h4;simp only [Option.map_some,Option.some.injEq] at h4;exact ⟨h1,e2,seen0,rfl,by rw [h4]; exact h3⟩
/-- The loop is over. -/
theorem St.itEnd {i:Nat} {left:List Bool} {last:Option Nat} (H:St w0 w L R) (hk:L[i]?=some (cIt kenc venc b r m left last)) (hL:L.set i (cMl kenc venc b m)=L'):St w0 w L' R:=by
  obtain ⟨es,n,since,seen,c0,hb,hr,hm,hn,_⟩:=H.get hk;exact H.set (c':=cMl kenc venc b m) hk rfl (Keep.refl w) (fun _ _ _=>rfl) (fun q hq=>.inl (.inl hq)) ⟨es,n,hb,hm,hn⟩ hL
end
/-- How far a loop over a map has come: what is left is as it was, what was met is as it will be. -/
def ItR {κ ν:Type} (m m' m1:List (κ × ν)) (left:List Bool):Prop:=m1.length=m.length/\m'.length=m.length/\left.length=m.length/\∀ i,i<m.length->m1[i]?=if left.getD i false then m[i]? else m'[i]?
namespace ItR
variable {κ ν:Type} {m m' m1:List (κ × ν)} {left:List Bool} {body:κ->ν->M ν}
theorem init (h:(M.mapL body m).Ends m'):ItR m m' m (List.replicate m.length true) :=
  ⟨rfl,(M.mapL_at h).1,by simp,fun i hi=>by rw [List.getD_eq_getElem?_getD,List.getElem?_replicate,if_pos hi]; rfl⟩
theorem fin (h:ItR m m' m1 left) (hl:∀ j:Nat,left.getD j false=false):m1=m':=by
  apply List.ext_getElem?;intro i;by_cases hi:i<m.length
  · rw [h.2.2.2 i hi,hl i]; rfl
  · rw [List.getElem?_eq_none (by have:=h.1; omega),List.getElem?_eq_none (by have:=h.2.1; omega)]
theorem lt (h:ItR m m' m1 left) {j:Nat} (hj:left.getD j false=true):j<m.length:=by
  rw [← h.2.2.1];refine Nat.lt_of_not_le fun hn=>?_;rw [List.getD_eq_getElem?_getD,List.getElem?_eq_none hn] at hj;cases hj
theorem at_ (h:ItR m m' m1 left) (hb:(M.mapL body m).Ends m') {j:Nat} {k:κ} {v:ν} (hj:left.getD j false=true) (hm:m1[j]?=some (k,v)):∃ v',(body k v).Ends v'/\m'[j]?=some (k,v'):=by
  have:=h.2.2.2 j (h.lt hj);rw [hj,hm] at this;exact (M.mapL_at hb).2 j k v (by simpa using this.symm)
theorem step (h:ItR m m' m1 left) {j:Nat} {k:κ} {v v':ν} (hj:left.getD j false=true) (hm:m1[j]?=some (k,v)) (hv:m'[j]?=some (k,v')):ItR m m' (m1.set j (k,v')) (left.set j false):=by
  have hjl:=h.lt hj;have hl:=h.2.2.1;have h1:=h.1;refine ⟨by rw [List.length_set]; exact h.1,h.2.1,by rw [List.length_set]; exact h.2.2.1,fun i hi=>?_⟩;by_cases e:j=i
  · subst e;rw [List.getElem?_set_self (by omega),List.getD_eq_getElem?_getD,List.getElem?_set_self (by omega),hv];rfl
  · rw [List.getElem?_set_ne e,List.getD_eq_getElem?_getD,List.getElem?_set_ne e,← List.getD_eq_getElem?_getD];exact h.2.2.2 i hi
theorem keep (h:ItR m m' m1 left) {j:Nat} {k:κ} {v:ν} (hj:left.getD j false=true) (hm:m1[j]?=some (k,v)) (hv:m'[j]?=some (k,v)):ItR m m' m1 (left.set j false):=by
  have:=h.step hj hm hv
  rwa [show m1.set j (k,v)=m1 from by
    obtain ⟨hl,e⟩:=List.getElem?_eq_some_iff.1 hm;rw [← e,List.set_getElem_self]] at this
theorem less {j:Nat} (hj:left.getD j false=true):(left.set j false).count true<left.count true:=by
  have hl:j<left.length:=Nat.lt_of_not_le fun hn=>by
    rw [List.getD_eq_getElem?_getD,List.getElem?_eq_none hn] at hj;cases hj
  have hg:left[j]=true:=by
    rw [List.getD_eq_getElem?_getD,List.getElem?_eq_getElem hl] at hj;exact hj
  rw [List.count_set hl,hg];have:0<left.count true:=List.count_pos_iff.2 (by rw [← hg]; exact List.getElem_mem hl);simp;omega
end ItR
end Go.Nm
namespace Go.Nm
open Go
section
variable {κ ν:Type} [DecidableEq κ] {kenc:κ->Value} {venc:ν->Value} {P:Program} {w w0:World} {L L' R:List Chunk} {t kt et:TypeId} {b:Nat} {m:List (κ × ν)}
variable {all rest:List Oper} {Q:Post} {σ:Env} {ty:TypeId} {pos:String} {af:Array Edge}
theorem t_insMl {dst:Option Nat} {x y u:Operand} {i:Nat} (K:KeyL (ν:=ν) P kt kenc) (ht:P.underlying t=some (.map kt et)) (H:St w0 w L R) (hk:L[i]?=some (cMl kenc venc b m)) (hx:ev σ x = .map (some b)) {k:κ} (hy:ev σ y=kenc k) {v:ν} (hu:ev σ u=venc v)
    (hL:L.set i (cMl kenc venc b (setM m k v))=L') (kk:∀ w',St w0 w' L' R->SL P all Q rest (updo σ dst undef) w'):SL P all Q (⟨dst,.insert t x y u,ty,pos,af,none⟩ :: rest) σ w:=by
  obtain ⟨es,n,h1,h2,hn⟩:=H.get hk;obtain ⟨es',clk',w',hr,hp,hm',_⟩:=run_putL (w:=w) K ht h1 h2 k v;refine s_skp (w':=w') ?_ (kk _ (H.set (c':=cMl kenc venc b (setM m k v)) hk rfl hp.keep (fun i _ hne=>hp.other i hne) (fun i hi=>.inl hi) ⟨es',clk',hp.same,hm',setM_once hn k v⟩ hL));simp [execOp,hx,hy,hu,hr]
end
end Go.Nm
namespace Go.Nm
open Go
section
variable {P:Program} {w w0:World}
theorem Sl.flat {α:Type} [Flat α] {C:Cells} {v:Value} {l:List α} (h:Sl C v l) (hle:C.Le w.cell?) (h0:l ≠ []):∃ b o c,v = .slice (some ⟨b,o,none⟩) l.length c/\∀ j u,(l.flatMap Flat.enc:List Value)[j]?=some u->w.cell? ((⟨b,o,none⟩:Addr).add j)=some u:=by
  obtain ⟨a,c,hv,hlc,hcm,hh⟩:=h.ex;have hpos:0<l.length:=List.length_pos_iff.2 h0;obtain ⟨b,o,cs0,ha,_,_⟩:=hh 0 l[0] (by simp);subst ha;refine ⟨b,o,c,hv,fun j u hj=>?_⟩;obtain ⟨k,x,r,hk,hr,hjk⟩:=flat_inv l j u hj;obtain ⟨b',o',cs,hab,hrep,hy⟩:=hh k x hk;have hcs:=Flat.rep_iff.1 hrep;subst hcs;simp only [Option.some.injEq,Addr.mk.injEq,and_true] at hab;obtain ⟨rfl,rfl⟩:=hab;rw [add_lit,hjk];have:=hle _ _ (hy r u hr)
  rwa [Nat.add_assoc] at this
theorem run_app3 {α:Type} [Flat α] {t ty e by':Nat} {z:Value} (T:SlT P t e (Elt.sz α) by' z) {a:Option Addr} {vy:Value} {l l2:List α} {C D:Cells} (hu:Sl C (.slice a l.length l.length) l) (hlu:C.Le w.cell?) (hs:Sl D vy l2) (hle:D.Le w.cell?)
    (h0:l ≠ []) (h2:l2 ≠ []) (hn:(l.length+l2.length)*by'<=140737488355328) (h63:l.length+l2.length<=9223372036854775807) :
    ∃ v' w',(Builtin.append_ #[t,t] ty #[.slice a l.length l.length,vy]).run P w = .ok v' w'/\OwnF w.heap.size e w' v' (l++l2)/\Ext w w':=by
  obtain ⟨i,hi,hz,hsz,hby⟩:=T.parts;obtain ⟨b,o,c,hv,holds⟩:=hu.flat hlu h0;obtain ⟨b2,o2,c2,hv2,hnews⟩:=hs.flat hle h2;injection hv with ha hc1 hc2
  subst ha hv2;have hl2:=flat_len l2;have hl:=flat_len l;have hp2:0<l2.length:=List.length_pos_iff.2 h2;have hr:=run_append_grow (P:=P) w t ty e i z T.und hi hz ⟨b,o,none⟩ l.length l.length (l.flatMap Flat.enc) (by rw [hl,hsz]) holds ⟨b2,o2,none⟩ l2.length c2 (l2.flatMap Flat.enc) (by rw [hl2,hsz]) hnews (by omega) (by omega)
    (growslice_fits (by omega) (by rw [hby]; exact hn))
  refine ⟨_,_,hr,?_,(Ext.drew w).trans (Ext.allocCells w.drew _ _)⟩;have hge:=grownCap_ge w (l.length+l2.length) l.length e;have hcm:grownCap w (l.length+l2.length) l.length e<=maxLen:=grownCap_le_maxLen w (l.length+l2.length) l.length e (by simpa [maxLen] using h63);have hlen:((l++l2).flatMap Flat.enc:List Value).length=(l.length+l2.length)*Elt.sz α:=by rw [flat_len,List.length_append]
  refine ⟨by rw [flat_len],.inr ⟨w.heap.size,_,_,by rw [List.length_append],Nat.le_refl _,heap_alloc_new w.drew _,by rw [List.length_append]; exact hge,hcm,?_,?_⟩⟩
  · simp only [Array.size_append,List.size_toArray,size_zeroCells,T.zs,hl,hl2,← Nat.add_mul]
    congr 1
    omega
  · rw [List.length_append,← hlen,List.flatMap_append];simp only [Array.toList_append];exact List.take_left
theorem sl_full {α:Type} [Elt α] {t e:TypeId} (hu:P.underlying t=some (.slice e)) (hs:(P.info? e).map (·.size)=some (Elt.sz α)) {C:Cells} {v:Value} {l:List α} (h:Sl C v l) {j:Int} (hj:j=l.length) :
    ∃ a,(∀ w,(Instr.sliceAt t v none (some (.int .i64 j)) (some (.int .i64 j))).run P w = .ok (.slice a l.length l.length) w)/\Sl C (.slice a l.length l.length) l:=by
  obtain ⟨a,c,hv,hc,hm,hh⟩:=h.ex;refine ⟨if l.length=0 then a else a.map (·.add (0*Elt.sz α)),fun w=>?_,⟨_,l.length,rfl,Nat.le_refl _,by omega,fun k x hx=>?_⟩⟩
  · subst hv hj;have hjc:(l.length:Int)<=(c:Int):=by omega
    simp [Instr.sliceAt,Instr.slice,Instr.sliceBounds,Instr.sliceBound,asIntOf,run_underlying hu,run_sizeOf hs,hjc];intro h_;exact absurd h_ (by omega)
  · obtain ⟨b,o,cs,ha,hr,hy⟩:=hh k x hx;refine ⟨b,o,cs,?_,hr,hy⟩;have:k<l.length:=(List.getElem?_eq_some_iff.1 hx).1;rw [if_neg (by omega),ha];simp [add_lit]
variable {all rest:List Oper} {Q:Post} {σ:Env} {d:Nat} {ty:TypeId} {pos:String} {af:Array Edge} {L L' R:List Chunk}
theorem t_app3 {α:Type} [Flat α] {t e by':Nat} {z:Value} {x y:Operand} (T:SlT P t e (Elt.sz α) by' z) {a:Option Addr} {vy:Value} {l l2:List α} {C D:Cells} (H:St w0 w L R) (hx:ev σ x = .slice a l.length l.length) (hy:ev σ y=vy)
    (hu:Sl C (.slice a l.length l.length) l) (hlu:C.Le w.cell?) (hs:Sl D vy l2) (hle:D.Le w.cell?) (h0:0<l.length) (h2:0<l2.length) (hn:(l.length+l2.length)*by'<=140737488355328) (h63:l.length+l2.length<=9223372036854775807)
    (k:∀ v' w',St w0 w' (cOwn e v' (l++l2) :: L) R->SL P all Q rest (upd σ d v') w') :
    SL P all Q (⟨some d,.call ⟨.builtin .append,#[x,y],#[t,t]⟩,ty,pos,af,none⟩ :: rest) σ w:=by
  obtain ⟨v',w',hr,ho,hx'⟩:=run_app3 (ty:=ty) T hu hlu hs hle (List.length_pos_iff.1 h0) (List.length_pos_iff.1 h2) hn h63;refine s_any (v:=v') (w':=w') ?_ (k v' w' (St.ownOf H hx' ho));simp [execOp,resolve,invoke,builtin,hx,hy,hr]
end
end Go.Nm
namespace Go.Nm
open Go
theorem flat_int (l:List Int):(l.flatMap Flat.enc:List Value)=l.map I:=by
  induction l with
  | nil=>rfl
  | cons x l ih=>rw [List.flatMap_cons,ih]; rfl
section
variable {P:Program} {w w0:World}
theorem OwnF.copyI {B:Nat} {dT sT ty e:TypeId} {v u:Value} {l s:List Int} (h:OwnF B e w v l) (hu:P.underlying dT=some (.slice e)) (hs:(P.info? e).map (·.size)=some 1) {C:Cells} (hsl:Sl C u s) (hle:C.Le w.cell?) :
    ∃ n w',(Builtin.copy_ #[dT,sT] ty #[v,u]).run P w = .ok (goInt n) w'/\OwnF B e w' v (s.take l.length++l.drop s.length)/\Grow B v w w':=by
  obtain ⟨a,c,rfl,hc,hm,hk⟩:=hsl.ex;by_cases h0:Nat.min s.length l.length=0
  · have hl:s.take l.length++l.drop s.length=l:=by
      by_cases hs0:s.length=0
      · rw [hs0,List.eq_nil_of_length_eq_zero hs0]; simp
      · have hl0:l.length=0:=by
          have:Nat.min s.length l.length=min s.length l.length:=rfl;omega
        rw [List.eq_nil_of_length_eq_zero hl0]; simp
    rw [hl];obtain ⟨d,cap,hv⟩:∃ d cap,v = .slice d l.length cap:=by
      rcases h.2 with ⟨rfl,hn⟩ | ⟨g,cap,cur,rfl,_⟩
      · exact ⟨none,0,by rw [hn]⟩
      · exact ⟨_,_,rfl⟩
    subst hv;exact ⟨0,w,run_copy_none w dT sT ty e d a l.length cap s.length c hu hs h0,h,rfl,rfl,Nat.le_refl _,fun _ _ _=>rfl,fun g hg=>(h.lt g hg).1,fun _=>rfl⟩
  · have hmin:Nat.min s.length l.length=min s.length l.length:=rfl;rcases h.2 with ⟨rfl,hn⟩ | ⟨g,cap,cur,rfl,hb,hg,hnc,hcm,hcs,htake⟩
    · omega
    · have hsz:(Elt.sz Int)=1:=rfl;rw [hsz] at hcs htake;have h0s:0<s.length:=by omega
      obtain ⟨b,o,cs0,rfl,_,_⟩:=hk 0 s[0] (List.getElem?_eq_getElem h0s);have hlen:((s.take l.length).map I).length=Nat.min s.length l.length:=by
        rw [List.length_map,List.length_take,hmin]; omega
      have hr:=run_copy_row (P:=P) w dT sT ty e g 0 l.length cap ⟨b,o,none⟩ s.length c cur e ((s.take l.length).map I) hu hs hg hlen (fun j x hj=>by
        rw [List.getElem?_map] at hj;cases hq:(s.take l.length)[j]? with
        | none=>rw [hq] at hj; cases hj
        | some y =>
          rw [hq] at hj;obtain rfl:=Option.some.inj hj;have hy:s[j]?=some y:=by
            rw [List.getElem?_take] at hq;split at hq
            · exact hq
            · cases hq
          obtain ⟨b',o',cs',e1,e2,e3⟩:=hk j y hy;injection e1 with e1
          injection e1 with e1 e4
          subst e1 e4;obtain rfl:cs'=[I y]:=e2;have e5:(⟨b,o,none⟩:Addr).add j=⟨b,o+j*Elt.sz Int+0,none⟩:=by
            rw [hsz];cases j <;> simp [Addr.add]
          exact e5 ▸ hle _ _ (e3 0 (I y) rfl)) (by rw [hlen,hmin]; simp only [Nat.mul_one] at hcs; omega) (fun x hx=>by
        obtain ⟨y,_,rfl⟩:=List.mem_map.1 hx;rfl)
      have hL:(s.take l.length++l.drop s.length).length=l.length:=by
        rw [List.length_append,List.length_take,List.length_drop]; omega
      refine ⟨_,_,hr,⟨by rw [flat_len],.inr ⟨g,cap,_,by rw [hL],hb,setRow_heap w g cur _ e _ hg,by rw [hL]; exact hnc,hcm,?_,?_⟩⟩,⟨rfl,rfl,by simp,fun b _ hne=>setRow_other w g b _ (fun e=>hne (by rw [e]; rfl)),fun g' hg'=>(h.lt g' hg').1,frozen_setRow w g _⟩⟩
      · simp only [List.size_toArray,List.length_append,List.length_take,List.length_drop,Array.length_toList,hlen,hmin,hsz];simp only [Nat.mul_one] at hcs ⊢;omega
      · rw [hL,hsz,flat_int];rw [flat_int] at htake;simp only [Nat.mul_one,List.take_zero,List.nil_append,Nat.zero_add] at htake ⊢;have e1:(List.map I (s.take l.length)++cur.toList.drop (List.map I (s.take l.length)).length).take l.length=List.map I (s.take l.length)++(List.map I l).drop (List.map I (s.take l.length)).length:=by
          rw [List.take_append,List.take_of_length_le (by rw [hlen,hmin]; omega),← htake,List.drop_take]
        rw [e1,List.map_append,← List.map_drop]
        congr 2
        rw [hlen,hmin];by_cases hsl':s.length<=l.length
        · rw [Nat.min_eq_left hsl']
        · rw [List.drop_of_length_le (by omega),List.drop_of_length_le (by omega)]
variable {all rest:List Oper} {Q:Post} {σ:Env} {ty:TypeId} {pos:String} {af:Array Edge} {L L' R:List Chunk}
theorem t_copyI {dst:Option Nat} {dT sT e k:Nat} {x y:Operand} {v u:Value} {l s:List Int} {C:Cells} (H:St w0 w L R) (hk:L[k]?=some (cOwn e v l)) (hu:P.underlying dT=some (.slice e)) (hs:(P.info? e).map (·.size)=some 1) (hx:ev σ x=v) (hy:ev σ y=u) (hsl:Sl C u s) (hle:C.Le w.cell?)
    (hL:L.set k (cOwn e v (s.take l.length++l.drop s.length))=L') (kk:∀ n w',St w0 w' L' R->SL P all Q rest (updo σ dst (I n)) w'):SL P all Q (⟨dst,.call ⟨.builtin .copy,#[x,y],#[dT,sT]⟩,ty,pos,af,none⟩ :: rest) σ w:=by
  obtain ⟨n,w',hr,ho,hg⟩:=(H.get hk:OwnF 0 e w v l).copyI (P:=P) (dT:=dT) (sT:=sT) (ty:=ty) hu hs hsl hle;refine s_any (v:=goInt n) (w':=w') ?_ (kk n w' (H.own hk ho hg (fun _ _ h=>h) hL));simp [execOp,resolve,invoke,builtin,hx,hy,hr]
end
end Go.Nm
namespace Go.Nm
open Go
universe u
abbrev Pq (b:Nat):Value:=.pointer (some ⟨b,0,none⟩)
abbrev Oq (b o:Nat):Value:=.pointer (some ⟨b,o,none⟩)
class NthR {α:Type u} (l:List α) (i:Nat) (x:outParam α):Prop where
  is:l[i]?=some x
instance {α:Type u} {l:List α} {x:α}:NthR (x :: l) 0 x:=⟨rfl⟩
instance {α:Type u} {l:List α} {x y:α} {i:Nat} [h:NthR l i x]:NthR (y :: l) (i+1) x:=⟨h.is⟩
instance (priority:=high) {α:Type u} {l:List α} {x a b c d:α} {i:Nat} [h:NthR l i x]:NthR (a :: b :: c :: d :: l) (i+4) x:=⟨h.is⟩
class PickR {α:Type u} (l:List α) (i:List Nat) (o:outParam (List α)):Prop where
  is:i.mapM (fun j=>l[j]?)=some o
instance {α:Type u} {l:List α}:PickR l [] []:=⟨rfl⟩
instance {α:Type u} {l o:List α} {i:Nat} {is:List Nat} {x:α} [h:NthR l i x] [k:PickR l is o]:PickR l (i :: is) (x :: o):=⟨by rw [List.mapM_cons,h.is,k.is]; rfl⟩
class AppR {α:Type u} (a b:List α) (o:outParam (List α)):Prop where
  is:a++b=o
instance {α:Type u} {b:List α}:AppR [] b b:=⟨rfl⟩
instance {α:Type u} {x:α} {a b o:List α} [h:AppR a b o]:AppR (x :: a) b (x :: o):=⟨by rw [List.cons_append,h.is]⟩
class LenR {α:Type u} (l:List α) (n:Nat):Prop where
  is:l.length=n
instance {α:Type u}:LenR ([]:List α) 0:=⟨rfl⟩
instance {α:Type u} {l:List α} {x:α} {n:Nat} [h:LenR l n]:LenR (x :: l) (n+1):=⟨by rw [List.length_cons,h.is]⟩
class EndR {α:Type u} (n:Nat) (l:List α) (a b:outParam (List α)):Prop where
  is:a++b=l
instance (priority:=low) {α:Type u} {x:α} {n:Nat} {l a b:List α} [h:EndR n l a b]:EndR n (x :: l) (x :: a) b:=⟨by rw [List.cons_append,h.is]⟩
instance {α:Type u} {n:Nat} {l:List α} [LenR l n]:EndR n l [] l:=⟨rfl⟩
class SetR {α:Type u} (l:List α) (k:Nat) (x:α) (o:outParam (List α)):Prop where
  is:l.set k x=o
instance {α:Type u} {l:List α} {x y:α}:SetR (y :: l) 0 x (x :: l):=⟨rfl⟩
instance {α:Type u} {l o:List α} {x y:α} {k:Nat} [h:SetR l k x o]:SetR (y :: l) (k+1) x (y :: o):=⟨by rw [List.set_cons_succ,h.is]⟩
class NfR {α:Type u} (l:List α) (o:outParam (List α)):Prop where
  is:l=o
instance {α:Type u}:NfR ([]:List α) []:=⟨rfl⟩
instance {α:Type u} {x:α} {l o:List α} [h:NfR l o]:NfR (x :: l) (x :: o):=⟨by rw [← h.is]⟩
instance {α:Type u} {l o p:List α} {k:Nat} {x:α} [h:NfR l o] [s:SetR o k x p]:NfR (l.set k x) p:=⟨by rw [h.is,s.is]⟩
instance {α:Type u} {a b a' b' o:List α} [h:NfR a a'] [h':NfR b b'] [s:AppR a' b' o]:NfR (a++b) o:=⟨by rw [h.is,h'.is,s.is]⟩
instance {α:Type u} {x:α} {l o:List α} [h:NfR l o]:NfR ((x :: l).eraseIdx 0) o:=⟨by rw [← h.is]; rfl⟩
instance {α:Type u} {x:α} {l o:List α} {k:Nat} [h:NfR (l.eraseIdx k) o]:NfR ((x :: l).eraseIdx (k+1)) (x :: o):=⟨by rw [List.eraseIdx_cons_succ,h.is]⟩
class OverR {α:Type u} (cs:List α) (off:Nat) (vs:List α) (o:outParam (List α)):Prop where
  is:cs.take off++vs++cs.drop (off+vs.length)=o
instance {α:Type u} {cs:List α}:OverR cs 0 [] cs:=⟨by simp⟩
instance {α:Type u} {c v:α} {cs vs o:List α} [h:OverR cs 0 vs o]:OverR (c :: cs) 0 (v :: vs) (v :: o):=⟨by
  have:=h.is;simp only [List.take_zero,List.nil_append,Nat.zero_add] at this ⊢;simp [this]⟩
instance {α:Type u} {c:α} {cs vs o:List α} {n:Nat} [h:OverR cs n vs o]:OverR (c :: cs) (n+1) vs (c :: o):=⟨by
  have:=h.is;rw [List.take_succ_cons,show n+1+vs.length=n+vs.length+1 by omega,List.drop_succ_cons,List.cons_append,List.cons_append,this]⟩
section
variable {w0 w w':World} {L L' L1 R A T:List Chunk}
theorem St.os {α:Type} [Flat α] {e:TypeId} {v:Value} {l:List α} (h:St w0 w L R) (k:Nat) [n:NthR L k (cOwn e v l)]:Sl (rowC v (l.flatMap Flat.enc)) v l:=ownSl (h.get n.is)
theorem St.ol {α:Type} [Flat α] {e:TypeId} {v:Value} {l:List α} (h:St w0 w L R) (k:Nat) [n:NthR L k (cOwn e v l)]:(rowC v (l.flatMap Flat.enc)).Le w.cell?:=ownLe w (h.get n.is)
theorem rdo {α:Type} [Flat α] {e:TypeId} {v:Value} {l:List α} (k:Nat) [n:NthR L k (cOwn e v l)]:Reads (L++R) (rowC v (l.flatMap Flat.enc)):=Reads.of n.is ownLe
theorem St.bl {b:Nat} {cs:List Value} {t:TypeId} (h:St w0 w L R) (k:Nat) [n:NthR L k (cBlk b cs t)]:w.heap[b]?=some (.cells cs.toArray t (0,0)):=h.blk n.is
theorem St.nf (h:St w0 w L R) [n:NfR L L']:St w0 w L' R:=by
  have:=n.is;subst this;exact h
theorem St.pk (h:St w0 w L R) (i:List Nat) [n:NfR L L1] [p:PickR L1 i L'] (hn:i.Nodup:=by decide):St w0 w L' R:=h.nf.pick i hn p.is
theorem St.bk (h:St w0 w L R) (h':St w w' A (T++R)) [a:NfR (A++T) L']:St w0 w' L' R:=h.back h' a.is
theorem St.gt (h:St w0 w L R) (k:Nat) [n:NfR L L1] [s:EndR k L1 A T]:St w w A (T++R):=h.nf.give s.is
end
section
variable {P:Program} {all rest:List Oper} {Q:Post} {σ:Env} {w0 w:World} {L L' R:List Chunk} {ty:TypeId} {pos:String} {af:Array Edge}
theorem zM {d:Nat} {x:Operand} (v:Value) (h:ev σ x=v) (k:SL P all Q rest (upd σ d v) w):SL P all Q (⟨some d,.move x,ty,pos,af,none⟩ :: rest) σ w:=s_val (x_mv h) k
theorem zA {d:Nat} {x:Operand} (v:Value) (h:ev σ x=v) (k:SL P all Q rest (upd σ d v) w):SL P all Q (⟨some d,.assign x,ty,pos,af,none⟩ :: rest) σ w:=s_val (x_as h) k
theorem zC {d:Nat} {op:BinOp} {t yt:TypeId} {x y:Operand} (a b:Int) (r:Bool) (hx:ev σ x = .int .i64 a) (hy:ev σ y = .int .i64 b) (hr:cmpV op a b=some r) (k:SL P all Q rest (upd σ d (.bool r)) w):SL P all Q (⟨some d,.binOp op t x y yt,ty,pos,af,none⟩ :: rest) σ w:=s_val (x_cmp hx hy hr) k
theorem zR {d:Nat} {op:BinOp} {t yt:TypeId} {x y:Operand} (a b r:Int) (hx:ev σ x = .int .i64 a) (hy:ev σ y = .int .i64 b) (hr:ariV op a b=some r) (h:-9223372036854775808<=r/\r<=9223372036854775807) (k:SL P all Q rest (upd σ d (.int .i64 r)) w):SL P all Q (⟨some d,.binOp op t x y yt,ty,pos,af,none⟩ :: rest) σ w:=s_val (x_ari hx hy hr h) k
theorem t_sw {dst:Option Nat} {t:TypeId} {x y:Operand} {b n:Nat} {cs cs':List Value} {et:TypeId} (k off:Nat) (vs:List Value) (v:Value) (H:St w0 w L R) [hk:NthR L k (cBlk b cs et)] [hc:OverR cs off vs cs'] [hL:SetR L k (cBlk b cs' et) L'] (hx:ev σ x = .pointer (some ⟨b,off,none⟩)) (hy:ev σ y=v)
    (hs:(P.info? t).map (·.size)=some n) (hv:v.cells=vs.toArray) (hn:vs.length=n) (hl:Nat.ble (off+n) cs.length=true) (h1:vs.all (·.oneCell')=true)
    (kk:∀ w',St w0 w' L' R->SL P all Q rest (updo σ dst undef) w'):SL P all Q (⟨dst,.store t x y,ty,pos,af,none⟩ :: rest) σ w :=
  t_st H hk.is hx hy hs hv hn hl h1 (by rw [← hn]; exact hc.is) hL.is kk
end
/-- What a test says, as a proposition. -/
class DcB (b c:Bool) (p:outParam Prop):Prop where
  to:b=c->p
instance (priority:=low) {b c:Bool}:DcB b c (b=c):=⟨fun h=>h⟩
instance {p:Prop} [Decidable p]:DcB (decide p) true p:=⟨of_decide_eq_true⟩
instance {p:Prop} [Decidable p]:DcB (decide p) false (¬p):=⟨of_decide_eq_false⟩
instance {α:Type _} [BEq α] [LawfulBEq α] {a b:α}:DcB (a==b) true (a=b):=⟨beq_iff_eq.1⟩
instance {α:Type _} [BEq α] [LawfulBEq α] {a b:α}:DcB (a==b) false (a ≠ b):=⟨beq_eq_false_iff_ne.1⟩
instance {α:Type _} [BEq α] [LawfulBEq α] {a b:α}:DcB (a != b) true (a ≠ b):=⟨bne_iff_ne.1⟩
instance {α:Type _} [BEq α] [LawfulBEq α] {a b:α}:DcB (a != b) false (a=b):=⟨bne_eq_false_iff_eq.1⟩
theorem dI {b c:Bool} {p:Prop} [h:DcB b c p] (x:b=c):p:=h.to x
section
variable {P:Program} {all rest:List Oper} {Q:Post} {σ:Env} {w0 w:World} {L L' R:List Chunk} {ty:TypeId} {pos:String} {af:Array Edge}
end
end Go.Nm
namespace Go.Nm
open Go
theorem setM_twice {κ ν:Type} [DecidableEq κ]:∀ (m:List (κ × ν)) (k:κ) (u v:ν),setM (setM m k u) k v=setM m k v
  | [],k,u,v=>by simp [setM]
  | p :: m,k,u,v=>by
    have ih:=setM_twice m k u v;by_cases h:p.1=k
    · simp [setM,h]
    · simp only [setM,if_neg h,ih]
section
variable {κ ν:Type} [DecidableEq κ] {kenc:κ->Value} {venc:ν->Value} {P:Program} {w w0:World} {L L' R:List Chunk} {kt et:TypeId} {b:Nat} {m:List (κ × ν)}
variable {all rest:List Oper} {Q:Post} {σ:Env} {d:Nat} {ty:TypeId} {pos:String} {af:Array Edge}
def cEntL {κ ν:Type} [DecidableEq κ] (kenc:κ->Value) (venc:ν->Value) (b:Nat) (m:List (κ × ν)) (k:κ) (st:Int):Chunk where
  D j:=j=b
  ex:=true
  ok w:=∃ es n,w.heap[b]?=some (.map es n)/\MapL kenc venc es n m/\(m.map Prod.fst).Nodup/\∃ (i:Nat) (e:MapEntry),idxM m k=some i/\es[i]?=some e/\(e.born:Int)=st
  st w w' h _ k:=by
    obtain ⟨es,n,h1,h2⟩:=h;exact ⟨es,n,(k b rfl).trans h1,h2⟩
  bd w k h e:=by
    obtain ⟨es,n,h1,_⟩:=h;rw [e]; exact heap_lt h1
theorem t_mentL {x y:Operand} {i:Nat} {t:TypeId} (K:KeyL (ν:=ν) P kt kenc) (ht:P.underlying t=some (.map kt et)) {z:ν} (hz:(P.info? et).map (·.zero)=some (some (venc z))) (H:St w0 w L R) (hk:L[i]?=some (cMl kenc venc b m)) (hx:ev σ x = .map (some b)) {k:κ} (hy:ev σ y=kenc k)
    (kk:∀ st w',St w0 w' (L.set i (cEntL kenc venc b (setM m k ((lookM m k).getD z)) k st)) R->SL P all Q rest (upd σ d (.tuple #[venc ((lookM m k).getD z),.int .i64 st])) w'):SL P all Q (⟨some d,.mapEntry t x y,ty,pos,af,none⟩ :: rest) σ w:=by
  obtain ⟨es,n,hb,⟨h1,h3,h4⟩,hnd⟩:=H.get hk;have hf:=K.find w es.toList m venc k h1;have hzz:(zeroValue et).run P w = .ok (venc z) w:=by
    cases hi:P.info? et with
    | none=>simp [hi] at hz
    | some i=>simp [hi] at hz; simp [zeroValue,typeInfo,hi,hz]
  cases hi:idxM m k with
  | none =>
    have hl:=idxM_none hi;rw [hi] at hf;have hm':(es.push { key:=kenc k,val:=venc z,born:=n }).toList.map (fun e=>(e.key,e.val))=(setM m k z).map (fun p=>(kenc p.1,venc p.2)):=by
      rw [setM_none z hi]; simp [h1]
    have hlen:es.toList.length=m.length:=by have:=congrArg List.length h1; simpa using this
    have hidx:∀ (m:List (κ × ν)),idxM m k=none->idxM (setM m k z) k=some m.length:=by
      intro m;induction m with
      | nil=>intro _; simp [setM,idxM]
      | cons p m ih =>
        intro h;unfold idxM at h;split at h
        · cases h
        · rename_i hp
          unfold setM idxM;rw [if_neg hp];dsimp only;rw [if_neg hp,ih (by simpa using h)];simp
    have hp:Put w b (.map (es.push { key:=kenc k,val:=venc z,born:=n }) (n+1)) { w with heap:=w.heap.setIfInBounds b (.map (es.push { key:=kenc k,val:=venc z,born:=n }) (n+1)) }:=Put.setMap _ hb (by simp) rfl;refine s_any (v:=.tuple #[venc ((lookM m k).getD z),.int .i64 (n:Int)]) (w':={ w with heap:=w.heap.setIfInBounds b (.map (es.push { key:=kenc k,val:=venc z,born:=n }) (n+1)) }) ?_ (kk _ _ ?_)
    · simp [execOp,hx,hy,Instr.mapEntry,run_underlying ht,MapKept.run_getObj_map hb,K.check,hf,MapKept.run_setObj_map _ hb,hzz,hl,goInt]
    · refine H.set (c':=cEntL kenc venc b (setM m k ((lookM m k).getD z)) k (n:Int)) hk rfl hp.keep (fun j _ hne=>hp.other j hne) (fun j hj=>.inl hj) ⟨_,_,hp.same,⟨by rw [hl]; exact hm',?_,?_⟩,setM_once hnd k _,m.length,{ key:=kenc k,val:=venc z,born:=n },by rw [hl]; exact hidx m hi,?_,rfl⟩ rfl
      · simp only [Array.toList_push,List.map_append,List.map_cons,List.map_nil];rw [List.nodup_append];refine ⟨h3,by simp,fun a ha c hc=>?_⟩;simp at hc;subst hc;obtain ⟨e,he,rfl⟩:=List.mem_map.1 ha;have:=h4 e he;omega
      · intro e he;simp only [Array.toList_push,List.mem_append,List.mem_singleton] at he;rcases he with he | rfl
        · have:=h4 e he; omega
        · simp
      · rw [← hlen]; simp
  | some j =>
    obtain ⟨v0,hv,hl⟩:=idxM_some hi;have he:∃ e,es.toList[j]?=some e/\e.key=kenc k/\e.val=venc v0:=by
      have h3:(es.toList.map (fun e=>(e.key,e.val)))[j]?=(m.map (fun p=>(kenc p.1,venc p.2)))[j]?:=by rw [h1]
      rw [List.getElem?_map,List.getElem?_map,hv] at h3;cases he:es.toList[j]? with
      | none=>rw [he] at h3; simp at h3
      | some e=>rw [he] at h3; simp at h3; exact ⟨e,rfl,h3.1,h3.2⟩
    obtain ⟨e,he1,he2,he3⟩:=he;have he1':es[j]?=some e:=by simpa using he1
    rw [hi] at hf;simp only [Option.bind_some,he1,Option.map_some] at hf;have hk':(Instr.keyThatStays e.key (kenc k)).run P w = .ok (kenc k) w:=by
      simp [Instr.keyThatStays,he2,K.same]
    have hes:(es.modify j fun e=>{ e with key:=kenc k }).toList=es.toList:=by
      apply List.ext_getElem?;intro q;simp only [Array.getElem?_toList,Array.getElem?_modify];by_cases hjq:j=q
      · subst hjq;simp only [he1',if_true,Option.map_some,Option.some.injEq];rw [← he2]
      · simp [hjq]
    have hes':(es.modify j fun e=>{ e with key:=kenc k })=es:=Array.toList_inj.1 hes;have hp:Put w b (.map es n) { w with heap:=w.heap.setIfInBounds b (.map es n) }:=Put.setMap _ hb (by simp) rfl;refine s_any (v:=.tuple #[venc ((lookM m k).getD z),.int .i64 (e.born:Int)]) (w':={ w with heap:=w.heap.setIfInBounds b (.map es n) }) ?_ (kk _ _ ?_)
    · simp [execOp,hx,hy,Instr.mapEntry,run_underlying ht,MapKept.run_getObj_map hb,K.check,hf,hk',MapKept.run_setObj_map _ hb,hl,goInt,he1',he3,hes']
    · have hsm:setM m k ((lookM m k).getD z)=m:=by
        rw [hl,setM_some _ hi];exact List.ext_getElem? fun q=>by
          rw [List.getElem?_set];by_cases hjq:j=q
          · subst hjq;have hlt:=(List.getElem?_eq_some_iff.1 hv).1;rw [if_pos rfl,if_pos hlt,hv]; rfl
          · rw [if_neg hjq]
      rw [hsm];exact H.set (c':=cEntL kenc venc b m k (e.born:Int)) hk rfl hp.keep (fun j _ hne=>hp.other j hne) (fun j hj=>.inl hj) ⟨_,_,hp.same,⟨h1,h3,h4⟩,hnd,j,e,hi,he1',rfl⟩ rfl
theorem t_enstL {dst:Option Nat} {x y u:Operand} {i:Nat} {t:TypeId} {m0:List (κ × ν)} {v0:ν} {k:κ} {st:Int} (H:St w0 w L R) (hk:L[i]?=some (cEntL kenc venc b (setM m0 k v0) k st)) (hx:ev σ x = .map (some b)) (hy:ev σ y = .int .i64 st) {v:ν} (hu:ev σ u=venc v)
    (hL:L.set i (cMl kenc venc b (setM m0 k v))=L')
    (kk:∀ w',St w0 w' L' R->SL P all Q rest (updo σ dst undef) w'):SL P all Q (⟨dst,.entryStore t x y u,ty,pos,af,none⟩ :: rest) σ w:=by
  obtain ⟨es,n,hb,⟨h1,h3,h4⟩,hnd,j,e,hi,he,hst⟩:=H.get hk;have hss:setM m0 k v=setM (setM m0 k v0) k v:=(setM_twice m0 k v0 v).symm;generalize hmm:setM m0 k v0=m at *;have hfind:es.findIdx? (fun e=>(e.born:Int)==st)=some j:=by
    rw [Array.findIdx?_eq_some_iff_getElem];obtain ⟨hj,hje⟩:=Array.getElem?_eq_some_iff.1 he;refine ⟨hj,by rw [hje]; simpa using hst,fun q hq=>?_⟩;intro hc;have hc':((es[q]'(by omega)).born:Int)=st:=by simpa using hc
    have hql:q<es.size:=by omega
    have hnd:=List.pairwise_iff_getElem.1 h3 q j (by simpa using hql) (by simpa using hj) hq;apply hnd;simp only [List.getElem_map,Array.getElem_toList];rw [hje];omega
  obtain ⟨vv,hv,hl⟩:=idxM_some hi;have hp:Put w b (.map (es.modify j fun e=>{ e with val:=venc v }) n) { w with heap:=w.heap.setIfInBounds b (.map (es.modify j fun e=>{ e with val:=venc v }) n) }:=Put.setMap _ hb (by simp) rfl;have hkey:e.key=kenc k:=by
    have h5:(es.toList.map (fun e=>(e.key,e.val)))[j]?=(m.map (fun p=>(kenc p.1,venc p.2)))[j]?:=by rw [h1]
    rw [List.getElem?_map,List.getElem?_map,hv] at h5;simp only [Array.getElem?_toList,he,Option.map_some,Option.some.injEq,Prod.mk.injEq] at h5;exact h5.1
  refine s_skp (w':={ w with heap:=w.heap.setIfInBounds b (.map (es.modify j fun e=>{ e with val:=venc v }) n) }) ?_ (kk _ ?_)
  · simp [execOp,hx,hy,hu,Instr.entryStore,MapKept.run_getObj_map hb,asInt,asIntOf,hfind,MapKept.run_setObj_map _ hb]
  · refine H.set (c':=cMl kenc venc b (setM m0 k v)) hk rfl hp.keep (fun j _ hne=>hp.other j hne) (fun j hj=>.inl hj) ⟨_,_,hp.same,⟨?_,?_,?_⟩,?_⟩ hL
    · rw [hss,setM_some v hi];apply List.ext_getElem?;intro q;have hj:(es.toList.map (fun e=>(e.key,e.val)))[q]?=(m.map (fun p=>(kenc p.1,venc p.2)))[q]?:=by rw [h1]
      simp only [List.getElem?_map,Array.getElem?_toList,Array.getElem?_modify,List.getElem?_set] at hj ⊢;by_cases hij:j=q
      · subst hij;have hlt:=(List.getElem?_eq_some_iff.1 hv).1;simp [he,hlt,hkey]
      · simp [hij,hj]
    · have:(es.modify j fun e=>{ e with val:=venc v }).toList.map (·.born)=es.toList.map (·.born):=by
        apply List.ext_getElem?;intro q;simp only [List.getElem?_map,Array.getElem?_toList,Array.getElem?_modify];by_cases hij:j=q
        · subst hij; simp [he]
        · simp [hij]
      rw [this]; exact h3
    · intro e' he';obtain ⟨q,hq⟩:=List.getElem?_of_mem he';simp only [Array.getElem?_toList,Array.getElem?_modify] at hq;by_cases hij:j=q
      · subst hij;simp [he] at hq;subst hq;exact h4 e (by rw [Array.mem_toList_iff]; exact Array.mem_of_getElem? he)
      · simp [hij] at hq;exact h4 e' (by rw [Array.mem_toList_iff]; exact Array.mem_of_getElem? hq)
    · rw [hss]; exact setM_once hnd k v
theorem t_swI {dst:Option Nat} {t:TypeId} {x y:Operand} {n:Nat} {l l':List Int} {et:TypeId} (k:Nat) (H:St w0 w L R) [hk:NthR L k (cBlk b (List.flatten [[],encF l]) et)] [hL:SetR L k (cBlk b (List.flatten [[],encF l']) et) L'] (hx:ev σ x = .pointer (some ⟨b,0,none⟩)) (hy:ev σ y = .agg (List.flatten [[],encF l']).toArray)
    (hs:(P.info? t).map (·.size)=some n) (h1:l.length=n) (h2:l'.length=n)
    (kk:∀ w',St w0 w' L' R->SL P all Q rest (updo σ dst undef) w'):SL P all Q (⟨dst,.store t x y,ty,pos,af,none⟩ :: rest) σ w:=by
  have e:∀ l:List Int,(List.flatten [[],encF l])=encF l:=fun l=>by simp
  have e1:∀ l:List Int,(encF l).length=l.length:=fun l=>by rw [encF_len]; exact Nat.mul_one _
  have H':=hk.is; have L2:=hL.is;rw [e] at H' L2 hy;exact t_st (cs':=encF l') (vs:=encF l') H H' hx hy hs rfl (by rw [e1,h2]) (by rw [e1,h1]; simp [Nat.ble_eq]) (encF_one l') (by simp [List.drop_eq_nil_of_le,e1,h1]) L2 kk
theorem x_max3 {x y z:Operand} {ts:Array TypeId} {g:Option (Nat × Bool)} {a b c:Int} (hx:ev σ x=I a) (hy:ev σ y=I b) (hz:ev σ z=I c) :
    (execOp (ev σ) ⟨some d,.call ⟨.builtin .max,#[x,y,z],ts⟩,ty,pos,af,g⟩).run P w = .ok (.value (I (max (max a b) c))) w:=by
  simp [execOp,resolve,invoke,builtin,hx,hy,hz,Builtin.max_,Builtin.max2,I];by_cases hab:a<b <;> simp only [hab,if_true,if_false] <;> split <;> omega
end
theorem seg_len {l:List Int} {n:Nat} (h:l.length=n):(List.flatten [[],encF l]).length=n:=by
  rw [show (List.flatten [[],encF l])=encF l by simp,encF_len,h]; exact Nat.mul_one _
theorem seg_whole {l:List Int} {n:Nat} (h:l.length=n):((List.flatten [[],encF l]).drop 0).take n=List.flatten [[],encF l]:=by
  rw [List.drop_zero]; exact List.take_of_length_le (Nat.le_of_eq (seg_len h))
end Go.Nm
namespace Go.Nm
open Go
section
variable {P:Program} {n:Nat} {Q:PostD} {σ:Env} {w:World} {Ds:List Nat}
theorem WD.seqJ {x y:Code} (J:Env->World->Prop) (h:W P n x (thenQ J (fun e σ w=>Q e Ds σ w)) σ w) (k:∀ σ' w',J σ' w'->WD P n Ds y Q σ' w'):WD P n Ds (.seq x y) Q σ w:=by
  refine WD.seq (WD.of fun ds a ha=>wpIn_mono (h ds a ha) ?_);rintro e a' w' ⟨s,hs,h'⟩;cases e with
  | normal=>exact ⟨s,hs,k _ _ h'⟩
  | _=>exact ⟨s,hs,h'⟩
end
end Go.Nm
namespace Go.Nm
open Go
theorem mr_old (w:World) (o:Obj) {j:Nat} (h:j<w.heap.size):(w.alloc o).heap[j]?=w.heap[j]?:=by
  show (w.heap.push o)[j]?=_;rw [Array.getElem?_push,if_neg (by omega)]
/-! ### What was given, pinned to what lies there now -/
/-- A part that stays as it is in a world. -/
def pin (w:World) (c:Chunk):Chunk where
  D:=c.D
  ex:=c.ex
  ok w':=c.ok w/\w.heap.size<=w'.heap.size/\∀ b,c.D b->w'.heap[b]?=w.heap[b]?
  st w1 w2 h hs hk:=⟨h.1,Nat.le_trans h.2.1 hs,fun b hb=>(hk b hb).trans (h.2.2 b hb)⟩
  bd w' b h hb:=Nat.lt_of_lt_of_le (c.bd w b h.1 hb) h.2.1
theorem Sep.pin {w:World}:∀ {R:List Chunk},Sep w R->Sep w (R.map (pin w))
  | [],_=>trivial
  | c :: R,h=>by
    refine ⟨⟨h.1,Nat.le_refl _,fun _ _=>rfl⟩,fun d hd=>?_,Sep.pin h.2.2⟩;obtain ⟨d',hd',rfl⟩:=List.mem_map.1 hd;exact h.2.1 d' hd'
theorem Sep.unpin {w w':World}:∀ {L R:List Chunk},Sep w' (L++R.map (Go.Nm.pin w))->Sep w' (L++R)
  | [],[],_=>trivial
  | [],c :: R,h=>by
    refine ⟨c.st w w' h.1.1 h.1.2.1 h.1.2.2,fun d hd=>?_,Sep.unpin (L:=[]) h.2.2⟩;exact h.2.1 (Go.Nm.pin w d) (List.mem_map.2 ⟨d,hd,rfl⟩)
  | c :: L,R,h=>by
    refine ⟨h.1,fun d hd=>?_,Sep.unpin (L:=L) h.2.2⟩;rcases List.mem_append.1 hd with hd | hd
    · exact h.2.1 d (List.mem_append_left _ hd)
    · exact h.2.1 (Go.Nm.pin w d) (List.mem_append_right _ (List.mem_map.2 ⟨d,hd,rfl⟩))
theorem St.pin {w:World} {R:List Chunk} (H:St w w [] R):St w w [] (R.map (Go.Nm.pin w)):=⟨H.kp,H.sep.pin⟩
theorem St.unpin {w0 w w':World} {L R:List Chunk} (H:St w0 w' L (R.map (Go.Nm.pin w))):St w0 w' L R:=⟨H.kp,H.sep.unpin⟩
theorem Has.pin {w:World} {R:List Chunk} {c:Chunk} (h:Has R c):Has (R.map (Go.Nm.pin w)) c:=⟨fun w' hs=>h.of w' (Sep.unpin (L:=[]) hs)⟩
theorem Reads.pin {w:World} {R:List Chunk} {C:Cells} (h:Reads R C):Reads (R.map (Go.Nm.pin w)) C:=⟨fun w' hs=>h.le w' (Sep.unpin (L:=[]) hs)⟩
theorem Fld.pin {w:World} {R:List Chunk} {b:Nat} {pre:List Value} (h:Fld R b pre):Fld (R.map (Go.Nm.pin w)) b pre:=fun w' hs=>h w' (Sep.unpin (L:=[]) hs)
/-- A map as it lies there. -/
def cMe (b:Nat) (es:Array MapEntry) (n:Nat):Chunk where
  D k:=k=b
  ex:=true
  ok w:=w.heap[b]?=some (.map es n)
  st w w' h _ k:=(k b rfl).trans h
  bd w k h e:=by rw [e]; exact heap_lt h
section
variable {κ ν:Type} [DecidableEq κ] {kenc:κ->Value} {venc:ν->Value}
theorem Has.map {w:World} {R:List Chunk} {b:Nat} {m:List (κ × ν)} (h:Has R (cMl kenc venc b m)) (hs:Sep w R):∃ es n,MapL kenc venc es n m/\(m.map Prod.fst).Nodup/\Has (R.map (Go.Nm.pin w)) (cMe b es n):=by
  obtain ⟨es,n,hb,hm,hn⟩:=h.of w hs;refine ⟨es,n,hm,hn,?_⟩;have hc:∃ c∈R,c.D b:=by
    refine Classical.byContradiction fun hno=>?_;have hno':∀ c∈R,¬ c.D b:=fun c hc hD=>hno ⟨c,hc,hD⟩;have hs':Sep { w with heap:=w.heap.setIfInBounds b (.cells #[] 0 (0,0)) } R:=by
      refine hs.old (by simp) fun c hc k hk=>?_;have hne:b ≠ k:=fun e=>hno' c hc (by rw [e]; exact hk);show (w.heap.setIfInBounds b _)[k]?=_;rw [Array.getElem?_setIfInBounds_ne hne]
    obtain ⟨es',n',hb',_⟩:=h.of _ hs';have:(w.heap.setIfInBounds b (.cells #[] 0 (0,0)))[b]?=some (.map es' n'):=hb';rw [Array.getElem?_setIfInBounds_self_of_lt (heap_lt hb)] at this;cases this
  obtain ⟨c,hc,hD⟩:=hc;refine ⟨fun w' hs'=>?_⟩;have:=hs'.get (List.mem_map.2 ⟨c,hc,rfl⟩);exact (this.2.2 b hD).trans hb
/-- An iterator over such a map: which entries are left, and which one came last. -/
def cIr (b r:Nat) (es:Array MapEntry) (n:Nat) (left:List Bool) (last:Option Nat):Chunk where
  D k:=k=r
  ex:=true
  ok w:=∃ (seen:Array Nat) (c0:Nat),w.heap[r]?=some (.mapIter (some b) n seen c0)/\n<=c0/\left=es.toList.map (fun e=>!seen.contains e.born)/\∀ i,last=some i->c0=n/\∃ (e:MapEntry) (seen0:Array Nat),es.toList[i]?=some e/\seen=seen0.push e.born
  st w w':=fun ⟨seen,c0,h1,h2⟩ _ k=>⟨seen,c0,(k r rfl).trans h1,h2⟩
  bd w k:=fun ⟨_,_,h,_⟩ e=>by rw [e]; exact heap_lt h
variable {P:Program} {w w0:World} {L L' R:List Chunk} {t kt et:TypeId} {b r:Nat} {es:Array MapEntry} {n:Nat} {m:List (κ × ν)}
variable {all rest:List Oper} {Q:Post} {σ:Env} {d:Nat} {ty:TypeId} {pos:String} {af:Array Edge} {g:Option (Nat × Bool)}
/-- The loop over a map begins. -/
theorem t_rangeR {x:Operand} (ht:P.underlying t=some (.map kt et)) (H:St w0 w L R) (hb:w.heap[b]?=some (.map es n)) (hm:MapL kenc venc es n m) (hx:ev σ x = .map (some b))
    (kk:∀ r w',St w0 w' (cIr b r es n (List.replicate m.length true) none :: L) R->SL P all Q rest (upd σ d (.pointer (some ⟨r,0,none⟩))) w'):SL P all Q (⟨some d,.range t x,ty,pos,af,none⟩ :: rest) σ w:=by
  have hr:=run_range_map (P:=P) w t kt et b es n ht hb;refine s_any (v:=.pointer (some ⟨w.heap.size,0,none⟩)) (w':=w.alloc (.mapIter (some b) n #[] n)) (by simp [execOp,hx,hr]) (kk _ _ ?_);have hx:Ext w (w.alloc (.mapIter (some b) n #[] n)):=⟨rfl,rfl,by show w.heap.size<=(w.heap.push _).size; simp,fun j hj=>mr_old w _ hj,fun a=>by
    unfold World.frozen?;by_cases e:a.block<w.heap.size
    · rw [mr_old w _ e]
    · by_cases e2:a.block=w.heap.size
      · rw [e2,heap_alloc_new]; simp
      · have:(w.alloc (.mapIter (some b) n #[] n)).heap[a.block]?=none:=by
          rw [Array.getElem?_eq_none]; show (w.heap.push _).size<=_; rw [Array.size_push]; omega
        rw [this,Array.getElem?_eq_none (by omega)]⟩
  have hlen:es.toList.length=m.length:=by have:=congrArg List.length hm.1; simpa using this
  refine H.push (c:=cIr b w.heap.size es n (List.replicate m.length true) none) hx ⟨#[],n,heap_alloc_new w _,Nat.le_refl _,?_,fun i h=>by cases h⟩ (fun j hj=>by rw [show j=w.heap.size from hj]; exact Nat.le_refl _);rw [← hlen];apply List.ext_getElem?;intro j;rw [List.getElem?_replicate,List.getElem?_map];split
  · rename_i hj
    rw [List.getElem?_eq_getElem hj];simp
  · rename_i hj
    rw [List.getElem?_eq_none (by omega)];rfl
/-- The next entry: none is left, or one of those that are. -/
theorem t_nextR {x:Operand} {i:Nat} {left:List Bool} {last:Option Nat} (H:St w0 w L R) (hb:w.heap[b]?=some (.map es n)) (hm:MapL kenc venc es n m) (hk:L[i]?=some (cIr b r es n left last)) (hx:ev σ x = .pointer (some ⟨r,0,none⟩))
    (h0:(∀ j:Nat,left.getD j false=false)->SL P all Q rest (upd σ d (.tuple #[.bool false])) w)
    (h1:∀ (j:Nat) (k:κ) (v:ν) w',left.getD j false=true->m[j]?=some (k,v)->St w0 w' (L.set i (cIr b r es n (left.set j false) (some j))) R->SL P all Q rest (upd σ d (.tuple #[.bool true,kenc k,venc v])) w') :
    SL P all Q (⟨some d,.next x false,ty,pos,af,none⟩ :: rest) σ w:=by
  obtain ⟨seen,c0,hr,hsc,hleft,hlast⟩:=H.get hk;have hold:=hm.2.2;have hlen:es.toList.length=m.length:=by have:=congrArg List.length hm.1; simpa using this
  have hget:∀ j:Nat,left.getD j false=((es.toList[j]?).map fun e=>!seen.contains e.born).getD false:=fun j=>by
    rw [hleft,List.getD_eq_getElem?_getD,List.getElem?_map]
  rcases run_next_at (P:=P) w ty r b n c0 seen es n hr hb hold hsc with ⟨hz,hrun⟩ | ⟨e,he,w1,hw1,hrun⟩
  · refine s_any (v:=.tuple #[.bool false]) (w':=w) (by simp [execOp,hx,hrun]) (h0 fun j=>?_);rw [hget];cases hj:es.toList[j]? with
    | none=>rfl
    | some e =>
      simp only [Option.map_some,Option.getD_some];cases hc:seen.contains e.born with
      | true=>rfl
      | false =>
        have hm:e∈leftOf es seen:=Array.mem_filter.2 ⟨Array.mem_toList_iff.1 (List.mem_of_getElem? hj),by rw [hc]; rfl⟩;have:=Array.size_pos_of_mem hm;omega
  · obtain ⟨hes,hse⟩:=mem_left he;obtain ⟨j,hj⟩:=List.getElem?_of_mem hes;have hjl:j<es.toList.length:=(List.getElem?_eq_some_iff.1 hj).1;have hmj:∃ k v,m[j]?=some (k,v)/\e.key=kenc k/\e.val=venc v:=by
      have h3:(es.toList.map (fun e=>(e.key,e.val)))[j]?=(m.map (fun p=>(kenc p.1,venc p.2)))[j]?:=by rw [hm.1]
      rw [List.getElem?_map,List.getElem?_map,hj] at h3;cases hq:m[j]? with
      | none=>rw [hq] at h3; simp at h3
      | some q=>rw [hq] at h3; simp at h3; exact ⟨q.1,q.2,rfl,h3.1,h3.2⟩
    obtain ⟨k,v,hk1,hk2,hk3⟩:=hmj;rw [hk2,hk3] at hrun;refine s_any (v:=.tuple #[.bool true,kenc k,venc v]) (w':=ChangeMaps.setBlock w1 r (.mapIter (some b) n (seen.push e.born) n)) (by simp [execOp,hx,hrun]) (h1 j k v _ ?_ hk1 ?_)
    · rw [hget,hj];simp only [Option.map_some,Option.getD_some,hse];rfl
    · have hw:w1.heap=w.heap/\w1.os=w.os/\w1.output=w.output:=by rcases hw1 with rfl | rfl <;> exact ⟨rfl,rfl,rfl⟩
      have hrl:=heap_lt hr;have hsame:(ChangeMaps.setBlock w1 r (.mapIter (some b) n (seen.push e.born) n)).heap[r]?=some (.mapIter (some b) n (seen.push e.born) n):=by
        show (w1.heap.setIfInBounds r _)[r]?=_;rw [Array.getElem?_setIfInBounds_self_of_lt (by rw [hw.1]; exact hrl)]
      have hoth:∀ q,q ≠ r->(ChangeMaps.setBlock w1 r (.mapIter (some b) n (seen.push e.born) n)).heap[q]?=w.heap[q]?:=fun q hq=>by
        show (w1.heap.setIfInBounds r _)[q]?=_;rw [Array.getElem?_setIfInBounds_ne (Ne.symm hq),hw.1]
      refine H.set (c':=cIr b r es n (left.set j false) (some j)) hk rfl ⟨hw.2.1,hw.2.2,by show _<=(w1.heap.setIfInBounds r _).size; rw [Array.size_setIfInBounds,hw.1]; exact Nat.le_refl _⟩ (fun q _ hq=>hoth q (fun e=>hq e)) (fun q hq=>.inl hq)
        ⟨seen.push e.born,n,hsame,Nat.le_refl _,?_,fun q hq=>?_⟩ rfl
      · rw [hleft];apply List.ext_getElem?;intro q;rw [List.getElem?_set,List.getElem?_map,List.getElem?_map,List.length_map];by_cases hq:j=q
        · subst hq;rw [if_pos rfl,if_pos hjl,hj];simp
        · rw [if_neg hq];cases hq2:es.toList[q]? with
          | none=>rfl
          | some e2 =>
            have hne:e2.born ≠ e.born:=fun h4=>by
              have hnd:=hm.2.1;have hql:q<es.toList.length:=(List.getElem?_eq_some_iff.1 hq2).1;have a1:(es.toList.map (·.born))[q]?=(es.toList.map (·.born))[j]?:=by rw [List.getElem?_map,List.getElem?_map,hq2,hj]; simp [h4]
              exact hq ((List.getElem?_inj (by simpa using hql) hnd).1 a1).symm
            simp only [Option.map_some]
            congr 1
            rw [Array.contains_push];simp [hne]
      · injection hq with hq
        subst hq;exact ⟨rfl,e,seen,hj,rfl⟩
/-- The entry that came last. -/
theorem x_entryR {x:Operand} {left:List Bool} {j:Nat} {k:κ} {v:ν} (ho:(cIr b r es n left (some j)).ok w) (hb:w.heap[b]?=some (.map es n)) (hm:MapL kenc venc es n m) (hj:m[j]?=some (k,v)) (hx:ev σ x = .pointer (some ⟨r,0,none⟩)) :
    (execOp (ev σ) ⟨some d,.entry x,ty,pos,af,g⟩).run P w = .ok (.value (.tuple #[kenc k,venc v])) w:=by
  obtain ⟨seen,c0,hr,hsc,hleft,hlast⟩:=ho;obtain ⟨rfl,e,seen0,he,rfl⟩:=hlast j rfl;have hrun:=run_entry_at (P:=P) w r b c0 seen0 es _ e hr hb (List.mem_of_getElem? he) hm.2.1;have h3:(es.toList.map (fun e=>(e.key,e.val)))[j]?=(m.map (fun p=>(kenc p.1,venc p.2)))[j]?:=by rw [hm.1]
  rw [List.getElem?_map,List.getElem?_map,he,hj] at h3;simp only [Option.map_some,Option.some.injEq,Prod.mk.injEq] at h3;rw [h3.1,h3.2] at hrun;simp [execOp,hx,hrun]
end
end Go.Nm
namespace Go.Nm
open Go
def ivO (r:Raw 0):Value:=r.cs.getD 0 (.bool false)
def OldM (r:Raw 0) (_:List Int):Prop:=r.cs=[ivO r]
def psd (dl:List (List Int)):List (List Int):=dl
def cDO (e1 e2:TypeId) (v:Value) (us:List (Raw 0)) (dl:List (List Int)):Chunk where
  D b:=(cDp ivO e1 e2 v us (psd dl)).D b
  ex:=true
  ok w:=(cDp ivO e1 e2 v us (psd dl)).ok w/\us.length=dl.length/\∀ i,i<dl.length->OldM (us.getD i default) (dl.getD i default)
  st w w' h hs k:=⟨(cDp ivO e1 e2 v us (psd dl)).st w w' h.1 hs k,h.2⟩
  bd w b h hb:=(cDp ivO e1 e2 v us (psd dl)).bd w b h.1 hb
section
variable {e1 e2:TypeId} {v:Value} {us:List (Raw 0)} {dl:List (List Int)} {w0 w:World} {L L' R:List Chunk}
variable {P:Program} {all rest:List Oper} {Q:Post} {σ:Env} {d:Nat} {ty:TypeId} {pos:String} {af:Array Edge}
/-- A row that has grown, or shrunk, and is not yet stored. -/
def cDG (e1 e2:TypeId) (v:Value) (us:List (Raw 0)) (dl:List (List Int)) (i:Nat) (v':Value) (row:List Int):Chunk where
  D b:=(cAll ((dpL ivO e1 e2 v us (psd dl)).set (i+1) (cOwn e2 v' row))).D b
  ex:=true
  ok w:=(cAll ((dpL ivO e1 e2 v us (psd dl)).set (i+1) (cOwn e2 v' row))).ok w/\us.length=dl.length
  st w w' h hs k:=⟨(cAll ((dpL ivO e1 e2 v us (psd dl)).set (i+1) (cOwn e2 v' row))).st w w' h.1 hs k,h.2⟩
  bd w b h hb:=(cAll ((dpL ivO e1 e2 v us (psd dl)).set (i+1) (cOwn e2 v' row))).bd w b h.1 hb
theorem St.inner {k:Nat} (H:St w0 w L R) (hk:L[k]?=some (cDO e1 e2 v us dl)) {i:Nat} (hi:i<dl.length) {v':Value} {row:List Int} {w':World} (ho:OwnF 0 e2 w' v' row) (hg:Grow 0 (ivO (us.getD i default)) w w') (hne:∀ b,b<w.heap.size->(ivO (us.getD i default)).ownBlock ≠ some b->v'.ownBlock ≠ some b):St w0 w' (L.set k (cDG e1 e2 v us dl i v' row)) R:=by
  have hok:=H.get hk;have hl:=hok.2.1;have hc:(dpL ivO e1 e2 v us (psd dl))[i+1]?=some (cOwn e2 (ivO (us.getD i default)) (dl.getD i default)):=dpGet hl hi;have new:∀ b,(cOwn e2 v' row).D b->(cOwn e2 (ivO (us.getD i default)) (dl.getD i default)).D b∨w.heap.size<=b:=fun b hb=>by
    by_cases h:b<w.heap.size
    · by_cases h2:(ivO (us.getD i default)).ownBlock=some b
      · exact .inl h2
      · exact absurd hb (hne b h h2)
    · exact .inr (by omega)
  refine H.set (c':=cDG e1 e2 v us dl i v' row) hk rfl hg.keep (fun b hb hn=>hg.blk b hb (fun hc'=>hn ⟨_,List.mem_of_getElem? hc,hc'⟩)) (fun b hb=>?_) ⟨?_,hl⟩ rfl
  · obtain ⟨c,hc',hd⟩:=hb;rcases List.mem_or_eq_of_mem_set hc' with hc' | rfl
    · exact .inl ⟨c,hc',hd⟩
    · rcases new b hd with q | q
      · exact .inl ⟨_,List.mem_of_getElem? hc,q⟩
      · exact .inr q
  · exact Sep.set (c:=cOwn e2 (ivO (us.getD i default)) (dl.getD i default)) (c':=cOwn e2 v' row) rfl hg.size (fun b hb hn=>hg.blk b hb hn) new ho (i+1) _ hok.1 hc
end
section
variable {P:Program} {w:World}
end
section
variable {e1 e2:TypeId} {v:Value} {us:List (Raw 0)} {dl:List (List Int)} {w0 w:World} {L L' R:List Chunk} {P:Program} {all rest:List Oper} {Q:Post} {σ:Env} {d:Nat} {ty:TypeId} {pos:String} {af:Array Edge}
end
end Go.Nm
namespace Go.Nm
open Go
section
variable {P:Program} {ops:Array Oper} {md:Region.Mode} {C:World->Prop} {zs:List Nat}
def onOf (md:Region.Mode) (ops:Array Oper) (j:Nat):List Nat:=match ops[j]? with
  | some o=>(o.after.toList.filter (Region.binds md)).map (·.on)
  | none=>[]
def downs (md:Region.Mode) (ops:Array Oper) (z:Nat):List Nat:=(List.range ops.size).reverse.foldl (fun acc j=>bif acc.contains j then onOf md ops j++acc else acc) (onOf md ops z)
/-- What an operation that is listed comes behind is listed, too. -/
def ClosedL (md:Region.Mode) (ops:Array Oper) (listed:Array Bool):Prop:=∀ j,listed.getD j false=true->∀ i∈onOf md ops j,listed.getD i false=true
theorem onOf_ready {listed:Array Bool} {j:Nat} (hj:j∈Region.ready md ops listed):∀ i∈onOf md ops j,listed.getD i false=true:=by
  obtain ⟨_,o,ho,hall⟩:=mem_ready.1 hj;intro i hi;unfold onOf at hi;simp only [ho] at hi;obtain ⟨e,he,rfl⟩:=List.mem_map.1 hi;rw [List.mem_filter] at he;exact hall e (by simpa using he.1) he.2
theorem ClosedL.set {listed:Array Bool} {j:Nat} (h:ClosedL md ops listed) (hj:j∈Region.ready md ops listed):ClosedL md ops (listed.setIfInBounds j true):=fun k hk i hi=>by
  refine getD_set_true ?_;by_cases e:j=k
  · subst e;exact onOf_ready hj i hi
  · rw [getD_set_ne false e] at hk;exact h k hk i hi
theorem downs_listed {listed:Array Bool} {z:Nat} (h:ClosedL md ops listed) (hz:z∈Region.ready md ops listed):∀ i∈downs md ops z,listed.getD i false=true:=by
  unfold downs;generalize hacc:onOf md ops z=acc;have h0:∀ i∈acc,listed.getD i false=true:=fun i hi=>onOf_ready hz i (by rw [hacc]; exact hi);clear hacc;generalize (List.range ops.size).reverse=l;induction l generalizing acc with
  | nil=>exact h0
  | cons j r ih =>
    rw [List.foldl_cons];refine ih _ fun i hi=>?_;cases hc:acc.contains j with
    | false=>rw [hc] at hi; exact h0 i hi
    | true =>
      rw [hc] at hi;rcases List.mem_append.1 hi with hi | hi
      · exact h j (h0 j (by simpa using hc)) i hi
      · exact h0 i hi
def wpAnyS (P:Program) (md:Region.Mode) (ops:Array Oper) (C:World->Prop) (zs:List Nat) (Q:Act->World->Prop):Nat->Array Bool->Act->World->Prop
  | 0,listed,a,w=>Region.ready md ops listed=[]/\Q a w
  | fuel+1,listed,a,w =>
    (Region.ready md ops listed=[]->Q a w) ∧
    ∀ i∈Region.ready md ops listed,lOp P ops i (fun a' w'=>(i ∉ zs->C w')/\wpAnyS P md ops C zs Q fuel (listed.setIfInBounds i true) a' w') a w
theorem wpAny_of_S {r:Option Nat} {Q:Act->World->Prop} {Q':Exit->Act->World->Prop} (hQ:∀ a w,Q a w->Q' .normal a w):∀ (fuel:Nat) (listed:Array Bool) (a:Act) (w:World),
    wpAnyS P md ops C zs Q fuel listed a w->wpAnyIn (FR r) 0 P md ops Q' fuel listed a w
  | 0,_,_,_,h=>⟨h.1,hQ _ _ h.2⟩
  | fuel+1,_,_,_,h=>⟨fun h0=>hQ _ _ (h.1 h0),fun i hi=>lOp_wpOp (lOp_mono (fun a' w' hh=>wpAny_of_S hQ fuel _ a' w' hh.2) (h.2 i hi))⟩
theorem wpAnyS_first {Q:Act->World->Prop} {i:Nat} {oi:Oper} {v:Value} (hi:ops[i]?=some oi) (hz:i ∉ zs) (hb:∀ z∈zs,i∈downs md ops z) (hsel:∀ (j:Nat) (o:Oper) cs b,ops[j]?=some o->o.op ≠ .select cs b) :
    ∀ (fuel:Nat) (listed:Array Bool) (a:Act) (w:World),C w->ClosedL md ops listed →
      (∀ j oj,ops[j]?=some oj->j ≠ i->listed.getD j true=false->(∀ e∈oj.after,Region.binds md e=true->e.on ≠ i)->oi.apart ops oj=true) →
      i∈Region.ready md ops listed->YV P ops C oi v a →
      wpAnyS P md ops C zs Q fuel (listed.setIfInBounds i true) (a.put oi.dst v) w->wpAnyS P md ops C zs Q (fuel+1) listed a w:=by
  intro fuel;induction fuel with
  | zero =>
    intro listed a w hC _ _ hr hy H;refine ⟨fun h=>(by rw [h] at hr; cases hr),fun j hj=>?_⟩;by_cases hji:j=i
    · subst hji; exact hy.lOp hi hC ⟨fun _=>hC,H⟩
    · have:=ready_mono hj hji;rw [H.1] at this;cases this
  | succ fuel ih =>
    intro listed a w hC hcl hfree hr hy H;refine ⟨fun h=>(by rw [h] at hr; cases hr),fun j hj=>?_⟩;by_cases hji:j=i
    · subst hji; exact hy.lOp hi hC ⟨fun _=>hC,H⟩
    · have h1:=H.2 j (ready_mono hj hji);obtain ⟨hjun,oj,hoj,hall⟩:=mem_ready.1 hj;have hno:¬ listed.getD i false=true:=fun h1=>by
        have h0:=(mem_ready.1 hr).1;rcases Nat.lt_or_ge i listed.size with h' | h'
        · simp [h'] at h0 h1; rw [h0] at h1; cases h1
        · simp [Array.getElem?_eq_none h'] at h1
      have hnot:∀ e∈oj.after,Region.binds md e=true->e.on ≠ i:=fun e he hb heq=>by
        have h1:=hall e he hb;rw [heq] at h1;exact hno h1
      have hjz:j ∉ zs:=fun e=>hno (downs_listed hcl hj i (hb j e));have h2:=lOp_put hoj (hfree j oj hoj hji hjun hnot) (fun cs b=>hsel i oi cs b hi) (fun cs b=>hsel j oj cs b hoj) hy h1;have hfree':∀ k ok,ops[k]?=some ok->k ≠ i->(listed.setIfInBounds j true).getD k true=false →
          (∀ e∈ok.after,Region.binds md e=true->e.on ≠ i)->oi.apart ops ok=true:=fun k ok hk hki hun hno=>by
        refine hfree k ok hk hki ?_ hno;by_cases hjk:j=k
        · subst hjk; exact hjun
        · rw [getD_set_ne true hjk] at hun; exact hun
      refine lOp_mono (fun a' w' h3=>⟨fun _=>h3.2.1 hjz,ih (listed.setIfInBounds j true) a' w' (h3.2.1 hjz) (hcl.set hj) hfree' (ready_mono hr (Ne.symm hji)) h3.1 ?_⟩) h2;rw [Array.setIfInBounds_comm _ _ hji];exact h3.2.2
def canonRow (md:Region.Mode) (ops:Array Oper):List Nat->Array Bool->Bool
  | [],listed=>(Region.ready md ops listed).isEmpty
  | z :: r,listed=>(Region.ready md ops listed==[z])&&canonRow md ops r (listed.setIfInBounds z true)
def canonTS (md:Region.Mode) (ops:Array Oper) (zs:List Nat):Ord->Nat->Array Bool->Bool
  | .nil,0,listed=>canonRow md ops zs listed
  | .q k r,n+1,listed=>(Region.ready md ops listed).contains k&&Region.free md ops listed k&&!zs.contains k&&zs.all (fun z=>(downs md ops z).contains k)&&canonTS md ops zs r n (listed.setIfInBounds k true)
  | .l k r,n+1,listed=>(Region.ready md ops listed==[k])&&!zs.contains k&&canonTS md ops zs r n (listed.setIfInBounds k true)
  | .l2 k1 r1 k2 r2,n+1,listed=>(Region.ready md ops listed==[k1,k2])&&!zs.contains k1&&!zs.contains k2&&canonTS md ops zs r1 n (listed.setIfInBounds k1 true)&&canonTS md ops zs r2 n (listed.setIfInBounds k2 true)
  | .l3 k1 r1 k2 r2 k3 r3,n+1,listed=>(Region.ready md ops listed==[k1,k2,k3])&&canonTS md ops zs r1 n (listed.setIfInBounds k1 true)&&canonTS md ops zs r2 n (listed.setIfInBounds k2 true)&&canonTS md ops zs r3 n (listed.setIfInBounds k3 true)
  | _,_,_=>false
def runRow (P:Program) (ops:Array Oper) (Q:Act->World->Prop):List Nat->Act->World->Prop
  | [],a,w=>Q a w
  | z :: r,a,w=>lOp P ops z (fun a' w'=>runRow P ops Q r a' w') a w
def runTS (P:Program) (ops:Array Oper) (C:World->Prop) (zs:List Nat) (Q:Act->World->Prop):Ord->Act->World->Prop
  | .nil,a,w=>runRow P ops Q zs a w
  | .q k r,a,w=>∃ o v,ops[k]?=some o/\YV P ops C o v a/\runTS P ops C zs Q r (a.put o.dst v) w
  | .l k r,a,w=>lOp P ops k (fun a' w'=>C w'/\runTS P ops C zs Q r a' w') a w
  | .l2 k1 r1 k2 r2,a,w=>lOp P ops k1 (fun a' w'=>C w'/\runTS P ops C zs Q r1 a' w') a w/\lOp P ops k2 (fun a' w'=>C w'/\runTS P ops C zs Q r2 a' w') a w
  | .l3 k1 r1 k2 r2 k3 r3,a,w=>lOp P ops k1 (fun a' w'=>C w'/\runTS P ops C zs Q r1 a' w') a w/\lOp P ops k2 (fun a' w'=>C w'/\runTS P ops C zs Q r2 a' w') a w/\lOp P ops k3 (fun a' w'=>C w'/\runTS P ops C zs Q r3 a' w') a w
theorem wpAnyS_row {Q:Act->World->Prop}:∀ (l:List Nat),(∀ z∈l,z∈zs)->∀ (listed:Array Bool) (a:Act) (w:World),canonRow md ops l listed=true->runRow P ops Q l a w->wpAnyS P md ops C zs Q l.length listed a w
  | [],_,_,_,_,hB,h=>⟨by simpa [canonRow] using hB,h⟩
  | z :: r,hz,listed,a,w,hB,h=>by
    simp only [canonRow,Bool.and_eq_true,beq_iff_eq] at hB;obtain ⟨hr,hB'⟩:=hB;refine ⟨fun h0=>by rw [hr] at h0; simp at h0,fun i hi=>?_⟩;rw [hr] at hi;obtain rfl:i=z:=by simpa using hi
    exact lOp_mono (fun a' w' hh=>⟨fun h=>absurd (hz i (by simp)) h,wpAnyS_row r (fun y hy=>hz y (by simp [hy])) _ _ _ hB' hh⟩) h
theorem wpAnyS_canonT {Q:Act->World->Prop} (hs:Region.noSelect ops=true):∀ (l:Ord) (n:Nat) (listed:Array Bool) (a:Act) (w:World),C w->ClosedL md ops listed →
    canonTS md ops zs l n listed=true->runTS P ops C zs Q l a w->wpAnyS P md ops C zs Q (n+zs.length) listed a w
  | .nil,0,listed,a,w,_,_,hB,h=>by
    rw [Nat.zero_add];exact wpAnyS_row zs (fun _ h=>h) _ _ _ (by simpa only [canonTS] using hB) h
  | .q k r,n+1,listed,a,w,hC,hcl,hB,h=>by
    simp only [canonTS,Bool.and_eq_true,Bool.not_eq_true',List.all_eq_true] at hB;obtain ⟨⟨⟨⟨hr,hf⟩,hz⟩,hb⟩,hB'⟩:=hB;obtain ⟨o,v,h0,hy,hK⟩:=h;have hr':k∈Region.ready md ops listed:=by simpa using hr
    rw [Nat.succ_add];exact wpAnyS_first h0 (by simpa using hz) (fun z hz=>by simpa using hb z hz) (Region.noSelect_spec hs) (n+zs.length) listed a w hC hcl (Region.free_spec h0 hf) hr' hy (wpAnyS_canonT hs r n _ _ _ hC (hcl.set hr') hB' hK)
  | .l k r,n+1,listed,a,w,hC,hcl,hB,h=>by
    simp only [canonTS,Bool.and_eq_true,beq_iff_eq] at hB;obtain ⟨⟨hr,_⟩,hB'⟩:=hB;rw [Nat.succ_add];refine ⟨fun h0=>by rw [hr] at h0; simp at h0,fun i hi=>?_⟩;have hc:=hcl.set hi;rw [hr] at hi;obtain rfl:i=k:=by simpa using hi
    exact lOp_mono (fun a' w' hh=>⟨fun _=>hh.1,wpAnyS_canonT hs r n _ _ _ hh.1 hc hB' hh.2⟩) h
  | .l2 k1 r1 k2 r2,n+1,listed,a,w,hC,hcl,hB,h=>by
    simp only [canonTS,Bool.and_eq_true,beq_iff_eq] at hB;obtain ⟨⟨⟨⟨hr,_⟩,_⟩,hB1⟩,hB2⟩:=hB;rw [Nat.succ_add];refine ⟨fun h0=>by rw [hr] at h0; simp at h0,fun i hi=>?_⟩;have hc:=hcl.set hi;rw [hr] at hi;rcases List.mem_cons.1 hi with rfl | hi
    · exact lOp_mono (fun a' w' hh=>⟨fun _=>hh.1,wpAnyS_canonT hs r1 n _ _ _ hh.1 hc hB1 hh.2⟩) h.1
    · obtain rfl:i=k2:=by simpa using hi
      exact lOp_mono (fun a' w' hh=>⟨fun _=>hh.1,wpAnyS_canonT hs r2 n _ _ _ hh.1 hc hB2 hh.2⟩) h.2
  | .l3 k1 r1 k2 r2 k3 r3,n+1,listed,a,w,hC,hcl,hB,h=>by
    simp only [canonTS,Bool.and_eq_true,beq_iff_eq] at hB;obtain ⟨⟨⟨hr,hB1⟩,hB2⟩,hB3⟩:=hB;rw [Nat.succ_add];refine ⟨fun h0=>by rw [hr] at h0; simp at h0,fun i hi=>?_⟩;have hc:=hcl.set hi;rw [hr] at hi;rcases List.mem_cons.1 hi with rfl | hi
    · exact lOp_mono (fun a' w' hh=>⟨fun _=>hh.1,wpAnyS_canonT hs r1 n _ _ _ hh.1 hc hB1 hh.2⟩) h.1
    · rcases List.mem_cons.1 hi with rfl | hi
      · exact lOp_mono (fun a' w' hh=>⟨fun _=>hh.1,wpAnyS_canonT hs r2 n _ _ _ hh.1 hc hB2 hh.2⟩) h.2.1
      · obtain rfl:i=k3:=by simpa using hi
        exact lOp_mono (fun a' w' hh=>⟨fun _=>hh.1,wpAnyS_canonT hs r3 n _ _ _ hh.1 hc hB3 hh.2⟩) h.2.2
  | .nil,_+1,_,_,_,_,_,hB,_=>by simp [canonTS] at hB
  | .q _ _,0,_,_,_,_,_,hB,_=>by simp [canonTS] at hB
  | .l _ _,0,_,_,_,_,_,hB,_=>by simp [canonTS] at hB
  | .l2 _ _ _ _,0,_,_,_,_,_,hB,_=>by simp [canonTS] at hB
  | .l3 _ _ _ _ _ _,0,_,_,_,_,_,hB,_=>by simp [canonTS] at hB
theorem ClosedL.none (n:Nat):ClosedL md ops (Array.replicate n false):=fun j h=>by
  rcases Nat.lt_or_ge j n with h' | h'
  · simp [h'] at h
  · simp [Array.getElem?_replicate,Nat.not_lt.2 h'] at h
end
def SLR (P:Program) (all:List Oper) (Q:Post):List Nat->Env->World->Prop
  | [],σ,w=>Q .normal σ w
  | z :: r,σ,w=>∃ o,all[z]?=some o/\SL P all (loudQ (fun _=>True) (SLR P all Q r)) [o] σ w
def SLTS (P:Program) (all:List Oper) (C:World->Prop) (zs:List Nat) (Q:Post):Ord->Env->World->Prop
  | .nil,σ,w=>SLR P all Q zs σ w
  | .q k r,σ,w=>∃ o v,all[k]?=some o/\(bif wantedE all o σ then ∀ w',C w'->(execOp (ev σ) o).run P w' = .ok (.value v) w' else v=undef)/\SLTS P all C zs Q r (updo σ o.dst v) w
  | .l k r,σ,w=>∃ o,all[k]?=some o/\SL P all (loudQ C (SLTS P all C zs Q r)) [o] σ w
  | .l2 k1 r1 k2 r2,σ,w=>(∃ o,all[k1]?=some o/\SL P all (loudQ C (SLTS P all C zs Q r1)) [o] σ w)/\∃ o,all[k2]?=some o/\SL P all (loudQ C (SLTS P all C zs Q r2)) [o] σ w
  | .l3 k1 r1 k2 r2 k3 r3,σ,w=>(∃ o,all[k1]?=some o/\SL P all (loudQ C (SLTS P all C zs Q r1)) [o] σ w)/\(∃ o,all[k2]?=some o/\SL P all (loudQ C (SLTS P all C zs Q r2)) [o] σ w)/\∃ o,all[k3]?=some o/\SL P all (loudQ C (SLTS P all C zs Q r3)) [o] σ w
theorem SLR_run {P:Program} {ds:List Deferred} {n:Nat} {Q:Post} (all:List Oper) (hok:∀ o∈all,∀ d,o.dst=some d->d<n):∀ (l:List Nat) (σ:Env) (w:World) (a:Act),Fr ds n σ a →
    SLR P all Q l σ w->runRow P all.toArray (fun a' w'=>∃ σ',Fr ds n σ' a'/\Q .normal σ' w') l a w
  | [],σ,_,_,ha,h=>⟨σ,ha,h⟩
  | _ :: r,_,_,_,ha,⟨_,ho,h⟩=>lOp_mono (fun _ _ hh=>hh.2) (SL_lOp all hok (fun σ' w' a' ha' h'=>SLR_run all hok r σ' w' a' ha' h') ho ha h)
theorem SLTS_runTS {P:Program} {ds:List Deferred} {n:Nat} {C:World->Prop} {zs:List Nat} {Q:Post} (all:List Oper) (hok:∀ o∈all,∀ d,o.dst=some d->d<n):∀ (l:Ord) (σ:Env) (w:World) (a:Act),Fr ds n σ a →
    SLTS P all C zs Q l σ w->runTS P all.toArray C zs (fun a' w'=>∃ σ',Fr ds n σ' a'/\Q .normal σ' w') l a w
  | .nil,σ,w,a,ha,h=>SLR_run all hok zs σ w a ha h
  | .q k r,σ,w,a,ha,⟨o,v,ho,hv,hK⟩=>by
    have hmem:o∈all:=List.mem_of_getElem? ho;refine ⟨o,v,by simpa using ho,?_,SLTS_runTS all hok r _ _ _ (ha.puto (hok o hmem) v) hK⟩;unfold YV;rw [wanted_eq ha all hok,ha.eval];cases hw:wantedE all o σ with
    | true=>rw [hw] at hv; exact .inl ⟨rfl,hv⟩
    | false=>rw [hw] at hv; exact .inr ⟨rfl,hv⟩
  | .l k r,σ,w,a,ha,⟨o,ho,h⟩=>SL_lOp all hok (fun σ' w' a' ha' h'=>SLTS_runTS all hok r σ' w' a' ha' h') ho ha h
  | .l2 k1 r1 k2 r2,σ,w,a,ha,⟨⟨o,ho,h⟩,⟨o',ho',h'⟩⟩ =>
    ⟨SL_lOp all hok (fun σ' w' a' ha' h'=>SLTS_runTS all hok r1 σ' w' a' ha' h') ho ha h,SL_lOp all hok (fun σ' w' a' ha' h'=>SLTS_runTS all hok r2 σ' w' a' ha' h') ho' ha h'⟩
  | .l3 k1 r1 k2 r2 k3 r3,σ,w,a,ha,⟨⟨o,ho,h⟩,⟨o',ho',h'⟩,⟨o'',ho'',h''⟩⟩ =>
    ⟨SL_lOp all hok (fun σ' w' a' ha' h'=>SLTS_runTS all hok r1 σ' w' a' ha' h') ho ha h,SL_lOp all hok (fun σ' w' a' ha' h'=>SLTS_runTS all hok r2 σ' w' a' ha' h') ho' ha h',SL_lOp all hok (fun σ' w' a' ha' h'=>SLTS_runTS all hok r3 σ' w' a' ha' h') ho'' ha h''⟩
theorem W.drawTS {r:Option Nat} {P:Program} {n:Nat} {Q:Post} {σ:Env} {w:World} {id:Nat} {l:List Oper} (C:World->Prop) (order:Ord) (m:Nat) (zs:List Nat) (hm:P.follows .mixedOrders=true)
    (hB:(Region.noSelect l.toArray&&Nat.beq (m+zs.length) l.length&&canonTS .any l.toArray zs order m (Array.replicate l.length false))=true)
    (hok:okDst n l=true) (h:∀ w1,Ext w w1->C w1/\SLTS P l C zs Q order σ w1):WR r P n (.region id l.toArray true) Q σ w:=by
  intro ds a ha;simp only [Bool.and_eq_true] at hB;obtain ⟨⟨hs,hl⟩,hB⟩:=hB;have hl':=Nat.eq_of_beq_eq_true hl;obtain ⟨hC,hS⟩:=h w.drew (.drew w);refine wpIn_region_any hm (wpAny_of_S (C:=C) (zs:=zs) (Q:=fun a' w'=>∃ σ',Fr ds n σ' a'/\Q .normal σ' w') (fun _ _ h=>h) _ _ _ _ ?_);have:=wpAnyS_canonT (P:=P) (md:=.any) (Q:=fun a' w'=>∃ σ',Fr ds n σ' a'/\Q .normal σ' w') hs order m (Array.replicate l.length false) a w.drew hC (ClosedL.none _) hB (SLTS_runTS l (okDst_spec hok) order σ w.drew a ha hS);rw [hl'] at this
  simpa using this
section
variable {P:Program} {all:List Oper} {C:World->Prop} {zs:List Nat} {z:Nat} {Q:Post} {r r2:Ord} {σ:Env} {w:World}
theorem ts_nil (h:SLR P all Q zs σ w):SLTS P all C zs Q .nil σ w:=h
theorem sr_l {o:Oper} (ho:all[z]?=some o) (h:SL P all (loudQ (fun _=>True) (SLR P all Q zs)) [o] σ w):SLR P all Q (z :: zs) σ w:=⟨o,ho,h⟩
theorem sr_nil (h:Q .normal σ w):SLR P all Q [] σ w:=h
theorem ts_q {k d:Nat} {op:Op} {ty:TypeId} {pos:String} {af:Array Edge} {v:Value} (ho:all[k]?=some ⟨some d,op,ty,pos,af,none⟩)
    (h:∀ w',C w'->(execOp (ev σ) ⟨some d,op,ty,pos,af,none⟩).run P w' = .ok (.value v) w') (hk:SLTS P all C zs Q r (upd σ d v) w):SLTS P all C zs Q (.q k r) σ w :=
  ⟨_,v,ho,h,hk⟩
theorem ts_l {k:Nat} {o:Oper} (ho:all[k]?=some o) (h:SL P all (loudQ C (SLTS P all C zs Q r)) [o] σ w):SLTS P all C zs Q (.l k r) σ w:=⟨o,ho,h⟩
theorem ts_l2 {k k2:Nat} {o o2:Oper} (ho:all[k]?=some o) (ho2:all[k2]?=some o2) (h:SL P all (loudQ C (SLTS P all C zs Q r)) [o] σ w) (h2:SL P all (loudQ C (SLTS P all C zs Q r2)) [o2] σ w) :
    SLTS P all C zs Q (.l2 k r k2 r2) σ w:=⟨⟨o,ho,h⟩,⟨o2,ho2,h2⟩⟩
end
end Go.Nm
namespace Go.Nm
open Go
section
variable {P:Program} {ops:Array Oper} {md:Region.Mode} {C:World->Prop} {zs fr:List Nat}
/-- No store of the row has come. -/
def Unl (zs:List Nat) (listed:Array Bool):Prop:=∀ z∈zs,listed.getD z false=false
theorem Unl.of {listed:Array Bool} {i:Nat} (h:Unl zs (listed.setIfInBounds i true)):Unl zs listed:=fun z hz=>by
  cases q:listed.getD z false with
  | false=>rfl
  | true =>
    have:=h z hz;rw [getD_set_true q] at this;cases this
theorem Unl.set {listed:Array Bool} {i:Nat} (h:Unl zs listed) (hi:i ∉ zs):Unl zs (listed.setIfInBounds i true):=fun z hz=>by
  rw [getD_set_ne false (fun e:i=z=>hi (e ▸ hz))];exact h z hz
end
section
variable {P:Program} {all:List Oper} {C:World->Prop} {zs fr:List Nat} {Q:Post} {r r2:Ord} {σ:Env} {w:World}
end
end Go.Nm
namespace Go.Nm
open Go
theorem St.perm {w0 w:World} {L L' R:List Chunk} (h:St w0 w L R) (p:L.Perm L'):St w0 w L' R:=by
  refine ⟨h.kp,?_⟩;have hS:=h.sep;rw [Sep.iff] at hS ⊢;have q:(L++R).Perm (L'++R):=p.append_right R;exact ⟨fun c hc=>hS.1 c (q.mem_iff.2 hc),(q.pairwise_iff fun h=>Apart.symm h).1 hS.2⟩
/-- What is allocated: where its pointer goes, its type, its cells. -/
abbrev Alc:=Nat × TypeId × List Value
def mixE (ds:List Nat) (g:Nat->Value) (σ:Env):Env:=fun t=>bif ds.contains t then g t else σ t
def ptrOf (b:Nat):Value:=.pointer (some ⟨b,0,none⟩)
/-- Behind all of them: each has its block. -/
def FinA:List Alc->List Chunk->Env->(List Chunk->Env->Prop)->Prop
  | [],acc,σ,K=>K acc σ
  | (d,t,z) :: r,acc,σ,K=>∀ b,FinA r (acc++[cBlk b z t]) (upd σ d (.pointer (some ⟨b,0,none⟩))) K
theorem FinA.go {K:List Chunk->Env->Prop} (b:Nat->Nat):∀ (sp:List Alc) (acc:List Chunk) (σ:Env),FinA sp acc σ K->K (acc++sp.map fun x=>cBlk (b x.1) x.2.2 x.2.1) (sp.foldl (fun σ x=>upd σ x.1 (ptrOf (b x.1))) σ)
  | [],acc,σ,h=>by simpa [FinA] using h
  | (d,t,z) :: r,acc,σ,h=>by
    have:=FinA.go b r _ _ (h (b d));rw [List.append_assoc] at this;exact this
section
variable (P:Program) (all:List Oper) (C:World->Prop) (w0:World) (R:List Chunk) (ds:List Nat) (Fin:Env->List Chunk->Prop)
/-- The row, whatever blocks there are beside. -/
def SLA:List (Nat × Bool)->Env->List Chunk->Prop
  | [],σ,L=>(∀ Lx w,St w0 w (L++Lx) R->C w)/\Fin σ L
  | (k,true) :: r,σ,L=>(∀ Lx w,St w0 w (L++Lx) R->C w)/\∃ o d v,all[k]?=some o/\o.dst=some d/\o.guard=none/\ds.contains d=false/\(∀ g w',C w'->(execOp (ev (mixE ds g σ)) o).run P w' = .ok (.value v) w')/\SLA r (upd σ d v) L
  | (k,false) :: r,σ,L=>(∀ Lx w,St w0 w (L++Lx) R->C w)/\∃ o,all[k]?=some o/\∀ g Lx w,St w0 w (L++Lx) R->SL P all (loudQ C fun σ' w'=>∃ σ'' L',σ'=mixE ds g σ''/\St w0 w' (L'++Lx) R/\SLA r σ'' L') [o] (mixE ds g σ) w
end
theorem SLA.cl {P:Program} {all:List Oper} {C:World->Prop} {w0:World} {R:List Chunk} {ds:List Nat} {Fin:Env->List Chunk->Prop} {r:List (Nat × Bool)} {σ:Env} {L:List Chunk} (h:SLA P all C w0 R ds Fin r σ L):∀ Lx w,St w0 w (L++Lx) R->C w:=by
  match r,h with
  | [],h=>exact h.1
  | (k,true) :: r,h=>exact h.1
  | (k,false) :: r,h=>exact h.1
/-- How far the allocations are. -/
structure AlS (P:Program) (all:List Oper) (sp:List (Nat × Alc)) (done:List Alc) (g:Nat->Value) (Lx:List Chunk):Prop where
  ex:∃ b:Nat->Nat,(∀ x∈done,g x.1=ptrOf (b x.1))/\Lx.Perm (done.map fun x=>cBlk (b x.1) x.2.2 x.2.1)
section
variable {P:Program} {all:List Oper} {C:World->Prop} {w0:World} {R:List Chunk} {ds:List Nat} {Fin:Env->List Chunk->Prop} {r:List (Nat × Bool)} {σ:Env} {L:List Chunk}
end
end Go.Nm
namespace Go.Nm
open Go
section
variable {md:Region.Mode} {ops:Array Oper}
end
end Go.Nm
namespace Go.Nm
open Go
section
variable {P:Program} {ops:Array Oper} {md:Region.Mode} {C:World->Prop} {z:Nat}
end
section
variable {P:Program} {all:List Oper} {C:World->Prop} {z:Nat} {Q:Post} {r:List Nat} {σ:Env} {w:World}
end
end Go.Nm
namespace Go.Nm
open Go
section
variable {P:Program} {ops:Array Oper} {md:Region.Mode} {C:World->Prop} {z:Nat}
end
section
variable {P:Program} {all:List Oper} {C:World->Prop} {z:Nat} {Q:Post} {r r2:Ord} {σ:Env} {w:World}
end
end Go.Nm
namespace Go.Nm
open Go
/-- As Q; a jump to the label: K. -/
def jumpQ (l:Nat) (K:Env->World->Prop) (Q:Post):Post
  | .goto l',σ,w=>l'=l/\K σ w
  | e,σ,w=>Q e σ w
section
variable {P:Program} {n:Nat} {Q:Post} {σ:Env} {w:World}
theorem W.goto {r:Option Nat} {l:Nat} (h:Q (.goto l) σ w):WR r P n (.goto l) Q σ w:=fun _ _ ha=>wpIn_goto ⟨σ,ha,h⟩
theorem W.jump {c rest:Code} (l:Nat) (hf:findLabel c l=some rest) (I:Nat->Env->World->Prop) (first:W P n c (jumpQ l (fun σ w=>∃ m,I m σ w) Q) σ w)
    (pass:∀ m σ w,I m σ w->W P n rest (jumpQ l (fun σ' w'=>∃ m',m'<m/\I m' σ' w') Q) σ w):W P n (.scope c) Q σ w:=by
  intro ds a ha
  classical
  let J:Act->World->Prop:=fun a w=>∃ m σ,Fr ds n σ a/\I m σ w
  have hmin:∀ a w,J a w->∃ m,(∃ σ,Fr ds n σ a/\I m σ w)/\∀ m',(∃ σ,Fr ds n σ a/\I m' σ w)->m<=m':=by
    rintro a w ⟨m,σ,h1,h2⟩;have key:∀ k m,m<=k->(∃ σ,Fr ds n σ a/\I m σ w)->∃ m,(∃ σ,Fr ds n σ a/\I m σ w)/\∀ m',(∃ σ,Fr ds n σ a/\I m' σ w)->m<=m':=by
      intro k;induction k with
      | zero=>intro m hm h; exact ⟨m,h,fun m' _=>by omega⟩
      | succ k ih =>
        intro m hm h;by_cases hx:∃ m',m'<m/\∃ σ,Fr ds n σ a/\I m' σ w
        · obtain ⟨m',hlt,h'⟩:=hx;exact ih m' (by omega) h'
        · exact ⟨m,h,fun m' h'=>Nat.le_of_not_lt fun hlt=>hx ⟨m',hlt,h'⟩⟩
    exact key m m (Nat.le_refl _) ⟨σ,h1,h2⟩
  let μ:Act->World->Nat:=fun a w=>if h:J a w then (hmin a w h).choose else 0
  refine (wpIn_wide (n:=0)).2 (wp_scope_jumps l J μ hf ?_ ?_)
  · refine wp_mono ((wpIn_wide (n:=0)).1 (first ds a ha)) ?_;rintro e a' w' ⟨s,hs,h'⟩;cases e with
    | goto l'=>exact ⟨h'.1,h'.2.choose,s,hs,h'.2.choose_spec⟩
    | _=>exact ⟨s,hs,h'⟩
  · intro a w hJ;obtain ⟨σ,hσ,hI⟩:=(hmin a w hJ).choose_spec.1;refine wp_mono ((wpIn_wide (n:=0)).1 (pass _ σ w hI ds a hσ)) ?_;rintro e a' w' ⟨s,hs,h'⟩;cases e with
    | goto l' =>
      obtain ⟨rfl,m',hlt,hI'⟩:=h';have hJ':J a' w':=⟨m',s,hs,hI'⟩
      refine ⟨rfl,hJ',?_⟩;have h1:=(hmin a' w' hJ').choose_spec.2 m' ⟨s,hs,hI'⟩;have e1:μ a' w'=(hmin a' w' hJ').choose:=dif_pos hJ';have e2:μ a w=(hmin a w hJ).choose:=dif_pos hJ;rw [e1,e2];omega
    | _=>exact ⟨s,hs,h'⟩
end
end Go.Nm
namespace Go.Nm
open Go
def noGotoD (Q:PostD):PostD
  | .goto _,_,_,_=>False
  | e,Ds,σ,w=>Q e Ds σ w
theorem WD.scope {P:Program} {n:Nat} {Q:PostD} {σ:Env} {w:World} {Ds:List Nat} {c:Code} (h:WD P n Ds c (noGotoD Q) σ w):WD P n Ds (.scope c) Q σ w:=by
  intro a ha;refine (wpIn_wide (n:=0)).2 (wp_scope_straight (wp_mono ((wpIn_wide (n:=0)).1 (h a ha)) ?_));rintro e a' w' ⟨d,s,hs,h'⟩;cases e with
  | goto l=>exact h'.elim
  | _=>exact ⟨d,s,hs,h'⟩
section
variable {P:Program} {w:World} {σ:Env} {d:Nat} {ty:TypeId} {pos:String} {af:Array Edge} {g:Option (Nat × Bool)}
/-! ### Values of any type, and what type they are of -/
theorem x_mi {t:TypeId} {x:Operand} {v:Value} {D:TypeDesc} (hu:P.underlying t=some D) (hn:∀ m,D ≠ .interface m) (hx:ev σ x=v) :
    (execOp (ev σ) ⟨some d,.makeInterface t x,ty,pos,af,g⟩).run P w = .ok (.value (.iface t v)) w:=by
  cases D <;> first | exact absurd rfl (hn _) | simp [execOp,Instr.makeInterface,run_underlying hu,hx]
theorem x_ta1 {t xt:TypeId} {x:Operand} {v:Value} {D:TypeDesc} (hu:P.underlying t=some D) (hn:∀ m,D ≠ .interface m) (hx:ev σ x = .iface t v) :
    (execOp (ev σ) ⟨some d,.typeAssert x xt t true,ty,pos,af,g⟩).run P w = .ok (.value (.tuple #[v,.bool true])) w:=by
  cases D <;> first | exact absurd rfl (hn _) | simp [execOp,Instr.typeAssert,run_underlying hu,hx]
theorem x_ta0 {t t' xt:TypeId} {x:Operand} {v z:Value} {D:TypeDesc} (hu:P.underlying t=some D) (hn:∀ m,D ≠ .interface m) (hne:t' ≠ t) (hz:(P.info? t).map (·.zero)=some (some z)) (hx:ev σ x = .iface t' v) :
    (execOp (ev σ) ⟨some d,.typeAssert x xt t true,ty,pos,af,g⟩).run P w = .ok (.value (.tuple #[z,.bool false])) w:=by
  have hzv:(zeroValue t).run P w = .ok z w:=by
    cases hi:P.info? t with
    | none=>simp [hi] at hz
    | some i =>
      simp only [hi,Option.map_some,Option.some.injEq] at hz;simp [zeroValue,typeInfo,hi,hz]
  cases D <;> first | exact absurd rfl (hn _) | simp [execOp,Instr.typeAssert,run_underlying hu,hx,hne,hzv]
end
/-- An iterator hands over a number and a span. -/
def arISpan:Cells->List Value->Int × Span->Prop:=fun _ vs x=>vs=[I x.1,.agg #[I x.2.lo,I x.2.hi]]
theorem arISpan_len {k:Nat} (hk:k=2):∀ C vs x,arISpan C vs x->vs.length=k:=fun _ _ _ h=>by rw [show _=_ from h,hk]; rfl
/-- A span as a map's value. -/
def encSp (s:Span):Value:=.agg #[I s.lo,I s.hi]
theorem span_val (o:Option Span):(o.map encSp).getD (.agg #[I 0,I 0]) = .agg #[I (o.getD default).lo,I (o.getD default).hi]:=by cases o <;> rfl
end Go.Nm
namespace Go.Nm
open Go
/-- A number as 64 bits hold it. -/
def wr64 (a:Int):Int:=IntKind.i64.wrap a
section
variable {P:Program} {w:World} {σ:Env} {d:Nat} {ty:TypeId} {pos:String} {af:Array Edge} {g:Option (Nat × Bool)}
theorem x_subW {t yt:TypeId} {x y:Operand} {a b:Int} (hx:ev σ x = .int .i64 a) (hy:ev σ y = .int .i64 b) :
    (execOp (ev σ) ⟨some d,.binOp .sub t x y yt,ty,pos,af,g⟩).run P w = .ok (.value (.int .i64 (wr64 (a-b)))) w:=by
  simp [execOp,hx,hy,eqGuard,binOp,Op.intArith,wr64]
theorem x_addW {t yt:TypeId} {x y:Operand} {a b:Int} (hx:ev σ x = .int .i64 a) (hy:ev σ y = .int .i64 b) :
    (execOp (ev σ) ⟨some d,.binOp .add t x y yt,ty,pos,af,g⟩).run P w = .ok (.value (.int .i64 (wr64 (a+b)))) w:=by
  simp [execOp,hx,hy,eqGuard,binOp,Op.intArith,wr64]
end
end Go.Nm
namespace Go.Nm
open Go
section
variable {P:Program} {w:World}
end
end Go.Nm
namespace Go.Proofs
open Go.RowKit Go.Maps Go.Sort Go.Shelf
def Tryz.sortA_ren:Go.Shelf.Ren:=⟨fun | 5=>37 | 7=>75 | 8=>76 | 10=>114 | 11=>115 | 12=>116 | 13=>117 | 14=>118 | 15=>119 | 16=>120 | 17=>121 | 18=>122 | 19=>123 | 20=>124 | 30=>168 | 31=>169 | 32=>170 | 33=>171 | 34=>172 | 35=>173 | 40=>222 | n=>n,fun | 0=>0 | 3=>3 | 4=>4 | 5=>5 | 9=>9 | 22=>24 | 23=>24 | 25=>3 | 32=>175 | 35=>235 | 36=>236 | 41=>171 | 44=>242 | 46=>244 | 53=>293 | 57=>297 | 63=>335 | 64=>310 | n=>n,fun | n=>n⟩
theorem Tryz.sortA:Go.Proofs.SlLaysM.n5 Tryz.prog Tryz.sortA_ren:={
  mixed:=by kernel_rfl
  f5 := ⟨"slices.Sort[[]int,int]", by kernel_rfl, Tryz.func37.trans (congrArg some (by kernel_rfl))⟩
  f7 := ⟨"slices.pdqsortOrdered[int]", by kernel_rfl, Tryz.func75.trans (congrArg some (by kernel_rfl))⟩
  f8:=Tryz.func76.trans (congrArg some (by kernel_rfl))
  f10 := ⟨"slices.insertionSortOrdered[int]", by kernel_rfl, Tryz.func114.trans (congrArg some (by kernel_rfl))⟩
  f11 := ⟨"slices.heapSortOrdered[int]", by kernel_rfl, Tryz.func115.trans (congrArg some (by kernel_rfl))⟩
  f12 := ⟨"slices.breakPatternsOrdered[int]", by kernel_rfl, Tryz.func116.trans (congrArg some (by kernel_rfl))⟩
  f13 := ⟨"slices.choosePivotOrdered[int]", by kernel_rfl, Tryz.func117.trans (congrArg some (by kernel_rfl))⟩
  f14 := ⟨"slices.reverseRangeOrdered[int]", by kernel_rfl, Tryz.func118.trans (congrArg some (by kernel_rfl))⟩
  f15 := ⟨"slices.partialInsertionSortOrdered[int]", by kernel_rfl, Tryz.func119.trans (congrArg some (by kernel_rfl))⟩
  f16 := ⟨"cmp.Less[int]", by kernel_rfl, Tryz.func120.trans (congrArg some (by kernel_rfl))⟩
  f17 := ⟨"slices.partitionEqualOrdered[int]", by kernel_rfl, Tryz.func121.trans (congrArg some (by kernel_rfl))⟩
  f18 := ⟨"slices.partitionOrdered[int]", by kernel_rfl, Tryz.func122.trans (congrArg some (by kernel_rfl))⟩
  f19:=Tryz.func123.trans (congrArg some (by kernel_rfl))
  f20:=Tryz.func124.trans (congrArg some (by kernel_rfl))
  f30 := ⟨"slices.siftDownOrdered[int]", by kernel_rfl, Tryz.func168.trans (congrArg some (by kernel_rfl))⟩
  f31:=Tryz.func169.trans (congrArg some (by kernel_rfl))
  f32:=Tryz.func170.trans (congrArg some (by kernel_rfl))
  f33 := ⟨"slices.medianAdjacentOrdered[int]", by kernel_rfl, Tryz.func171.trans (congrArg some (by kernel_rfl))⟩
  f34 := ⟨"slices.medianOrdered[int]", by kernel_rfl, Tryz.func172.trans (congrArg some (by kernel_rfl))⟩
  f35 := ⟨"cmp.isNaN[int]", by kernel_rfl, Tryz.func173.trans (congrArg some (by kernel_rfl))⟩
  f40 := ⟨"slices.order2Ordered[int]", by kernel_rfl, Tryz.func222.trans (congrArg some (by kernel_rfl))⟩
  t0:=Tryz.underlying0
  a0:=Tryz.isAgg0
  z0:=Tryz.sizeOf0
  v0:=Tryz.zeroValue0
  t3:=Tryz.underlying3
  a3:=Tryz.isAgg3
  z3:=Tryz.sizeOf3
  v3:=Tryz.zeroValue3
  t4:=Tryz.underlying4
  a4:=Tryz.isAgg4
  z4:=Tryz.sizeOf4
  v4:=Tryz.zeroValue4
  t5:=Tryz.underlying5
  a5:=Tryz.isAgg5
  z5:=Tryz.sizeOf5
  v5:=Tryz.zeroValue5
  t9:=Tryz.underlying9
  a9:=Tryz.isAgg9
  z9:=Tryz.sizeOf9
  v9:=Tryz.zeroValue9
  t22:=Tryz.underlying24
  a22:=Tryz.isAgg24
  z22:=Tryz.sizeOf24
  v22:=Tryz.zeroValue24
  t23:=Tryz.underlying24
  a23:=Tryz.isAgg24
  z23:=Tryz.sizeOf24
  v23:=Tryz.zeroValue24
  t25:=Tryz.underlying3
  a25:=Tryz.isAgg3
  z25:=Tryz.sizeOf3
  v25:=Tryz.zeroValue3
  t32:=Tryz.underlying175
  a32:=Tryz.isAgg175
  z32:=Tryz.sizeOf175
  v32:=Tryz.zeroValue175
  t35:=Tryz.underlying235
  a35:=Tryz.isAgg235
  z35:=Tryz.sizeOf235
  v35:=Tryz.zeroValue235
  t36:=Tryz.underlying236
  a36:=Tryz.isAgg236
  z36:=Tryz.sizeOf236
  v36:=Tryz.zeroValue236
  t41:=Tryz.underlying171
  a41:=Tryz.isAgg171
  z41:=Tryz.sizeOf171
  v41:=Tryz.zeroValue171
  t44:=Tryz.underlying242
  a44:=Tryz.isAgg242
  z44:=Tryz.sizeOf242
  v44:=Tryz.zeroValue242
  t46:=Tryz.underlying244
  a46:=Tryz.isAgg244
  z46:=Tryz.sizeOf244
  v46:=Tryz.zeroValue244
  t53:=Tryz.underlying293
  a53:=Tryz.isAgg293
  z53:=Tryz.sizeOf293
  v53:=Tryz.zeroValue293
  t57:=Tryz.underlying297
  a57:=Tryz.isAgg297
  z57:=Tryz.sizeOf297
  v57:=Tryz.zeroValue297
  t63:=Tryz.underlying335
  a63:=Tryz.isAgg335
  z63:=Tryz.sizeOf335
  v63:=Tryz.zeroValue335
  t64:=Tryz.underlying310
  a64:=Tryz.isAgg310
  z64:=Tryz.sizeOf310
  v64:=Tryz.zeroValue310 }
end Go.Proofs
namespace Go.Nm
open Go
theorem OwnF.row {B:Nat} {e:TypeId} {w:World} {l:List Int} {g cap:Nat} {cur:Array Value} (ho:OwnF B e w (.slice (some ⟨g,0,none⟩) l.length cap) l) (hg:w.heap[g]?=some (.cells cur e (0,0)))
    (hcs:l.length<=cap) (hsz:cur.size=cap) (hb:B<=g) (hm:cap<=maxLen) (d:Array Int) (hl:d.size=l.length) (q:Nat) :
    OwnF B e (Sort.putRow (Value.int .i64) (Sort.ahead w q) g 0 d) (.slice (some ⟨g,0,none⟩) l.length cap) d.toList/\Grow B (.slice (some ⟨g,0,none⟩) l.length cap) w (Sort.putRow (Value.int .i64) (Sort.ahead w q) g 0 d):=by
  have hs1:Elt.sz Int=1:=rfl;have h1:(Sort.putRow (Value.int .i64) (Sort.ahead w q) g 0 d).heap[g]?=some (.cells (Sort.putCells (Value.int .i64) 0 d cur) e (0,0)):=by
    show (w.heap.modify g _)[g]?=_;rw [Array.getElem?_modify,if_pos rfl,hg];rfl
  have h2:∀ k,k ≠ g->(Sort.putRow (Value.int .i64) (Sort.ahead w q) g 0 d).heap[k]?=w.heap[k]?:=by
    intro k hk;show (w.heap.modify g _)[k]?=_;rw [Array.getElem?_modify,if_neg (fun h=>hk h.symm)]
  refine ⟨⟨by rw [enc_ints]; simp [hs1],.inr ⟨g,cap,_,by simp [hl],hb,h1,by simp [hl]; omega,hm,by simp [hs1,Sort.putCells]; omega,?_⟩⟩,⟨rfl,rfl,by simp [Sort.putRow,Sort.mapBlock,Sort.ahead],fun k _ hk=>?_,fun g' hg'=>(ho.lt g' hg').1,fun a=>by simp⟩⟩
  · rw [enc_ints,hs1];apply List.ext_getElem?;intro i;rw [List.getElem?_take,List.getElem?_map];by_cases hi:i<d.toList.length*1
    · rw [if_pos hi];have hi':i<d.size:=by simpa using hi
      have hc:i<cur.size:=by omega
      simp [Sort.putCells,hi',hc]
    · rw [if_neg hi,List.getElem?_eq_none (by simpa using hi)];rfl
  · refine h2 k (fun e'=>hk ?_);rw [e'];rfl
end Go.Nm
namespace Go.Proofs.YtbgoclcmgbpckabGreat
open Go Go.Nm Go.Proofs
theorem sort_any {w:World} {v:Value} {l:List Int} (ho:OwnF 0 3 w v l) (hl:l.length<=1000000):Ret Tryz.prog 37 #[v] w fun u w'=>u = .tuple #[]/\OwnF 0 3 w' v (isort l)/\Keep w w'/\∀ b,b<w.heap.size->v.ownBlock ≠ some b->w'.heap[b]?=w.heap[b]?:=by
  have ho':=ho;rcases ho.2 with ⟨rfl,hn⟩ | ⟨g,cap,cur,rfl,hb,hg,hc,hm,hcs,htake⟩
  · obtain rfl:=List.length_eq_zero_iff.1 hn;have h:=AnyM.slices_Sort_int_none Tryz.sortA none 0 w;refine Calls.mono h ?_;rintro _ w' ⟨rfl,rfl⟩;exact ⟨_,rfl,rfl,ho,Keep.refl _,fun _ _ _=>rfl⟩
  · have hs1:Elt.sz Int=1:=rfl;rw [hs1] at hcs htake;rw [enc_ints] at htake;have hcell:∀ j,j<l.length->w.cell? ⟨g,0+j,none⟩=some (.int .i64 (l.getD j 0)):=by
      intro j hj;rw [Nat.zero_add,cell_of_row w g j cur 3 (0,0) hg];have h1:(cur.toList.take (l.length*1))[j]?=(l.map I)[j]?:=by rw [htake]
      rw [List.getElem?_take,if_pos (by omega),List.getElem?_map,getD_some l hj 0] at h1
      simpa using h1
    have hH:Sort.Holds (Value.int .i64) w g 0 l.toArray:=by
      intro j hj;have hj:j<l.length:=by simpa using hj
      refine ⟨?_,by simp [World.frozen?,hg]⟩;rw [hcell j hj];have:l.getD j 0=l.toArray[j]!:=by
        rw [List.getD_eq_getElem?_getD,List.getElem?_eq_getElem hj];simp [getElem!_pos,hj]
      rw [this]
    have h:=AnyM.slices_Sort_int Tryz.sortA g 0 cap l w hH (heap_lt hg) (by omega);refine Calls.mono h ?_;rintro _ w' ⟨rfl,q,os,rfl⟩;rw [merge_isort (List.Perm.refl l)];have hlen:(isort l).length=l.length:=(isort_perm l).length_eq;obtain ⟨h1,h2⟩:=OwnF.row ho hg hc (by omega) hb hm (isort l).toArray (by simp [hlen]) q;have hlt:g<(Sort.putRow (Value.int .i64) (Sort.ahead w q) g 0 (isort l).toArray).heap.size:=Nat.lt_of_lt_of_le (heap_lt hg) h2.size;refine ⟨_,rfl,rfl,?_,⟨h2.os,h2.out,by rw [Sort.size_grow]; exact Nat.le_trans h2.size (Nat.le_add_right _ _)⟩,fun b hb' hne=>?_⟩
    · rcases h1 with ⟨h3,h4 | ⟨g',cap',cur',h5,h6,h7,h8⟩⟩
      · exact absurd h4.1 (by simp)
      · simp only [Value.slice.injEq,Option.some.injEq,Addr.mk.injEq,and_true] at h5;obtain ⟨rfl,_,rfl⟩:=h5;refine ⟨h3,.inr ⟨g,cap,cur',by simp [hlen],h6,by rw [Sort.heap_grow_old _ _ hlt]; exact h7,h8⟩⟩
    · rw [Sort.heap_grow_old _ _ (Nat.lt_of_lt_of_le hb' h2.size)];exact h2.blk b hb' hne
end Go.Proofs.YtbgoclcmgbpckabGreat
namespace Go.Nm
open Go
theorem St.sorted {w0 w w':World} {L L' R:List Chunk} {k:Nat} {v:Value} {l l':List Int} {e:TypeId} (H:St w0 w L R) (hk:L[k]?=some (cOwn (α:=Int) e v l)) (ho:OwnF 0 e w' v l') (kp:Keep w w') (hs:∀ b,b<w.heap.size->v.ownBlock ≠ some b->w'.heap[b]?=w.heap[b]?)
    (hl:L.set k (cOwn (α:=Int) e v l')=L'):St w0 w' L' R :=
  H.set (c':=cOwn (α:=Int) e v l') hk rfl kp hs (fun b hb=>.inl hb) ho hl
end Go.Nm
namespace Go.Nm
open Go
theorem sl_lohi {α:Type} [Elt α] {P:Program} {t e:TypeId} (hu:P.underlying t=some (.slice e)) (hs:(P.info? e).map (·.size)=some (Elt.sz α)) {C:Cells} {v:Value} {l:List α} (h:Sl C v l) {i j:Int} (h0:0<=i) (h1:i<=j) (h2:j<=l.length) :
    ∃ u,(∀ w,(Instr.sliceAt t v (some (.int .i64 i)) (some (.int .i64 j)) none).run P w = .ok u w)/\Sl C u ((l.take j.toNat).drop i.toNat):=by
  obtain ⟨a,c,hv,hc,hm,hh⟩:=h.ex;have hlen:((l.take j.toNat).drop i.toNat).length=j.toNat-i.toNat:=by simp; omega
  refine ⟨.slice (if c=i.toNat then a else a.map (·.add (i.toNat*Elt.sz α))) (j.toNat-i.toNat) (c-i.toNat),fun w=>?_,⟨_,c-i.toNat,by rw [hlen],by omega,by omega,fun k x hx=>?_⟩⟩
  · subst hv;have hjc:j<=(c:Int):=by omega
    simp [Instr.sliceAt,Instr.slice,Instr.sliceBounds,Instr.sliceBound,asIntOf,run_underlying hu,run_sizeOf hs,h0,hjc];rw [if_pos (by omega),if_pos (by omega)]
  · rw [List.getElem?_drop,List.getElem?_take] at hx;split at hx
    · have hlt:=(List.getElem?_eq_some_iff.1 hx).1;obtain ⟨b,o,cs,ha,hr,hy⟩:=hh _ x hx;refine ⟨b,o+i.toNat*Elt.sz α,cs,?_,hr,fun j y hj=>?_⟩
      · rw [if_neg (by omega),ha];simp [add_lit]
      · have:=hy j y hj
        rwa [show o+(i.toNat+k)*Elt.sz α+j=o+i.toNat*Elt.sz α+k*Elt.sz α+j from by rw [Nat.add_mul]; omega] at this
    · cases hx
end Go.Nm
namespace Go.Nm
open Go
section
variable {P:Program} {w:World}
variable {all rest:List Oper} {Q:Post} {σ:Env} {w0:World} {L R:List Chunk} {ty:TypeId} {pos:String} {af:Array Edge}
end
end Go.Nm
namespace Go.Nm
open Go
universe u
/-- What a test says, as a proposition. -/
class DcQ (b c:Bool) (p:outParam Prop):Prop where
  to:b=c->p
instance (priority:=low) {b c:Bool}:DcQ b c (b=c):=⟨fun h=>h⟩
instance {p:Prop} [Decidable p]:DcQ (decide p) true p:=⟨of_decide_eq_true⟩
instance {p:Prop} [Decidable p]:DcQ (decide p) false (¬p):=⟨of_decide_eq_false⟩
instance {α:Type _} [BEq α] [LawfulBEq α] {a b:α}:DcQ (a==b) true (a=b):=⟨beq_iff_eq.1⟩
instance {α:Type _} [BEq α] [LawfulBEq α] {a b:α}:DcQ (a==b) false (a ≠ b):=⟨beq_eq_false_iff_ne.1⟩
instance {α:Type _} [BEq α] [LawfulBEq α] {a b:α}:DcQ (a != b) true (a ≠ b):=⟨bne_iff_ne.1⟩
instance {α:Type _} [BEq α] [LawfulBEq α] {a b:α}:DcQ (a != b) false (a=b):=⟨bne_eq_false_iff_eq.1⟩
/-- What a guard says, as a proposition. -/
class DeQ (b:Bool) (p:outParam Prop):Prop where
  iff:b=true↔p
instance (priority:=low) {b:Bool}:DeQ b (b=true):=⟨Iff.rfl⟩
instance {p:Prop} [Decidable p]:DeQ (decide p) p:=⟨decide_eq_true_iff⟩
instance {a b:Bool} {p q:Prop} [ha:DeQ a p] [hb:DeQ b q]:DeQ (a&&b) (p/\q):=⟨by rw [Bool.and_eq_true,ha.iff,hb.iff]⟩
theorem M.e_gq {α:Type} {b:Bool} {p:Prop} [h:DeQ b p] {k:M α} {r:α} (hk:(M.grd b k).Ends r):p/\k.Ends r:=⟨h.iff.1 (M.e_grd hk).1,(M.e_grd hk).2⟩
/-! ### Facts on types, found by their numbers -/
class FdC (P:Program) (s k:Nat) (off ft:outParam Nat):Prop where
  h:(P.underlying s).bind (fun d=>match d with | .struct fs=>(fs[k]?).map (fun f=>(f.offset,f.type)) | _=>none)=some (off,ft)
class ScC (P:Program) (t:Nat):Prop where
  h:isSc (P.underlying t)=true
class AgC (P:Program) (t:Nat):Prop where
  h:isAg (P.underlying t)=true
class SzC (P:Program) (t:Nat) (n:outParam Nat):Prop where
  h:(P.info? t).map (·.size)=some n
class TlC (P:Program) (t:Nat) (e sz by':outParam Nat) (z:outParam Value):Prop where
  h:SlT P t e sz by' z
class AlC (P:Program) (t:Nat) (z:outParam Value):Prop where
  h:(P.info? t).map (·.zero)=some (some z)
class BdC (P:Program) (t:Nat) (pl:outParam (List (Nat × Nat))):Prop where
  h:∃ fs:Array Field,P.underlying t=some (.struct fs)/\fs.toList.mapM (fun f=>(P.info? f.type).map fun i=>(f.offset,i.size))=some pl
class CfC (P:Program) (f:FuncId):Prop where
  h:CF P f
class AddC (a b:Nat) (c:outParam Nat):Prop where
  h:a+b=c
instance (priority:=low) {a b:Nat}:AddC a b (a+b):=⟨rfl⟩
instance {a:Nat}:AddC a 0 a:=⟨rfl⟩
instance {b:Nat}:AddC 0 b b:=⟨Nat.zero_add b⟩
/-- An index as a number. -/
class IxC (i:Int) (n:outParam Nat):Prop where
  h:i.toNat=n
instance (priority:=low) {i:Int}:IxC i i.toNat:=⟨rfl⟩
instance {n:Nat}:IxC (n:Int) n:=⟨rfl⟩
instance:IxC 0 0:=⟨rfl⟩
instance:IxC 1 1:=⟨rfl⟩
instance:IxC 2 2:=⟨rfl⟩
instance:IxC 3 3:=⟨rfl⟩
instance:IxC 4 4:=⟨rfl⟩
instance:IxC 5 5:=⟨rfl⟩
instance:IxC 6 6:=⟨rfl⟩
instance:IxC 7 7:=⟨rfl⟩
instance:IxC 8 8:=⟨rfl⟩
instance:IxC 9 9:=⟨rfl⟩
/-- What is read beyond a list's end. -/
class DfC (α:Type) (d:outParam α):Prop where
  h:True
instance (priority:=low) {α:Type} [Inhabited α]:DfC α default:=⟨trivial⟩
instance:DfC Int 0:=⟨trivial⟩
instance:DfC Bool false:=⟨trivial⟩
/-- The cells of a thing, written out. -/
class EncL {α:Type} [Flat α] (x:α) (ds:outParam (List Value)):Prop where
  h:Flat.enc x=ds
/-- Some of a list's entries. -/
class SubR {α:Type u} (l:List α) (k n:Nat) (o:outParam (List α)):Prop where
  h:(l.drop k).take n=o
instance {α:Type u} {l:List α}:SubR l 0 0 []:=⟨rfl⟩
instance {α:Type u} {l o:List α} {x:α} {n:Nat} [h:SubR l 0 n o]:SubR (x :: l) 0 (n+1) (x :: o):=⟨by have:=h.h; simp at this; simp [this]⟩
instance {α:Type u} {l o:List α} {x:α} {k n:Nat} [h:SubR l k n o]:SubR (x :: l) (k+1) n o:=⟨by rw [List.drop_succ_cons]; exact h.h⟩
/-- A block among the parts. -/
class BlkR (L:List Chunk) (b:Nat) (cs:outParam (List Value)) (t:outParam TypeId):Prop where
  h:∃ k:Nat,L[k]?=some (cBlk b cs t)
instance {c:Chunk} {L:List Chunk} {b:Nat} {cs:List Value} {t:TypeId} [h:BlkR L b cs t]:BlkR (c :: L) b cs t:=⟨by obtain ⟨k,h⟩:=h.h; exact ⟨k+1,by simpa using h⟩⟩
instance {L:List Chunk} {b:Nat} {cs:List Value} {t:TypeId}:BlkR (cBlk b cs t :: L) b cs t:=⟨⟨0,rfl⟩⟩
/-- A block among the parts that is changed. -/
class BlkW (L:List Chunk) (b:Nat) (cs:List Value) (cs':List Value) (t:TypeId) (o:outParam (List Chunk)):Prop where
  h:∃ k:Nat,L[k]?=some (cBlk b cs t)/\L.set k (cBlk b cs' t)=o
instance {c:Chunk} {L o:List Chunk} {b:Nat} {cs cs':List Value} {t:TypeId} [h:BlkW L b cs cs' t o]:BlkW (c :: L) b cs cs' t (c :: o):=⟨by obtain ⟨k,h1,h2⟩:=h.h; exact ⟨k+1,by simpa using h1,by rw [List.set_cons_succ,h2]⟩⟩
instance {L:List Chunk} {b:Nat} {cs cs':List Value} {t:TypeId}:BlkW (cBlk b cs t :: L) b cs cs' t (cBlk b cs' t :: L):=⟨⟨0,rfl,rfl⟩⟩
/-- A field of an element. -/
class FldC (α:Type) [Elt α] (k:Nat) (e:outParam α) (f:outParam (α->Value)):Prop where
  h:∀ {C:Cells} {v:Value} {l:List α} {n:Nat},Sl C v l->n<l.length->At C (fat (vat v (Elt.sz α) n) k) [f (l.getD n e)]
section
variable {w0 w:World} {L R:List Chunk}
theorem St.bq {b:Nat} {cs:List Value} {t:TypeId} (H:St w0 w L R) [h:BlkR L b cs t]:w.heap[b]?=some (.cells cs.toArray t (0,0)):=by
  obtain ⟨k,hk⟩:=h.h;exact H.get hk
end
section
variable {P:Program} {w:World} {σ:Env} {d:Nat} {ty:TypeId} {pos:String} {af:Array Edge} {g:Option (Nat × Bool)}
theorem pos_succ {m:Nat} (h:Nat.blt 0 m=true):∃ n,m=n+1:=by
  cases m with
  | zero=>cases h
  | succ n=>exact ⟨n,rfl⟩
theorem y_fab {s k off ft m b o c:Nat} {x:Operand} (hx:ev σ x = .pointer (some ⟨b,o,none⟩)) [f:FdC P s k off ft] [z:SzC P ft m] (a:AddC o off c) (hm:Nat.blt 0 m=true) :
    (execOp (ev σ) ⟨some d,.fieldAddr s x k,ty,pos,af,g⟩).run P w = .ok (.value (.pointer (some ⟨b,c,none⟩))) w:=by
  obtain ⟨n,rfl⟩:=pos_succ hm;have:=fa_blk (w:=w) (b:=b) (o:=o) f.h z.h;rw [a.h] at this;exact x_fa hx this
theorem y_fap {s k off ft m:Nat} {x:Operand} {p:Value} (hx:ev σ x=p) [f:FdC P s k off ft] [z:SzC P ft m] (hm:Nat.blt 0 m=true) (hp:∃ b o,p = .pointer (some ⟨b,o,none⟩)) :
    (execOp (ev σ) ⟨some d,.fieldAddr s x k,ty,pos,af,g⟩).run P w = .ok (.value (fat p off)) w:=by
  obtain ⟨n,rfl⟩:=pos_succ hm;exact x_fa hx (fa_pl f.h z.h hp)
theorem y_fav {α:Type} {_:Elt α} {s k off ft m sz n:Nat} {x:Operand} {C:Cells} {v:Value} {l:List α} (hx:ev σ x=vat v sz n) [f:FdC P s k off ft] [z:SzC P ft m] (hm:Nat.blt 0 m=true) (hs:Sl C v l) (hz:Elt.sz α=sz) (h1:n<l.length) :
    (execOp (ev σ) ⟨some d,.fieldAddr s x k,ty,pos,af,g⟩).run P w = .ok (.value (fat (vat v sz n) off)) w:=by
  subst hz;have:=Sl.pl hs (i:=(n:Int)) (by omega) (by omega);exact y_fap hx hm (by simpa using this)
theorem y_faw {α:Type} {_:Elt α} {s k off ft m sz n a c:Nat} {x:Operand} {C:Cells} {v:Value} {l:List α} (hx:ev σ x=fat (vat v sz n) a) [f:FdC P s k off ft] [z:SzC P ft m] (ad:AddC a off c) (hm:Nat.blt 0 m=true) (hs:Sl C v l) (hz:Elt.sz α=sz) (h1:n<l.length) :
    (execOp (ev σ) ⟨some d,.fieldAddr s x k,ty,pos,af,g⟩).run P w = .ok (.value (fat (vat v sz n) c)) w:=by
  subst hz;obtain ⟨b,o,hp⟩:=Sl.pl hs (i:=(n:Int)) (by omega) (by omega);have e:vat v (Elt.sz α) n = .pointer (some ⟨b,o,none⟩):=by simpa using hp
  have:=y_fap (P:=P) (w:=w) (d:=d) (ty:=ty) (pos:=pos) (af:=af) (g:=g) hx (f:=f) (z:=z) hm ⟨b,o+a,by rw [e]; simp [fat,add_lit]⟩;rw [this,e,← ad.h];simp [fat,add_lit,Nat.add_assoc]
theorem y_ldb {t:TypeId} {b off:Nat} {cs:List Value} {et:TypeId} {fr:Nat × Nat} {x:Operand} {v:Value} (hx:ev σ x = .pointer (some ⟨b,off,none⟩)) [s:ScC P t] (h:w.heap[b]?=some (.cells cs.toArray et fr)) (hv:(cs.drop off).take 1=[v]) :
    (execOp (ev σ) ⟨some d,.load t x,ty,pos,af,g⟩).run P w = .ok (.value v) w:=x_ld hx (ldb_sc s.h h hv)
theorem y_lda {t:TypeId} {b off n:Nat} {cs ds:List Value} {et:TypeId} {fr:Nat × Nat} {x:Operand} (hx:ev σ x = .pointer (some ⟨b,off,none⟩)) [s:AgC P t] [z:SzC P t n] (h:w.heap[b]?=some (.cells cs.toArray et fr)) (q:SubR cs off n ds) (hn:ds.length=n) :
    (execOp (ev σ) ⟨some d,.load t x,ty,pos,af,g⟩).run P w = .ok (.value (.agg ds.toArray)) w:=x_ld hx (ldb_ag s.h z.h h q.h hn)
theorem At.flat {α:Type} [Flat α] {C:Cells} {v:Value} {l:List α} (hs:Sl C v l) {n:Nat} (h1:n<l.length) (e:α):At C (vat v (Elt.sz α) n) (Flat.enc (l.getD n e)):=by
  obtain ⟨cs,ha,hr⟩:=hs.atI (i:=(n:Int)) (by omega) (by omega) e;rw [Flat.rep_iff] at hr;subst hr
  simpa using ha
theorem y_lds {α:Type} {_:Flat α} {t sz n:Nat} {x:Operand} {C:Cells} {v u:Value} {l:List α} {e:α} (hx:ev σ x=vat v sz n) [s:ScC P t] (hs:Sl C v l) {ds:List Value} (de:DfC α e) (en:EncL (l.getD n e) ds) (hz:Elt.sz α=sz) (hu:ds=[u]) (hle:C.Le w.cell?) (h1:n<l.length) :
    (execOp (ev σ) ⟨some d,.load t x,ty,pos,af,g⟩).run P w = .ok (.value u) w:=by
  subst hz;have:=(At.flat hs h1 e).mono hle;rw [en.h,hu] at this;exact x_ld hx (ld_sc s.h this)
theorem y_ldf {α:Type} {_:Flat α} {t sz n k:Nat} {x:Operand} {C:Cells} {v u:Value} {l:List α} {e:α} (hx:ev σ x=fat (vat v sz n) k) [s:ScC P t] (hs:Sl C v l) {ds:List Value} (de:DfC α e) (en:EncL (l.getD n e) ds) (hz:Elt.sz α=sz) (hu:(ds.drop k).take 1=[u]) (hle:C.Le w.cell?) (h1:n<l.length) :
    (execOp (ev σ) ⟨some d,.load t x,ty,pos,af,g⟩).run P w = .ok (.value u) w:=by
  subst hz;have:=((At.flat hs h1 e).mono hle).fld k 1;rw [en.h,hu] at this;exact x_ld hx (ld_sc s.h this)
theorem y_ldA {α:Type} {_:Flat α} {t sz n:Nat} {x:Operand} {C:Cells} {v:Value} {l:List α} {e:α} (hx:ev σ x=vat v sz n) [s:AgC P t] [z:SzC P t sz] (hs:Sl C v l) {ds:List Value} (de:DfC α e) (en:EncL (l.getD n e) ds) (hz:Elt.sz α=sz) (hle:C.Le w.cell?) (h1:n<l.length) :
    (execOp (ev σ) ⟨some d,.load t x,ty,pos,af,g⟩).run P w = .ok (.value (.agg ds.toArray)) w:=by
  subst hz;have:=(At.flat hs h1 e).mono hle;rw [en.h] at this;refine x_ld hx (ld_ag s.h ?_ this);rw [z.h,← en.h,Flat.enc_len]
theorem y_ldg {α:Type} {_:Elt α} {t sz n k:Nat} {x:Operand} {C:Cells} {v:Value} {l:List α} {e:α} {f:α->Value} (hx:ev σ x=fat (vat v sz n) k) [s:ScC P t] (hs:Sl C v l) (fc:FldC α k e f) (hz:Elt.sz α=sz) (hle:C.Le w.cell?) (h1:n<l.length) :
    (execOp (ev σ) ⟨some d,.load t x,ty,pos,af,g⟩).run P w = .ok (.value (f (l.getD n e))) w:=by
  subst hz;exact x_ld hx (ld_sc s.h ((fc.h hs h1).mono hle))
theorem y_ldp {t:TypeId} {x:Operand} {p v:Value} (hx:ev σ x=p) [s:ScC P t] (ha:At w.cell? p [v]) :
    (execOp (ev σ) ⟨some d,.load t x,ty,pos,af,g⟩).run P w = .ok (.value v) w:=x_ld hx (ld_sc s.h ha)
theorem y_bld {t:TypeId} {z:Value} {zs:List Value} (L':List Value) {pl:List (Nat × Nat)} {parts:Array (Nat × Operand)} {ps:List (Nat × Value)}
    (hps:parts.toList.map (fun x=>(x.1,ev σ x.2))=ps) [a:AlC P t z] (hzc:z.cells=zs.toArray) [b:BdC P t pl] (hf:Fill pl zs ps L') :
    (execOp (ev σ) ⟨some d,.build t parts,ty,pos,af,g⟩).run P w = .ok (.value (.agg L'.toArray)) w:=by
  obtain ⟨fs,hu,hp⟩:=b.h;exact x_bld hps hu a.h hzc hp hf
theorem y_len {α:Type} {_:Elt α} {t e sz by':Nat} {z:Value} {x:Operand} {C:Cells} {v:Value} {l:List α} [T:TlC P t e sz by' z] (h:ev σ x=v) (hs:Sl C v l) :
    (execOp (ev σ) ⟨some d,.call ⟨.builtin .len,#[x],#[t]⟩,ty,pos,af,g⟩).run P w = .ok (.value (.int .i64 l.length)) w:=x_lenS T.h.und h hs
theorem y_ix {α:Type} {_:Elt α} {t e sz by' n:Nat} {z:Value} {x y:Operand} {C:Cells} {v:Value} {l:List α} {kd:IntKind} {i:Int} [T:TlC P t e sz by' z] (hx:ev σ x=v) (hy:ev σ y = .int kd i) (ix:IxC i n) (hs:Sl C v l) (hz:Elt.sz α=sz) (h0:0<=i) (h1:i<l.length) :
    (execOp (ev σ) ⟨some d,.indexAddr t x y,ty,pos,af,g⟩).run P w = .ok (.value (vat v sz n)) w:=by
  subst hz;have:=Sl.ix (w:=w) (kd:=kd) T.h.und T.h.size hs h0 h1;rw [ix.h] at this;exact x_ix hx hy this
end
section
variable {P:Program} {all rest:List Oper} {Q:Post} {σ:Env} {w0 w:World} {L L' R:List Chunk} {ty:TypeId} {pos:String} {af:Array Edge}
theorem y_alloc {d:Nat} {e:TypeId} {z:Value} {cs:List Value} (H:St w0 w L R) [a:AlC P e z] (hv:z.cells=cs.toArray)
    (k:∀ b w',St w0 w' (cBlk b cs e :: L) R->SL P all Q rest (upd σ d (.pointer (some ⟨b,0,none⟩))) w'):SL P all Q (⟨some d,.alloc e,ty,pos,af,none⟩ :: rest) σ w:=t_alloc H a.h hv k
theorem y_sw {dst:Option Nat} {t:TypeId} {x y:Operand} {b off n:Nat} {cs vs cs':List Value} {v:Value} {et:TypeId} (H:St w0 w L R) (hx:ev σ x = .pointer (some ⟨b,off,none⟩)) (hy:ev σ y=v) (hv:v.cells=vs.toArray)
    (hk:BlkR L b cs et) [z:SzC P t n] (hc:OverR cs off vs cs') (hL:BlkW L b cs cs' et L') (hn:vs.length=n) (hl:Nat.ble (off+n) cs.length=true) (h1:vs.all (·.oneCell')=true)
    (kk:∀ w',St w0 w' L' R->SL P all Q rest (updo σ dst undef) w'):SL P all Q (⟨dst,.store t x y,ty,pos,af,none⟩ :: rest) σ w:=by
  obtain ⟨k,h2,h3⟩:=hL.h;exact t_st (k:=k) H h2 hx hy z.h hv hn hl h1 (by rw [← hn]; exact hc.is) h3 kk
end
theorem W.cnd {rr:Option Nat} {P:Program} {n:Nat} {Q:Post} {σ:Env} {w:World} {α:Type} {b:Bool} {x y:M α} {r:α} {c:Operand} {cx cy:Code} {p p':Prop} (hM:(bif b then x else y).Ends r) (hc:ev σ c = .bool b) [h1:DcQ b true p] [h2:DcQ b false p']
    (ht:p->x.Ends r->WR rr P n cx Q σ w) (hf:p'->y.Ends r->WR rr P n cy Q σ w):WR rr P n (.cond c cx cy) Q σ w :=
  W.cond b hc (fun e=>ht (h1.to e) (M.e_t hM e)) (fun e=>hf (h2.to e) (M.e_f hM e))
instance {x:Int}:EncL x [I x]:=⟨rfl⟩
instance {x:Bool}:EncL x [B x]:=⟨rfl⟩
/-- A slice that reads as a list. -/
theorem jS {A:Prop} (h:A:=by first | assumption | exact H.os 0 | exact H.os 1 | exact H.os 2 | exact H.os 3 | exact H.os 4 | exact H.os 5 | exact H.os 6 | exact H.os 7 | exact H.os 8 | exact H.os 9 | exact (by assumption:_=true->Sl _ _ _) hg):A:=h
/-- Cells that can be read. -/
theorem jL {A:Prop} (h:A:=by first | exact Reads.at (by assumption) H | exact H.ol 0 | exact H.ol 1 | exact H.ol 2 | exact H.ol 3 | exact H.ol 4 | exact H.ol 5 | exact H.ol 6 | exact H.ol 7 | exact H.ol 8 | exact H.ol 9):A:=h
/-- A bound. -/
theorem jO {A:Prop} (h:A:=by first | omega | (have hx_:=hg; simp at hx_; omega) | (have hx_:=hg; simp at hx_; simp only [hg,Bool.true_eq_false,Bool.false_eq_true,reduceCtorEq,false_or,true_or,Bool.not_true,Bool.not_false] at *; omega) | (simp only [hg,Bool.true_eq_false,Bool.false_eq_true,reduceCtorEq,false_or,true_or,Bool.not_true,Bool.not_false] at *; omega)):A:=h
/-- A guard. -/
theorem jB {A:Prop} (h:A:=by first | exact hb | (rw [hb]; rfl) | simp_all):A:=h
/-- A frame. -/
theorem jQ {A:Prop} (h:A:=by exact upds_of _ _ (by repeat (first | exact trivial | refine And.intro rfl ?_))):A:=h
/-- A struct that is filled. -/
theorem jF {A:Prop} (h:A:=by repeat (first | exact Fill.nil | refine Fill.cons rfl rfl rfl rfl rfl ?_ | refine Fill.cons (Sl.cells (by assumption)) rfl rfl rfl rfl ?_ | refine Fill.cons (Sl.cells jS) rfl rfl rfl rfl ?_)):A:=h
/-- A value under a guard, or none. -/
theorem jG {A:Prop} (h:A:=by first | exact gd_of hg _ | ((conv=>lhs; whnf) <;> rfl)):A:=h
/-- A value. -/
theorem jE {A:Prop} (h:A:=by ((conv=>lhs; whnf) <;> rfl)):A:=h
/-- One operation. -/
theorem jU {A:Prop} (h:A:=by 
    first
      | (apply x_mv; exact jE)
      | (apply x_as; exact jE)
      | (apply y_fab; rfl; exact inferInstance; rfl)
      | (apply y_ldb; rfl; exact H.bq; rfl)
      | (apply x_cmp; rfl; rfl; rfl)
      | (apply y_len; exact jE; exact jS)
      | (apply y_ix; exact jE; rfl; exact inferInstance; exact jS; rfl; exact jO; exact jO)
      | (apply y_fav; rfl; rfl; exact jS; rfl; exact jO)
      | (apply y_faw; rfl; exact inferInstance; rfl; exact jS; rfl; exact jO)
      | (apply y_lds; rfl; exact jS; exact inferInstance; exact inferInstance; rfl; rfl; exact jL; exact jO)
      | (apply y_ldf; rfl; exact jS; exact inferInstance; exact inferInstance; rfl; rfl; exact jL; exact jO)
      | (apply y_ldg; rfl; exact jS; exact inferInstance; rfl; exact jL; exact jO)
      | (apply y_ldA; rfl; exact jS; exact inferInstance; exact inferInstance; rfl; exact jL; exact jO)
      | (apply y_ldp; rfl; exact At.mono (by assumption) jL)
      | (apply x_ari; rfl; rfl; rfl; exact jO)
      | (apply x_ext; rfl; rfl)
      | (apply x_nc; rfl)
      | (apply y_lda; rfl; exact H.bq; exact inferInstance; rfl)
      | (apply y_ldb; rfl; exact (by assumption:Has _ (cBlk _ _ _)).blk H; rfl)
      | (apply x_not; rfl)
      | (apply x_max; rfl; rfl)
      | (apply x_min; rfl; rfl)
      | (apply x_quo; rfl; rfl; exact jO)
      | (apply x_por; rfl; rfl; exact fun hb=>gd_of jB _)
      | (apply x_pand; rfl; exact fun hb=>gd_of jB _; rfl)):A:=h
/-- One operation under a guard. -/
theorem jV {A:Prop} (h:A:=by 
    first
      | (apply x_mv; exact jG)
      | (apply x_as; exact jG)
      | (apply y_fab; exact jG; exact inferInstance; rfl)
      | (apply y_ldb; exact jG; exact H.bq; rfl)
      | (apply x_cmp; exact jG; exact jG; rfl)
      | (apply y_len; exact jG; exact jS)
      | (apply y_ix; exact jG; exact jG; exact inferInstance; exact jS; rfl; exact jO; exact jO)
      | (apply y_fav; exact jG; rfl; exact jS; rfl; exact jO)
      | (apply y_faw; exact jG; exact inferInstance; rfl; exact jS; rfl; exact jO)
      | (apply y_lds; exact jG; exact jS; exact inferInstance; exact inferInstance; rfl; rfl; exact jL; exact jO)
      | (apply y_ldf; exact jG; exact jS; exact inferInstance; exact inferInstance; rfl; rfl; exact jL; exact jO)
      | (apply y_ldg; exact jG; exact jS; exact inferInstance; rfl; exact jL; exact jO)
      | (apply y_ldA; exact jG; exact jS; exact inferInstance; exact inferInstance; rfl; exact jL; exact jO)
      | (apply y_ldp; exact jG; exact At.mono (by assumption) jL)
      | (apply x_ari; exact jG; exact jG; rfl; exact jO)
      | (apply x_ext; exact jG; rfl)
      | (apply x_nc; exact jG)
      | (apply y_lda; exact jG; exact H.bq; exact inferInstance; rfl)
      | (apply y_ldb; exact jG; exact (by assumption:Has _ (cBlk _ _ _)).blk H; rfl)
      | (apply x_not; exact jG)
      | (apply x_max; exact jG; exact jG)
      | (apply x_min; exact jG; exact jG)
      | (apply x_quo; exact jG; exact jG; exact jO)
      | (apply x_por; exact jG; exact jG; exact fun hb=>gd_of jB _)
      | (apply x_pand; exact jG; exact fun hb=>gd_of jB _; exact jG)):A:=h
/-- What is left. -/
structure Left (B:Prop):Prop where
  h:B
/-- How many steps are left. -/
structure Cnt (n:Nat):Prop where
  h:n=n
theorem Cnt.dn {n:Nat} (c:Cnt (n+1)):Cnt n:=⟨rfl⟩
/-- So many plain steps. -/
theorem kg {A B:Prop} (n:Nat) (q:B) (f:Cnt n->Left B->A:=by
    intro cnt q
    (repeat (replace cnt:=Cnt.dn cnt; first
      | (apply s_val; exact jU)
      | refine s_nil ?_
      | refine W.seq ?_
      | refine W.region rfl ?_
      | refine W.skip ?_
      | refine W.block ?_
      | (apply d_q; rfl; (intro w' H; exact jU))
      | (apply t_q; rfl; (intro w' H; exact jU))
      | (apply ts_q; rfl; (intro w' H; exact jU))
      | (apply g_val; (first | exact gy_t rfl | exact gy_f rfl | exact gy_gt rfl rfl | exact gy_gf rfl rfl); (intro hg; exact jV))
      | (apply d_qg; rfl; (first | exact gy_t rfl | exact gy_f rfl | exact gy_gt rfl rfl | exact gy_gf rfl rfl); (intro hg w' H; exact jV))
      | (apply t_qg; rfl; (first | exact gy_t rfl | exact gy_f rfl | exact gy_gt rfl rfl | exact gy_gf rfl rfl); (intro hg w' H; exact jV))
      | refine t_nil ?_
      | refine d_nil ?_
      | refine ts_nil ?_))
    exact q.h):A:=f ⟨rfl⟩ ⟨q⟩
/-- A store. -/
theorem ksw {A B:Prop} (q:B) (f:Left B->A:=by intro q; apply y_sw H; rfl; exact jE; rfl; exact inferInstance; exact inferInstance; exact inferInstance; rfl; rfl; rfl; exact q.h):A:=f ⟨q⟩
/-- New memory. -/
theorem kal {A B:Prop} (q:B) (f:Left B->A:=by intro q; apply y_alloc H; rfl; exact q.h):A:=f ⟨q⟩
/-- A box. -/
theorem kbx {A B:Prop} (q:B) (f:Left B->A:=by intro q; apply t_box H; exact jE; rfl; exact q.h):A:=f ⟨q⟩
/-- Returns. -/
theorem rt {A:Prop} (h:A:=by
    refine W.ret ⟨_,(by first | exact resE_tmp rfl | exact resE_tmp2 rfl | exact resE_tmp3 rfl | exact resE_tmp4 rfl),?_⟩;first
      | exact ⟨_,M.e_pure hM,rfl,H⟩
      | exact ⟨_,M.e_pure hM,rfl,H.pk []⟩
      | exact ⟨_,_,M.e_pure hM,rfl,H⟩
      | exact ⟨_,_,M.e_pure hM,rfl,H.pk []⟩
      | exact ⟨_,_,_,M.e_pure hM,rfl,H⟩
      | exact ⟨_,_,_,M.e_pure hM,rfl,H.pk []⟩
      | exact ⟨_,_,_,_,M.e_pure hM,rfl,H⟩
      | exact ⟨_,_,_,_,M.e_pure hM,rfl,H.pk []⟩
      | exact ⟨_,_,_,_,_,M.e_pure hM,rfl,H⟩
      | exact ⟨_,_,_,_,_,M.e_pure hM,rfl,H.pk []⟩
      | exact ⟨_,_,_,_,_,_,M.e_pure hM,rfl,H⟩
      | exact ⟨_,_,_,_,_,_,M.e_pure hM,rfl,H.pk []⟩
      | exact ⟨_,_,_,_,_,_,_,M.e_pure hM,rfl,H⟩
      | exact ⟨_,_,_,_,_,_,_,M.e_pure hM,rfl,H.pk []⟩
      | exact ⟨_,_,_,_,_,_,_,_,M.e_pure hM,rfl,H⟩
      | exact ⟨_,_,_,_,_,_,_,_,M.e_pure hM,rfl,H.pk []⟩
      | exact ⟨_,_,_,_,_,_,_,_,_,M.e_pure hM,rfl,H⟩
      | exact ⟨_,_,_,_,_,_,_,_,_,M.e_pure hM,rfl,H.pk []⟩
      | exact ⟨_,_,_,_,_,_,_,_,_,_,M.e_pure hM,rfl,H⟩
      | exact ⟨_,_,_,_,_,_,_,_,_,_,M.e_pure hM,rfl,H.pk []⟩):A:=h
end Go.Nm
section
set_option maxRecDepth 100000
set_option maxHeartbeats 16000000
namespace Go.Nm
open Go
universe u
/-- A function that can be called. -/
def cfb (P:Program) (f:Nat):Bool:=match P.funcs[f]? with
  | some fn => fn.body.isSome && !(fn.name == "runtime.NumGoroutine")
  | none=>false
theorem cfb_of {P:Program} {f:Nat} (h:cfb P f=true):CF P f:=by
  unfold cfb at h;cases e:P.funcs[f]? with
  | none=>rw [e] at h; cases h
  | some fn =>
    rw [e] at h;simp only [Bool.and_eq_true,Bool.not_eq_true'] at h;exact ⟨fn,e,h.1,h.2⟩
/-- Operands' values, one by one. -/
inductive Evs (σ:Env):List Operand->List Value->Prop
  | nil:Evs σ [] []
  | cons {x:Operand} {v:Value} {xs:List Operand} {vs:List Value} (h:ev σ x=v) (t:Evs σ xs vs):Evs σ (x :: xs) (v :: vs)
theorem Evs.is {σ:Env} {xs:List Operand} {vs:List Value} (h:Evs σ xs vs):xs.map (ev σ)=vs:=by
  induction h with
  | nil=>rfl
  | cons h _ ih=>rw [List.map_cons,h,ih]
/-- The parts of a struct with their values, laid one after the other. -/
inductive FilE (σ:Env) (pl:List (Nat × Nat)):List Value->List (Nat × Operand)->List Value->Prop
  | nil {L:List Value}:FilE σ pl L [] L
  | cons {L cs L1 L':List Value} {i off n:Nat} {x:Operand} {v:Value} {rest:List (Nat × Operand)} (hx:ev σ x=v) (hv:v.cells=cs.toArray) (hp:pl[i]?=some (off,n)) (hn:cs.length=n) (ho:OverR L off cs L1) (hle:Nat.ble (off+n) L.length=true)
      (h:FilE σ pl L1 rest L'):FilE σ pl L ((i,x) :: rest) L'
theorem FilE.is {σ:Env} {pl:List (Nat × Nat)} {L:List Value} {ps:List (Nat × Operand)} {L':List Value} (h:FilE σ pl L ps L'):Fill pl L (ps.map fun x=>(x.1,ev σ x.2)) L':=by
  induction h with
  | nil=>exact .nil
  | cons hx hv hp hn ho hle _ ih=>exact .cons (by rw [hx]; exact hv) hp hn hle (by rw [← hn]; exact ho.is) ih
/-- Values of a slice literal. -/
inductive PtE (σ:Env):Nat->List (Nat × Operand)->List Value->Prop
  | nil {k:Nat}:PtE σ k [] []
  | cons {k:Nat} {x:Operand} {v:Value} {xs:List (Nat × Operand)} {vs:List Value} (h:ev σ x=v) (t:PtE σ (k+1) xs vs):PtE σ k ((k,x) :: xs) (v :: vs)
theorem PtE.is {σ:Env} {k:Nat} {xs:List (Nat × Operand)} {vs:List Value} (h:PtE σ k xs vs):xs.map (fun x=>(x.1,ev σ x.2))=(vs.zipIdx k).map fun x=>(x.2,x.1):=by
  induction h with
  | nil=>rfl
  | cons h _ ih=>rw [List.map_cons,List.zipIdx_cons,List.map_cons,ih]; simp [h]
/-- Values of plain data. -/
inductive RepE {α:Type} [Flat α]:List Value->List α->Prop
  | nil:RepE [] []
  | cons {v:Value} {x:α} {vs:List Value} {l:List α} (h:v.cells=(Flat.enc x:List Value).toArray) (t:RepE vs l):RepE (v :: vs) (x :: l)
theorem RepE.is {α:Type} [Flat α] {C:Cells} {vs:List Value} {l:List α} (h:RepE vs l):Reps C vs l:=by
  induction h with
  | nil=>exact .nil
  | cons h _ ih=>exact .cons h (Flat.rep_enc _ _) ih
theorem all_c {α:Type u} {f:α->Bool} {a:α} {l:List α} (h:f a=true) (t:l.all f=true):(a :: l).all f=true:=by simp [h,t]
/-- A slice that reads as a list; cells that a callee reads. -/
theorem jSl {α:Type} {_:Elt α} {C:Cells} {v:Value} {l:List α} (h:Sl C v l:=by first | assumption | exact H.os 0 | exact H.os 1 | exact H.os 2 | exact H.os 3 | exact H.os 4 | exact H.os 5 | exact H.os 6 | exact H.os 7 | exact H.os 8 | exact H.os 9 | exact H.os 10 | exact H.os 11):Sl C v l:=h
theorem jRd {R:List Chunk} {C:Cells} (h:Reads R C:=by first | assumption | exact Reads.none | exact Reads.app (by assumption) _ | exact rdo 0 | exact rdo 1 | exact rdo 2 | exact rdo 3 | exact rdo 4 | exact rdo 5 | exact rdo 6 | exact rdo 7 | exact rdo 8 | exact rdo 9 | exact rdo 10 | exact rdo 11):Reads R C:=h
/-- One-cell values. -/
theorem jK {A:Prop} (h:A:=by first | rfl | (repeat (first | exact List.all_nil | (refine all_c (by first | rfl | exact Sl.oc jSl) ?_)))):A:=h
theorem jA {A:Prop} (h:A:=by (repeat (first | exact Evs.nil | (apply Evs.cons; exact jE))); fail_if_success focus skip):A:=h
theorem jFE {A:Prop} (h:A:=by (repeat (first | exact FilE.nil | (apply FilE.cons; exact jE; (first | exact Sl.cells jSl | rfl); rfl; rfl; exact inferInstance; rfl))); fail_if_success focus skip):A:=h
theorem jPt {A:Prop} (h:A:=by (repeat (first | exact PtE.nil | (apply PtE.cons; exact jE))); fail_if_success focus skip):A:=h
/-- A list of numbers that is handed on. -/
structure PkS (l:List Nat):Prop where
  h:l=l
/-- A term that is handed on. -/
structure TmS {α:Sort u} (a:α):Prop where
  h:a=a
section
variable {w0 w:World} {L L' L1 R:List Chunk}
theorem St.gtA (h:St w0 w L R) [n:NfR L L1]:St w w [] (L1++R):=h.nf.give rfl
theorem St.pkS {l:List Nat} (h:St w0 w L R) (c:PkS l) [n:NfR L L1] [p:PickR L1 l L'] (hn:l.Nodup:=by decide):St w0 w L' R:=h.nf.pick l hn p.is
end
section
variable {P:Program} {w:World} {σ:Env} {d:Nat} {ty:TypeId} {pos:String} {af:Array Edge} {g:Option (Nat × Bool)}
theorem y_bldE {t:TypeId} {z:Value} {zs L':List Value} {pl:List (Nat × Nat)} {parts:Array (Nat × Operand)} [a:AlC P t z] [b:BdC P t pl] (hzc:z.cells=zs.toArray) (hf:FilE σ pl zs parts.toList L') :
    (execOp (ev σ) ⟨some d,.build t parts,ty,pos,af,g⟩).run P w = .ok (.value (.agg L'.toArray)) w:=by
  obtain ⟨fs,hu,hp⟩:=b.h;exact x_bld rfl hu a.h hzc hp hf.is
theorem y_rla {t:TypeId} {b off n:Nat} {cs ds:List Value} {et:TypeId} {fr:Nat × Nat} [s:AgC P t] [z:SzC P t n] (h:w.heap[b]?=some (.cells cs.toArray et fr)) (q:SubR cs off n ds) (hn:ds.length=n) :
    (loadVar t ⟨b,off,none⟩).run P w = .ok (.agg ds.toArray) w:=run_loadVar_ag s.h z.h h q.h hn
theorem y_rls {t:TypeId} {b off:Nat} {cs:List Value} {et:TypeId} {fr:Nat × Nat} {v:Value} [s:ScC P t] (h:w.heap[b]?=some (.cells cs.toArray et fr)) (hv:(cs.drop off).take 1=[v]) :
    (loadVar t ⟨b,off,none⟩).run P w = .ok v w:=run_loadVar_sc s.h h hv
end
section
variable {P:Program} {all rest:List Oper} {Q:Post} {σ:Env} {w0 w:World} {L L' L1 R:List Chunk} {ty:TypeId} {pos:String} {af:Array Edge}
theorem s_calle {f:FuncId} {dst:Option Nat} {ops:Array Operand} {ts:Array TypeId} {args:List Value} {R:Value->World->Prop} (hcf:CF P f) (ha:Evs σ ops.toList args)
    (hc:Ret P f args.toArray w R) (k:∀ v w',R v w'->SL P all Q rest (updo σ dst v) w') :
    SL P all Q (⟨dst,.call ⟨.value (.func f),ops,ts⟩,ty,pos,af,none⟩ :: rest) σ w:=s_call hcf args ha.is hc k
theorem y_bs {α:Type} [Flat α] {d:Nat} {t e sz by':Nat} {z:Value} {parts:Array (Nat × Operand)} [T:TlC P t e sz by' z] {l:List α} {vs:List Value} (cl:TmS l) (H:St w0 w L R) (hz:Elt.sz α=sz)
    (hp:PtE σ 0 parts.toList vs) (hr:RepE vs l) {n:Nat} (hn:l.length=n) (h0:Nat.blt 0 n=true) (aa:Nat.ble (n*sz) 16777216=true)
    (k:∀ u w',St w0 w' (cOwn e u l :: L) R->SL P all Q rest (upd σ d u) w'):SL P all Q (⟨some d,.buildSlice t n parts,ty,pos,af,none⟩ :: rest) σ w:=by
  subst hz;exact t_bs T.h vs l H hp.is hr.is hn h0 aa k
/-- An own row of a value, found among the parts. -/
class OwnW {α:Type} [Flat α] (L:List Chunk) (v:Value) (e:outParam TypeId) (l:outParam (List α)) (o:outParam (Value->List α->List Chunk)):Prop where
  h:∃ k:Nat,L[k]?=some (cOwn e v l)/\∀ v' l',L.set k (cOwn e v' l')=o v' l'
instance {α:Type} [Flat α] {L:List Chunk} {v:Value} {e:TypeId} {l:List α}:OwnW (cOwn e v l :: L) v e l (fun v' l'=>cOwn e v' l' :: L):=⟨⟨0,rfl,fun _ _=>rfl⟩⟩
instance (priority:=low) {α:Type} [Flat α] {c:Chunk} {L:List Chunk} {v:Value} {e:TypeId} {l:List α} {o:Value->List α->List Chunk} [h:OwnW L v e l o]:OwnW (c :: L) v e l (fun v' l'=>c :: o v' l'):=⟨by
  obtain ⟨k,h1,h2⟩:=h.h;exact ⟨k+1,by simpa using h1,fun v' l'=>by rw [List.set_cons_succ,h2]⟩⟩
theorem y_app {α:Type} {_:Flat α} {d:Nat} {t e sz by':Nat} {z:Value} {x y:Operand} {v vy:Value} {l l2:List α} {C:Cells} {o:Value->List α->List Chunk} (H:St w0 w L R) (hx:ev σ x=v) (hy:ev σ y=vy) (hs:Sl C vy l2) (hk:OwnW L v e l o)
    [T:TlC P t e sz by' z] (hz:Elt.sz α=sz) (hb:Nat.blt 0 by'=true) (hle:C.Le w.cell?) (hn:(l.length+l2.length)*by'<=140737488355328)
    (kk:∀ v' w',St w0 w' (o v' (l++l2)) R->SL P all Q rest (upd σ d v') w') :
    SL P all Q (⟨some d,.call ⟨.builtin .append,#[x,y],#[t,t]⟩,ty,pos,af,none⟩ :: rest) σ w:=by
  subst hz;obtain ⟨k,h1,h2⟩:=hk.h;exact t_app T.h hb H h1 hx hy hs hle rfl hn fun v' w' H'=>kk v' w' (by rw [← h2]; exact H')
theorem y_ost {α:Type} {_:Flat α} {dst:Option Nat} {e t sz n:Nat} {x y:Operand} {v val:Value} {l:List α} {o:Value->List α->List Chunk} {a:α} (ca:TmS a) (H:St w0 w L R) (hx:ev σ x=vat v sz n) (hk:OwnW L v e l o) (hz:Elt.sz α=sz) [hs:SzC P t sz] (h1:n<l.length) (hy:ev σ y=val) (hv:val.cells=(Flat.enc a:List Value).toArray)
    (kk:∀ w',St w0 w' (o v (l.set n a)) R->SL P all Q rest (updo σ dst undef) w'):SL P all Q (⟨dst,.store t x y,ty,pos,af,none⟩ :: rest) σ w:=by
  subst hz;obtain ⟨k,h2,h3⟩:=hk.h;exact t_ost (i:=(n:Int)) H h2 hs.h (by omega) (by omega) a (by simpa using hx) hy hv rfl rfl fun w' H'=>kk w' (by rw [← h3]; simpa using H')
theorem y_fst {α:Type} {_:Flat α} {dst:Option Nat} {e t sz n m off:Nat} {x y:Operand} {v val:Value} {l:List α} {o:Value->List α->List Chunk} {a:α} (ca:TmS a) (H:St w0 w L R) (hx:ev σ x=fat (vat v sz n) off) (hk:OwnW L v e l o) (hz:Elt.sz α=sz) [hs:SzC P t m] (h1:n<l.length) {d:α} (de:DfC α d) (hy:ev σ y=val) {vs:List Value} (hv:val.cells=vs.toArray) (hn:vs.length=m) (hoff:Nat.ble (off+m) sz=true)
    (hone:vs.all (·.oneCell')=true) (he:(Flat.enc a:List Value)=(Flat.enc (l.getD n d)).take off++vs++(Flat.enc (l.getD n d)).drop (off+vs.length))
    (kk:∀ w',St w0 w' (o v (l.set n a)) R->SL P all Q rest (updo σ dst undef) w'):SL P all Q (⟨dst,.store t x y,ty,pos,af,none⟩ :: rest) σ w:=by
  subst hz;obtain ⟨k,h2,h3⟩:=hk.h;exact t_fst (i:=(n:Int)) H h2 hs.h (by omega) (by omega) (l.getD n d) a (by simp [List.getD_eq_getElem?_getD,h1]) (by simpa using hx) hy vs hv hn hoff hone he rfl rfl fun w' H'=>kk w' (by rw [← h3]; simpa using H')
/-- An order: all quiet, one behind the other, but for some. -/
inductive OrdI:Nat->Nat->List Nat->List (Nat × Bool)->Prop
  | nil {k:Nat} {ls:List Nat}:OrdI k 0 ls []
  | l {k n:Nat} {ls:List Nat} {o:List (Nat × Bool)} (h:OrdI (k+1) n ls o):OrdI k (n+1) (k :: ls) ((k,false) :: o)
  | q {k n:Nat} {ls:List Nat} {o:List (Nat × Bool)} (h:OrdI (k+1) n ls o):OrdI k (n+1) ls ((k,true) :: o)
theorem jOr {A:Prop} (h:A:=by (repeat (first | exact OrdI.nil | apply OrdI.l | apply OrdI.q)); fail_if_success focus skip):A:=h
theorem W.drw {r:Option Nat} {n:Nat} {id m:Nat} {l:List Oper} {i ls:List Nat} {order:List (Nat × Bool)} (H:St w0 w L R) (ci:PkS i) (cl:PkS ls) [h1:NfR L L1] [h2:PickR L1 i L'] (hm:P.follows .mixedOrders=true) (hl:l.length=m) (ho:OrdI 0 m ls order) (hn:i.Nodup)
    (hB:(Region.noSelect l.toArray&&Nat.beq order.length l.length&&canonB .any l.toArray order (Array.replicate l.length false))=true)
    (hok:okDst n l=true) (h:∀ w1,St w0 w1 L R->SLD P l (fun W=>St w0 W L' R) Q order σ w1):WR r P n (.region id l.toArray true) Q σ w :=
  W.draw (fun W=>St w0 W L' R) order hm hB hok fun w1 hx=>⟨(H.ext hx).pk i hn,h w1 (H.ext hx)⟩
theorem W.drwo {r:Option Nat} {n:Nat} {id:Nat} {l:List Oper} {i:List Nat} {order:List (Nat × Bool)} (H:St w0 w L R) (ci:PkS i) (co:TmS order) [h1:NfR L L1] [h2:PickR L1 i L'] (hm:P.follows .mixedOrders=true) (hn:i.Nodup)
    (hB:(Region.noSelect l.toArray&&Nat.beq order.length l.length&&canonB .any l.toArray order (Array.replicate l.length false))=true)
    (hok:okDst n l=true) (h:∀ w1,St w0 w1 L R->SLD P l (fun W=>St w0 W L' R) Q order σ w1):WR r P n (.region id l.toArray true) Q σ w :=
  W.draw (fun W=>St w0 W L' R) order hm hB hok fun w1 hx=>⟨(H.ext hx).pk i hn,h w1 (H.ext hx)⟩
theorem W.drwT {r:Option Nat} {n:Nat} {id:Nat} {l:List Oper} {i:List Nat} {order:Ord} (H:St w0 w L R) (ci:PkS i) (co:TmS order) [h1:NfR L L1] [h2:PickR L1 i L'] (hm:P.follows .mixedOrders=true) (hn:i.Nodup)
    (hB:(Region.noSelect l.toArray&&canonT .any l.toArray order l.length (Array.replicate l.length false))=true)
    (hok:okDst n l=true) (h:∀ w1,St w0 w1 L R->SLT P l (fun W=>St w0 W L' R) Q order σ w1):WR r P n (.region id l.toArray true) Q σ w :=
  W.drawT (fun W=>St w0 W L' R) order hm hB hok fun w1 hx=>⟨(H.ext hx).pk i hn,h w1 (H.ext hx)⟩
theorem W.drwTS {r:Option Nat} {n:Nat} {id:Nat} {l:List Oper} {i:List Nat} {order:Ord} {m:Nat} {zs:List Nat} (H:St w0 w L R) (ci:PkS i) (co:TmS order) (cm:TmS m) (cz:PkS zs) [h1:NfR L L1] [h2:PickR L1 i L'] (hm:P.follows .mixedOrders=true) (hn:i.Nodup)
    (hB:(Region.noSelect l.toArray&&Nat.beq (m+zs.length) l.length&&canonTS .any l.toArray zs order m (Array.replicate l.length false))=true)
    (hok:okDst n l=true) (h:∀ w1,St w0 w1 L R->SLTS P l (fun W=>St w0 W L' R) zs Q order σ w1):WR r P n (.region id l.toArray true) Q σ w :=
  W.drawTS (fun W=>St w0 W L' R) order m zs hm hB hok fun w1 hx=>⟨(H.ext hx).pk i hn,h w1 (H.ext hx)⟩
end
/-- What stands at a place of a list. -/
class FindR {α:Type u} (l:List α) (x:α) (k:outParam Nat):Prop where
  is:l[k]?=some x
instance {α:Type u} {l:List α} {x:α}:FindR (x :: l) x 0:=⟨rfl⟩
instance (priority:=low) {α:Type u} {l:List α} {x y:α} {k:Nat} [h:FindR l x k]:FindR (y :: l) x (k+1):=⟨h.is⟩
class PickF {α:Type u} (l:List α) (o:List α) (i:outParam (List Nat)):Prop where
  is:i.mapM (fun j=>l[j]?)=some o
instance {α:Type u} {l:List α}:PickF l [] []:=⟨rfl⟩
instance {α:Type u} {l o:List α} {i:Nat} {is:List Nat} {x:α} [h:FindR l x i] [k:PickF l o is]:PickF l (x :: o) (i :: is):=⟨by rw [List.mapM_cons,h.is,k.is]; rfl⟩
theorem St.pf {w0 w:World} {L L1 L' R:List Chunk} {i:List Nat} (h:St w0 w L R) [n:NfR L L1] [p:PickF L1 L' i] (hn:i.Nodup:=by decide):St w0 w L' R:=h.nf.pick i hn p.is
/-! ### Steps -/
theorem kgC {A B:Prop} {n:Nat} (c:Cnt n) (q:B) (f:Cnt n->Left B->A:=by
    intro cnt q
    (repeat (replace cnt:=Cnt.dn cnt; first
      | (apply s_val; exact jU)
      | refine s_nil ?_
      | refine W.seq ?_
      | refine W.region rfl ?_
      | refine W.skip ?_
      | refine W.block ?_
      | (apply d_q; rfl; (intro w' H; exact jU))
      | (apply t_q; rfl; (intro w' H; exact jU))
      | (apply ts_q; rfl; (intro w' H; exact jU))
      | (apply g_val; (first | exact gy_t rfl | exact gy_f rfl | exact gy_gt rfl rfl | exact gy_gf rfl rfl); (intro hg; exact jV))
      | (apply d_qg; rfl; (first | exact gy_t rfl | exact gy_f rfl | exact gy_gt rfl rfl | exact gy_gf rfl rfl); (intro hg w' H; exact jV))
      | (apply t_qg; rfl; (first | exact gy_t rfl | exact gy_f rfl | exact gy_gt rfl rfl | exact gy_gf rfl rfl); (intro hg w' H; exact jV))
      | refine t_nil ?_
      | refine d_nil ?_
      | refine ts_nil ?_
      | refine d_l rfl ?_
      | refine t_l rfl ?_
      | refine sr_l rfl ?_
      | refine ts_l rfl ?_
      | (apply s_val; apply y_bldE; rfl; exact jFE)
      | (apply d_q; rfl; (intro w' H; apply y_bldE; rfl; exact jFE))
      | (apply t_q; rfl; (intro w' H; apply y_bldE; rfl; exact jFE))
      | (apply ts_q; rfl; (intro w' H; apply y_bldE; rfl; exact jFE))))
    exact q.h):A:=f c ⟨q⟩
/-- So many plain steps. -/
theorem kG {A B:Prop} (n:Nat) (q:B) (f:Cnt n->Left B->A:=by intro c_ q_; exact kgC c_ q_.h):A:=f ⟨rfl⟩ ⟨q⟩
/-- A store. -/
theorem kS {A B:Prop} (n:Nat) (q:B) (f:Cnt n->Left B->A:=by intro c_ q_; refine kgC c_ ?_; apply y_sw H; rfl; exact jE; (first | exact Sl.cells jSl | rfl); exact inferInstance; exact inferInstance; exact inferInstance; rfl; rfl; exact jK; exact q_.h):A:=f ⟨rfl⟩ ⟨q⟩
/-- New memory. -/
theorem kA {A B:Prop} (n:Nat) (q:B) (f:Cnt n->Left B->A:=by intro c_ q_; refine kgC c_ ?_; apply y_alloc H; rfl; exact q_.h):A:=f ⟨rfl⟩ ⟨q⟩
/-- A box. -/
theorem kB {A B:Prop} (n:Nat) (q:B) (f:Cnt n->Left B->A:=by intro c_ q_; refine kgC c_ ?_; apply t_box H; exact jE; (first | exact Sl.cells jSl | exact FnM.cells (by assumption) | rfl); exact q_.h):A:=f ⟨rfl⟩ ⟨q⟩
/-- A condition. -/
theorem kI {A B C:Prop} (n:Nat) (p:B) (q:C) (f:Cnt n->Left B->Left C->A:=by intro c_ p_ q_; refine kgC c_ ?_; exact W.cnd hM rfl p_.h q_.h):A:=f ⟨rfl⟩ ⟨p⟩ ⟨q⟩
/-- A slice literal of plain data. -/
theorem jRe {A:Prop} (h:A:=by (repeat (first | exact RepE.nil | refine RepE.cons rfl ?_ | refine RepE.cons (Sl.cells jSl) ?_)); fail_if_success focus skip):A:=h
theorem kL {α:Type} {A B:Prop} (n:Nat) (l:List α) (q:B) (f:Cnt n->TmS l->Left B->A:=by
    intro c_ l_ q_;refine kgC c_ ?_;apply y_bs l_ H; rfl; exact jPt; exact jRe; rfl; rfl; rfl;exact q_.h):A:=f ⟨rfl⟩ ⟨rfl⟩ ⟨q⟩
/-- A store into an own row; into a field of a row's element. -/
theorem kO {α:Type} {A B:Prop} (n:Nat) (a:α) (q:B) (f:Cnt n->TmS a->Left B->A:=by
    intro c_ l_ q_;refine kgC c_ ?_;first
      | (apply y_ost l_ H; rfl; exact inferInstance; rfl; exact jO; exact jE; rfl; intro w_ H; revert H; revert w_; exact q_.h)
      | (apply y_fst l_ H; rfl; exact inferInstance; rfl; exact jO; exact inferInstance; exact jE; rfl; rfl; rfl; rfl; rfl; intro w_ H; revert H; revert w_; exact q_.h)):A:=f ⟨rfl⟩ ⟨rfl⟩ ⟨q⟩
/-- An append to an own row. -/
theorem jAp {A:Prop} (h:A:=by first | omega | (simp only [List.length_nil] at *; omega) | (simp only [List.length_nil,List.length_cons] at *; omega)):A:=h
theorem kP {A B:Prop} (n:Nat) (q:B) (f:Cnt n->Left B->A:=by
    intro c_ q_;refine kgC c_ ?_;apply y_app H; exact jE; exact jE; exact jSl; exact inferInstance; rfl; rfl; exact jL; exact jAp;intro v_ w_ H;revert H; revert w_; revert v_;exact q_.h):A:=f ⟨rfl⟩ ⟨q⟩
/-- A call. -/
theorem kC {A B C:Prop} (n:Nat) (c:C) (q:B) (f:Cnt n->C->Left B->A:=by
    intro n_ c_ q_;refine kgC n_ ?_;obtain ⟨_,aa,hM⟩:=M.e_bind hM;apply s_calle cq jA
    · apply c_ (hM:=aa)

      (try any_goals (first | exact H.gtA | exact H.gt 0 | exact H.gt 1 | exact H.gt 2 | exact H.gt 3 | exact H.gt 4 | exact H.gt 5 | exact H.gt 6 | exact H.gt 7 | exact H.gt 8))
      (try any_goals exact jSl)
      all_goals first
        | exact jRd
        | exact Has.app (by assumption) _
        | exact Fld.app (by assumption) _
        | exact FnM.app (by assumption) _
        | assumption
        | exact Has.here (k:=0) rfl | exact Has.here (k:=1) rfl | exact Has.here (k:=2) rfl | exact Has.here (k:=3) rfl | exact Has.here (k:=4) rfl | exact Has.here (k:=5) rfl | exact Has.here (k:=6) rfl | exact Has.here (k:=7) rfl | exact Has.here (k:=8) rfl
        | exact Fld.here (k:=0) rfl rfl | exact Fld.here (k:=1) rfl rfl | exact Fld.here (k:=2) rfl rfl | exact Fld.here (k:=3) rfl rfl | exact Fld.here (k:=4) rfl rfl | exact Fld.here (k:=5) rfl rfl | exact Fld.here (k:=6) rfl rfl
        | exact jO
    · intro v_ w_ h_; clear aa
      repeat (first
        | (replace H:=H.bk h_; clear h_)
        | (replace H:=H.bk h_.1; replace h_:=h_.2)
        | (obtain ⟨e_,h_⟩:=h_; subst v_)
        | obtain ⟨rfl,h_⟩:=h_
        | obtain ⟨y_,h_⟩:=h_)
      revert H;revert hM
      (try revert h_)
      (repeat revert y_)
      (try revert v_)
      revert w_;exact q_.h):A:=f ⟨rfl⟩ c ⟨q⟩
/-- Results out of memory. -/
theorem jC {A:Prop} (h:A:=by (repeat (first | exact Res.nil | (apply Res.tmp; exact jE) | (apply Res.cell; rfl; (first | (apply y_rla; exact H.bq; exact inferInstance; rfl) | (apply y_rls; exact H.bq; rfl))))); fail_if_success focus skip):A:=h
theorem kR {A:Prop} (n:Nat) (l:List Nat) (f:Cnt n->PkS l->A:=by
    intro n_ c_;refine kgC n_ ?_;refine W.ret ⟨_,(by first | exact resE_tmp rfl | exact resE_tmp2 rfl | exact resE_tmp3 rfl | exact resE_tmp4 rfl | exact resE_tmp0 rfl | exact resE_of1 rfl jC | exact resE_ofn rfl rfl jC),?_⟩
    repeat (first
      | exact ⟨M.e_pure hM,rfl,H.pkS c_⟩
      | exact ⟨M.e_pure hM,rfl,H.pkS c_,jX⟩
      | apply Exists.intro)
    fail_if_success focus skip):A:=f ⟨rfl⟩ ⟨rfl⟩
theorem kR0 {A:Prop} (n:Nat) (f:Cnt n->A:=by
    intro n_;refine kgC n_ ?_;refine W.ret ⟨_,(by first | exact resE_tmp rfl | exact resE_tmp2 rfl | exact resE_tmp3 rfl | exact resE_tmp4 rfl | exact resE_tmp0 rfl | exact resE_of1 rfl jC | exact resE_ofn rfl rfl jC),?_⟩
    repeat (first
      | exact ⟨M.e_pure hM,rfl,H⟩
      | exact ⟨M.e_pure hM,rfl,H,jX⟩
      | apply Exists.intro)
    fail_if_success focus skip):A:=f ⟨rfl⟩
/-- What is aa of a result. -/
theorem jX {A:Prop} (h:A:=by first | assumption | exact H.os 0 | exact H.os 1 | exact H.os 2 | trivial):A:=h
/-- The next round; the first one. -/
theorem kX {A:Prop} (n:Nat) (f:Cnt n->A:=by
    intro n_;refine kgC n_ ?_
    repeat (first
      | (refine ⟨?_,M.e_inl hM (by assumption),H⟩; exact jQ)
      | apply Exists.intro
      | refine And.intro (by assumption) ?_)
    fail_if_success focus skip):A:=f ⟨rfl⟩
theorem kXp {A:Prop} (n:Nat) (l:List Nat) (f:Cnt n->PkS l->A:=by
    intro n_ c_;refine kgC n_ ?_
    repeat (first
      | (refine ⟨?_,M.e_inl hM (by assumption),H.pkS c_⟩; exact jQ)
      | apply Exists.intro
      | refine And.intro (by assumption) ?_)
    fail_if_success focus skip):A:=f ⟨rfl⟩ ⟨rfl⟩
theorem kY {A:Prop} (h:A:=by
    repeat (first
      | (refine ⟨?_,by assumption,H⟩; exact jQ)
      | apply Exists.intro)
    fail_if_success focus skip):A:=h
/-- Drawn regions. -/
theorem kD {A B:Prop} (n:Nat) (i ls:List Nat) (q:B) (f:Cnt n->PkS i->PkS ls->Left B->A:=by
    intro n_ i_ l_ q_;refine kgC n_ ?_;apply W.drw H i_ l_ mixed rfl jOr (by decide) (by decide +kernel) rfl;exact q_.h):A:=f ⟨rfl⟩ ⟨rfl⟩ ⟨rfl⟩ ⟨q⟩
theorem kDo {A B:Prop} (n:Nat) (i:List Nat) (o:List (Nat × Bool)) (q:B) (f:Cnt n->PkS i->TmS o->Left B->A:=by
    intro n_ i_ l_ q_;refine kgC n_ ?_;apply W.drwo H i_ l_ mixed (by decide) (by decide +kernel) rfl;exact q_.h):A:=f ⟨rfl⟩ ⟨rfl⟩ ⟨rfl⟩ ⟨q⟩
theorem kDT {A B:Prop} (n:Nat) (i:List Nat) (o:Ord) (q:B) (f:Cnt n->PkS i->TmS o->Left B->A:=by
    intro n_ i_ l_ q_;refine kgC n_ ?_;apply W.drwT H i_ l_ mixed (by decide) (by decide +kernel) rfl;exact q_.h):A:=f ⟨rfl⟩ ⟨rfl⟩ ⟨rfl⟩ ⟨q⟩
theorem kDS {A B:Prop} (n:Nat) (i:List Nat) (o:Ord) (m:Nat) (zs:List Nat) (q:B) (f:Cnt n->PkS i->TmS o->TmS m->PkS zs->Left B->A:=by
    intro n_ i_ l_ m_ z_ q_;refine kgC n_ ?_;apply W.drwTS H i_ l_ m_ z_ mixed (by decide) (by decide +kernel) rfl;exact q_.h):A:=f ⟨rfl⟩ ⟨rfl⟩ ⟨rfl⟩ ⟨rfl⟩ ⟨rfl⟩ ⟨q⟩
/-- The end of a loud operation in a drawn region. -/
theorem kN {A B:Prop} (q:B) (f:Left B->A:=by intro q_; exact s_nil ⟨H.pf,q_.h⟩):A:=f ⟨q⟩
end Go.Nm
end
namespace Go.Nm
open Go
section
variable {P:Program} {w:World} {σ:Env} {d:Nat} {ty:TypeId} {pos:String} {af:Array Edge} {g:Option (Nat × Bool)}
theorem x_pand0 {c x y:Operand} {b:Bool} (hc:ev σ c = .bool b) (hx:b=true->ev σ x = .bool false) (hy:ev σ y = .bool false) :
    (execOp (ev σ) ⟨some d,.pick c x y,ty,pos,af,g⟩).run P w = .ok (.value (.bool false)) w:=by
  have:=x_pand (P:=P) (w:=w) (d:=d) (ty:=ty) (pos:=pos) (af:=af) (g:=g) hc hx hy
  rwa [Bool.and_false] at this
end
end Go.Nm
namespace Go.Nm
open Go
instance {x:Pk}:EncL x [I x.day,I x.stage]:=⟨rfl⟩
instance {x:Yr}:EncL x [I x.year,I x.lo,I x.hi]:=⟨rfl⟩
instance {x:Span}:EncL x [I x.lo,I x.hi]:=⟨rfl⟩
instance {x:Rto}:EncL x [I x.num,I x.den]:=⟨rfl⟩
instance:FldC Old10 0 default (fun x=>I x.src):=⟨fun hs h1=>by have:=Old10_at0 hs (i:=(_:Nat)) (Int.natCast_nonneg _) (Int.ofNat_lt.2 h1); exact this⟩
instance:FldC Old10 1 default (fun x=>I x.dst):=⟨fun hs h1=>by have:=Old10_at1 hs (i:=(_:Nat)) (Int.natCast_nonneg _) (Int.ofNat_lt.2 h1); exact this⟩
instance:FldC Old10 2 default (fun x=>I x.stage):=⟨fun hs h1=>by have:=Old10_at2 hs (i:=(_:Nat)) (Int.natCast_nonneg _) (Int.ofNat_lt.2 h1); exact this⟩
instance {x:FRow}:EncL x [I x.stage,I x.carry]:=⟨rfl⟩
instance:FldC Sect 0 default (fun x=>I x.place):=⟨fun hs h1=>by have:=Sect_at0 hs (i:=(_:Nat)) (Int.natCast_nonneg _) (Int.ofNat_lt.2 h1); exact this⟩
instance {x:Mrk}:EncL x [I x.place,I x.lo,I x.hi]:=⟨rfl⟩
instance {x:Rch}:EncL x [I x.up,I x.down,I x.lo,I x.hi,B x.narrow]:=⟨rfl⟩
instance {x:Cas}:EncL x [I x.up,I x.down,I x.roughup,I x.roughdown]:=⟨rfl⟩
instance {x:Spot}:EncL x [I x.sec,I x.stage]:=⟨rfl⟩
instance {x:Dem}:EncL x [I x.spring,I x.town]:=⟨rfl⟩
instance {x:Town}:EncL x [I x.station,I x.lead,I x.alarm]:=⟨rfl⟩
instance:FldC Flood 0 default (fun x=>I x.spring):=⟨fun hs h1=>by have:=Flood_at0 hs (i:=(_:Nat)) (Int.natCast_nonneg _) (Int.ofNat_lt.2 h1); exact this⟩
instance {x:Rpt}:EncL x [I x.watch,I x.stage,B x.danger]:=⟨rfl⟩
instance {x:CMk}:EncL x [I x.place,I x.height]:=⟨rfl⟩
instance {x:CNt}:EncL x [I x.mark,I x.tlo,I x.thi,I x.slo,I x.shi]:=⟨rfl⟩
instance {x:DVal}:EncL x [B x.known,I x.lo,I x.hi]:=⟨rfl⟩
instance {x:BRch}:EncL x [I x.src,I x.dst,I x.lo,I x.hi]:=⟨rfl⟩
instance {x:BWay}:EncL x [I x.src,I x.dst,I x.lo,I x.hi,I x.now]:=⟨rfl⟩
instance {x:BStep}:EncL x [I x.way,B x.back]:=⟨rfl⟩
instance {x:BFar}:EncL x [I x.cost,I x.many,I x.way,B x.back]:=⟨rfl⟩
instance {x:Rgt}:EncL x [I x.state,I x.amount,I x.loss]:=⟨rfl⟩
instance {x:SPt}:EncL x [I x.index,I x.due]:=⟨rfl⟩
instance {x:SYr}:EncL x [I x.ilo,I x.ihi,I x.dlo,I x.dhi,B x.spill]:=⟨rfl⟩
instance {x:STr}:EncL x [I x.index,I x.delivered]:=⟨rfl⟩
instance {x:Vis}:EncL x [I x.wlo,I x.whi,I x.klo,I x.khi,I x.opn,I x.cls]:=⟨rfl⟩
instance {x:Ride}:EncL x [I x.src,I x.long,I x.wlo,I x.whi]:=⟨rfl⟩
end Go.Nm
namespace Go.Proofs.YtbgoclcmgbpckabGreat
open Go Go.Nm
def cfx:List Nat:=[0,1,2,3,75,76,114,115,116,117,118,119,120,121,122,123,124,155,168,169,170,171,172,213,222,240,243,244]
theorem cfs:(List.range 250).all (fun n=>cfx.contains n||cfb Tryz.prog n)=true:=by decide +kernel
theorem cq {n:Nat} (h:(Nat.blt n 250&&!cfx.contains n)=true:=by rfl):CF Tryz.prog n:=by
  simp only [Bool.and_eq_true,Bool.not_eq_true'] at h;have:=List.all_eq_true.1 cfs n (List.mem_range.2 (Nat.le_of_ble_eq_true h.1));rw [h.2,Bool.false_or] at this;exact cfb_of this
theorem keyIntCN:KeyL (ν:=CNt) Tryz.prog 3 I:=KeyL.int Tryz.underlying3
theorem keyIntSp:KeyL (ν:=Span) Tryz.prog 3 I:=KeyL.int Tryz.underlying3
theorem keyIntFar:KeyL (ν:=BFar) Tryz.prog 3 I:=KeyL.int Tryz.underlying3
instance T22:TlC Tryz.prog 22 5 1 1 (.int .u8 0):=⟨⟨Tryz.underlying22,by kernel_rfl,rfl,by decide⟩⟩
instance T23:TlC Tryz.prog 23 27 2 16 (.agg #[I 0,I 0]):=⟨⟨Tryz.underlying23,by kernel_rfl,rfl,by decide⟩⟩
instance T24:TlC Tryz.prog 24 3 1 8 (I 0):=⟨⟨Tryz.underlying24,by kernel_rfl,rfl,by decide⟩⟩
instance T25:TlC Tryz.prog 25 22 1 24 (.slice none 0 0):=⟨⟨Tryz.underlying25,by kernel_rfl,rfl,by decide⟩⟩
instance T28:TlC Tryz.prog 28 73 2 16 (.agg #[I 0,I 0]):=⟨⟨Tryz.underlying28,by kernel_rfl,rfl,by decide⟩⟩
instance T29:TlC Tryz.prog 29 75 5 40 (.agg #[I 0,I 0,I 0,I 0,I 0]):=⟨⟨Tryz.underlying29,by kernel_rfl,rfl,by decide⟩⟩
instance T41:TlC Tryz.prog 41 95 2 32 (.agg #[I 0,.slice none 0 0]):=⟨⟨Tryz.underlying41,by kernel_rfl,rfl,by decide⟩⟩
instance T42:TlC Tryz.prog 42 99 3 24 (.agg #[I 0,I 0,I 0]):=⟨⟨Tryz.underlying42,by kernel_rfl,rfl,by decide⟩⟩
instance T43:TlC Tryz.prog 43 101 5 40 (.agg #[I 0,I 0,I 0,I 0,B false]):=⟨⟨Tryz.underlying43,by kernel_rfl,rfl,by decide⟩⟩
instance T52:TlC Tryz.prog 52 58 3 24 (.agg #[I 0,I 0,I 0]):=⟨⟨Tryz.underlying52,by kernel_rfl,rfl,by decide⟩⟩
instance T53:TlC Tryz.prog 53 60 4 48 (.agg #[I 0,I 0,I 0,.slice none 0 0]):=⟨⟨Tryz.underlying53,by kernel_rfl,rfl,by decide⟩⟩
instance T93:TlC Tryz.prog 93 97 2 16 (.agg #[I 0,I 0]):=⟨⟨Tryz.underlying93,by kernel_rfl,rfl,by decide⟩⟩
instance T126:TlC Tryz.prog 126 189 3 24 (.agg #[B false,I 0,I 0]):=⟨⟨Tryz.underlying126,by kernel_rfl,rfl,by decide⟩⟩
instance T131:TlC Tryz.prog 131 207 4 32 (.agg #[I 0,I 0,I 0,I 0]):=⟨⟨Tryz.underlying131,by kernel_rfl,rfl,by decide⟩⟩
instance T137:TlC Tryz.prog 137 211 3 24 (.agg #[I 0,I 0,I 0]):=⟨⟨Tryz.underlying137,by kernel_rfl,rfl,by decide⟩⟩
instance T143:TlC Tryz.prog 143 219 3 24 (.agg #[I 0,I 0,I 0]):=⟨⟨Tryz.underlying143,by kernel_rfl,rfl,by decide⟩⟩
instance T144:TlC Tryz.prog 144 221 2 32 (.agg #[I 0,.slice none 0 0]):=⟨⟨Tryz.underlying144,by kernel_rfl,rfl,by decide⟩⟩
instance T196:TlC Tryz.prog 196 203 5 40 (.agg #[I 0,I 0,I 0,I 0,I 0]):=⟨⟨Tryz.underlying196,by kernel_rfl,rfl,by decide⟩⟩
instance T215:TlC Tryz.prog 215 271 2 16 (.agg #[I 0,I 0]):=⟨⟨Tryz.underlying215,by kernel_rfl,rfl,by decide⟩⟩
instance T345:TlC Tryz.prog 345 309 2 16 (.agg #[I 0,B false]):=⟨⟨Tryz.underlying345,by kernel_rfl,rfl,by decide⟩⟩
instance Sc3:ScC Tryz.prog 3:=⟨by kernel_rfl⟩
instance Sc4:ScC Tryz.prog 4:=⟨by kernel_rfl⟩
instance Sc5:ScC Tryz.prog 5:=⟨by kernel_rfl⟩
instance Sc22:ScC Tryz.prog 22:=⟨by kernel_rfl⟩
instance Sc23:ScC Tryz.prog 23:=⟨by kernel_rfl⟩
instance Sc24:ScC Tryz.prog 24:=⟨by kernel_rfl⟩
instance Sc28:ScC Tryz.prog 28:=⟨by kernel_rfl⟩
instance Sc29:ScC Tryz.prog 29:=⟨by kernel_rfl⟩
instance Sc38:ScC Tryz.prog 38:=⟨by kernel_rfl⟩
instance Sc41:ScC Tryz.prog 41:=⟨by kernel_rfl⟩
instance Sc42:ScC Tryz.prog 42:=⟨by kernel_rfl⟩
instance Sc43:ScC Tryz.prog 43:=⟨by kernel_rfl⟩
instance Sc52:ScC Tryz.prog 52:=⟨by kernel_rfl⟩
instance Sc53:ScC Tryz.prog 53:=⟨by kernel_rfl⟩
instance Sc78:ScC Tryz.prog 78:=⟨by kernel_rfl⟩
instance Sc87:ScC Tryz.prog 87:=⟨by kernel_rfl⟩
instance Sc93:ScC Tryz.prog 93:=⟨by kernel_rfl⟩
instance Sc102:ScC Tryz.prog 102:=⟨by kernel_rfl⟩
instance Sc107:ScC Tryz.prog 107:=⟨by kernel_rfl⟩
instance Sc112:ScC Tryz.prog 112:=⟨by kernel_rfl⟩
instance Sc126:ScC Tryz.prog 126:=⟨by kernel_rfl⟩
instance Sc131:ScC Tryz.prog 131:=⟨by kernel_rfl⟩
instance Sc137:ScC Tryz.prog 137:=⟨by kernel_rfl⟩
instance Sc143:ScC Tryz.prog 143:=⟨by kernel_rfl⟩
instance Sc144:ScC Tryz.prog 144:=⟨by kernel_rfl⟩
instance Sc156:ScC Tryz.prog 156:=⟨by kernel_rfl⟩
instance Sc166:ScC Tryz.prog 166:=⟨by kernel_rfl⟩
instance Sc177:ScC Tryz.prog 177:=⟨by kernel_rfl⟩
instance Sc192:ScC Tryz.prog 192:=⟨by kernel_rfl⟩
instance Sc196:ScC Tryz.prog 196:=⟨by kernel_rfl⟩
instance Sc212:ScC Tryz.prog 212:=⟨by kernel_rfl⟩
instance Sc224:ScC Tryz.prog 224:=⟨by kernel_rfl⟩
instance Sc229:ScC Tryz.prog 229:=⟨by kernel_rfl⟩
instance Sc246:ScC Tryz.prog 246:=⟨by kernel_rfl⟩
instance Sc254:ScC Tryz.prog 254:=⟨by kernel_rfl⟩
instance Sc255:ScC Tryz.prog 255:=⟨by kernel_rfl⟩
instance Sc264:ScC Tryz.prog 264:=⟨by kernel_rfl⟩
instance Sc268:ScC Tryz.prog 268:=⟨by kernel_rfl⟩
instance Sc272:ScC Tryz.prog 272:=⟨by kernel_rfl⟩
instance Sc276:ScC Tryz.prog 276:=⟨by kernel_rfl⟩
instance Sc285:ScC Tryz.prog 285:=⟨by kernel_rfl⟩
instance Sc288:ScC Tryz.prog 288:=⟨by kernel_rfl⟩
instance Sc290:ScC Tryz.prog 290:=⟨by kernel_rfl⟩
instance Sc301:ScC Tryz.prog 301:=⟨by kernel_rfl⟩
instance Sc311:ScC Tryz.prog 311:=⟨by kernel_rfl⟩
instance Sc312:ScC Tryz.prog 312:=⟨by kernel_rfl⟩
instance Sc316:ScC Tryz.prog 316:=⟨by kernel_rfl⟩
instance Sc324:ScC Tryz.prog 324:=⟨by kernel_rfl⟩
instance Sc331:ScC Tryz.prog 331:=⟨by kernel_rfl⟩
instance Sz3:SzC Tryz.prog 3 1:=⟨by kernel_rfl⟩
instance Sz4:SzC Tryz.prog 4 1:=⟨by kernel_rfl⟩
instance Sz22:SzC Tryz.prog 22 1:=⟨by kernel_rfl⟩
instance Sz23:SzC Tryz.prog 23 1:=⟨by kernel_rfl⟩
instance Sz24:SzC Tryz.prog 24 1:=⟨by kernel_rfl⟩
instance Ag27:AgC Tryz.prog 27:=⟨by kernel_rfl⟩
instance Sz27:SzC Tryz.prog 27 2:=⟨by kernel_rfl⟩
instance Sz28:SzC Tryz.prog 28 1:=⟨by kernel_rfl⟩
instance Sz29:SzC Tryz.prog 29 1:=⟨by kernel_rfl⟩
instance Ag31:AgC Tryz.prog 31:=⟨by kernel_rfl⟩
instance Sz31:SzC Tryz.prog 31 7:=⟨by kernel_rfl⟩
instance Ag33:AgC Tryz.prog 33:=⟨by kernel_rfl⟩
instance Sz33:SzC Tryz.prog 33 3:=⟨by kernel_rfl⟩
instance Sz38:SzC Tryz.prog 38 1:=⟨by kernel_rfl⟩
instance Sz41:SzC Tryz.prog 41 1:=⟨by kernel_rfl⟩
instance Sz42:SzC Tryz.prog 42 1:=⟨by kernel_rfl⟩
instance Sz43:SzC Tryz.prog 43 1:=⟨by kernel_rfl⟩
instance Ag45:AgC Tryz.prog 45:=⟨by kernel_rfl⟩
instance Sz45:SzC Tryz.prog 45 3:=⟨by kernel_rfl⟩
instance Ag47:AgC Tryz.prog 47:=⟨by kernel_rfl⟩
instance Sz47:SzC Tryz.prog 47 2:=⟨by kernel_rfl⟩
instance Sz52:SzC Tryz.prog 52 1:=⟨by kernel_rfl⟩
instance Sz53:SzC Tryz.prog 53 1:=⟨by kernel_rfl⟩
instance Ag55:AgC Tryz.prog 55:=⟨by kernel_rfl⟩
instance Sz55:SzC Tryz.prog 55 4:=⟨by kernel_rfl⟩
instance Ag58:AgC Tryz.prog 58:=⟨by kernel_rfl⟩
instance Sz58:SzC Tryz.prog 58 3:=⟨by kernel_rfl⟩
instance Ag60:AgC Tryz.prog 60:=⟨by kernel_rfl⟩
instance Sz60:SzC Tryz.prog 60 4:=⟨by kernel_rfl⟩
instance Ag66:AgC Tryz.prog 66:=⟨by kernel_rfl⟩
instance Sz66:SzC Tryz.prog 66 2:=⟨by kernel_rfl⟩
instance Ag73:AgC Tryz.prog 73:=⟨by kernel_rfl⟩
instance Sz73:SzC Tryz.prog 73 2:=⟨by kernel_rfl⟩
instance Ag75:AgC Tryz.prog 75:=⟨by kernel_rfl⟩
instance Sz75:SzC Tryz.prog 75 5:=⟨by kernel_rfl⟩
instance Sz87:SzC Tryz.prog 87 1:=⟨by kernel_rfl⟩
instance Ag89:AgC Tryz.prog 89:=⟨by kernel_rfl⟩
instance Sz89:SzC Tryz.prog 89 1:=⟨by kernel_rfl⟩
instance Sz93:SzC Tryz.prog 93 1:=⟨by kernel_rfl⟩
instance Ag95:AgC Tryz.prog 95:=⟨by kernel_rfl⟩
instance Sz95:SzC Tryz.prog 95 2:=⟨by kernel_rfl⟩
instance Ag97:AgC Tryz.prog 97:=⟨by kernel_rfl⟩
instance Sz97:SzC Tryz.prog 97 2:=⟨by kernel_rfl⟩
instance Ag99:AgC Tryz.prog 99:=⟨by kernel_rfl⟩
instance Sz99:SzC Tryz.prog 99 3:=⟨by kernel_rfl⟩
instance Ag101:AgC Tryz.prog 101:=⟨by kernel_rfl⟩
instance Sz101:SzC Tryz.prog 101 5:=⟨by kernel_rfl⟩
instance Sz107:SzC Tryz.prog 107 1:=⟨by kernel_rfl⟩
instance Sz112:SzC Tryz.prog 112 1:=⟨by kernel_rfl⟩
instance Ag119:AgC Tryz.prog 119:=⟨by kernel_rfl⟩
instance Sz119:SzC Tryz.prog 119 1:=⟨by kernel_rfl⟩
instance Sz126:SzC Tryz.prog 126 1:=⟨by kernel_rfl⟩
instance Ag128:AgC Tryz.prog 128:=⟨by kernel_rfl⟩
instance Sz128:SzC Tryz.prog 128 3:=⟨by kernel_rfl⟩
instance Sz131:SzC Tryz.prog 131 1:=⟨by kernel_rfl⟩
instance Ag133:AgC Tryz.prog 133:=⟨by kernel_rfl⟩
instance Sz133:SzC Tryz.prog 133 2:=⟨by kernel_rfl⟩
instance Sz137:SzC Tryz.prog 137 1:=⟨by kernel_rfl⟩
instance Ag139:AgC Tryz.prog 139:=⟨by kernel_rfl⟩
instance Sz139:SzC Tryz.prog 139 2:=⟨by kernel_rfl⟩
instance Sz143:SzC Tryz.prog 143 1:=⟨by kernel_rfl⟩
instance Sz144:SzC Tryz.prog 144 1:=⟨by kernel_rfl⟩
instance Ag146:AgC Tryz.prog 146:=⟨by kernel_rfl⟩
instance Sz146:SzC Tryz.prog 146 7:=⟨by kernel_rfl⟩
instance Sz166:SzC Tryz.prog 166 1:=⟨by kernel_rfl⟩
instance Sz177:SzC Tryz.prog 177 1:=⟨by kernel_rfl⟩
instance Ag183:AgC Tryz.prog 183:=⟨by kernel_rfl⟩
instance Sz183:SzC Tryz.prog 183 1:=⟨by kernel_rfl⟩
instance Ag184:AgC Tryz.prog 184:=⟨by kernel_rfl⟩
instance Sz184:SzC Tryz.prog 184 2:=⟨by kernel_rfl⟩
instance Ag189:AgC Tryz.prog 189:=⟨by kernel_rfl⟩
instance Sz189:SzC Tryz.prog 189 3:=⟨by kernel_rfl⟩
instance Sz196:SzC Tryz.prog 196 1:=⟨by kernel_rfl⟩
instance Ag198:AgC Tryz.prog 198:=⟨by kernel_rfl⟩
instance Sz198:SzC Tryz.prog 198 2:=⟨by kernel_rfl⟩
instance Ag203:AgC Tryz.prog 203:=⟨by kernel_rfl⟩
instance Sz203:SzC Tryz.prog 203 5:=⟨by kernel_rfl⟩
instance Ag207:AgC Tryz.prog 207:=⟨by kernel_rfl⟩
instance Sz207:SzC Tryz.prog 207 4:=⟨by kernel_rfl⟩
instance Ag211:AgC Tryz.prog 211:=⟨by kernel_rfl⟩
instance Sz211:SzC Tryz.prog 211 3:=⟨by kernel_rfl⟩
instance Ag219:AgC Tryz.prog 219:=⟨by kernel_rfl⟩
instance Sz219:SzC Tryz.prog 219 3:=⟨by kernel_rfl⟩
instance Ag221:AgC Tryz.prog 221:=⟨by kernel_rfl⟩
instance Sz221:SzC Tryz.prog 221 2:=⟨by kernel_rfl⟩
instance Sz224:SzC Tryz.prog 224 1:=⟨by kernel_rfl⟩
instance Ag225:AgC Tryz.prog 225:=⟨by kernel_rfl⟩
instance Sz225:SzC Tryz.prog 225 40:=⟨by kernel_rfl⟩
instance Sz255:SzC Tryz.prog 255 1:=⟨by kernel_rfl⟩
instance Ag256:AgC Tryz.prog 256:=⟨by kernel_rfl⟩
instance Sz256:SzC Tryz.prog 256 12:=⟨by kernel_rfl⟩
instance Sz264:SzC Tryz.prog 264 1:=⟨by kernel_rfl⟩
instance Sz268:SzC Tryz.prog 268 1:=⟨by kernel_rfl⟩
instance Ag271:AgC Tryz.prog 271:=⟨by kernel_rfl⟩
instance Sz271:SzC Tryz.prog 271 2:=⟨by kernel_rfl⟩
instance Sz276:SzC Tryz.prog 276 1:=⟨by kernel_rfl⟩
instance Sz301:SzC Tryz.prog 301 1:=⟨by kernel_rfl⟩
instance Ag306:AgC Tryz.prog 306:=⟨by kernel_rfl⟩
instance Sz306:SzC Tryz.prog 306 2:=⟨by kernel_rfl⟩
instance Ag309:AgC Tryz.prog 309:=⟨by kernel_rfl⟩
instance Sz309:SzC Tryz.prog 309 2:=⟨by kernel_rfl⟩
instance Sz311:SzC Tryz.prog 311 1:=⟨by kernel_rfl⟩
instance Sz312:SzC Tryz.prog 312 1:=⟨by kernel_rfl⟩
instance Ag314:AgC Tryz.prog 314:=⟨by kernel_rfl⟩
instance Sz314:SzC Tryz.prog 314 1:=⟨by kernel_rfl⟩
instance Sz316:SzC Tryz.prog 316 1:=⟨by kernel_rfl⟩
instance Ag319:AgC Tryz.prog 319:=⟨by kernel_rfl⟩
instance Sz319:SzC Tryz.prog 319 4:=⟨by kernel_rfl⟩
instance Ag339:AgC Tryz.prog 339:=⟨by kernel_rfl⟩
instance Sz339:SzC Tryz.prog 339 10:=⟨by kernel_rfl⟩
instance Fd27_0:FdC Tryz.prog 27 0 0 3:=⟨by kernel_rfl⟩
instance Fd27_1:FdC Tryz.prog 27 1 1 3:=⟨by kernel_rfl⟩
instance Fd31_0:FdC Tryz.prog 31 0 0 27:=⟨by kernel_rfl⟩
instance Fd31_1:FdC Tryz.prog 31 1 2 3:=⟨by kernel_rfl⟩
instance Fd31_2:FdC Tryz.prog 31 2 3 3:=⟨by kernel_rfl⟩
instance Fd31_3:FdC Tryz.prog 31 3 4 3:=⟨by kernel_rfl⟩
instance Fd31_4:FdC Tryz.prog 31 4 5 28:=⟨by kernel_rfl⟩
instance Fd31_5:FdC Tryz.prog 31 5 6 29:=⟨by kernel_rfl⟩
instance Fd33_0:FdC Tryz.prog 33 0 0 24:=⟨by kernel_rfl⟩
instance Fd33_1:FdC Tryz.prog 33 1 1 24:=⟨by kernel_rfl⟩
instance Fd33_2:FdC Tryz.prog 33 2 2 24:=⟨by kernel_rfl⟩
instance Fd45_0:FdC Tryz.prog 45 0 0 41:=⟨by kernel_rfl⟩
instance Fd45_1:FdC Tryz.prog 45 1 1 42:=⟨by kernel_rfl⟩
instance Fd45_2:FdC Tryz.prog 45 2 2 43:=⟨by kernel_rfl⟩
instance Fd47_0:FdC Tryz.prog 47 0 0 24:=⟨by kernel_rfl⟩
instance Fd47_1:FdC Tryz.prog 47 1 1 24:=⟨by kernel_rfl⟩
instance Fd55_0:FdC Tryz.prog 55 0 0 52:=⟨by kernel_rfl⟩
instance Fd55_1:FdC Tryz.prog 55 1 1 53:=⟨by kernel_rfl⟩
instance Fd55_2:FdC Tryz.prog 55 2 2 3:=⟨by kernel_rfl⟩
instance Fd55_3:FdC Tryz.prog 55 3 3 3:=⟨by kernel_rfl⟩
instance Fd58_0:FdC Tryz.prog 58 0 0 3:=⟨by kernel_rfl⟩
instance Fd58_1:FdC Tryz.prog 58 1 1 27:=⟨by kernel_rfl⟩
instance Fd60_0:FdC Tryz.prog 60 0 0 3:=⟨by kernel_rfl⟩
instance Fd60_1:FdC Tryz.prog 60 1 1 3:=⟨by kernel_rfl⟩
instance Fd60_2:FdC Tryz.prog 60 2 2 3:=⟨by kernel_rfl⟩
instance Fd60_3:FdC Tryz.prog 60 3 3 24:=⟨by kernel_rfl⟩
instance Fd66_0:FdC Tryz.prog 66 0 0 3:=⟨by kernel_rfl⟩
instance Fd66_1:FdC Tryz.prog 66 1 1 3:=⟨by kernel_rfl⟩
instance Fd73_0:FdC Tryz.prog 73 0 0 3:=⟨by kernel_rfl⟩
instance Fd73_1:FdC Tryz.prog 73 1 1 3:=⟨by kernel_rfl⟩
instance Fd75_0:FdC Tryz.prog 75 0 0 3:=⟨by kernel_rfl⟩
instance Fd75_1:FdC Tryz.prog 75 1 1 27:=⟨by kernel_rfl⟩
instance Fd75_2:FdC Tryz.prog 75 2 3 27:=⟨by kernel_rfl⟩
instance Fd77_0:FdC Tryz.prog 77 0 0 22:=⟨by kernel_rfl⟩
instance Fd77_1:FdC Tryz.prog 77 1 1 3:=⟨by kernel_rfl⟩
instance Fd77_2:FdC Tryz.prog 77 2 2 3:=⟨by kernel_rfl⟩
instance Fd82_0:FdC Tryz.prog 82 0 0 27:=⟨by kernel_rfl⟩
instance Fd82_1:FdC Tryz.prog 82 1 2 4:=⟨by kernel_rfl⟩
instance Fd89_0:FdC Tryz.prog 89 0 0 87:=⟨by kernel_rfl⟩
instance Fd95_0:FdC Tryz.prog 95 0 0 3:=⟨by kernel_rfl⟩
instance Fd95_1:FdC Tryz.prog 95 1 1 93:=⟨by kernel_rfl⟩
instance Fd97_0:FdC Tryz.prog 97 0 0 3:=⟨by kernel_rfl⟩
instance Fd97_1:FdC Tryz.prog 97 1 1 3:=⟨by kernel_rfl⟩
instance Fd99_0:FdC Tryz.prog 99 0 0 3:=⟨by kernel_rfl⟩
instance Fd99_1:FdC Tryz.prog 99 1 1 27:=⟨by kernel_rfl⟩
instance Fd101_0:FdC Tryz.prog 101 0 0 3:=⟨by kernel_rfl⟩
instance Fd101_1:FdC Tryz.prog 101 1 1 3:=⟨by kernel_rfl⟩
instance Fd101_2:FdC Tryz.prog 101 2 2 27:=⟨by kernel_rfl⟩
instance Fd119_0:FdC Tryz.prog 119 0 0 87:=⟨by kernel_rfl⟩
instance Fd124_0:FdC Tryz.prog 124 0 0 3:=⟨by kernel_rfl⟩
instance Fd128_0:FdC Tryz.prog 128 0 0 3:=⟨by kernel_rfl⟩
instance Fd128_1:FdC Tryz.prog 128 1 1 3:=⟨by kernel_rfl⟩
instance Fd128_2:FdC Tryz.prog 128 2 2 126:=⟨by kernel_rfl⟩
instance Fd133_0:FdC Tryz.prog 133 0 0 23:=⟨by kernel_rfl⟩
instance Fd133_1:FdC Tryz.prog 133 1 1 131:=⟨by kernel_rfl⟩
instance Fd139_0:FdC Tryz.prog 139 0 0 3:=⟨by kernel_rfl⟩
instance Fd139_1:FdC Tryz.prog 139 1 1 137:=⟨by kernel_rfl⟩
instance Fd146_0:FdC Tryz.prog 146 0 0 24:=⟨by kernel_rfl⟩
instance Fd146_1:FdC Tryz.prog 146 1 1 23:=⟨by kernel_rfl⟩
instance Fd146_2:FdC Tryz.prog 146 2 2 24:=⟨by kernel_rfl⟩
instance Fd146_3:FdC Tryz.prog 146 3 3 143:=⟨by kernel_rfl⟩
instance Fd146_4:FdC Tryz.prog 146 4 4 27:=⟨by kernel_rfl⟩
instance Fd146_5:FdC Tryz.prog 146 5 6 144:=⟨by kernel_rfl⟩
instance Fd163_0:FdC Tryz.prog 163 0 0 45:=⟨by kernel_rfl⟩
instance Fd168_0:FdC Tryz.prog 168 0 0 55:=⟨by kernel_rfl⟩
instance Fd168_1:FdC Tryz.prog 168 1 4 166:=⟨by kernel_rfl⟩
instance Fd181_0:FdC Tryz.prog 181 0 0 128:=⟨by kernel_rfl⟩
instance Fd181_1:FdC Tryz.prog 181 1 3 23:=⟨by kernel_rfl⟩
instance Fd183_0:FdC Tryz.prog 183 0 0 87:=⟨by kernel_rfl⟩
instance Fd189_0:FdC Tryz.prog 189 0 0 4:=⟨by kernel_rfl⟩
instance Fd189_1:FdC Tryz.prog 189 1 1 27:=⟨by kernel_rfl⟩
instance Fd198_0:FdC Tryz.prog 198 0 0 196:=⟨by kernel_rfl⟩
instance Fd198_1:FdC Tryz.prog 198 1 1 3:=⟨by kernel_rfl⟩
instance Fd200_0:FdC Tryz.prog 200 0 0 198:=⟨by kernel_rfl⟩
instance Fd200_1:FdC Tryz.prog 200 1 2 3:=⟨by kernel_rfl⟩
instance Fd203_0:FdC Tryz.prog 203 0 0 3:=⟨by kernel_rfl⟩
instance Fd203_1:FdC Tryz.prog 203 1 1 3:=⟨by kernel_rfl⟩
instance Fd203_2:FdC Tryz.prog 203 2 2 27:=⟨by kernel_rfl⟩
instance Fd203_3:FdC Tryz.prog 203 3 4 3:=⟨by kernel_rfl⟩
instance Fd207_0:FdC Tryz.prog 207 0 0 3:=⟨by kernel_rfl⟩
instance Fd207_1:FdC Tryz.prog 207 1 1 3:=⟨by kernel_rfl⟩
instance Fd207_2:FdC Tryz.prog 207 2 2 27:=⟨by kernel_rfl⟩
instance Fd211_0:FdC Tryz.prog 211 0 0 3:=⟨by kernel_rfl⟩
instance Fd211_1:FdC Tryz.prog 211 1 1 3:=⟨by kernel_rfl⟩
instance Fd211_2:FdC Tryz.prog 211 2 2 3:=⟨by kernel_rfl⟩
instance Fd219_0:FdC Tryz.prog 219 0 0 3:=⟨by kernel_rfl⟩
instance Fd219_1:FdC Tryz.prog 219 1 1 3:=⟨by kernel_rfl⟩
instance Fd219_2:FdC Tryz.prog 219 2 2 3:=⟨by kernel_rfl⟩
instance Fd221_0:FdC Tryz.prog 221 0 0 3:=⟨by kernel_rfl⟩
instance Fd221_1:FdC Tryz.prog 221 1 1 24:=⟨by kernel_rfl⟩
instance Fd227_0:FdC Tryz.prog 227 0 0 31:=⟨by kernel_rfl⟩
instance Fd227_1:FdC Tryz.prog 227 1 7 224:=⟨by kernel_rfl⟩
instance Fd227_2:FdC Tryz.prog 227 2 8 225:=⟨by kernel_rfl⟩
instance Fd258_0:FdC Tryz.prog 258 0 0 139:=⟨by kernel_rfl⟩
instance Fd258_1:FdC Tryz.prog 258 1 2 256:=⟨by kernel_rfl⟩
instance Fd266_0:FdC Tryz.prog 266 0 0 146:=⟨by kernel_rfl⟩
instance Fd266_1:FdC Tryz.prog 266 1 7 264:=⟨by kernel_rfl⟩
instance Fd271_0:FdC Tryz.prog 271 0 0 3:=⟨by kernel_rfl⟩
instance Fd271_1:FdC Tryz.prog 271 1 1 3:=⟨by kernel_rfl⟩
instance Fd306_0:FdC Tryz.prog 306 0 0 24:=⟨by kernel_rfl⟩
instance Fd306_1:FdC Tryz.prog 306 1 1 24:=⟨by kernel_rfl⟩
instance Fd309_0:FdC Tryz.prog 309 0 0 3:=⟨by kernel_rfl⟩
instance Fd309_1:FdC Tryz.prog 309 1 1 4:=⟨by kernel_rfl⟩
instance Fd314_0:FdC Tryz.prog 314 0 0 312:=⟨by kernel_rfl⟩
instance Fd319_0:FdC Tryz.prog 319 0 0 3:=⟨by kernel_rfl⟩
instance Fd319_1:FdC Tryz.prog 319 1 1 3:=⟨by kernel_rfl⟩
instance Fd319_2:FdC Tryz.prog 319 2 2 309:=⟨by kernel_rfl⟩
instance Al3:AlC Tryz.prog 3 (I 0):=⟨by kernel_rfl⟩
instance Al4:AlC Tryz.prog 4 (B false):=⟨by kernel_rfl⟩
instance Al23:AlC Tryz.prog 23 (.slice none 0 0):=⟨by kernel_rfl⟩
instance Al24:AlC Tryz.prog 24 (.slice none 0 0):=⟨by kernel_rfl⟩
instance Al27:AlC Tryz.prog 27 (.agg #[I 0,I 0]):=⟨by kernel_rfl⟩
instance Al31:AlC Tryz.prog 31 (.agg #[I 0,I 0,I 0,I 0,I 0,.slice none 0 0,.slice none 0 0]):=⟨by kernel_rfl⟩
instance Al33:AlC Tryz.prog 33 (.agg #[.slice none 0 0,.slice none 0 0,.slice none 0 0]):=⟨by kernel_rfl⟩
instance Al38:AlC Tryz.prog 38 (I 0):=⟨by kernel_rfl⟩
instance Al45:AlC Tryz.prog 45 (.agg #[.slice none 0 0,.slice none 0 0,.slice none 0 0]):=⟨by kernel_rfl⟩
instance Al47:AlC Tryz.prog 47 (.agg #[.slice none 0 0,.slice none 0 0]):=⟨by kernel_rfl⟩
instance Al55:AlC Tryz.prog 55 (.agg #[.slice none 0 0,.slice none 0 0,I 0,I 0]):=⟨by kernel_rfl⟩
instance Al58:AlC Tryz.prog 58 (.agg #[I 0,I 0,I 0]):=⟨by kernel_rfl⟩
instance Al60:AlC Tryz.prog 60 (.agg #[I 0,I 0,I 0,.slice none 0 0]):=⟨by kernel_rfl⟩
instance Al66:AlC Tryz.prog 66 (.agg #[I 0,I 0]):=⟨by kernel_rfl⟩
instance Al73:AlC Tryz.prog 73 (.agg #[I 0,I 0]):=⟨by kernel_rfl⟩
instance Al75:AlC Tryz.prog 75 (.agg #[I 0,I 0,I 0,I 0,I 0]):=⟨by kernel_rfl⟩
instance Al77:AlC Tryz.prog 77 (.agg #[.slice none 0 0,I 0,I 0]):=⟨by kernel_rfl⟩
instance Al82:AlC Tryz.prog 82 (.agg #[I 0,I 0,B false]):=⟨by kernel_rfl⟩
instance Al89:AlC Tryz.prog 89 (.agg #[.nilFunc]):=⟨by kernel_rfl⟩
instance Al95:AlC Tryz.prog 95 (.agg #[I 0,.slice none 0 0]):=⟨by kernel_rfl⟩
instance Al97:AlC Tryz.prog 97 (.agg #[I 0,I 0]):=⟨by kernel_rfl⟩
instance Al99:AlC Tryz.prog 99 (.agg #[I 0,I 0,I 0]):=⟨by kernel_rfl⟩
instance Al101:AlC Tryz.prog 101 (.agg #[I 0,I 0,I 0,I 0,B false]):=⟨by kernel_rfl⟩
instance Al107:AlC Tryz.prog 107 (.pointer none):=⟨by kernel_rfl⟩
instance Al112:AlC Tryz.prog 112 (.nilFunc):=⟨by kernel_rfl⟩
instance Al119:AlC Tryz.prog 119 (.agg #[.nilFunc]):=⟨by kernel_rfl⟩
instance Al124:AlC Tryz.prog 124 (.agg #[I 0]):=⟨by kernel_rfl⟩
instance Al128:AlC Tryz.prog 128 (.agg #[I 0,I 0,.slice none 0 0]):=⟨by kernel_rfl⟩
instance Al133:AlC Tryz.prog 133 (.agg #[.slice none 0 0,.slice none 0 0]):=⟨by kernel_rfl⟩
instance Al139:AlC Tryz.prog 139 (.agg #[I 0,.slice none 0 0]):=⟨by kernel_rfl⟩
instance Al146:AlC Tryz.prog 146 (.agg #[.slice none 0 0,.slice none 0 0,.slice none 0 0,.slice none 0 0,I 0,I 0,.slice none 0 0]):=⟨by kernel_rfl⟩
instance Al163:AlC Tryz.prog 163 (.agg #[.slice none 0 0,.slice none 0 0,.slice none 0 0,.map none]):=⟨by kernel_rfl⟩
instance Al168:AlC Tryz.prog 168 (.agg #[.slice none 0 0,.slice none 0 0,I 0,I 0,.map none]):=⟨by kernel_rfl⟩
instance Al177:AlC Tryz.prog 177 (.pointer none):=⟨by kernel_rfl⟩
instance Al181:AlC Tryz.prog 181 (.agg #[I 0,I 0,.slice none 0 0,.slice none 0 0]):=⟨by kernel_rfl⟩
instance Al183:AlC Tryz.prog 183 (.agg #[.nilFunc]):=⟨by kernel_rfl⟩
instance Al184:AlC Tryz.prog 184 (.agg #[.nilFunc,.nilFunc]):=⟨by kernel_rfl⟩
instance Al189:AlC Tryz.prog 189 (.agg #[B false,I 0,I 0]):=⟨by kernel_rfl⟩
instance Al198:AlC Tryz.prog 198 (.agg #[.slice none 0 0,I 0]):=⟨by kernel_rfl⟩
instance Al200:AlC Tryz.prog 200 (.agg #[.slice none 0 0,I 0,I 0]):=⟨by kernel_rfl⟩
instance Al203:AlC Tryz.prog 203 (.agg #[I 0,I 0,I 0,I 0,I 0]):=⟨by kernel_rfl⟩
instance Al207:AlC Tryz.prog 207 (.agg #[I 0,I 0,I 0,I 0]):=⟨by kernel_rfl⟩
instance Al211:AlC Tryz.prog 211 (.agg #[I 0,I 0,I 0]):=⟨by kernel_rfl⟩
instance Al219:AlC Tryz.prog 219 (.agg #[I 0,I 0,I 0]):=⟨by kernel_rfl⟩
instance Al221:AlC Tryz.prog 221 (.agg #[I 0,.slice none 0 0]):=⟨by kernel_rfl⟩
instance Al255:AlC Tryz.prog 255 (.pointer none):=⟨by kernel_rfl⟩
instance Al266:AlC Tryz.prog 266 (.agg #[.slice none 0 0,.slice none 0 0,.slice none 0 0,.slice none 0 0,I 0,I 0,.slice none 0 0,.map none]):=⟨by kernel_rfl⟩
instance Al268:AlC Tryz.prog 268 (.nilFunc):=⟨by kernel_rfl⟩
instance Al271:AlC Tryz.prog 271 (.agg #[I 0,I 0]):=⟨by kernel_rfl⟩
instance Al276:AlC Tryz.prog 276 (.nilFunc):=⟨by kernel_rfl⟩
instance Al280:AlC Tryz.prog 280 (.agg #[B false,B false,B false,B false,B false,B false,B false,B false,B false,B false,B false,B false]):=⟨by kernel_rfl⟩
instance Al292:AlC Tryz.prog 292 (.agg #[I 0,I 0]):=⟨by kernel_rfl⟩
instance Al301:AlC Tryz.prog 301 (.nilFunc):=⟨by kernel_rfl⟩
instance Al306:AlC Tryz.prog 306 (.agg #[.slice none 0 0,.slice none 0 0]):=⟨by kernel_rfl⟩
instance Al309:AlC Tryz.prog 309 (.agg #[I 0,B false]):=⟨by kernel_rfl⟩
instance Al311:AlC Tryz.prog 311 (.nilFunc):=⟨by kernel_rfl⟩
instance Al314:AlC Tryz.prog 314 (.agg #[.nilFunc]):=⟨by kernel_rfl⟩
instance Al316:AlC Tryz.prog 316 (.map none):=⟨by kernel_rfl⟩
instance Al319:AlC Tryz.prog 319 (.agg #[I 0,I 0,I 0,B false]):=⟨by kernel_rfl⟩
theorem Bd27 {fs:Array Field} (h:Tryz.prog.underlying 27=some (.struct fs)):fs.toList.mapM (fun f=>(Tryz.prog.info? f.type).map fun i=>(f.offset,i.size))=some [(0,1),(1,1)]:=by rw [Tryz.underlying27] at h; simp only [Option.some.injEq,TypeDesc.struct.injEq] at h; subst h; kernel_rfl
theorem Bd55 {fs:Array Field} (h:Tryz.prog.underlying 55=some (.struct fs)):fs.toList.mapM (fun f=>(Tryz.prog.info? f.type).map fun i=>(f.offset,i.size))=some [(0,1),(1,1),(2,1),(3,1)]:=by rw [Tryz.underlying55] at h; simp only [Option.some.injEq,TypeDesc.struct.injEq] at h; subst h; kernel_rfl
theorem Bd146 {fs:Array Field} (h:Tryz.prog.underlying 146=some (.struct fs)):fs.toList.mapM (fun f=>(Tryz.prog.info? f.type).map fun i=>(f.offset,i.size))=some [(0,1),(1,1),(2,1),(3,1),(4,2),(6,1)]:=by rw [Tryz.underlying146] at h; simp only [Option.some.injEq,TypeDesc.struct.injEq] at h; subst h; kernel_rfl
theorem Bd198 {fs:Array Field} (h:Tryz.prog.underlying 198=some (.struct fs)):fs.toList.mapM (fun f=>(Tryz.prog.info? f.type).map fun i=>(f.offset,i.size))=some [(0,1),(1,1)]:=by rw [Tryz.underlying198] at h; simp only [Option.some.injEq,TypeDesc.struct.injEq] at h; subst h; kernel_rfl
theorem Bd227 {fs:Array Field} (h:Tryz.prog.underlying 227=some (.struct fs)):fs.toList.mapM (fun f=>(Tryz.prog.info? f.type).map fun i=>(f.offset,i.size))=some [(0,7),(7,1),(8,40)]:=by rw [Tryz.underlying227] at h; simp only [Option.some.injEq,TypeDesc.struct.injEq] at h; subst h; kernel_rfl
theorem Bd258 {fs:Array Field} (h:Tryz.prog.underlying 258=some (.struct fs)):fs.toList.mapM (fun f=>(Tryz.prog.info? f.type).map fun i=>(f.offset,i.size))=some [(0,2),(2,12)]:=by rw [Tryz.underlying258] at h; simp only [Option.some.injEq,TypeDesc.struct.injEq] at h; subst h; kernel_rfl
theorem Bd306 {fs:Array Field} (h:Tryz.prog.underlying 306=some (.struct fs)):fs.toList.mapM (fun f=>(Tryz.prog.info? f.type).map fun i=>(f.offset,i.size))=some [(0,1),(1,1)]:=by rw [Tryz.underlying306] at h; simp only [Option.some.injEq,TypeDesc.struct.injEq] at h; subst h; kernel_rfl
theorem Bd309 {fs:Array Field} (h:Tryz.prog.underlying 309=some (.struct fs)):fs.toList.mapM (fun f=>(Tryz.prog.info? f.type).map fun i=>(f.offset,i.size))=some [(0,1),(1,1)]:=by rw [Tryz.underlying309] at h; simp only [Option.some.injEq,TypeDesc.struct.injEq] at h; subst h; kernel_rfl
theorem mixed:Tryz.prog.follows .mixedOrders=true:=by kernel_rfl
instance Al227:AlC Tryz.prog 227 (.agg (List.flatten [[I 0,I 0,I 0,I 0,I 0,.slice none 0 0,.slice none 0 0,.map none],encF (α:=Bool) (List.replicate 40 false)]).toArray):=⟨by kernel_rfl⟩
instance Al258:AlC Tryz.prog 258 (.agg (List.flatten [[I 0,.slice none 0 0],encF (α:=Int) (List.replicate 12 0)]).toArray):=⟨by kernel_rfl⟩
instance Al339:AlC Tryz.prog 339 (.agg (List.flatten [[],encF (α:=Int) (List.replicate 10 0)]).toArray):=⟨by kernel_rfl⟩

instance:BdC Tryz.prog 27 [(0,1),(1,1)]:=⟨_,Tryz.underlying27,Bd27 Tryz.underlying27⟩
instance:BdC Tryz.prog 31 [(0,2),(2,1),(3,1),(4,1),(5,1),(6,1)]:=⟨_,Tryz.underlying31,by kernel_rfl⟩
instance:BdC Tryz.prog 55 [(0,1),(1,1),(2,1),(3,1)]:=⟨_,Tryz.underlying55,Bd55 Tryz.underlying55⟩
instance:BdC Tryz.prog 58 [(0,1),(1,2)]:=⟨_,Tryz.underlying58,by kernel_rfl⟩
instance:BdC Tryz.prog 60 [(0,1),(1,1),(2,1),(3,1)]:=⟨_,Tryz.underlying60,by kernel_rfl⟩
instance:BdC Tryz.prog 66 [(0,1),(1,1)]:=⟨_,Tryz.underlying66,by kernel_rfl⟩
instance:BdC Tryz.prog 73 [(0,1),(1,1)]:=⟨_,Tryz.underlying73,by kernel_rfl⟩
instance:BdC Tryz.prog 75 [(0,1),(1,2),(3,2)]:=⟨_,Tryz.underlying75,by kernel_rfl⟩
instance:BdC Tryz.prog 77 [(0,1),(1,1),(2,1)]:=⟨_,Tryz.underlying77,by kernel_rfl⟩
instance:BdC Tryz.prog 89 [(0,1)]:=⟨_,Tryz.underlying89,by kernel_rfl⟩
instance:BdC Tryz.prog 95 [(0,1),(1,1)]:=⟨_,Tryz.underlying95,by kernel_rfl⟩
instance:BdC Tryz.prog 97 [(0,1),(1,1)]:=⟨_,Tryz.underlying97,by kernel_rfl⟩
instance:BdC Tryz.prog 99 [(0,1),(1,2)]:=⟨_,Tryz.underlying99,by kernel_rfl⟩
instance:BdC Tryz.prog 101 [(0,1),(1,1),(2,2),(4,1)]:=⟨_,Tryz.underlying101,by kernel_rfl⟩
instance:BdC Tryz.prog 119 [(0,1)]:=⟨_,Tryz.underlying119,by kernel_rfl⟩
instance:BdC Tryz.prog 124 [(0,1)]:=⟨_,Tryz.underlying124,by kernel_rfl⟩
instance:BdC Tryz.prog 128 [(0,1),(1,1),(2,1)]:=⟨_,Tryz.underlying128,by kernel_rfl⟩
instance:BdC Tryz.prog 133 [(0,1),(1,1)]:=⟨_,Tryz.underlying133,by kernel_rfl⟩
instance:BdC Tryz.prog 139 [(0,1),(1,1)]:=⟨_,Tryz.underlying139,by kernel_rfl⟩
instance:BdC Tryz.prog 146 [(0,1),(1,1),(2,1),(3,1),(4,2),(6,1)]:=⟨_,Tryz.underlying146,Bd146 Tryz.underlying146⟩
instance:BdC Tryz.prog 163 [(0,3),(3,1)]:=⟨_,Tryz.underlying163,by kernel_rfl⟩
instance:BdC Tryz.prog 168 [(0,4),(4,1)]:=⟨_,Tryz.underlying168,by kernel_rfl⟩
instance:BdC Tryz.prog 181 [(0,3),(3,1)]:=⟨_,Tryz.underlying181,by kernel_rfl⟩
instance:BdC Tryz.prog 183 [(0,1)]:=⟨_,Tryz.underlying183,by kernel_rfl⟩
instance:BdC Tryz.prog 189 [(0,1),(1,2)]:=⟨_,Tryz.underlying189,by kernel_rfl⟩
instance:BdC Tryz.prog 198 [(0,1),(1,1)]:=⟨_,Tryz.underlying198,Bd198 Tryz.underlying198⟩
instance:BdC Tryz.prog 200 [(0,2),(2,1)]:=⟨_,Tryz.underlying200,by kernel_rfl⟩
instance:BdC Tryz.prog 203 [(0,1),(1,1),(2,2),(4,1)]:=⟨_,Tryz.underlying203,by kernel_rfl⟩
instance:BdC Tryz.prog 207 [(0,1),(1,1),(2,2)]:=⟨_,Tryz.underlying207,by kernel_rfl⟩
instance:BdC Tryz.prog 211 [(0,1),(1,1),(2,1)]:=⟨_,Tryz.underlying211,by kernel_rfl⟩
instance:BdC Tryz.prog 219 [(0,1),(1,1),(2,1)]:=⟨_,Tryz.underlying219,by kernel_rfl⟩
instance:BdC Tryz.prog 221 [(0,1),(1,1)]:=⟨_,Tryz.underlying221,by kernel_rfl⟩
instance:BdC Tryz.prog 227 [(0,7),(7,1),(8,40)]:=⟨_,Tryz.underlying227,Bd227 Tryz.underlying227⟩
instance:BdC Tryz.prog 258 [(0,2),(2,12)]:=⟨_,Tryz.underlying258,Bd258 Tryz.underlying258⟩
instance:BdC Tryz.prog 266 [(0,7),(7,1)]:=⟨_,Tryz.underlying266,by kernel_rfl⟩
instance:BdC Tryz.prog 271 [(0,1),(1,1)]:=⟨_,Tryz.underlying271,by kernel_rfl⟩
instance:BdC Tryz.prog 306 [(0,1),(1,1)]:=⟨_,Tryz.underlying306,Bd306 Tryz.underlying306⟩
instance:BdC Tryz.prog 309 [(0,1),(1,1)]:=⟨_,Tryz.underlying309,Bd309 Tryz.underlying309⟩
instance:BdC Tryz.prog 314 [(0,1)]:=⟨_,Tryz.underlying314,by kernel_rfl⟩
instance:BdC Tryz.prog 319 [(0,1),(1,1),(2,2)]:=⟨_,Tryz.underlying319,by kernel_rfl⟩
theorem gdA339:Tryz.prog.eqGuardType Tryz.prog.depth 339=false:=by kernel_rfl
end Go.Proofs.YtbgoclcmgbpckabGreat
namespace Go.Nm
open Go
abbrev encSpt (x:Spot):Value:=.agg #[I x.sec,I x.stage]
abbrev encDm (d:Dem):Value:=.agg #[I d.spring,I d.town]
abbrev encFar (x:BFar):Value:=.agg #[I x.cost,I x.many,I x.way,B x.back]
theorem far_val (o:Option BFar):(o.map encFar).getD (.agg #[I 0,I 0,I 0,B false])=encFar (o.getD default):=by cases o <;> rfl
end Go.Nm
namespace Go.Proofs.YtbgoclcmgbpckabGreat
open Go Go.Nm Go.Proofs
/-- Nothing is kept here: no section of a river is asked. -/
def za3 (_:List Sect) (_:List Mrk) (_:List Rch) (_:Spot):M Int:=M.pure 0
theorem findAskDm {ν:Type} (k:Dem) (w:World):∀ (es:List MapEntry) (m:List (Dem × ν)) (venc:ν->Value) (j:Nat),es.map (fun e=>(e.key,e.val))=m.map (fun p=>(encDm p.1,venc p.2)) →
    (Instr.findAsking 271 (encDm k) es j).run Tryz.prog w = .ok ((idxM m k).bind fun i=>(es[i]?).map fun e=>(i+j,e.val)) w
  | [],[],_,_,_=>rfl
  | [],_ :: _,_,_,h=>by simp at h
  | _ :: _,[],_,_,h=>by simp at h
  | e :: es,p :: m,venc,j,h=>by
    simp only [List.map_cons,List.cons.injEq,Prod.mk.injEq] at h;have ih:=findAskDm k w es m venc (j+1) h.2;unfold Instr.findAsking;rw [h.1.1];have he:=eqT271 k p.1 w;unfold idxM;by_cases hp:p.1=k
    · rw [if_pos hp];have:decide (k=p.1)=true:=by simp [hp]
      rw [this] at he;simp [Op.equal,Op.maxDepth,he]
    · rw [if_neg hp];have:decide (k=p.1)=false:=by simp; exact fun e=>hp e.symm
      rw [this] at he;simp only [Op.equal,Op.maxDepth,Sem.run_bind,he,Result.andThen_ok,Bool.false_eq_true,if_false,ih];cases hi:idxM m k with
      | none=>rfl
      | some i =>
        simp only [Option.map_some,Option.bind_some,List.getElem?_cons_succ];cases es[i]? with
        | none=>rfl
        | some e'=>simp; omega
theorem keyDem {ν:Type}:KeyL (ν:=ν) Tryz.prog 271 encDm:=by
  refine ⟨fun e w k=>?_,fun w es m venc k h=>?_,fun k=>?_⟩
  · have u3:=Tryz.underlying3;have a3:=Tryz.isAgg3;have z3:=Tryz.sizeOf3;have h1:∀ (n:Nat) (x:Int),(Instr.checkKey e (n+1) 3 (I x)).run Tryz.prog w = .ok () w:=fun n x=>MapKept.run_checkKey u3 (show MapKept.IsKey (.int .i64) (I x) from rfl) e n;have key:∀ n:Nat,(Instr.checkKey e (n+1+1) 271 (encDm k)).run Tryz.prog w = .ok () w:=by
      intro n;rw [Instr.checkKey];simp only [Sem.run_bind,run_underlying Tryz.underlying271,Result.andThen_ok];rw [← Array.forIn_toList];simp only [List.forIn_cons,List.forIn_nil]
      go_simp
    exact key 9998
  · rw [run_findKey_eq w (by rw [Tryz.underlying271]),findAskDm k w es m venc 0 h];rfl
  · simp [Instr.sameBits]
end Go.Proofs.YtbgoclcmgbpckabGreat
