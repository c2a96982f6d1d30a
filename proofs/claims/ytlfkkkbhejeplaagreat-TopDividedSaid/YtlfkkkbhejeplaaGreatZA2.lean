/- Part 2 of the texts on which the proof rests. Conditions: none. -/
import Derived.Maps.RangeRun
import Derived.Laws.IdiomCopy
import Derived.Laws.CopyRow
import Derived.ScopeJumps
import Derived.Test.YtlfkkkbhejeplaaGreatProg
import Derived.WideKeyRuns
import Derived.Test.YtlfkkkbhejeplaaGreatZA1
set_option linter.unusedVariables false
set_option linter.unusedSimpArgs false
set_option linter.unusedSectionVars false
namespace Go.Nm
open Go
theorem mm_old (w:World) (o:Obj) {j:Nat} (h:j<w.heap.size):(w.alloc o).heap[j]?=w.heap[j]?:=by
  show (w.heap.push o)[j]?=_;rw [Array.getElem?_push,if_neg (by omega)]
/-! ### What is reckoned entry by entry -/
namespace M
variable {κ ν:Type}
def mapL (body:κ->ν->M ν):List (κ × ν)->M (List (κ × ν))
  | []=>pure []
  | p :: m=>bind (body p.1 p.2) fun v=>bind (mapL body m) fun m'=>pure ((p.1,v) :: m')
theorem mapL_at {body:κ->ν->M ν}:∀ {m m':List (κ × ν)},(mapL body m).Ends m'->m'.length=m.length/\∀ (i:Nat) (k:κ) (v:ν),m[i]?=some (k,v)->∃ v',(body k v).Ends v'/\m'[i]?=some (k,v')
  | [],m',h=>by
    obtain rfl:=e_pure h;exact ⟨rfl,fun i k v h=>by simp at h⟩
  | p :: m,m',h=>by
    obtain ⟨v1,h1,h⟩:=e_bind h;obtain ⟨m1,h2,h⟩:=e_bind h;obtain rfl:=e_pure h;obtain ⟨l,ih⟩:=mapL_at h2;refine ⟨by simp [l],fun i k v hi=>?_⟩;cases i with
    | zero =>
      simp only [List.getElem?_cons_zero,Option.some.injEq] at hi;subst hi;exact ⟨v1,h1,rfl⟩
    | succ i=>exact ih i k v (by simpa using hi)
end M
theorem setM_keys {κ ν:Type} [DecidableEq κ]:∀ (m:List (κ × ν)) (k:κ) (v:ν),(setM m k v).map Prod.fst=if k∈m.map Prod.fst then m.map Prod.fst else m.map Prod.fst++[k]
  | [],k,v=>by simp [setM]
  | p :: m,k,v=>by
    have ih:=setM_keys m k v;unfold setM;by_cases h:p.1=k
    · rw [if_pos h]; simp [h]
    · rw [if_neg h,List.map_cons,ih];simp only [List.map_cons,List.mem_cons,Ne.symm h,false_or];split <;> simp
theorem setM_once {κ ν:Type} [DecidableEq κ] {m:List (κ × ν)} (h:(m.map Prod.fst).Nodup) (k:κ) (v:ν):((setM m k v).map Prod.fst).Nodup:=by
  rw [setM_keys];split
  · exact h
  · rename_i hk
    rw [List.nodup_append];refine ⟨h,by simp,fun a ha b hb e=>?_⟩;simp only [List.mem_singleton] at hb;subst hb e;exact hk ha
theorem idxM_at {κ ν:Type} [DecidableEq κ]:∀ {m:List (κ × ν)} {i:Nat} {k:κ} {v:ν},(m.map Prod.fst).Nodup->m[i]?=some (k,v)->idxM m k=some i
  | [],i,k,v,_,h=>by simp at h
  | p :: m,i,k,v,hn,h=>by
    rw [List.map_cons,List.nodup_cons] at hn;unfold idxM;cases i with
    | zero =>
      simp only [List.getElem?_cons_zero,Option.some.injEq] at h;rw [if_pos (by rw [h])]
    | succ i =>
      simp only [List.getElem?_cons_succ] at h;have hk:p.1 ≠ k:=fun e=>hn.1 (by rw [e]; exact List.mem_map.2 ⟨_,List.mem_of_getElem? h,rfl⟩);rw [if_neg hk,idxM_at hn.2 h];rfl
/-! ### In memory -/
section
variable {κ ν:Type} [DecidableEq κ] {kenc:κ->Value} {venc:ν->Value}
def cMl (kenc:κ->Value) (venc:ν->Value) (b:Nat) (m:List (κ × ν)):Chunk where
  D k:=k=b
  ex:=true
  ok w:=∃ es n,w.heap[b]?=some (.map es n)/\MapL kenc venc es n m/\(m.map Prod.fst).Nodup
  st w w':=fun ⟨es,n,h1,h2⟩ _ k=>⟨es,n,(k b rfl).trans h1,h2⟩
  bd w k:=fun ⟨_,_,h,_⟩ e=>by rw [e]; exact heap_lt h
theorem MapL.toR {es:Array MapEntry} {n:Nat} {m:List (κ × ν)} (h:MapL kenc venc es n m):MapR kenc venc es n (lookM m):=⟨⟨m,h.1,fun _=>rfl⟩,h.2⟩
theorem mlMap {w:World} {b:Nat} {m:List (κ × ν)} (h:(cMl kenc venc b m).ok w):(cMap kenc venc b (lookM m)).ok w:=by
  obtain ⟨es,n,h1,h2,_⟩:=h;exact ⟨es,n,h1,h2.toR⟩
/-- A map that is gone through: which entries are left, and which one came last. -/
def cIt (kenc:κ->Value) (venc:ν->Value) (b r:Nat) (m:List (κ × ν)) (left:List Bool) (last:Option Nat):Chunk where
  D k:=k=b∨k=r
  ex:=true
  ok w:=∃ (es:Array MapEntry) (n since:Nat) (seen:Array Nat) (c0:Nat),w.heap[b]?=some (.map es n)/\w.heap[r]?=some (.mapIter (some b) since seen c0)/\MapL kenc venc es n m/\(m.map Prod.fst).Nodup/\(∀ e∈es.toList,e.born<since)/\since<=c0/\since<=n ∧
    left=es.toList.map (fun e=>!seen.contains e.born)/\∀ i,last=some i->c0=n/\∃ (e:MapEntry) (seen0:Array Nat),es.toList[i]?=some e/\seen=seen0.push e.born
  st w w':=fun ⟨es,n,since,seen,c0,h1,h2,h3⟩ _ k=>⟨es,n,since,seen,c0,(k b (.inl rfl)).trans h1,(k r (.inr rfl)).trans h2,h3⟩
  bd w k:=fun ⟨_,_,_,_,_,h1,h2,_⟩ e=>by
    rcases e with e | e
    · rw [e]; exact heap_lt h1
    · rw [e]; exact heap_lt h2
variable {P:Program} {w w0:World} {L L' R:List Chunk} {t kt et:TypeId} {b r:Nat} {es:Array MapEntry} {clk:Nat} {m:List (κ × ν)}
theorem run_putL (K:KeyL (ν:=ν) P kt kenc) (ht:P.underlying t=some (.map kt et)) (hb:w.heap[b]?=some (.map es clk)) (hm:MapL kenc venc es clk m) (k:κ) (v:ν) :
    ∃ es' clk' w',(Instr.mapUpdate t (.map (some b)) (kenc k) (venc v)).run P w = .ok () w'/\Put w b (.map es' clk') w'/\MapL kenc venc es' clk' (setM m k v)/\(∀ i,idxM m k=some i->es'.toList.map (·.born)=es.toList.map (·.born)/\clk'=clk):=by
  obtain ⟨h1,h3,h4⟩:=hm;have hf:=K.find w es.toList m venc k h1;cases hi:idxM m k with
  | none =>
    rw [hi] at hf;refine ⟨es.push { key:=kenc k,val:=venc v,born:=clk },clk+1,_,?_,Put.setMap _ hb (by simp) rfl,⟨?_,?_,?_⟩,fun i h=>by cases h⟩
    · simp [Instr.mapUpdate,run_underlying ht,MapKept.run_getObj_map hb,K.check,hf,MapKept.run_setObj_map _ hb]
    · rw [setM_none v hi];simp [h1]
    · simp only [Array.toList_push,List.map_append,List.map_cons,List.map_nil];rw [List.nodup_append];refine ⟨h3,by simp,fun a ha c hc=>?_⟩;simp at hc;subst hc;obtain ⟨e,he,rfl⟩:=List.mem_map.1 ha;have:=h4 e he;omega
    · intro e he;simp only [Array.toList_push,List.mem_append,List.mem_singleton] at he;rcases he with he | rfl
      · have:=h4 e he; omega
      · simp
  | some i =>
    obtain ⟨v0,hv,hl⟩:=idxM_some hi;have he:∃ e,es.toList[i]?=some e/\e.key=kenc k:=by
      have h3:(es.toList.map (fun e=>(e.key,e.val)))[i]?=(m.map (fun p=>(kenc p.1,venc p.2)))[i]?:=by rw [h1]
      rw [List.getElem?_map,List.getElem?_map,hv] at h3;cases he:es.toList[i]? with
      | none=>rw [he] at h3; simp at h3
      | some e=>rw [he] at h3; simp at h3; exact ⟨e,rfl,h3.1⟩
    obtain ⟨e,he1,he2⟩:=he;have he1':es[i]?=some e:=by simpa using he1
    rw [hi] at hf;simp only [Option.bind_some,he1,Option.map_some] at hf;have hk:(Instr.keyThatStays (((es[i]?).map (·.key)).getD (kenc k)) (kenc k)).run P w = .ok (kenc k) w:=by
      simp [he1',Instr.keyThatStays,he2,K.same]
    have hbn:(es.modify i fun e=>{ e with key:=kenc k,val:=venc v }).toList.map (·.born)=es.toList.map (·.born):=by
      apply List.ext_getElem?;intro j;simp only [List.getElem?_map,Array.getElem?_toList,Array.getElem?_modify];by_cases hij:i=j
      · subst hij; simp [he1']
      · simp [hij]
    refine ⟨es.modify i fun e=>{ e with key:=kenc k,val:=venc v },clk,_,?_,Put.setMap _ hb (by simp) rfl,⟨?_,?_,?_⟩,fun _ _=>⟨hbn,rfl⟩⟩
    · simp [Instr.mapUpdate,run_underlying ht,MapKept.run_getObj_map hb,K.check,hf,hk,MapKept.run_setObj_map _ hb]
    · rw [setM_some v hi];apply List.ext_getElem?;intro j;have hj:(es.toList.map (fun e=>(e.key,e.val)))[j]?=(m.map (fun p=>(kenc p.1,venc p.2)))[j]?:=by rw [h1]
      simp only [List.getElem?_map,Array.getElem?_toList,Array.getElem?_modify,List.getElem?_set] at hj ⊢;by_cases hij:i=j
      · subst hij;have hlt:=(List.getElem?_eq_some_iff.1 hv).1;simp [he1',hlt]
      · simp [hij,hj]
    · rw [hbn]; exact h3
    · intro e' he';have:e'.born∈es.toList.map (·.born):=by rw [← hbn]; exact List.mem_map.2 ⟨e',he',rfl⟩
      obtain ⟨e2,h5,h6⟩:=List.mem_map.1 this;rw [← h6];exact h4 e2 h5
variable {all rest:List Oper} {Q:Post} {σ:Env} {d:Nat} {ty:TypeId} {pos:String} {af:Array Edge} {g:Option (Nat × Bool)}
omit [DecidableEq κ] in theorem t_mkMl {t':TypeId} (kenc:κ->Value) (venc:ν->Value) (H:St w0 w L R) (k:∀ b w',St w0 w' (cMl kenc venc b [] :: L) R->SL P all Q rest (upd σ d (.map (some b))) w'):SL P all Q (⟨some d,.makeMap t' none,ty,pos,af,none⟩ :: rest) σ w :=
  s_mkmap fun b w' hn=>k b w' (H.push (c:=cMl kenc venc b []) hn.ext ⟨_,_,hn.same,⟨rfl,List.nodup_nil,fun e h=>by simp at h⟩,List.nodup_nil⟩ (fun j hj=>by rw [show j=b from hj]; exact hn.ge))
theorem t_putMl {dst:Option Nat} {x y u:Operand} {i:Nat} (K:KeyL (ν:=ν) P kt kenc) (ht:P.underlying t=some (.map kt et)) (H:St w0 w L R) (hk:L[i]?=some (cMl kenc venc b m)) (hx:ev σ x = .map (some b)) {k:κ} (hy:ev σ y=kenc k) {v:ν} (hu:ev σ u=venc v)
    (hL:L.set i (cMl kenc venc b (setM m k v))=L') (kk:∀ w',St w0 w' L' R->SL P all Q rest (updo σ dst undef) w'):SL P all Q (⟨dst,.mapUpdate t x y u,ty,pos,af,none⟩ :: rest) σ w:=by
  obtain ⟨es,n,h1,h2,hn⟩:=H.get hk;obtain ⟨es',clk',w',hr,hp,hm',_⟩:=run_putL (w:=w) K ht h1 h2 k v;refine s_skp (w':=w') ?_ (kk _ (H.set (c':=cMl kenc venc b (setM m k v)) hk rfl hp.keep (fun i _ hne=>hp.other i hne) (fun i hi=>.inl hi) ⟨es',clk',hp.same,hm',setM_once hn k v⟩ hL));simp [execOp,hx,hy,hu,hr]
/-- The loop over a map begins. -/
theorem t_range {x:Operand} {i:Nat} (ht:P.underlying t=some (.map kt et)) (H:St w0 w L R) (hk:L[i]?=some (cMl kenc venc b m)) (hx:ev σ x = .map (some b))
    (kk:∀ r w',St w0 w' (L.set i (cIt kenc venc b r m (List.replicate m.length true) none)) R->SL P all Q rest (upd σ d (.pointer (some ⟨r,0,none⟩))) w'):SL P all Q (⟨some d,.range t x,ty,pos,af,none⟩ :: rest) σ w:=by
  obtain ⟨es,n,h1,h2,hn⟩:=H.get hk;have hr:=run_range_map (P:=P) w t kt et b es n ht h1;refine s_any (v:=.pointer (some ⟨w.heap.size,0,none⟩)) (w':=w.alloc (.mapIter (some b) n #[] n)) (by simp [execOp,hx,hr]) (kk _ _ ?_);have hx:Ext w (w.alloc (.mapIter (some b) n #[] n)):=⟨rfl,rfl,by show w.heap.size<=(w.heap.push _).size; simp,fun j hj=>mm_old w _ hj,fun a=>by
    unfold World.frozen?;by_cases e:a.block<w.heap.size
    · rw [mm_old w _ e]
    · by_cases e2:a.block=w.heap.size
      · rw [e2,heap_alloc_new]; simp
      · have:(w.alloc (.mapIter (some b) n #[] n)).heap[a.block]?=none:=by
          rw [Array.getElem?_eq_none]; show (w.heap.push _).size<=_; rw [Array.size_push]; omega
        rw [this,Array.getElem?_eq_none (by omega)]⟩
  have hlen:es.toList.length=m.length:=by have:=congrArg List.length h2.1; simpa using this
  refine H.set (c':=cIt kenc venc b w.heap.size m (List.replicate m.length true) none) hk rfl hx.keep (fun j hj _=>hx.blk j hj) (fun j hj=>?_) ⟨es,n,n,#[],n,(hx.blk b (heap_lt h1)).trans h1,heap_alloc_new w _,h2,hn,h2.2.2,Nat.le_refl _,Nat.le_refl _,?_,fun i h=>by cases h⟩ rfl
  · rcases hj with hj | hj
    · exact .inl hj
    · exact .inr (by omega)
  · rw [← hlen];apply List.ext_getElem?;intro j;rw [List.getElem?_replicate,List.getElem?_map];split
    · rename_i hj
      rw [List.getElem?_eq_getElem hj];simp
    · rename_i hj
      rw [List.getElem?_eq_none (by omega)];rfl
/-- The next entry: none is left, or one of those that are. -/
theorem t_next {x:Operand} {i:Nat} {left:List Bool} {last:Option Nat} (H:St w0 w L R) (hk:L[i]?=some (cIt kenc venc b r m left last)) (hx:ev σ x = .pointer (some ⟨r,0,none⟩))
    (h0:(∀ j:Nat,left.getD j false=false)->SL P all Q rest (upd σ d (.tuple #[.bool false])) w)
    (h1:∀ (j:Nat) (k:κ) (v:ν) w',left.getD j false=true->m[j]?=some (k,v)->St w0 w' (L.set i (cIt kenc venc b r m (left.set j false) (some j))) R->SL P all Q rest (upd σ d (.tuple #[.bool true,kenc k,venc v])) w') :
    SL P all Q (⟨some d,.next x false,ty,pos,af,none⟩ :: rest) σ w:=by
  obtain ⟨es,n,since,seen,c0,hb,hr,hm,hn,hold,hsc,hsn,hleft,hlast⟩:=H.get hk;have hlen:es.toList.length=m.length:=by have:=congrArg List.length hm.1; simpa using this
  have hget:∀ j:Nat,left.getD j false=((es.toList[j]?).map fun e=>!seen.contains e.born).getD false:=fun j=>by
    rw [hleft,List.getD_eq_getElem?_getD,List.getElem?_map]
  rcases run_next_at (P:=P) w ty r b since c0 seen es n hr hb hold hsc with ⟨hz,hrun⟩ | ⟨e,he,w1,hw1,hrun⟩
  · refine s_any (v:=.tuple #[.bool false]) (w':=w) (by simp [execOp,hx,hrun]) (h0 fun j=>?_);rw [hget];cases hj:es.toList[j]? with
    | none=>rfl
    | some e =>
      simp only [Option.map_some,Option.getD_some];cases hc:seen.contains e.born with
      | true=>rfl
      | false =>
        have hm:e∈leftOf es seen:=Array.mem_filter.2 ⟨Array.mem_toList_iff.1 (List.mem_of_getElem? hj),by rw [hc]; rfl⟩;have:=Array.size_pos_of_mem hm;omega
  · obtain ⟨hes,hse⟩:=mem_left he;obtain ⟨j,hj⟩:=List.getElem?_of_mem hes;have hjl:j<es.toList.length:=(List.getElem?_eq_some_iff.1 hj).1;have hmj:∃ k v,m[j]?=some (k,v)/\e.key=kenc k/\e.val=venc v:=by
      have h3:(es.toList.map (fun e=>(e.key,e.val)))[j]?=(m.map (fun p=>(kenc p.1,venc p.2)))[j]?:=by rw [hm.1]
      rw [List.getElem?_map,List.getElem?_map,hj] at h3;cases hq:m[j]? with
      | none=>rw [hq] at h3; simp at h3
      | some q=>rw [hq] at h3; simp at h3; exact ⟨q.1,q.2,rfl,h3.1,h3.2⟩
    obtain ⟨k,v,hk1,hk2,hk3⟩:=hmj;rw [hk2,hk3] at hrun;refine s_any (v:=.tuple #[.bool true,kenc k,venc v]) (w':=ChangeMaps.setBlock w1 r (.mapIter (some b) since (seen.push e.born) n)) (by simp [execOp,hx,hrun]) (h1 j k v _ ?_ hk1 ?_)
    · rw [hget,hj];simp only [Option.map_some,Option.getD_some,hse];rfl
    · have hw:w1.heap=w.heap/\w1.os=w.os/\w1.output=w.output:=by rcases hw1 with rfl | rfl <;> exact ⟨rfl,rfl,rfl⟩
      have hrl:=heap_lt hr;have hsame:(ChangeMaps.setBlock w1 r (.mapIter (some b) since (seen.push e.born) n)).heap[r]?=some (.mapIter (some b) since (seen.push e.born) n):=by
        show (w1.heap.setIfInBounds r _)[r]?=_;rw [Array.getElem?_setIfInBounds_self_of_lt (by rw [hw.1]; exact hrl)]
      have hoth:∀ q,q ≠ r->(ChangeMaps.setBlock w1 r (.mapIter (some b) since (seen.push e.born) n)).heap[q]?=w.heap[q]?:=fun q hq=>by
        show (w1.heap.setIfInBounds r _)[q]?=_;rw [Array.getElem?_setIfInBounds_ne (Ne.symm hq),hw.1]
      have hbr:b ≠ r:=fun e=>by rw [e,hr] at hb; cases hb
      refine H.set (c':=cIt kenc venc b r m (left.set j false) (some j)) hk rfl ⟨hw.2.1,hw.2.2,by show _<=(w1.heap.setIfInBounds r _).size; rw [Array.size_setIfInBounds,hw.1]; exact Nat.le_refl _⟩ (fun q _ hq=>hoth q (fun e=>hq (.inr e))) (fun q hq=>.inl hq)
        ⟨es,n,since,seen.push e.born,n,(hoth b hbr).trans hb,hsame,hm,hn,hold,hsn,hsn,?_,fun q hq=>?_⟩ rfl
      · rw [hleft];apply List.ext_getElem?;intro q;rw [List.getElem?_set,List.getElem?_map,List.getElem?_map,List.length_map];by_cases hq:j=q
        · subst hq;rw [if_pos rfl,if_pos hjl,hj];simp
        · rw [if_neg hq];cases hq2:es.toList[q]? with
          | none=>rfl
          | some e2 =>
            have hne:e2.born ≠ e.born:=fun h4=>by
              have hnd:=hm.2.1;have hql:q<es.toList.length:=(List.getElem?_eq_some_iff.1 hq2).1;have a1:(es.toList.map (·.born))[q]?=(es.toList.map (·.born))[j]?:=by rw [List.getElem?_map,List.getElem?_map,hq2,hj]; simp [h4]
              exact hq ((List.getElem?_inj (by simpa using hql) hnd).1 a1).symm
            simp only [Option.map_some]
            congr 1
            rw [Array.contains_push];simp [hne]
      · injection hq with hq
        subst hq;exact ⟨rfl,e,seen,hj,rfl⟩
/-- The entry that came last. -/
theorem x_entry {x:Operand} {left:List Bool} {j:Nat} {k:κ} {v:ν} (ho:(cIt kenc venc b r m left (some j)).ok w) (hj:m[j]?=some (k,v)) (hx:ev σ x = .pointer (some ⟨r,0,none⟩)) :
    (execOp (ev σ) ⟨some d,.entry x,ty,pos,af,g⟩).run P w = .ok (.value (.tuple #[kenc k,venc v])) w:=by
  obtain ⟨es,n,since,seen,c0,hb,hr,hm,hn,hold,hsc,hsn,hleft,hlast⟩:=ho;obtain ⟨rfl,e,seen0,he,rfl⟩:=hlast j rfl;have hrun:=run_entry_at (P:=P) w r b since seen0 es _ e hr hb (List.mem_of_getElem? he) hm.2.1;have h3:(es.toList.map (fun e=>(e.key,e.val)))[j]?=(m.map (fun p=>(kenc p.1,venc p.2)))[j]?:=by rw [hm.1]
  rw [List.getElem?_map,List.getElem?_map,he,hj] at h3;simp only [Option.map_some,Option.some.injEq,Prod.mk.injEq] at h3;rw [h3.1,h3.2] at hrun;simp [execOp,hx,hrun]
/-- An entry is turned while the map is gone through. -/
theorem t_putIt {dst:Option Nat} {x y u:Operand} {i j:Nat} {left:List Bool} {last:Option Nat} (K:KeyL (ν:=ν) P kt kenc) (ht:P.underlying t=some (.map kt et)) (H:St w0 w L R) (hk:L[i]?=some (cIt kenc venc b r m left last)) (hx:ev σ x = .map (some b)) {k:κ} {v0:ν} (hj:m[j]?=some (k,v0)) (hy:ev σ y=kenc k) {v:ν} (hu:ev σ u=venc v)
    (hL:L.set i (cIt kenc venc b r (m.set j (k,v)) left last)=L') (kk:∀ w',St w0 w' L' R->SL P all Q rest (updo σ dst undef) w'):SL P all Q (⟨dst,.mapUpdate t x y u,ty,pos,af,none⟩ :: rest) σ w:=by
  obtain ⟨es,n,since,seen,c0,hb,hr,hm,hn,hold,hsc,hsn,hleft,hlast⟩:=H.get hk;obtain ⟨es',clk',w',hrun,hp,hm',hq_⟩:=run_putL (w:=w) K ht hb hm k v;have hi:=idxM_at hn hj;obtain ⟨hbn,rfl⟩:=hq_ j hi;rw [setM_some v hi] at hm';have hbr:r ≠ b:=fun e=>by rw [e,hb] at hr; cases hr
  have hmem:∀ e∈es'.toList,e.born<since:=fun e he=>by
    have:e.born∈es.toList.map (·.born):=by rw [← hbn]; exact List.mem_map.2 ⟨e,he,rfl⟩
    obtain ⟨e2,h5,h6⟩:=List.mem_map.1 this;rw [← h6];exact hold e2 h5
  refine s_skp (w':=w') (by simp [execOp,hx,hy,hu,hrun]) (kk _ (H.set (c':=cIt kenc venc b r (m.set j (k,v)) left last) hk rfl hp.keep (fun q _ hq=>hp.other q (fun e=>hq (.inl e))) (fun q hq=>.inl hq)
    ⟨es',clk',since,seen,c0,hp.same,(hp.other r hbr).trans hr,hm',?_,hmem,hsc,hsn,?_,fun q hq=>?_⟩ hL))
  · have:=setM_once hn k v
    rwa [setM_some v hi] at this
  · rw [hleft];have e1:∀ l:List MapEntry,l.map (fun e=>!seen.contains e.born)=(l.map (·.born)).map (fun q=>!seen.contains q):=fun l=>by rw [List.map_map]; rfl
    rw [e1,e1,hbn]
  · obtain ⟨h1,e,seen0,h2,h3⟩:=hlast q hq;have h4:(es'.toList.map (·.born))[q]?=(es.toList.map (·.born))[q]?:=by rw [hbn]
    rw [List.getElem?_map,List.getElem?_map,h2] at h4;cases h5:es'.toList[q]? with
    | none=>rw [h5] at h4; simp at h4
    | some e2 =>
      rw [h5] at h4;simp only [Option.map_some,Option.some.injEq] at h4;exact ⟨h1,e2,seen0,rfl,by rw [h4]; exact h3⟩
/-- The loop is over. -/
theorem St.itEnd {i:Nat} {left:List Bool} {last:Option Nat} (H:St w0 w L R) (hk:L[i]?=some (cIt kenc venc b r m left last)) (hL:L.set i (cMl kenc venc b m)=L'):St w0 w L' R:=by
  obtain ⟨es,n,since,seen,c0,hb,hr,hm,hn,_⟩:=H.get hk;exact H.set (c':=cMl kenc venc b m) hk rfl (Keep.refl w) (fun _ _ _=>rfl) (fun q hq=>.inl (.inl hq)) ⟨es,n,hb,hm,hn⟩ hL
end
/-- How far a loop over a map has come: what is left is as it was, what was met is as it will be. -/
def ItR {κ ν:Type} (m m' m1:List (κ × ν)) (left:List Bool):Prop:=m1.length=m.length/\m'.length=m.length/\left.length=m.length/\∀ i,i<m.length->m1[i]?=if left.getD i false then m[i]? else m'[i]?
namespace ItR
variable {κ ν:Type} {m m' m1:List (κ × ν)} {left:List Bool} {body:κ->ν->M ν}
theorem init (h:(M.mapL body m).Ends m'):ItR m m' m (List.replicate m.length true) :=
  ⟨rfl,(M.mapL_at h).1,by simp,fun i hi=>by rw [List.getD_eq_getElem?_getD,List.getElem?_replicate,if_pos hi]; rfl⟩
theorem fin (h:ItR m m' m1 left) (hl:∀ j:Nat,left.getD j false=false):m1=m':=by
  apply List.ext_getElem?;intro i;by_cases hi:i<m.length
  · rw [h.2.2.2 i hi,hl i]; rfl
  · rw [List.getElem?_eq_none (by have:=h.1; omega),List.getElem?_eq_none (by have:=h.2.1; omega)]
theorem lt (h:ItR m m' m1 left) {j:Nat} (hj:left.getD j false=true):j<m.length:=by
  rw [← h.2.2.1];refine Nat.lt_of_not_le fun hn=>?_;rw [List.getD_eq_getElem?_getD,List.getElem?_eq_none hn] at hj;cases hj
theorem at_ (h:ItR m m' m1 left) (hb:(M.mapL body m).Ends m') {j:Nat} {k:κ} {v:ν} (hj:left.getD j false=true) (hm:m1[j]?=some (k,v)):∃ v',(body k v).Ends v'/\m'[j]?=some (k,v'):=by
  have:=h.2.2.2 j (h.lt hj);rw [hj,hm] at this;exact (M.mapL_at hb).2 j k v (by simpa using this.symm)
theorem step (h:ItR m m' m1 left) {j:Nat} {k:κ} {v v':ν} (hj:left.getD j false=true) (hm:m1[j]?=some (k,v)) (hv:m'[j]?=some (k,v')):ItR m m' (m1.set j (k,v')) (left.set j false):=by
  have hjl:=h.lt hj;have hl:=h.2.2.1;have h1:=h.1;refine ⟨by rw [List.length_set]; exact h.1,h.2.1,by rw [List.length_set]; exact h.2.2.1,fun i hi=>?_⟩;by_cases e:j=i
  · subst e;rw [List.getElem?_set_self (by omega),List.getD_eq_getElem?_getD,List.getElem?_set_self (by omega),hv];rfl
  · rw [List.getElem?_set_ne e,List.getD_eq_getElem?_getD,List.getElem?_set_ne e,← List.getD_eq_getElem?_getD];exact h.2.2.2 i hi
theorem keep (h:ItR m m' m1 left) {j:Nat} {k:κ} {v:ν} (hj:left.getD j false=true) (hm:m1[j]?=some (k,v)) (hv:m'[j]?=some (k,v)):ItR m m' m1 (left.set j false):=by
  have:=h.step hj hm hv
  rwa [show m1.set j (k,v)=m1 from by
    obtain ⟨hl,e⟩:=List.getElem?_eq_some_iff.1 hm;rw [← e,List.set_getElem_self]] at this
theorem less {j:Nat} (hj:left.getD j false=true):(left.set j false).count true<left.count true:=by
  have hl:j<left.length:=Nat.lt_of_not_le fun hn=>by
    rw [List.getD_eq_getElem?_getD,List.getElem?_eq_none hn] at hj;cases hj
  have hg:left[j]=true:=by
    rw [List.getD_eq_getElem?_getD,List.getElem?_eq_getElem hl] at hj;exact hj
  rw [List.count_set hl,hg];have:0<left.count true:=List.count_pos_iff.2 (by rw [← hg]; exact List.getElem_mem hl);simp;omega
end ItR
end Go.Nm
namespace Go.Nm
open Go
section
variable {κ ν:Type} [DecidableEq κ] {kenc:κ->Value} {venc:ν->Value} {P:Program} {w w0:World} {L L' R:List Chunk} {t kt et:TypeId} {b:Nat} {m:List (κ × ν)}
variable {all rest:List Oper} {Q:Post} {σ:Env} {ty:TypeId} {pos:String} {af:Array Edge}
theorem t_insMl {dst:Option Nat} {x y u:Operand} {i:Nat} (K:KeyL (ν:=ν) P kt kenc) (ht:P.underlying t=some (.map kt et)) (H:St w0 w L R) (hk:L[i]?=some (cMl kenc venc b m)) (hx:ev σ x = .map (some b)) {k:κ} (hy:ev σ y=kenc k) {v:ν} (hu:ev σ u=venc v)
    (hL:L.set i (cMl kenc venc b (setM m k v))=L') (kk:∀ w',St w0 w' L' R->SL P all Q rest (updo σ dst undef) w'):SL P all Q (⟨dst,.insert t x y u,ty,pos,af,none⟩ :: rest) σ w:=by
  obtain ⟨es,n,h1,h2,hn⟩:=H.get hk;obtain ⟨es',clk',w',hr,hp,hm',_⟩:=run_putL (w:=w) K ht h1 h2 k v;refine s_skp (w':=w') ?_ (kk _ (H.set (c':=cMl kenc venc b (setM m k v)) hk rfl hp.keep (fun i _ hne=>hp.other i hne) (fun i hi=>.inl hi) ⟨es',clk',hp.same,hm',setM_once hn k v⟩ hL));simp [execOp,hx,hy,hu,hr]
end
end Go.Nm
namespace Go.Nm
open Go
section
variable {P:Program} {w w0:World}
theorem Sl.flat {α:Type} [Flat α] {C:Cells} {v:Value} {l:List α} (h:Sl C v l) (hle:C.Le w.cell?) (h0:l ≠ []):∃ b o c,v = .slice (some ⟨b,o,none⟩) l.length c/\∀ j u,(l.flatMap Flat.enc:List Value)[j]?=some u->w.cell? ((⟨b,o,none⟩:Addr).add j)=some u:=by
  obtain ⟨a,c,hv,hlc,hcm,hh⟩:=h.ex;have hpos:0<l.length:=List.length_pos_iff.2 h0;obtain ⟨b,o,cs0,ha,_,_⟩:=hh 0 l[0] (by simp);subst ha;refine ⟨b,o,c,hv,fun j u hj=>?_⟩;obtain ⟨k,x,r,hk,hr,hjk⟩:=flat_inv l j u hj;obtain ⟨b',o',cs,hab,hrep,hy⟩:=hh k x hk;have hcs:=Flat.rep_iff.1 hrep;subst hcs;simp only [Option.some.injEq,Addr.mk.injEq,and_true] at hab;obtain ⟨rfl,rfl⟩:=hab;rw [add_lit,hjk];have:=hle _ _ (hy r u hr)
  rwa [Nat.add_assoc] at this
theorem run_app3 {α:Type} [Flat α] {t ty e by':Nat} {z:Value} (T:SlT P t e (Elt.sz α) by' z) {a:Option Addr} {vy:Value} {l l2:List α} {C D:Cells} (hu:Sl C (.slice a l.length l.length) l) (hlu:C.Le w.cell?) (hs:Sl D vy l2) (hle:D.Le w.cell?)
    (h0:l ≠ []) (h2:l2 ≠ []) (hn:(l.length+l2.length)*by'<=140737488355328) (h63:l.length+l2.length<=9223372036854775807) :
    ∃ v' w',(Builtin.append_ #[t,t] ty #[.slice a l.length l.length,vy]).run P w = .ok v' w'/\OwnF w.heap.size e w' v' (l++l2)/\Ext w w':=by
  obtain ⟨i,hi,hz,hsz,hby⟩:=T.parts;obtain ⟨b,o,c,hv,holds⟩:=hu.flat hlu h0;obtain ⟨b2,o2,c2,hv2,hnews⟩:=hs.flat hle h2;injection hv with ha hc1 hc2
  subst ha hv2;have hl2:=flat_len l2;have hl:=flat_len l;have hp2:0<l2.length:=List.length_pos_iff.2 h2;have hr:=run_append_grow (P:=P) w t ty e i z T.und hi hz ⟨b,o,none⟩ l.length l.length (l.flatMap Flat.enc) (by rw [hl,hsz]) holds ⟨b2,o2,none⟩ l2.length c2 (l2.flatMap Flat.enc) (by rw [hl2,hsz]) hnews (by omega) (by omega)
    (growslice_fits (by omega) (by rw [hby]; exact hn))
  refine ⟨_,_,hr,?_,(Ext.drew w).trans (Ext.allocCells w.drew _ _)⟩;have hge:=grownCap_ge w (l.length+l2.length) l.length e;have hcm:grownCap w (l.length+l2.length) l.length e<=maxLen:=grownCap_le_maxLen w (l.length+l2.length) l.length e (by simpa [maxLen] using h63);have hlen:((l++l2).flatMap Flat.enc:List Value).length=(l.length+l2.length)*Elt.sz α:=by rw [flat_len,List.length_append]
  refine ⟨by rw [flat_len],.inr ⟨w.heap.size,_,_,by rw [List.length_append],Nat.le_refl _,heap_alloc_new w.drew _,by rw [List.length_append]; exact hge,hcm,?_,?_⟩⟩
  · simp only [Array.size_append,List.size_toArray,size_zeroCells,T.zs,hl,hl2,← Nat.add_mul]
    congr 1
    omega
  · rw [List.length_append,← hlen,List.flatMap_append];simp only [Array.toList_append];exact List.take_left
theorem sl_full {α:Type} [Elt α] {t e:TypeId} (hu:P.underlying t=some (.slice e)) (hs:(P.info? e).map (·.size)=some (Elt.sz α)) {C:Cells} {v:Value} {l:List α} (h:Sl C v l) {j:Int} (hj:j=l.length) :
    ∃ a,(∀ w,(Instr.sliceAt t v none (some (.int .i64 j)) (some (.int .i64 j))).run P w = .ok (.slice a l.length l.length) w)/\Sl C (.slice a l.length l.length) l:=by
  obtain ⟨a,c,hv,hc,hm,hh⟩:=h.ex;refine ⟨if l.length=0 then a else a.map (·.add (0*Elt.sz α)),fun w=>?_,⟨_,l.length,rfl,Nat.le_refl _,by omega,fun k x hx=>?_⟩⟩
  · subst hv hj;have hjc:(l.length:Int)<=(c:Int):=by omega
    simp [Instr.sliceAt,Instr.slice,Instr.sliceBounds,Instr.sliceBound,asIntOf,run_underlying hu,run_sizeOf hs,hjc];intro h_;exact absurd h_ (by omega)
  · obtain ⟨b,o,cs,ha,hr,hy⟩:=hh k x hx;refine ⟨b,o,cs,?_,hr,hy⟩;have:k<l.length:=(List.getElem?_eq_some_iff.1 hx).1;rw [if_neg (by omega),ha];simp [add_lit]
variable {all rest:List Oper} {Q:Post} {σ:Env} {d:Nat} {ty:TypeId} {pos:String} {af:Array Edge} {L L' R:List Chunk}
theorem t_app3 {α:Type} [Flat α] {t e by':Nat} {z:Value} {x y:Operand} (T:SlT P t e (Elt.sz α) by' z) {a:Option Addr} {vy:Value} {l l2:List α} {C D:Cells} (H:St w0 w L R) (hx:ev σ x = .slice a l.length l.length) (hy:ev σ y=vy)
    (hu:Sl C (.slice a l.length l.length) l) (hlu:C.Le w.cell?) (hs:Sl D vy l2) (hle:D.Le w.cell?) (h0:0<l.length) (h2:0<l2.length) (hn:(l.length+l2.length)*by'<=140737488355328) (h63:l.length+l2.length<=9223372036854775807)
    (k:∀ v' w',St w0 w' (cOwn e v' (l++l2) :: L) R->SL P all Q rest (upd σ d v') w') :
    SL P all Q (⟨some d,.call ⟨.builtin .append,#[x,y],#[t,t]⟩,ty,pos,af,none⟩ :: rest) σ w:=by
  obtain ⟨v',w',hr,ho,hx'⟩:=run_app3 (ty:=ty) T hu hlu hs hle (List.length_pos_iff.1 h0) (List.length_pos_iff.1 h2) hn h63;refine s_any (v:=v') (w':=w') ?_ (k v' w' (St.ownOf H hx' ho));simp [execOp,resolve,invoke,builtin,hx,hy,hr]
end
end Go.Nm
namespace Go.Nm
open Go
theorem flat_int (l:List Int):(l.flatMap Flat.enc:List Value)=l.map I:=by
  induction l with
  | nil=>rfl
  | cons x l ih=>rw [List.flatMap_cons,ih]; rfl
section
variable {P:Program} {w w0:World}
theorem OwnF.copyI {B:Nat} {dT sT ty e:TypeId} {v u:Value} {l s:List Int} (h:OwnF B e w v l) (hu:P.underlying dT=some (.slice e)) (hs:(P.info? e).map (·.size)=some 1) {C:Cells} (hsl:Sl C u s) (hle:C.Le w.cell?) :
    ∃ n w',(Builtin.copy_ #[dT,sT] ty #[v,u]).run P w = .ok (goInt n) w'/\OwnF B e w' v (s.take l.length++l.drop s.length)/\Grow B v w w':=by
  obtain ⟨a,c,rfl,hc,hm,hk⟩:=hsl.ex;by_cases h0:Nat.min s.length l.length=0
  · have hl:s.take l.length++l.drop s.length=l:=by
      by_cases hs0:s.length=0
      · rw [hs0,List.eq_nil_of_length_eq_zero hs0]; simp
      · have hl0:l.length=0:=by
          have:Nat.min s.length l.length=min s.length l.length:=rfl;omega
        rw [List.eq_nil_of_length_eq_zero hl0]; simp
    rw [hl];obtain ⟨d,cap,hv⟩:∃ d cap,v = .slice d l.length cap:=by
      rcases h.2 with ⟨rfl,hn⟩ | ⟨g,cap,cur,rfl,_⟩
      · exact ⟨none,0,by rw [hn]⟩
      · exact ⟨_,_,rfl⟩
    subst hv;exact ⟨0,w,run_copy_none w dT sT ty e d a l.length cap s.length c hu hs h0,h,rfl,rfl,Nat.le_refl _,fun _ _ _=>rfl,fun g hg=>(h.lt g hg).1,fun _=>rfl⟩
  · have hmin:Nat.min s.length l.length=min s.length l.length:=rfl;rcases h.2 with ⟨rfl,hn⟩ | ⟨g,cap,cur,rfl,hb,hg,hnc,hcm,hcs,htake⟩
    · omega
    · have hsz:(Elt.sz Int)=1:=rfl;rw [hsz] at hcs htake;have h0s:0<s.length:=by omega
      obtain ⟨b,o,cs0,rfl,_,_⟩:=hk 0 s[0] (List.getElem?_eq_getElem h0s);have hlen:((s.take l.length).map I).length=Nat.min s.length l.length:=by
        rw [List.length_map,List.length_take,hmin]; omega
      have hr:=run_copy_row (P:=P) w dT sT ty e g 0 l.length cap ⟨b,o,none⟩ s.length c cur e ((s.take l.length).map I) hu hs hg hlen (fun j x hj=>by
        rw [List.getElem?_map] at hj;cases hq:(s.take l.length)[j]? with
        | none=>rw [hq] at hj; cases hj
        | some y =>
          rw [hq] at hj;obtain rfl:=Option.some.inj hj;have hy:s[j]?=some y:=by
            rw [List.getElem?_take] at hq;split at hq
            · exact hq
            · cases hq
          obtain ⟨b',o',cs',e1,e2,e3⟩:=hk j y hy;injection e1 with e1
          injection e1 with e1 e4
          subst e1 e4;obtain rfl:cs'=[I y]:=e2;have e5:(⟨b,o,none⟩:Addr).add j=⟨b,o+j*Elt.sz Int+0,none⟩:=by
            rw [hsz];cases j <;> simp [Addr.add]
          exact e5 ▸ hle _ _ (e3 0 (I y) rfl)) (by rw [hlen,hmin]; simp only [Nat.mul_one] at hcs; omega) (fun x hx=>by
        obtain ⟨y,_,rfl⟩:=List.mem_map.1 hx;rfl)
      have hL:(s.take l.length++l.drop s.length).length=l.length:=by
        rw [List.length_append,List.length_take,List.length_drop]; omega
      refine ⟨_,_,hr,⟨by rw [flat_len],.inr ⟨g,cap,_,by rw [hL],hb,setRow_heap w g cur _ e _ hg,by rw [hL]; exact hnc,hcm,?_,?_⟩⟩,⟨rfl,rfl,by simp,fun b _ hne=>setRow_other w g b _ (fun e=>hne (by rw [e]; rfl)),fun g' hg'=>(h.lt g' hg').1,frozen_setRow w g _⟩⟩
      · simp only [List.size_toArray,List.length_append,List.length_take,List.length_drop,Array.length_toList,hlen,hmin,hsz];simp only [Nat.mul_one] at hcs ⊢;omega
      · rw [hL,hsz,flat_int];rw [flat_int] at htake;simp only [Nat.mul_one,List.take_zero,List.nil_append,Nat.zero_add] at htake ⊢;have e1:(List.map I (s.take l.length)++cur.toList.drop (List.map I (s.take l.length)).length).take l.length=List.map I (s.take l.length)++(List.map I l).drop (List.map I (s.take l.length)).length:=by
          rw [List.take_append,List.take_of_length_le (by rw [hlen,hmin]; omega),← htake,List.drop_take]
        rw [e1,List.map_append,← List.map_drop]
        congr 2
        rw [hlen,hmin];by_cases hsl':s.length<=l.length
        · rw [Nat.min_eq_left hsl']
        · rw [List.drop_of_length_le (by omega),List.drop_of_length_le (by omega)]
variable {all rest:List Oper} {Q:Post} {σ:Env} {ty:TypeId} {pos:String} {af:Array Edge} {L L' R:List Chunk}
theorem t_copyI {dst:Option Nat} {dT sT e k:Nat} {x y:Operand} {v u:Value} {l s:List Int} {C:Cells} (H:St w0 w L R) (hk:L[k]?=some (cOwn e v l)) (hu:P.underlying dT=some (.slice e)) (hs:(P.info? e).map (·.size)=some 1) (hx:ev σ x=v) (hy:ev σ y=u) (hsl:Sl C u s) (hle:C.Le w.cell?)
    (hL:L.set k (cOwn e v (s.take l.length++l.drop s.length))=L') (kk:∀ n w',St w0 w' L' R->SL P all Q rest (updo σ dst (I n)) w'):SL P all Q (⟨dst,.call ⟨.builtin .copy,#[x,y],#[dT,sT]⟩,ty,pos,af,none⟩ :: rest) σ w:=by
  obtain ⟨n,w',hr,ho,hg⟩:=(H.get hk:OwnF 0 e w v l).copyI (P:=P) (dT:=dT) (sT:=sT) (ty:=ty) hu hs hsl hle;refine s_any (v:=goInt n) (w':=w') ?_ (kk n w' (H.own hk ho hg (fun _ _ h=>h) hL));simp [execOp,resolve,invoke,builtin,hx,hy,hr]
end
end Go.Nm
namespace Go.Nm
open Go
universe u
abbrev Pq (b:Nat):Value:=.pointer (some ⟨b,0,none⟩)
abbrev Oq (b o:Nat):Value:=.pointer (some ⟨b,o,none⟩)
class NthR {α:Type u} (l:List α) (i:Nat) (x:outParam α):Prop where
  is:l[i]?=some x
instance {α:Type u} {l:List α} {x:α}:NthR (x :: l) 0 x:=⟨rfl⟩
instance {α:Type u} {l:List α} {x y:α} {i:Nat} [h:NthR l i x]:NthR (y :: l) (i+1) x:=⟨h.is⟩
instance (priority:=high) {α:Type u} {l:List α} {x a b c d:α} {i:Nat} [h:NthR l i x]:NthR (a :: b :: c :: d :: l) (i+4) x:=⟨h.is⟩
class PickR {α:Type u} (l:List α) (i:List Nat) (o:outParam (List α)):Prop where
  is:i.mapM (fun j=>l[j]?)=some o
instance {α:Type u} {l:List α}:PickR l [] []:=⟨rfl⟩
instance {α:Type u} {l o:List α} {i:Nat} {is:List Nat} {x:α} [h:NthR l i x] [k:PickR l is o]:PickR l (i :: is) (x :: o):=⟨by rw [List.mapM_cons,h.is,k.is]; rfl⟩
class AppR {α:Type u} (a b:List α) (o:outParam (List α)):Prop where
  is:a++b=o
instance {α:Type u} {b:List α}:AppR [] b b:=⟨rfl⟩
instance {α:Type u} {x:α} {a b o:List α} [h:AppR a b o]:AppR (x :: a) b (x :: o):=⟨by rw [List.cons_append,h.is]⟩
class LenR {α:Type u} (l:List α) (n:Nat):Prop where
  is:l.length=n
instance {α:Type u}:LenR ([]:List α) 0:=⟨rfl⟩
instance {α:Type u} {l:List α} {x:α} {n:Nat} [h:LenR l n]:LenR (x :: l) (n+1):=⟨by rw [List.length_cons,h.is]⟩
class EndR {α:Type u} (n:Nat) (l:List α) (a b:outParam (List α)):Prop where
  is:a++b=l
instance (priority:=low) {α:Type u} {x:α} {n:Nat} {l a b:List α} [h:EndR n l a b]:EndR n (x :: l) (x :: a) b:=⟨by rw [List.cons_append,h.is]⟩
instance {α:Type u} {n:Nat} {l:List α} [LenR l n]:EndR n l [] l:=⟨rfl⟩
class SetR {α:Type u} (l:List α) (k:Nat) (x:α) (o:outParam (List α)):Prop where
  is:l.set k x=o
instance {α:Type u} {l:List α} {x y:α}:SetR (y :: l) 0 x (x :: l):=⟨rfl⟩
instance {α:Type u} {l o:List α} {x y:α} {k:Nat} [h:SetR l k x o]:SetR (y :: l) (k+1) x (y :: o):=⟨by rw [List.set_cons_succ,h.is]⟩
class NfR {α:Type u} (l:List α) (o:outParam (List α)):Prop where
  is:l=o
instance {α:Type u}:NfR ([]:List α) []:=⟨rfl⟩
instance {α:Type u} {x:α} {l o:List α} [h:NfR l o]:NfR (x :: l) (x :: o):=⟨by rw [← h.is]⟩
instance {α:Type u} {l o p:List α} {k:Nat} {x:α} [h:NfR l o] [s:SetR o k x p]:NfR (l.set k x) p:=⟨by rw [h.is,s.is]⟩
instance {α:Type u} {a b a' b' o:List α} [h:NfR a a'] [h':NfR b b'] [s:AppR a' b' o]:NfR (a++b) o:=⟨by rw [h.is,h'.is,s.is]⟩
instance {α:Type u} {x:α} {l o:List α} [h:NfR l o]:NfR ((x :: l).eraseIdx 0) o:=⟨by rw [← h.is]; rfl⟩
instance {α:Type u} {x:α} {l o:List α} {k:Nat} [h:NfR (l.eraseIdx k) o]:NfR ((x :: l).eraseIdx (k+1)) (x :: o):=⟨by rw [List.eraseIdx_cons_succ,h.is]⟩
class OverR {α:Type u} (cs:List α) (off:Nat) (vs:List α) (o:outParam (List α)):Prop where
  is:cs.take off++vs++cs.drop (off+vs.length)=o
instance {α:Type u} {cs:List α}:OverR cs 0 [] cs:=⟨by simp⟩
instance {α:Type u} {c v:α} {cs vs o:List α} [h:OverR cs 0 vs o]:OverR (c :: cs) 0 (v :: vs) (v :: o):=⟨by
  have:=h.is;simp only [List.take_zero,List.nil_append,Nat.zero_add] at this ⊢;simp [this]⟩
instance {α:Type u} {c:α} {cs vs o:List α} {n:Nat} [h:OverR cs n vs o]:OverR (c :: cs) (n+1) vs (c :: o):=⟨by
  have:=h.is;rw [List.take_succ_cons,show n+1+vs.length=n+vs.length+1 by omega,List.drop_succ_cons,List.cons_append,List.cons_append,this]⟩
section
variable {w0 w w':World} {L L' L1 R A T:List Chunk}
theorem St.os {α:Type} [Flat α] {e:TypeId} {v:Value} {l:List α} (h:St w0 w L R) (k:Nat) [n:NthR L k (cOwn e v l)]:Sl (rowC v (l.flatMap Flat.enc)) v l:=ownSl (h.get n.is)
theorem St.ol {α:Type} [Flat α] {e:TypeId} {v:Value} {l:List α} (h:St w0 w L R) (k:Nat) [n:NthR L k (cOwn e v l)]:(rowC v (l.flatMap Flat.enc)).Le w.cell?:=ownLe w (h.get n.is)
theorem rdo {α:Type} [Flat α] {e:TypeId} {v:Value} {l:List α} (k:Nat) [n:NthR L k (cOwn e v l)]:Reads (L++R) (rowC v (l.flatMap Flat.enc)):=Reads.of n.is ownLe
theorem St.bl {b:Nat} {cs:List Value} {t:TypeId} (h:St w0 w L R) (k:Nat) [n:NthR L k (cBlk b cs t)]:w.heap[b]?=some (.cells cs.toArray t (0,0)):=h.blk n.is
theorem St.nf (h:St w0 w L R) [n:NfR L L']:St w0 w L' R:=by
  have:=n.is;subst this;exact h
theorem St.pk (h:St w0 w L R) (i:List Nat) [n:NfR L L1] [p:PickR L1 i L'] (hn:i.Nodup:=by decide):St w0 w L' R:=h.nf.pick i hn p.is
theorem St.bk (h:St w0 w L R) (h':St w w' A (T++R)) [a:NfR (A++T) L']:St w0 w' L' R:=h.back h' a.is
theorem St.gt (h:St w0 w L R) (k:Nat) [n:NfR L L1] [s:EndR k L1 A T]:St w w A (T++R):=h.nf.give s.is
end
section
variable {P:Program} {all rest:List Oper} {Q:Post} {σ:Env} {w0 w:World} {L L' R:List Chunk} {ty:TypeId} {pos:String} {af:Array Edge}
theorem zM {d:Nat} {x:Operand} (v:Value) (h:ev σ x=v) (k:SL P all Q rest (upd σ d v) w):SL P all Q (⟨some d,.move x,ty,pos,af,none⟩ :: rest) σ w:=s_val (x_mv h) k
theorem zA {d:Nat} {x:Operand} (v:Value) (h:ev σ x=v) (k:SL P all Q rest (upd σ d v) w):SL P all Q (⟨some d,.assign x,ty,pos,af,none⟩ :: rest) σ w:=s_val (x_as h) k
end
/-- What a test says, as a proposition. -/
class DcB (b c:Bool) (p:outParam Prop):Prop where
  to:b=c->p
instance (priority:=low) {b c:Bool}:DcB b c (b=c):=⟨fun h=>h⟩
instance {p:Prop} [Decidable p]:DcB (decide p) true p:=⟨of_decide_eq_true⟩
instance {p:Prop} [Decidable p]:DcB (decide p) false (¬p):=⟨of_decide_eq_false⟩
instance {α:Type _} [BEq α] [LawfulBEq α] {a b:α}:DcB (a==b) true (a=b):=⟨beq_iff_eq.1⟩
instance {α:Type _} [BEq α] [LawfulBEq α] {a b:α}:DcB (a==b) false (a ≠ b):=⟨beq_eq_false_iff_ne.1⟩
instance {α:Type _} [BEq α] [LawfulBEq α] {a b:α}:DcB (a != b) true (a ≠ b):=⟨bne_iff_ne.1⟩
instance {α:Type _} [BEq α] [LawfulBEq α] {a b:α}:DcB (a != b) false (a=b):=⟨bne_eq_false_iff_eq.1⟩
theorem dI {b c:Bool} {p:Prop} [h:DcB b c p] (x:b=c):p:=h.to x
section
variable {P:Program} {all rest:List Oper} {Q:Post} {σ:Env} {w0 w:World} {L L' R:List Chunk} {ty:TypeId} {pos:String} {af:Array Edge}
end
end Go.Nm
namespace Go.Nm
open Go
theorem setM_twice {κ ν:Type} [DecidableEq κ]:∀ (m:List (κ × ν)) (k:κ) (u v:ν),setM (setM m k u) k v=setM m k v
  | [],k,u,v=>by simp [setM]
  | p :: m,k,u,v=>by
    have ih:=setM_twice m k u v;by_cases h:p.1=k
    · simp [setM,h]
    · simp only [setM,if_neg h,ih]
section
variable {κ ν:Type} [DecidableEq κ] {kenc:κ->Value} {venc:ν->Value} {P:Program} {w w0:World} {L L' R:List Chunk} {kt et:TypeId} {b:Nat} {m:List (κ × ν)}
variable {all rest:List Oper} {Q:Post} {σ:Env} {d:Nat} {ty:TypeId} {pos:String} {af:Array Edge}
def cEntL {κ ν:Type} [DecidableEq κ] (kenc:κ->Value) (venc:ν->Value) (b:Nat) (m:List (κ × ν)) (k:κ) (st:Int):Chunk where
  D j:=j=b
  ex:=true
  ok w:=∃ es n,w.heap[b]?=some (.map es n)/\MapL kenc venc es n m/\(m.map Prod.fst).Nodup/\∃ (i:Nat) (e:MapEntry),idxM m k=some i/\es[i]?=some e/\(e.born:Int)=st
  st w w' h _ k:=by
    obtain ⟨es,n,h1,h2⟩:=h;exact ⟨es,n,(k b rfl).trans h1,h2⟩
  bd w k h e:=by
    obtain ⟨es,n,h1,_⟩:=h;rw [e]; exact heap_lt h1
theorem t_mentL {x y:Operand} {i:Nat} {t:TypeId} (K:KeyL (ν:=ν) P kt kenc) (ht:P.underlying t=some (.map kt et)) {z:ν} (hz:(P.info? et).map (·.zero)=some (some (venc z))) (H:St w0 w L R) (hk:L[i]?=some (cMl kenc venc b m)) (hx:ev σ x = .map (some b)) {k:κ} (hy:ev σ y=kenc k)
    (kk:∀ st w',St w0 w' (L.set i (cEntL kenc venc b (setM m k ((lookM m k).getD z)) k st)) R->SL P all Q rest (upd σ d (.tuple #[venc ((lookM m k).getD z),.int .i64 st])) w'):SL P all Q (⟨some d,.mapEntry t x y,ty,pos,af,none⟩ :: rest) σ w:=by
  obtain ⟨es,n,hb,⟨h1,h3,h4⟩,hnd⟩:=H.get hk;have hf:=K.find w es.toList m venc k h1;have hzz:(zeroValue et).run P w = .ok (venc z) w:=by
    cases hi:P.info? et with
    | none=>simp [hi] at hz
    | some i=>simp [hi] at hz; simp [zeroValue,typeInfo,hi,hz]
  cases hi:idxM m k with
  | none =>
    have hl:=idxM_none hi;rw [hi] at hf;have hm':(es.push { key:=kenc k,val:=venc z,born:=n }).toList.map (fun e=>(e.key,e.val))=(setM m k z).map (fun p=>(kenc p.1,venc p.2)):=by
      rw [setM_none z hi]; simp [h1]
    have hlen:es.toList.length=m.length:=by have:=congrArg List.length h1; simpa using this
    have hidx:∀ (m:List (κ × ν)),idxM m k=none->idxM (setM m k z) k=some m.length:=by
      intro m;induction m with
      | nil=>intro _; simp [setM,idxM]
      | cons p m ih =>
        intro h;unfold idxM at h;split at h
        · cases h
        · rename_i hp
          unfold setM idxM;rw [if_neg hp];dsimp only;rw [if_neg hp,ih (by simpa using h)];simp
    have hp:Put w b (.map (es.push { key:=kenc k,val:=venc z,born:=n }) (n+1)) { w with heap:=w.heap.setIfInBounds b (.map (es.push { key:=kenc k,val:=venc z,born:=n }) (n+1)) }:=Put.setMap _ hb (by simp) rfl;refine s_any (v:=.tuple #[venc ((lookM m k).getD z),.int .i64 (n:Int)]) (w':={ w with heap:=w.heap.setIfInBounds b (.map (es.push { key:=kenc k,val:=venc z,born:=n }) (n+1)) }) ?_ (kk _ _ ?_)
    · simp [execOp,hx,hy,Instr.mapEntry,run_underlying ht,MapKept.run_getObj_map hb,K.check,hf,MapKept.run_setObj_map _ hb,hzz,hl,goInt]
    · refine H.set (c':=cEntL kenc venc b (setM m k ((lookM m k).getD z)) k (n:Int)) hk rfl hp.keep (fun j _ hne=>hp.other j hne) (fun j hj=>.inl hj) ⟨_,_,hp.same,⟨by rw [hl]; exact hm',?_,?_⟩,setM_once hnd k _,m.length,{ key:=kenc k,val:=venc z,born:=n },by rw [hl]; exact hidx m hi,?_,rfl⟩ rfl
      · simp only [Array.toList_push,List.map_append,List.map_cons,List.map_nil];rw [List.nodup_append];refine ⟨h3,by simp,fun a ha c hc=>?_⟩;simp at hc;subst hc;obtain ⟨e,he,rfl⟩:=List.mem_map.1 ha;have:=h4 e he;omega
      · intro e he;simp only [Array.toList_push,List.mem_append,List.mem_singleton] at he;rcases he with he | rfl
        · have:=h4 e he; omega
        · simp
      · rw [← hlen]; simp
  | some j =>
    obtain ⟨v0,hv,hl⟩:=idxM_some hi;have he:∃ e,es.toList[j]?=some e/\e.key=kenc k/\e.val=venc v0:=by
      have h3:(es.toList.map (fun e=>(e.key,e.val)))[j]?=(m.map (fun p=>(kenc p.1,venc p.2)))[j]?:=by rw [h1]
      rw [List.getElem?_map,List.getElem?_map,hv] at h3;cases he:es.toList[j]? with
      | none=>rw [he] at h3; simp at h3
      | some e=>rw [he] at h3; simp at h3; exact ⟨e,rfl,h3.1,h3.2⟩
    obtain ⟨e,he1,he2,he3⟩:=he;have he1':es[j]?=some e:=by simpa using he1
    rw [hi] at hf;simp only [Option.bind_some,he1,Option.map_some] at hf;have hk':(Instr.keyThatStays e.key (kenc k)).run P w = .ok (kenc k) w:=by
      simp [Instr.keyThatStays,he2,K.same]
    have hes:(es.modify j fun e=>{ e with key:=kenc k }).toList=es.toList:=by
      apply List.ext_getElem?;intro q;simp only [Array.getElem?_toList,Array.getElem?_modify];by_cases hjq:j=q
      · subst hjq;simp only [he1',if_true,Option.map_some,Option.some.injEq];rw [← he2]
      · simp [hjq]
    have hes':(es.modify j fun e=>{ e with key:=kenc k })=es:=Array.toList_inj.1 hes;have hp:Put w b (.map es n) { w with heap:=w.heap.setIfInBounds b (.map es n) }:=Put.setMap _ hb (by simp) rfl;refine s_any (v:=.tuple #[venc ((lookM m k).getD z),.int .i64 (e.born:Int)]) (w':={ w with heap:=w.heap.setIfInBounds b (.map es n) }) ?_ (kk _ _ ?_)
    · simp [execOp,hx,hy,Instr.mapEntry,run_underlying ht,MapKept.run_getObj_map hb,K.check,hf,hk',MapKept.run_setObj_map _ hb,hl,goInt,he1',he3,hes']
    · have hsm:setM m k ((lookM m k).getD z)=m:=by
        rw [hl,setM_some _ hi];exact List.ext_getElem? fun q=>by
          rw [List.getElem?_set];by_cases hjq:j=q
          · subst hjq;have hlt:=(List.getElem?_eq_some_iff.1 hv).1;rw [if_pos rfl,if_pos hlt,hv]; rfl
          · rw [if_neg hjq]
      rw [hsm];exact H.set (c':=cEntL kenc venc b m k (e.born:Int)) hk rfl hp.keep (fun j _ hne=>hp.other j hne) (fun j hj=>.inl hj) ⟨_,_,hp.same,⟨h1,h3,h4⟩,hnd,j,e,hi,he1',rfl⟩ rfl
theorem t_enstL {dst:Option Nat} {x y u:Operand} {i:Nat} {t:TypeId} {m0:List (κ × ν)} {v0:ν} {k:κ} {st:Int} (H:St w0 w L R) (hk:L[i]?=some (cEntL kenc venc b (setM m0 k v0) k st)) (hx:ev σ x = .map (some b)) (hy:ev σ y = .int .i64 st) {v:ν} (hu:ev σ u=venc v)
    (hL:L.set i (cMl kenc venc b (setM m0 k v))=L')
    (kk:∀ w',St w0 w' L' R->SL P all Q rest (updo σ dst undef) w'):SL P all Q (⟨dst,.entryStore t x y u,ty,pos,af,none⟩ :: rest) σ w:=by
  obtain ⟨es,n,hb,⟨h1,h3,h4⟩,hnd,j,e,hi,he,hst⟩:=H.get hk;have hss:setM m0 k v=setM (setM m0 k v0) k v:=(setM_twice m0 k v0 v).symm;generalize hmm:setM m0 k v0=m at *;have hfind:es.findIdx? (fun e=>(e.born:Int)==st)=some j:=by
    rw [Array.findIdx?_eq_some_iff_getElem];obtain ⟨hj,hje⟩:=Array.getElem?_eq_some_iff.1 he;refine ⟨hj,by rw [hje]; simpa using hst,fun q hq=>?_⟩;intro hc;have hc':((es[q]'(by omega)).born:Int)=st:=by simpa using hc
    have hql:q<es.size:=by omega
    have hnd:=List.pairwise_iff_getElem.1 h3 q j (by simpa using hql) (by simpa using hj) hq;apply hnd;simp only [List.getElem_map,Array.getElem_toList];rw [hje];omega
  obtain ⟨vv,hv,hl⟩:=idxM_some hi;have hp:Put w b (.map (es.modify j fun e=>{ e with val:=venc v }) n) { w with heap:=w.heap.setIfInBounds b (.map (es.modify j fun e=>{ e with val:=venc v }) n) }:=Put.setMap _ hb (by simp) rfl;have hkey:e.key=kenc k:=by
    have h5:(es.toList.map (fun e=>(e.key,e.val)))[j]?=(m.map (fun p=>(kenc p.1,venc p.2)))[j]?:=by rw [h1]
    rw [List.getElem?_map,List.getElem?_map,hv] at h5;simp only [Array.getElem?_toList,he,Option.map_some,Option.some.injEq,Prod.mk.injEq] at h5;exact h5.1
  refine s_skp (w':={ w with heap:=w.heap.setIfInBounds b (.map (es.modify j fun e=>{ e with val:=venc v }) n) }) ?_ (kk _ ?_)
  · simp [execOp,hx,hy,hu,Instr.entryStore,MapKept.run_getObj_map hb,asInt,asIntOf,hfind,MapKept.run_setObj_map _ hb]
  · refine H.set (c':=cMl kenc venc b (setM m0 k v)) hk rfl hp.keep (fun j _ hne=>hp.other j hne) (fun j hj=>.inl hj) ⟨_,_,hp.same,⟨?_,?_,?_⟩,?_⟩ hL
    · rw [hss,setM_some v hi];apply List.ext_getElem?;intro q;have hj:(es.toList.map (fun e=>(e.key,e.val)))[q]?=(m.map (fun p=>(kenc p.1,venc p.2)))[q]?:=by rw [h1]
      simp only [List.getElem?_map,Array.getElem?_toList,Array.getElem?_modify,List.getElem?_set] at hj ⊢;by_cases hij:j=q
      · subst hij;have hlt:=(List.getElem?_eq_some_iff.1 hv).1;simp [he,hlt,hkey]
      · simp [hij,hj]
    · have:(es.modify j fun e=>{ e with val:=venc v }).toList.map (·.born)=es.toList.map (·.born):=by
        apply List.ext_getElem?;intro q;simp only [List.getElem?_map,Array.getElem?_toList,Array.getElem?_modify];by_cases hij:j=q
        · subst hij; simp [he]
        · simp [hij]
      rw [this]; exact h3
    · intro e' he';obtain ⟨q,hq⟩:=List.getElem?_of_mem he';simp only [Array.getElem?_toList,Array.getElem?_modify] at hq;by_cases hij:j=q
      · subst hij;simp [he] at hq;subst hq;exact h4 e (by rw [Array.mem_toList_iff]; exact Array.mem_of_getElem? he)
      · simp [hij] at hq;exact h4 e' (by rw [Array.mem_toList_iff]; exact Array.mem_of_getElem? hq)
    · rw [hss]; exact setM_once hnd k v
theorem t_swI {dst:Option Nat} {t:TypeId} {x y:Operand} {n:Nat} {l l':List Int} {et:TypeId} (k:Nat) (H:St w0 w L R) [hk:NthR L k (cBlk b (List.flatten [[],encF l]) et)] [hL:SetR L k (cBlk b (List.flatten [[],encF l']) et) L'] (hx:ev σ x = .pointer (some ⟨b,0,none⟩)) (hy:ev σ y = .agg (List.flatten [[],encF l']).toArray)
    (hs:(P.info? t).map (·.size)=some n) (h1:l.length=n) (h2:l'.length=n)
    (kk:∀ w',St w0 w' L' R->SL P all Q rest (updo σ dst undef) w'):SL P all Q (⟨dst,.store t x y,ty,pos,af,none⟩ :: rest) σ w:=by
  have e:∀ l:List Int,(List.flatten [[],encF l])=encF l:=fun l=>by simp
  have e1:∀ l:List Int,(encF l).length=l.length:=fun l=>by rw [encF_len]; exact Nat.mul_one _
  have H':=hk.is; have L2:=hL.is;rw [e] at H' L2 hy;exact t_st (cs':=encF l') (vs:=encF l') H H' hx hy hs rfl (by rw [e1,h2]) (by rw [e1,h1]; simp [Nat.ble_eq]) (encF_one l') (by simp [List.drop_eq_nil_of_le,e1,h1]) L2 kk
theorem x_max3 {x y z:Operand} {ts:Array TypeId} {g:Option (Nat × Bool)} {a b c:Int} (hx:ev σ x=I a) (hy:ev σ y=I b) (hz:ev σ z=I c) :
    (execOp (ev σ) ⟨some d,.call ⟨.builtin .max,#[x,y,z],ts⟩,ty,pos,af,g⟩).run P w = .ok (.value (I (max (max a b) c))) w:=by
  simp [execOp,resolve,invoke,builtin,hx,hy,hz,Builtin.max_,Builtin.max2,I];by_cases hab:a<b <;> simp only [hab,if_true,if_false] <;> split <;> omega
end
theorem seg_len {l:List Int} {n:Nat} (h:l.length=n):(List.flatten [[],encF l]).length=n:=by
  rw [show (List.flatten [[],encF l])=encF l by simp,encF_len,h]; exact Nat.mul_one _
theorem seg_whole {l:List Int} {n:Nat} (h:l.length=n):((List.flatten [[],encF l]).drop 0).take n=List.flatten [[],encF l]:=by
  rw [List.drop_zero]; exact List.take_of_length_le (Nat.le_of_eq (seg_len h))
end Go.Nm
namespace Go.Nm
open Go
section
variable {P:Program} {n:Nat} {Q:PostD} {σ:Env} {w:World} {Ds:List Nat}
theorem WD.seqJ {x y:Code} (J:Env->World->Prop) (h:W P n x (thenQ J (fun e σ w=>Q e Ds σ w)) σ w) (k:∀ σ' w',J σ' w'->WD P n Ds y Q σ' w'):WD P n Ds (.seq x y) Q σ w:=by
  refine WD.seq (WD.of fun ds a ha=>wpIn_mono (h ds a ha) ?_);rintro e a' w' ⟨s,hs,h'⟩;cases e with
  | normal=>exact ⟨s,hs,k _ _ h'⟩
  | _=>exact ⟨s,hs,h'⟩
end
end Go.Nm
namespace Go.Nm
open Go
/-! ### What was given, pinned to what lies there now -/
/-- A part that stays as it is in a world. -/
def pin (w:World) (c:Chunk):Chunk where
  D:=c.D
  ex:=c.ex
  ok w':=c.ok w/\w.heap.size<=w'.heap.size/\∀ b,c.D b->w'.heap[b]?=w.heap[b]?
  st w1 w2 h hs hk:=⟨h.1,Nat.le_trans h.2.1 hs,fun b hb=>(hk b hb).trans (h.2.2 b hb)⟩
  bd w' b h hb:=Nat.lt_of_lt_of_le (c.bd w b h.1 hb) h.2.1
theorem Sep.pin {w:World}:∀ {R:List Chunk},Sep w R->Sep w (R.map (pin w))
  | [],_=>trivial
  | c :: R,h=>by
    refine ⟨⟨h.1,Nat.le_refl _,fun _ _=>rfl⟩,fun d hd=>?_,Sep.pin h.2.2⟩;obtain ⟨d',hd',rfl⟩:=List.mem_map.1 hd;exact h.2.1 d' hd'
theorem Sep.unpin {w w':World}:∀ {L R:List Chunk},Sep w' (L++R.map (Go.Nm.pin w))->Sep w' (L++R)
  | [],[],_=>trivial
  | [],c :: R,h=>by
    refine ⟨c.st w w' h.1.1 h.1.2.1 h.1.2.2,fun d hd=>?_,Sep.unpin (L:=[]) h.2.2⟩;exact h.2.1 (Go.Nm.pin w d) (List.mem_map.2 ⟨d,hd,rfl⟩)
  | c :: L,R,h=>by
    refine ⟨h.1,fun d hd=>?_,Sep.unpin (L:=L) h.2.2⟩;rcases List.mem_append.1 hd with hd | hd
    · exact h.2.1 d (List.mem_append_left _ hd)
    · exact h.2.1 (Go.Nm.pin w d) (List.mem_append_right _ (List.mem_map.2 ⟨d,hd,rfl⟩))
theorem St.pin {w:World} {R:List Chunk} (H:St w w [] R):St w w [] (R.map (Go.Nm.pin w)):=⟨H.kp,H.sep.pin⟩
theorem St.unpin {w0 w w':World} {L R:List Chunk} (H:St w0 w' L (R.map (Go.Nm.pin w))):St w0 w' L R:=⟨H.kp,H.sep.unpin⟩
theorem Has.pin {w:World} {R:List Chunk} {c:Chunk} (h:Has R c):Has (R.map (Go.Nm.pin w)) c:=⟨fun w' hs=>h.of w' (Sep.unpin (L:=[]) hs)⟩
theorem Reads.pin {w:World} {R:List Chunk} {C:Cells} (h:Reads R C):Reads (R.map (Go.Nm.pin w)) C:=⟨fun w' hs=>h.le w' (Sep.unpin (L:=[]) hs)⟩
theorem Fld.pin {w:World} {R:List Chunk} {b:Nat} {pre:List Value} (h:Fld R b pre):Fld (R.map (Go.Nm.pin w)) b pre:=fun w' hs=>h w' (Sep.unpin (L:=[]) hs)
/-- A map as it lies there. -/
def cMe (b:Nat) (es:Array MapEntry) (n:Nat):Chunk where
  D k:=k=b
  ex:=true
  ok w:=w.heap[b]?=some (.map es n)
  st w w' h _ k:=(k b rfl).trans h
  bd w k h e:=by rw [e]; exact heap_lt h
section
variable {κ ν:Type} [DecidableEq κ] {kenc:κ->Value} {venc:ν->Value}
theorem Has.map {w:World} {R:List Chunk} {b:Nat} {m:List (κ × ν)} (h:Has R (cMl kenc venc b m)) (hs:Sep w R):∃ es n,MapL kenc venc es n m/\(m.map Prod.fst).Nodup/\Has (R.map (Go.Nm.pin w)) (cMe b es n):=by
  obtain ⟨es,n,hb,hm,hn⟩:=h.of w hs;refine ⟨es,n,hm,hn,?_⟩;have hc:∃ c∈R,c.D b:=by
    refine Classical.byContradiction fun hno=>?_;have hno':∀ c∈R,¬ c.D b:=fun c hc hD=>hno ⟨c,hc,hD⟩;have hs':Sep { w with heap:=w.heap.setIfInBounds b (.cells #[] 0 (0,0)) } R:=by
      refine hs.old (by simp) fun c hc k hk=>?_;have hne:b ≠ k:=fun e=>hno' c hc (by rw [e]; exact hk);show (w.heap.setIfInBounds b _)[k]?=_;rw [Array.getElem?_setIfInBounds_ne hne]
    obtain ⟨es',n',hb',_⟩:=h.of _ hs';have:(w.heap.setIfInBounds b (.cells #[] 0 (0,0)))[b]?=some (.map es' n'):=hb';rw [Array.getElem?_setIfInBounds_self_of_lt (heap_lt hb)] at this;cases this
  obtain ⟨c,hc,hD⟩:=hc;refine ⟨fun w' hs'=>?_⟩;have:=hs'.get (List.mem_map.2 ⟨c,hc,rfl⟩);exact (this.2.2 b hD).trans hb
variable {P:Program} {w w0:World} {L L' R:List Chunk} {t kt et:TypeId} {b r:Nat} {es:Array MapEntry} {n:Nat} {m:List (κ × ν)}
variable {all rest:List Oper} {Q:Post} {σ:Env} {d:Nat} {ty:TypeId} {pos:String} {af:Array Edge} {g:Option (Nat × Bool)}
end
end Go.Nm
namespace Go.Nm
open Go
def ivO (r:Raw 0):Value:=r.cs.getD 0 (.bool false)
def OldM (r:Raw 0) (_:List Int):Prop:=r.cs=[ivO r]
def psd (dl:List (List Int)):List (List Int):=dl
def cDO (e1 e2:TypeId) (v:Value) (us:List (Raw 0)) (dl:List (List Int)):Chunk where
  D b:=(cDp ivO e1 e2 v us (psd dl)).D b
  ex:=true
  ok w:=(cDp ivO e1 e2 v us (psd dl)).ok w/\us.length=dl.length/\∀ i,i<dl.length->OldM (us.getD i default) (dl.getD i default)
  st w w' h hs k:=⟨(cDp ivO e1 e2 v us (psd dl)).st w w' h.1 hs k,h.2⟩
  bd w b h hb:=(cDp ivO e1 e2 v us (psd dl)).bd w b h.1 hb
section
variable {e1 e2:TypeId} {v:Value} {us:List (Raw 0)} {dl:List (List Int)} {w0 w:World} {L L' R:List Chunk}
variable {P:Program} {all rest:List Oper} {Q:Post} {σ:Env} {d:Nat} {ty:TypeId} {pos:String} {af:Array Edge}
/-- A row that has grown, or shrunk, and is not yet stored. -/
def cDG (e1 e2:TypeId) (v:Value) (us:List (Raw 0)) (dl:List (List Int)) (i:Nat) (v':Value) (row:List Int):Chunk where
  D b:=(cAll ((dpL ivO e1 e2 v us (psd dl)).set (i+1) (cOwn e2 v' row))).D b
  ex:=true
  ok w:=(cAll ((dpL ivO e1 e2 v us (psd dl)).set (i+1) (cOwn e2 v' row))).ok w/\us.length=dl.length
  st w w' h hs k:=⟨(cAll ((dpL ivO e1 e2 v us (psd dl)).set (i+1) (cOwn e2 v' row))).st w w' h.1 hs k,h.2⟩
  bd w b h hb:=(cAll ((dpL ivO e1 e2 v us (psd dl)).set (i+1) (cOwn e2 v' row))).bd w b h.1 hb
theorem St.inner {k:Nat} (H:St w0 w L R) (hk:L[k]?=some (cDO e1 e2 v us dl)) {i:Nat} (hi:i<dl.length) {v':Value} {row:List Int} {w':World} (ho:OwnF 0 e2 w' v' row) (hg:Grow 0 (ivO (us.getD i default)) w w') (hne:∀ b,b<w.heap.size->(ivO (us.getD i default)).ownBlock ≠ some b->v'.ownBlock ≠ some b):St w0 w' (L.set k (cDG e1 e2 v us dl i v' row)) R:=by
  have hok:=H.get hk;have hl:=hok.2.1;have hc:(dpL ivO e1 e2 v us (psd dl))[i+1]?=some (cOwn e2 (ivO (us.getD i default)) (dl.getD i default)):=dpGet hl hi;have new:∀ b,(cOwn e2 v' row).D b->(cOwn e2 (ivO (us.getD i default)) (dl.getD i default)).D b∨w.heap.size<=b:=fun b hb=>by
    by_cases h:b<w.heap.size
    · by_cases h2:(ivO (us.getD i default)).ownBlock=some b
      · exact .inl h2
      · exact absurd hb (hne b h h2)
    · exact .inr (by omega)
  refine H.set (c':=cDG e1 e2 v us dl i v' row) hk rfl hg.keep (fun b hb hn=>hg.blk b hb (fun hc'=>hn ⟨_,List.mem_of_getElem? hc,hc'⟩)) (fun b hb=>?_) ⟨?_,hl⟩ rfl
  · obtain ⟨c,hc',hd⟩:=hb;rcases List.mem_or_eq_of_mem_set hc' with hc' | rfl
    · exact .inl ⟨c,hc',hd⟩
    · rcases new b hd with q | q
      · exact .inl ⟨_,List.mem_of_getElem? hc,q⟩
      · exact .inr q
  · exact Sep.set (c:=cOwn e2 (ivO (us.getD i default)) (dl.getD i default)) (c':=cOwn e2 v' row) rfl hg.size (fun b hb hn=>hg.blk b hb hn) new ho (i+1) _ hok.1 hc
end
section
variable {P:Program} {w:World}
end
section
variable {e1 e2:TypeId} {v:Value} {us:List (Raw 0)} {dl:List (List Int)} {w0 w:World} {L L' R:List Chunk} {P:Program} {all rest:List Oper} {Q:Post} {σ:Env} {d:Nat} {ty:TypeId} {pos:String} {af:Array Edge}
end
end Go.Nm
namespace Go.Nm
open Go
section
variable {P:Program} {ops:Array Oper} {md:Region.Mode} {C:World->Prop} {zs:List Nat}
def onOf (md:Region.Mode) (ops:Array Oper) (j:Nat):List Nat:=match ops[j]? with
  | some o=>(o.after.toList.filter (Region.binds md)).map (·.on)
  | none=>[]
def downs (md:Region.Mode) (ops:Array Oper) (z:Nat):List Nat:=(List.range ops.size).reverse.foldl (fun acc j=>bif acc.contains j then onOf md ops j++acc else acc) (onOf md ops z)
/-- What an operation that is listed comes behind is listed, too. -/
def ClosedL (md:Region.Mode) (ops:Array Oper) (listed:Array Bool):Prop:=∀ j,listed.getD j false=true->∀ i∈onOf md ops j,listed.getD i false=true
theorem onOf_ready {listed:Array Bool} {j:Nat} (hj:j∈Region.ready md ops listed):∀ i∈onOf md ops j,listed.getD i false=true:=by
  obtain ⟨_,o,ho,hall⟩:=mem_ready.1 hj;intro i hi;unfold onOf at hi;simp only [ho] at hi;obtain ⟨e,he,rfl⟩:=List.mem_map.1 hi;rw [List.mem_filter] at he;exact hall e (by simpa using he.1) he.2
theorem ClosedL.set {listed:Array Bool} {j:Nat} (h:ClosedL md ops listed) (hj:j∈Region.ready md ops listed):ClosedL md ops (listed.setIfInBounds j true):=fun k hk i hi=>by
  refine getD_set_true ?_;by_cases e:j=k
  · subst e;exact onOf_ready hj i hi
  · rw [getD_set_ne false e] at hk;exact h k hk i hi
theorem downs_listed {listed:Array Bool} {z:Nat} (h:ClosedL md ops listed) (hz:z∈Region.ready md ops listed):∀ i∈downs md ops z,listed.getD i false=true:=by
  unfold downs;generalize hacc:onOf md ops z=acc;have h0:∀ i∈acc,listed.getD i false=true:=fun i hi=>onOf_ready hz i (by rw [hacc]; exact hi);clear hacc;generalize (List.range ops.size).reverse=l;induction l generalizing acc with
  | nil=>exact h0
  | cons j r ih =>
    rw [List.foldl_cons];refine ih _ fun i hi=>?_;cases hc:acc.contains j with
    | false=>rw [hc] at hi; exact h0 i hi
    | true =>
      rw [hc] at hi;rcases List.mem_append.1 hi with hi | hi
      · exact h j (h0 j (by simpa using hc)) i hi
      · exact h0 i hi
def wpAnyS (P:Program) (md:Region.Mode) (ops:Array Oper) (C:World->Prop) (zs:List Nat) (Q:Act->World->Prop):Nat->Array Bool->Act->World->Prop
  | 0,listed,a,w=>Region.ready md ops listed=[]/\Q a w
  | fuel+1,listed,a,w =>
    (Region.ready md ops listed=[]->Q a w) ∧
    ∀ i∈Region.ready md ops listed,lOp P ops i (fun a' w'=>(i ∉ zs->C w')/\wpAnyS P md ops C zs Q fuel (listed.setIfInBounds i true) a' w') a w
theorem wpAny_of_S {r:Option Nat} {Q:Act->World->Prop} {Q':Exit->Act->World->Prop} (hQ:∀ a w,Q a w->Q' .normal a w):∀ (fuel:Nat) (listed:Array Bool) (a:Act) (w:World),
    wpAnyS P md ops C zs Q fuel listed a w->wpAnyIn (FR r) 0 P md ops Q' fuel listed a w
  | 0,_,_,_,h=>⟨h.1,hQ _ _ h.2⟩
  | fuel+1,_,_,_,h=>⟨fun h0=>hQ _ _ (h.1 h0),fun i hi=>lOp_wpOp (lOp_mono (fun a' w' hh=>wpAny_of_S hQ fuel _ a' w' hh.2) (h.2 i hi))⟩
theorem wpAnyS_first {Q:Act->World->Prop} {i:Nat} {oi:Oper} {v:Value} (hi:ops[i]?=some oi) (hz:i ∉ zs) (hb:∀ z∈zs,i∈downs md ops z) (hsel:∀ (j:Nat) (o:Oper) cs b,ops[j]?=some o->o.op ≠ .select cs b) :
    ∀ (fuel:Nat) (listed:Array Bool) (a:Act) (w:World),C w->ClosedL md ops listed →
      (∀ j oj,ops[j]?=some oj->j ≠ i->listed.getD j true=false->(∀ e∈oj.after,Region.binds md e=true->e.on ≠ i)->oi.apart ops oj=true) →
      i∈Region.ready md ops listed->YV P ops C oi v a →
      wpAnyS P md ops C zs Q fuel (listed.setIfInBounds i true) (a.put oi.dst v) w->wpAnyS P md ops C zs Q (fuel+1) listed a w:=by
  intro fuel;induction fuel with
  | zero =>
    intro listed a w hC _ _ hr hy H;refine ⟨fun h=>(by rw [h] at hr; cases hr),fun j hj=>?_⟩;by_cases hji:j=i
    · subst hji; exact hy.lOp hi hC ⟨fun _=>hC,H⟩
    · have:=ready_mono hj hji;rw [H.1] at this;cases this
  | succ fuel ih =>
    intro listed a w hC hcl hfree hr hy H;refine ⟨fun h=>(by rw [h] at hr; cases hr),fun j hj=>?_⟩;by_cases hji:j=i
    · subst hji; exact hy.lOp hi hC ⟨fun _=>hC,H⟩
    · have h1:=H.2 j (ready_mono hj hji);obtain ⟨hjun,oj,hoj,hall⟩:=mem_ready.1 hj;have hno:¬ listed.getD i false=true:=fun h1=>by
        have h0:=(mem_ready.1 hr).1;rcases Nat.lt_or_ge i listed.size with h' | h'
        · simp [h'] at h0 h1; rw [h0] at h1; cases h1
        · simp [Array.getElem?_eq_none h'] at h1
      have hnot:∀ e∈oj.after,Region.binds md e=true->e.on ≠ i:=fun e he hb heq=>by
        have h1:=hall e he hb;rw [heq] at h1;exact hno h1
      have hjz:j ∉ zs:=fun e=>hno (downs_listed hcl hj i (hb j e));have h2:=lOp_put hoj (hfree j oj hoj hji hjun hnot) (fun cs b=>hsel i oi cs b hi) (fun cs b=>hsel j oj cs b hoj) hy h1;have hfree':∀ k ok,ops[k]?=some ok->k ≠ i->(listed.setIfInBounds j true).getD k true=false →
          (∀ e∈ok.after,Region.binds md e=true->e.on ≠ i)->oi.apart ops ok=true:=fun k ok hk hki hun hno=>by
        refine hfree k ok hk hki ?_ hno;by_cases hjk:j=k
        · subst hjk; exact hjun
        · rw [getD_set_ne true hjk] at hun; exact hun
      refine lOp_mono (fun a' w' h3=>⟨fun _=>h3.2.1 hjz,ih (listed.setIfInBounds j true) a' w' (h3.2.1 hjz) (hcl.set hj) hfree' (ready_mono hr (Ne.symm hji)) h3.1 ?_⟩) h2;rw [Array.setIfInBounds_comm _ _ hji];exact h3.2.2
def canonRow (md:Region.Mode) (ops:Array Oper):List Nat->Array Bool->Bool
  | [],listed=>(Region.ready md ops listed).isEmpty
  | z :: r,listed=>(Region.ready md ops listed==[z])&&canonRow md ops r (listed.setIfInBounds z true)
def canonTS (md:Region.Mode) (ops:Array Oper) (zs:List Nat):Ord->Nat->Array Bool->Bool
  | .nil,0,listed=>canonRow md ops zs listed
  | .q k r,n+1,listed=>(Region.ready md ops listed).contains k&&Region.free md ops listed k&&!zs.contains k&&zs.all (fun z=>(downs md ops z).contains k)&&canonTS md ops zs r n (listed.setIfInBounds k true)
  | .l k r,n+1,listed=>(Region.ready md ops listed==[k])&&!zs.contains k&&canonTS md ops zs r n (listed.setIfInBounds k true)
  | .l2 k1 r1 k2 r2,n+1,listed=>(Region.ready md ops listed==[k1,k2])&&!zs.contains k1&&!zs.contains k2&&canonTS md ops zs r1 n (listed.setIfInBounds k1 true)&&canonTS md ops zs r2 n (listed.setIfInBounds k2 true)
  | .l3 k1 r1 k2 r2 k3 r3,n+1,listed=>(Region.ready md ops listed==[k1,k2,k3])&&canonTS md ops zs r1 n (listed.setIfInBounds k1 true)&&canonTS md ops zs r2 n (listed.setIfInBounds k2 true)&&canonTS md ops zs r3 n (listed.setIfInBounds k3 true)
  | _,_,_=>false
def runRow (P:Program) (ops:Array Oper) (Q:Act->World->Prop):List Nat->Act->World->Prop
  | [],a,w=>Q a w
  | z :: r,a,w=>lOp P ops z (fun a' w'=>runRow P ops Q r a' w') a w
def runTS (P:Program) (ops:Array Oper) (C:World->Prop) (zs:List Nat) (Q:Act->World->Prop):Ord->Act->World->Prop
  | .nil,a,w=>runRow P ops Q zs a w
  | .q k r,a,w=>∃ o v,ops[k]?=some o/\YV P ops C o v a/\runTS P ops C zs Q r (a.put o.dst v) w
  | .l k r,a,w=>lOp P ops k (fun a' w'=>C w'/\runTS P ops C zs Q r a' w') a w
  | .l2 k1 r1 k2 r2,a,w=>lOp P ops k1 (fun a' w'=>C w'/\runTS P ops C zs Q r1 a' w') a w/\lOp P ops k2 (fun a' w'=>C w'/\runTS P ops C zs Q r2 a' w') a w
  | .l3 k1 r1 k2 r2 k3 r3,a,w=>lOp P ops k1 (fun a' w'=>C w'/\runTS P ops C zs Q r1 a' w') a w/\lOp P ops k2 (fun a' w'=>C w'/\runTS P ops C zs Q r2 a' w') a w/\lOp P ops k3 (fun a' w'=>C w'/\runTS P ops C zs Q r3 a' w') a w
theorem wpAnyS_row {Q:Act->World->Prop}:∀ (l:List Nat),(∀ z∈l,z∈zs)->∀ (listed:Array Bool) (a:Act) (w:World),canonRow md ops l listed=true->runRow P ops Q l a w->wpAnyS P md ops C zs Q l.length listed a w
  | [],_,_,_,_,hB,h=>⟨by simpa [canonRow] using hB,h⟩
  | z :: r,hz,listed,a,w,hB,h=>by
    simp only [canonRow,Bool.and_eq_true,beq_iff_eq] at hB;obtain ⟨hr,hB'⟩:=hB;refine ⟨fun h0=>by rw [hr] at h0; simp at h0,fun i hi=>?_⟩;rw [hr] at hi;obtain rfl:i=z:=by simpa using hi
    exact lOp_mono (fun a' w' hh=>⟨fun h=>absurd (hz i (by simp)) h,wpAnyS_row r (fun y hy=>hz y (by simp [hy])) _ _ _ hB' hh⟩) h
theorem wpAnyS_canonT {Q:Act->World->Prop} (hs:Region.noSelect ops=true):∀ (l:Ord) (n:Nat) (listed:Array Bool) (a:Act) (w:World),C w->ClosedL md ops listed →
    canonTS md ops zs l n listed=true->runTS P ops C zs Q l a w->wpAnyS P md ops C zs Q (n+zs.length) listed a w
  | .nil,0,listed,a,w,_,_,hB,h=>by
    rw [Nat.zero_add];exact wpAnyS_row zs (fun _ h=>h) _ _ _ (by simpa only [canonTS] using hB) h
  | .q k r,n+1,listed,a,w,hC,hcl,hB,h=>by
    simp only [canonTS,Bool.and_eq_true,Bool.not_eq_true',List.all_eq_true] at hB;obtain ⟨⟨⟨⟨hr,hf⟩,hz⟩,hb⟩,hB'⟩:=hB;obtain ⟨o,v,h0,hy,hK⟩:=h;have hr':k∈Region.ready md ops listed:=by simpa using hr
    rw [Nat.succ_add];exact wpAnyS_first h0 (by simpa using hz) (fun z hz=>by simpa using hb z hz) (Region.noSelect_spec hs) (n+zs.length) listed a w hC hcl (Region.free_spec h0 hf) hr' hy (wpAnyS_canonT hs r n _ _ _ hC (hcl.set hr') hB' hK)
  | .l k r,n+1,listed,a,w,hC,hcl,hB,h=>by
    simp only [canonTS,Bool.and_eq_true,beq_iff_eq] at hB;obtain ⟨⟨hr,_⟩,hB'⟩:=hB;rw [Nat.succ_add];refine ⟨fun h0=>by rw [hr] at h0; simp at h0,fun i hi=>?_⟩;have hc:=hcl.set hi;rw [hr] at hi;obtain rfl:i=k:=by simpa using hi
    exact lOp_mono (fun a' w' hh=>⟨fun _=>hh.1,wpAnyS_canonT hs r n _ _ _ hh.1 hc hB' hh.2⟩) h
  | .l2 k1 r1 k2 r2,n+1,listed,a,w,hC,hcl,hB,h=>by
    simp only [canonTS,Bool.and_eq_true,beq_iff_eq] at hB;obtain ⟨⟨⟨⟨hr,_⟩,_⟩,hB1⟩,hB2⟩:=hB;rw [Nat.succ_add];refine ⟨fun h0=>by rw [hr] at h0; simp at h0,fun i hi=>?_⟩;have hc:=hcl.set hi;rw [hr] at hi;rcases List.mem_cons.1 hi with rfl | hi
    · exact lOp_mono (fun a' w' hh=>⟨fun _=>hh.1,wpAnyS_canonT hs r1 n _ _ _ hh.1 hc hB1 hh.2⟩) h.1
    · obtain rfl:i=k2:=by simpa using hi
      exact lOp_mono (fun a' w' hh=>⟨fun _=>hh.1,wpAnyS_canonT hs r2 n _ _ _ hh.1 hc hB2 hh.2⟩) h.2
  | .l3 k1 r1 k2 r2 k3 r3,n+1,listed,a,w,hC,hcl,hB,h=>by
    simp only [canonTS,Bool.and_eq_true,beq_iff_eq] at hB;obtain ⟨⟨⟨hr,hB1⟩,hB2⟩,hB3⟩:=hB;rw [Nat.succ_add];refine ⟨fun h0=>by rw [hr] at h0; simp at h0,fun i hi=>?_⟩;have hc:=hcl.set hi;rw [hr] at hi;rcases List.mem_cons.1 hi with rfl | hi
    · exact lOp_mono (fun a' w' hh=>⟨fun _=>hh.1,wpAnyS_canonT hs r1 n _ _ _ hh.1 hc hB1 hh.2⟩) h.1
    · rcases List.mem_cons.1 hi with rfl | hi
      · exact lOp_mono (fun a' w' hh=>⟨fun _=>hh.1,wpAnyS_canonT hs r2 n _ _ _ hh.1 hc hB2 hh.2⟩) h.2.1
      · obtain rfl:i=k3:=by simpa using hi
        exact lOp_mono (fun a' w' hh=>⟨fun _=>hh.1,wpAnyS_canonT hs r3 n _ _ _ hh.1 hc hB3 hh.2⟩) h.2.2
  | .nil,_+1,_,_,_,_,_,hB,_=>by simp [canonTS] at hB
  | .q _ _,0,_,_,_,_,_,hB,_=>by simp [canonTS] at hB
  | .l _ _,0,_,_,_,_,_,hB,_=>by simp [canonTS] at hB
  | .l2 _ _ _ _,0,_,_,_,_,_,hB,_=>by simp [canonTS] at hB
  | .l3 _ _ _ _ _ _,0,_,_,_,_,_,hB,_=>by simp [canonTS] at hB
theorem ClosedL.none (n:Nat):ClosedL md ops (Array.replicate n false):=fun j h=>by
  rcases Nat.lt_or_ge j n with h' | h'
  · simp [h'] at h
  · simp [Array.getElem?_replicate,Nat.not_lt.2 h'] at h
end
def SLR (P:Program) (all:List Oper) (Q:Post):List Nat->Env->World->Prop
  | [],σ,w=>Q .normal σ w
  | z :: r,σ,w=>∃ o,all[z]?=some o/\SL P all (loudQ (fun _=>True) (SLR P all Q r)) [o] σ w
def SLTS (P:Program) (all:List Oper) (C:World->Prop) (zs:List Nat) (Q:Post):Ord->Env->World->Prop
  | .nil,σ,w=>SLR P all Q zs σ w
  | .q k r,σ,w=>∃ o v,all[k]?=some o/\(bif wantedE all o σ then ∀ w',C w'->(execOp (ev σ) o).run P w' = .ok (.value v) w' else v=undef)/\SLTS P all C zs Q r (updo σ o.dst v) w
  | .l k r,σ,w=>∃ o,all[k]?=some o/\SL P all (loudQ C (SLTS P all C zs Q r)) [o] σ w
  | .l2 k1 r1 k2 r2,σ,w=>(∃ o,all[k1]?=some o/\SL P all (loudQ C (SLTS P all C zs Q r1)) [o] σ w)/\∃ o,all[k2]?=some o/\SL P all (loudQ C (SLTS P all C zs Q r2)) [o] σ w
  | .l3 k1 r1 k2 r2 k3 r3,σ,w=>(∃ o,all[k1]?=some o/\SL P all (loudQ C (SLTS P all C zs Q r1)) [o] σ w)/\(∃ o,all[k2]?=some o/\SL P all (loudQ C (SLTS P all C zs Q r2)) [o] σ w)/\∃ o,all[k3]?=some o/\SL P all (loudQ C (SLTS P all C zs Q r3)) [o] σ w
theorem SLR_run {P:Program} {ds:List Deferred} {n:Nat} {Q:Post} (all:List Oper) (hok:∀ o∈all,∀ d,o.dst=some d->d<n):∀ (l:List Nat) (σ:Env) (w:World) (a:Act),Fr ds n σ a →
    SLR P all Q l σ w->runRow P all.toArray (fun a' w'=>∃ σ',Fr ds n σ' a'/\Q .normal σ' w') l a w
  | [],σ,_,_,ha,h=>⟨σ,ha,h⟩
  | _ :: r,_,_,_,ha,⟨_,ho,h⟩=>lOp_mono (fun _ _ hh=>hh.2) (SL_lOp all hok (fun σ' w' a' ha' h'=>SLR_run all hok r σ' w' a' ha' h') ho ha h)
theorem SLTS_runTS {P:Program} {ds:List Deferred} {n:Nat} {C:World->Prop} {zs:List Nat} {Q:Post} (all:List Oper) (hok:∀ o∈all,∀ d,o.dst=some d->d<n):∀ (l:Ord) (σ:Env) (w:World) (a:Act),Fr ds n σ a →
    SLTS P all C zs Q l σ w->runTS P all.toArray C zs (fun a' w'=>∃ σ',Fr ds n σ' a'/\Q .normal σ' w') l a w
  | .nil,σ,w,a,ha,h=>SLR_run all hok zs σ w a ha h
  | .q k r,σ,w,a,ha,⟨o,v,ho,hv,hK⟩=>by
    have hmem:o∈all:=List.mem_of_getElem? ho;refine ⟨o,v,by simpa using ho,?_,SLTS_runTS all hok r _ _ _ (ha.puto (hok o hmem) v) hK⟩;unfold YV;rw [wanted_eq ha all hok,ha.eval];cases hw:wantedE all o σ with
    | true=>rw [hw] at hv; exact .inl ⟨rfl,hv⟩
    | false=>rw [hw] at hv; exact .inr ⟨rfl,hv⟩
  | .l k r,σ,w,a,ha,⟨o,ho,h⟩=>SL_lOp all hok (fun σ' w' a' ha' h'=>SLTS_runTS all hok r σ' w' a' ha' h') ho ha h
  | .l2 k1 r1 k2 r2,σ,w,a,ha,⟨⟨o,ho,h⟩,⟨o',ho',h'⟩⟩ =>
    ⟨SL_lOp all hok (fun σ' w' a' ha' h'=>SLTS_runTS all hok r1 σ' w' a' ha' h') ho ha h,SL_lOp all hok (fun σ' w' a' ha' h'=>SLTS_runTS all hok r2 σ' w' a' ha' h') ho' ha h'⟩
  | .l3 k1 r1 k2 r2 k3 r3,σ,w,a,ha,⟨⟨o,ho,h⟩,⟨o',ho',h'⟩,⟨o'',ho'',h''⟩⟩ =>
    ⟨SL_lOp all hok (fun σ' w' a' ha' h'=>SLTS_runTS all hok r1 σ' w' a' ha' h') ho ha h,SL_lOp all hok (fun σ' w' a' ha' h'=>SLTS_runTS all hok r2 σ' w' a' ha' h') ho' ha h',SL_lOp all hok (fun σ' w' a' ha' h'=>SLTS_runTS all hok r3 σ' w' a' ha' h') ho'' ha h''⟩
theorem W.drawTS {r:Option Nat} {P:Program} {n:Nat} {Q:Post} {σ:Env} {w:World} {id:Nat} {l:List Oper} (C:World->Prop) (order:Ord) (m:Nat) (zs:List Nat) (hm:P.follows .mixedOrders=true)
    (hB:(Region.noSelect l.toArray&&Nat.beq (m+zs.length) l.length&&canonTS .any l.toArray zs order m (Array.replicate l.length false))=true)
    (hok:okDst n l=true) (h:∀ w1,Ext w w1->C w1/\SLTS P l C zs Q order σ w1):WR r P n (.region id l.toArray true) Q σ w:=by
  intro ds a ha;simp only [Bool.and_eq_true] at hB;obtain ⟨⟨hs,hl⟩,hB⟩:=hB;have hl':=Nat.eq_of_beq_eq_true hl;obtain ⟨hC,hS⟩:=h w.drew (.drew w);refine wpIn_region_any hm (wpAny_of_S (C:=C) (zs:=zs) (Q:=fun a' w'=>∃ σ',Fr ds n σ' a'/\Q .normal σ' w') (fun _ _ h=>h) _ _ _ _ ?_);have:=wpAnyS_canonT (P:=P) (md:=.any) (Q:=fun a' w'=>∃ σ',Fr ds n σ' a'/\Q .normal σ' w') hs order m (Array.replicate l.length false) a w.drew hC (ClosedL.none _) hB (SLTS_runTS l (okDst_spec hok) order σ w.drew a ha hS);rw [hl'] at this
  simpa using this
section
variable {P:Program} {all:List Oper} {C:World->Prop} {zs:List Nat} {z:Nat} {Q:Post} {r r2:Ord} {σ:Env} {w:World}
theorem ts_nil (h:SLR P all Q zs σ w):SLTS P all C zs Q .nil σ w:=h
theorem sr_l {o:Oper} (ho:all[z]?=some o) (h:SL P all (loudQ (fun _=>True) (SLR P all Q zs)) [o] σ w):SLR P all Q (z :: zs) σ w:=⟨o,ho,h⟩
theorem sr_nil (h:Q .normal σ w):SLR P all Q [] σ w:=h
theorem ts_q {k d:Nat} {op:Op} {ty:TypeId} {pos:String} {af:Array Edge} {v:Value} (ho:all[k]?=some ⟨some d,op,ty,pos,af,none⟩)
    (h:∀ w',C w'->(execOp (ev σ) ⟨some d,op,ty,pos,af,none⟩).run P w' = .ok (.value v) w') (hk:SLTS P all C zs Q r (upd σ d v) w):SLTS P all C zs Q (.q k r) σ w :=
  ⟨_,v,ho,h,hk⟩
theorem ts_l {k:Nat} {o:Oper} (ho:all[k]?=some o) (h:SL P all (loudQ C (SLTS P all C zs Q r)) [o] σ w):SLTS P all C zs Q (.l k r) σ w:=⟨o,ho,h⟩
theorem ts_l2 {k k2:Nat} {o o2:Oper} (ho:all[k]?=some o) (ho2:all[k2]?=some o2) (h:SL P all (loudQ C (SLTS P all C zs Q r)) [o] σ w) (h2:SL P all (loudQ C (SLTS P all C zs Q r2)) [o2] σ w) :
    SLTS P all C zs Q (.l2 k r k2 r2) σ w:=⟨⟨o,ho,h⟩,⟨o2,ho2,h2⟩⟩
end
end Go.Nm
namespace Go.Nm
open Go
section
variable {P:Program} {ops:Array Oper} {md:Region.Mode} {C:World->Prop} {zs fr:List Nat}
/-- No store of the row has come. -/
def Unl (zs:List Nat) (listed:Array Bool):Prop:=∀ z∈zs,listed.getD z false=false
theorem Unl.of {listed:Array Bool} {i:Nat} (h:Unl zs (listed.setIfInBounds i true)):Unl zs listed:=fun z hz=>by
  cases q:listed.getD z false with
  | false=>rfl
  | true =>
    have:=h z hz;rw [getD_set_true q] at this;cases this
theorem Unl.set {listed:Array Bool} {i:Nat} (h:Unl zs listed) (hi:i ∉ zs):Unl zs (listed.setIfInBounds i true):=fun z hz=>by
  rw [getD_set_ne false (fun e:i=z=>hi (e ▸ hz))];exact h z hz
end
section
variable {P:Program} {all:List Oper} {C:World->Prop} {zs fr:List Nat} {Q:Post} {r r2:Ord} {σ:Env} {w:World}
end
end Go.Nm
namespace Go.Nm
open Go
theorem St.perm {w0 w:World} {L L' R:List Chunk} (h:St w0 w L R) (p:L.Perm L'):St w0 w L' R:=by
  refine ⟨h.kp,?_⟩;have hS:=h.sep;rw [Sep.iff] at hS ⊢;have q:(L++R).Perm (L'++R):=p.append_right R;exact ⟨fun c hc=>hS.1 c (q.mem_iff.2 hc),(q.pairwise_iff fun h=>Apart.symm h).1 hS.2⟩
/-- What is allocated: where its pointer goes, its type, its cells. -/
abbrev Alc:=Nat × TypeId × List Value
def mixE (ds:List Nat) (g:Nat->Value) (σ:Env):Env:=fun t=>bif ds.contains t then g t else σ t
def ptrOf (b:Nat):Value:=.pointer (some ⟨b,0,none⟩)
/-- Behind all of them: each has its block. -/
def FinA:List Alc->List Chunk->Env->(List Chunk->Env->Prop)->Prop
  | [],acc,σ,K=>K acc σ
  | (d,t,z) :: r,acc,σ,K=>∀ b,FinA r (acc++[cBlk b z t]) (upd σ d (.pointer (some ⟨b,0,none⟩))) K
theorem FinA.go {K:List Chunk->Env->Prop} (b:Nat->Nat):∀ (sp:List Alc) (acc:List Chunk) (σ:Env),FinA sp acc σ K->K (acc++sp.map fun x=>cBlk (b x.1) x.2.2 x.2.1) (sp.foldl (fun σ x=>upd σ x.1 (ptrOf (b x.1))) σ)
  | [],acc,σ,h=>by simpa [FinA] using h
  | (d,t,z) :: r,acc,σ,h=>by
    have:=FinA.go b r _ _ (h (b d));rw [List.append_assoc] at this;exact this
section
variable (P:Program) (all:List Oper) (C:World->Prop) (w0:World) (R:List Chunk) (ds:List Nat) (Fin:Env->List Chunk->Prop)
/-- The row, whatever blocks there are beside. -/
def SLA:List (Nat × Bool)->Env->List Chunk->Prop
  | [],σ,L=>(∀ Lx w,St w0 w (L++Lx) R->C w)/\Fin σ L
  | (k,true) :: r,σ,L=>(∀ Lx w,St w0 w (L++Lx) R->C w)/\∃ o d v,all[k]?=some o/\o.dst=some d/\o.guard=none/\ds.contains d=false/\(∀ g w',C w'->(execOp (ev (mixE ds g σ)) o).run P w' = .ok (.value v) w')/\SLA r (upd σ d v) L
  | (k,false) :: r,σ,L=>(∀ Lx w,St w0 w (L++Lx) R->C w)/\∃ o,all[k]?=some o/\∀ g Lx w,St w0 w (L++Lx) R->SL P all (loudQ C fun σ' w'=>∃ σ'' L',σ'=mixE ds g σ''/\St w0 w' (L'++Lx) R/\SLA r σ'' L') [o] (mixE ds g σ) w
end
theorem SLA.cl {P:Program} {all:List Oper} {C:World->Prop} {w0:World} {R:List Chunk} {ds:List Nat} {Fin:Env->List Chunk->Prop} {r:List (Nat × Bool)} {σ:Env} {L:List Chunk} (h:SLA P all C w0 R ds Fin r σ L):∀ Lx w,St w0 w (L++Lx) R->C w:=by
  match r,h with
  | [],h=>exact h.1
  | (k,true) :: r,h=>exact h.1
  | (k,false) :: r,h=>exact h.1
/-- How far the allocations are. -/
structure AlS (P:Program) (all:List Oper) (sp:List (Nat × Alc)) (done:List Alc) (g:Nat->Value) (Lx:List Chunk):Prop where
  ex:∃ b:Nat->Nat,(∀ x∈done,g x.1=ptrOf (b x.1))/\Lx.Perm (done.map fun x=>cBlk (b x.1) x.2.2 x.2.1)
section
variable {P:Program} {all:List Oper} {C:World->Prop} {w0:World} {R:List Chunk} {ds:List Nat} {Fin:Env->List Chunk->Prop} {r:List (Nat × Bool)} {σ:Env} {L:List Chunk}
end
end Go.Nm
namespace Go.Nm
open Go
section
variable {md:Region.Mode} {ops:Array Oper}
end
end Go.Nm
namespace Go.Nm
open Go
section
variable {P:Program} {ops:Array Oper} {md:Region.Mode} {C:World->Prop} {z:Nat}
end
section
variable {P:Program} {all:List Oper} {C:World->Prop} {z:Nat} {Q:Post} {r:List Nat} {σ:Env} {w:World}
end
end Go.Nm
namespace Go.Nm
open Go
section
variable {P:Program} {ops:Array Oper} {md:Region.Mode} {C:World->Prop} {z:Nat}
end
section
variable {P:Program} {all:List Oper} {C:World->Prop} {z:Nat} {Q:Post} {r r2:Ord} {σ:Env} {w:World}
end
end Go.Nm
namespace Go.Nm
open Go
/-- As Q; a jump to the label: K. -/
def jumpQ (l:Nat) (K:Env->World->Prop) (Q:Post):Post
  | .goto l',σ,w=>l'=l/\K σ w
  | e,σ,w=>Q e σ w
section
variable {P:Program} {n:Nat} {Q:Post} {σ:Env} {w:World}
theorem W.goto {r:Option Nat} {l:Nat} (h:Q (.goto l) σ w):WR r P n (.goto l) Q σ w:=fun _ _ ha=>wpIn_goto ⟨σ,ha,h⟩
theorem W.jump {c rest:Code} (l:Nat) (hf:findLabel c l=some rest) (I:Nat->Env->World->Prop) (first:W P n c (jumpQ l (fun σ w=>∃ m,I m σ w) Q) σ w)
    (pass:∀ m σ w,I m σ w->W P n rest (jumpQ l (fun σ' w'=>∃ m',m'<m/\I m' σ' w') Q) σ w):W P n (.scope c) Q σ w:=by
  intro ds a ha
  classical
  let J:Act->World->Prop:=fun a w=>∃ m σ,Fr ds n σ a/\I m σ w
  have hmin:∀ a w,J a w->∃ m,(∃ σ,Fr ds n σ a/\I m σ w)/\∀ m',(∃ σ,Fr ds n σ a/\I m' σ w)->m<=m':=by
    rintro a w ⟨m,σ,h1,h2⟩;have key:∀ k m,m<=k->(∃ σ,Fr ds n σ a/\I m σ w)->∃ m,(∃ σ,Fr ds n σ a/\I m σ w)/\∀ m',(∃ σ,Fr ds n σ a/\I m' σ w)->m<=m':=by
      intro k;induction k with
      | zero=>intro m hm h; exact ⟨m,h,fun m' _=>by omega⟩
      | succ k ih =>
        intro m hm h;by_cases hx:∃ m',m'<m/\∃ σ,Fr ds n σ a/\I m' σ w
        · obtain ⟨m',hlt,h'⟩:=hx;exact ih m' (by omega) h'
        · exact ⟨m,h,fun m' h'=>Nat.le_of_not_lt fun hlt=>hx ⟨m',hlt,h'⟩⟩
    exact key m m (Nat.le_refl _) ⟨σ,h1,h2⟩
  let μ:Act->World->Nat:=fun a w=>if h:J a w then (hmin a w h).choose else 0
  refine (wpIn_wide (n:=0)).2 (wp_scope_jumps l J μ hf ?_ ?_)
  · refine wp_mono ((wpIn_wide (n:=0)).1 (first ds a ha)) ?_;rintro e a' w' ⟨s,hs,h'⟩;cases e with
    | goto l'=>exact ⟨h'.1,h'.2.choose,s,hs,h'.2.choose_spec⟩
    | _=>exact ⟨s,hs,h'⟩
  · intro a w hJ;obtain ⟨σ,hσ,hI⟩:=(hmin a w hJ).choose_spec.1;refine wp_mono ((wpIn_wide (n:=0)).1 (pass _ σ w hI ds a hσ)) ?_;rintro e a' w' ⟨s,hs,h'⟩;cases e with
    | goto l' =>
      obtain ⟨rfl,m',hlt,hI'⟩:=h';have hJ':J a' w':=⟨m',s,hs,hI'⟩
      refine ⟨rfl,hJ',?_⟩;have h1:=(hmin a' w' hJ').choose_spec.2 m' ⟨s,hs,hI'⟩;have e1:μ a' w'=(hmin a' w' hJ').choose:=dif_pos hJ';have e2:μ a w=(hmin a w hJ).choose:=dif_pos hJ;rw [e1,e2];omega
    | _=>exact ⟨s,hs,h'⟩
end
end Go.Nm
namespace Go.Nm
open Go
def noGotoD (Q:PostD):PostD
  | .goto _,_,_,_=>False
  | e,Ds,σ,w=>Q e Ds σ w
theorem WD.scope {P:Program} {n:Nat} {Q:PostD} {σ:Env} {w:World} {Ds:List Nat} {c:Code} (h:WD P n Ds c (noGotoD Q) σ w):WD P n Ds (.scope c) Q σ w:=by
  intro a ha;refine (wpIn_wide (n:=0)).2 (wp_scope_straight (wp_mono ((wpIn_wide (n:=0)).1 (h a ha)) ?_));rintro e a' w' ⟨d,s,hs,h'⟩;cases e with
  | goto l=>exact h'.elim
  | _=>exact ⟨d,s,hs,h'⟩
section
variable {P:Program} {w:World} {σ:Env} {d:Nat} {ty:TypeId} {pos:String} {af:Array Edge} {g:Option (Nat × Bool)}
/-! ### Values of any type, and what type they are of -/
theorem x_mi {t:TypeId} {x:Operand} {v:Value} {D:TypeDesc} (hu:P.underlying t=some D) (hn:∀ m,D ≠ .interface m) (hx:ev σ x=v) :
    (execOp (ev σ) ⟨some d,.makeInterface t x,ty,pos,af,g⟩).run P w = .ok (.value (.iface t v)) w:=by
  cases D <;> first | exact absurd rfl (hn _) | simp [execOp,Instr.makeInterface,run_underlying hu,hx]
theorem x_ta1 {t xt:TypeId} {x:Operand} {v:Value} {D:TypeDesc} (hu:P.underlying t=some D) (hn:∀ m,D ≠ .interface m) (hx:ev σ x = .iface t v) :
    (execOp (ev σ) ⟨some d,.typeAssert x xt t true,ty,pos,af,g⟩).run P w = .ok (.value (.tuple #[v,.bool true])) w:=by
  cases D <;> first | exact absurd rfl (hn _) | simp [execOp,Instr.typeAssert,run_underlying hu,hx]
theorem x_ta0 {t t' xt:TypeId} {x:Operand} {v z:Value} {D:TypeDesc} (hu:P.underlying t=some D) (hn:∀ m,D ≠ .interface m) (hne:t' ≠ t) (hz:(P.info? t).map (·.zero)=some (some z)) (hx:ev σ x = .iface t' v) :
    (execOp (ev σ) ⟨some d,.typeAssert x xt t true,ty,pos,af,g⟩).run P w = .ok (.value (.tuple #[z,.bool false])) w:=by
  have hzv:(zeroValue t).run P w = .ok z w:=by
    cases hi:P.info? t with
    | none=>simp [hi] at hz
    | some i =>
      simp only [hi,Option.map_some,Option.some.injEq] at hz;simp [zeroValue,typeInfo,hi,hz]
  cases D <;> first | exact absurd rfl (hn _) | simp [execOp,Instr.typeAssert,run_underlying hu,hx,hne,hzv]
end
/-- An iterator hands over a number and a span. -/
def arISpan:Cells->List Value->Int × Span->Prop:=fun _ vs x=>vs=[I x.1,.agg #[I x.2.lo,I x.2.hi]]
theorem arISpan_len {k:Nat} (hk:k=2):∀ C vs x,arISpan C vs x->vs.length=k:=fun _ _ _ h=>by rw [show _=_ from h,hk]; rfl
/-- A span as a map's value. -/
def encSp (s:Span):Value:=.agg #[I s.lo,I s.hi]
theorem span_val (o:Option Span):(o.map encSp).getD (.agg #[I 0,I 0]) = .agg #[I (o.getD default).lo,I (o.getD default).hi]:=by cases o <;> rfl
end Go.Nm
namespace Go.Nm
open Go
section
variable {P:Program} {w:World} {σ:Env} {d:Nat} {ty:TypeId} {pos:String} {af:Array Edge} {g:Option (Nat × Bool)}
end
end Go.Nm
namespace Go.Nm
open Go
section
variable {P:Program} {w:World}
end
end Go.Nm
namespace Go.Nm
open Go
theorem sl_lohi {α:Type} [Elt α] {P:Program} {t e:TypeId} (hu:P.underlying t=some (.slice e)) (hs:(P.info? e).map (·.size)=some (Elt.sz α)) {C:Cells} {v:Value} {l:List α} (h:Sl C v l) {i j:Int} (h0:0<=i) (h1:i<=j) (h2:j<=l.length) :
    ∃ u,(∀ w,(Instr.sliceAt t v (some (.int .i64 i)) (some (.int .i64 j)) none).run P w = .ok u w)/\Sl C u ((l.take j.toNat).drop i.toNat):=by
  obtain ⟨a,c,hv,hc,hm,hh⟩:=h.ex;have hlen:((l.take j.toNat).drop i.toNat).length=j.toNat-i.toNat:=by simp; omega
  refine ⟨.slice (if c=i.toNat then a else a.map (·.add (i.toNat*Elt.sz α))) (j.toNat-i.toNat) (c-i.toNat),fun w=>?_,⟨_,c-i.toNat,by rw [hlen],by omega,by omega,fun k x hx=>?_⟩⟩
  · subst hv;have hjc:j<=(c:Int):=by omega
    simp [Instr.sliceAt,Instr.slice,Instr.sliceBounds,Instr.sliceBound,asIntOf,run_underlying hu,run_sizeOf hs,h0,hjc];rw [if_pos (by omega),if_pos (by omega)]
  · rw [List.getElem?_drop,List.getElem?_take] at hx;split at hx
    · have hlt:=(List.getElem?_eq_some_iff.1 hx).1;obtain ⟨b,o,cs,ha,hr,hy⟩:=hh _ x hx;refine ⟨b,o+i.toNat*Elt.sz α,cs,?_,hr,fun j y hj=>?_⟩
      · rw [if_neg (by omega),ha];simp [add_lit]
      · have:=hy j y hj
        rwa [show o+(i.toNat+k)*Elt.sz α+j=o+i.toNat*Elt.sz α+k*Elt.sz α+j from by rw [Nat.add_mul]; omega] at this
    · cases hx
end Go.Nm
namespace Go.Nm
open Go
section
variable {P:Program} {w:World}
variable {all rest:List Oper} {Q:Post} {σ:Env} {w0:World} {L R:List Chunk} {ty:TypeId} {pos:String} {af:Array Edge}
end
end Go.Nm
namespace Go.Nm
open Go
universe u
/-- What a test says, as a proposition. -/
class DcQ (b c:Bool) (p:outParam Prop):Prop where
  to:b=c->p
instance (priority:=low) {b c:Bool}:DcQ b c (b=c):=⟨fun h=>h⟩
instance {p:Prop} [Decidable p]:DcQ (decide p) true p:=⟨of_decide_eq_true⟩
instance {p:Prop} [Decidable p]:DcQ (decide p) false (¬p):=⟨of_decide_eq_false⟩
instance {α:Type _} [BEq α] [LawfulBEq α] {a b:α}:DcQ (a==b) true (a=b):=⟨beq_iff_eq.1⟩
instance {α:Type _} [BEq α] [LawfulBEq α] {a b:α}:DcQ (a==b) false (a ≠ b):=⟨beq_eq_false_iff_ne.1⟩
instance {α:Type _} [BEq α] [LawfulBEq α] {a b:α}:DcQ (a != b) true (a ≠ b):=⟨bne_iff_ne.1⟩
instance {α:Type _} [BEq α] [LawfulBEq α] {a b:α}:DcQ (a != b) false (a=b):=⟨bne_eq_false_iff_eq.1⟩
/-- What a guard says, as a proposition. -/
class DeQ (b:Bool) (p:outParam Prop):Prop where
  iff:b=true↔p
instance (priority:=low) {b:Bool}:DeQ b (b=true):=⟨Iff.rfl⟩
instance {p:Prop} [Decidable p]:DeQ (decide p) p:=⟨decide_eq_true_iff⟩
instance {a b:Bool} {p q:Prop} [ha:DeQ a p] [hb:DeQ b q]:DeQ (a&&b) (p/\q):=⟨by rw [Bool.and_eq_true,ha.iff,hb.iff]⟩
theorem M.e_gq {α:Type} {b:Bool} {p:Prop} [h:DeQ b p] {k:M α} {r:α} (hk:(M.grd b k).Ends r):p/\k.Ends r:=⟨h.iff.1 (M.e_grd hk).1,(M.e_grd hk).2⟩
/-! ### Facts on types, found by their numbers -/
class FdC (P:Program) (s k:Nat) (off ft:outParam Nat):Prop where
  h:(P.underlying s).bind (fun d=>match d with | .struct fs=>(fs[k]?).map (fun f=>(f.offset,f.type)) | _=>none)=some (off,ft)
class ScC (P:Program) (t:Nat):Prop where
  h:isSc (P.underlying t)=true
class AgC (P:Program) (t:Nat):Prop where
  h:isAg (P.underlying t)=true
class SzC (P:Program) (t:Nat) (n:outParam Nat):Prop where
  h:(P.info? t).map (·.size)=some n
class TlC (P:Program) (t:Nat) (e sz by':outParam Nat) (z:outParam Value):Prop where
  h:SlT P t e sz by' z
class AlC (P:Program) (t:Nat) (z:outParam Value):Prop where
  h:(P.info? t).map (·.zero)=some (some z)
class BdC (P:Program) (t:Nat) (pl:outParam (List (Nat × Nat))):Prop where
  h:∃ fs:Array Field,P.underlying t=some (.struct fs)/\fs.toList.mapM (fun f=>(P.info? f.type).map fun i=>(f.offset,i.size))=some pl
class CfC (P:Program) (f:FuncId):Prop where
  h:CF P f
class AddC (a b:Nat) (c:outParam Nat):Prop where
  h:a+b=c
instance (priority:=low) {a b:Nat}:AddC a b (a+b):=⟨rfl⟩
instance {a:Nat}:AddC a 0 a:=⟨rfl⟩
instance {b:Nat}:AddC 0 b b:=⟨Nat.zero_add b⟩
/-- An index as a number. -/
class IxC (i:Int) (n:outParam Nat):Prop where
  h:i.toNat=n
instance (priority:=low) {i:Int}:IxC i i.toNat:=⟨rfl⟩
instance {n:Nat}:IxC (n:Int) n:=⟨rfl⟩
instance:IxC 0 0:=⟨rfl⟩
instance:IxC 1 1:=⟨rfl⟩
instance:IxC 2 2:=⟨rfl⟩
instance:IxC 3 3:=⟨rfl⟩
instance:IxC 4 4:=⟨rfl⟩
instance:IxC 5 5:=⟨rfl⟩
instance:IxC 6 6:=⟨rfl⟩
instance:IxC 7 7:=⟨rfl⟩
instance:IxC 8 8:=⟨rfl⟩
instance:IxC 9 9:=⟨rfl⟩
/-- What is read beyond a list's end. -/
class DfC (α:Type) (d:outParam α):Prop where
  h:True
instance (priority:=low) {α:Type} [Inhabited α]:DfC α default:=⟨trivial⟩
instance:DfC Int 0:=⟨trivial⟩
instance:DfC Bool false:=⟨trivial⟩
/-- The cells of a thing, written out. -/
class EncL {α:Type} [Flat α] (x:α) (ds:outParam (List Value)):Prop where
  h:Flat.enc x=ds
/-- Some of a list's entries. -/
class SubR {α:Type u} (l:List α) (k n:Nat) (o:outParam (List α)):Prop where
  h:(l.drop k).take n=o
instance {α:Type u} {l:List α}:SubR l 0 0 []:=⟨rfl⟩
instance {α:Type u} {l o:List α} {x:α} {n:Nat} [h:SubR l 0 n o]:SubR (x :: l) 0 (n+1) (x :: o):=⟨by have:=h.h; simp at this; simp [this]⟩
instance {α:Type u} {l o:List α} {x:α} {k n:Nat} [h:SubR l k n o]:SubR (x :: l) (k+1) n o:=⟨by rw [List.drop_succ_cons]; exact h.h⟩
/-- A block among the parts. -/
class BlkR (L:List Chunk) (b:Nat) (cs:outParam (List Value)) (t:outParam TypeId):Prop where
  h:∃ k:Nat,L[k]?=some (cBlk b cs t)
instance {c:Chunk} {L:List Chunk} {b:Nat} {cs:List Value} {t:TypeId} [h:BlkR L b cs t]:BlkR (c :: L) b cs t:=⟨by obtain ⟨k,h⟩:=h.h; exact ⟨k+1,by simpa using h⟩⟩
instance {L:List Chunk} {b:Nat} {cs:List Value} {t:TypeId}:BlkR (cBlk b cs t :: L) b cs t:=⟨⟨0,rfl⟩⟩
/-- A block among the parts that is changed. -/
class BlkW (L:List Chunk) (b:Nat) (cs:List Value) (cs':List Value) (t:TypeId) (o:outParam (List Chunk)):Prop where
  h:∃ k:Nat,L[k]?=some (cBlk b cs t)/\L.set k (cBlk b cs' t)=o
instance {c:Chunk} {L o:List Chunk} {b:Nat} {cs cs':List Value} {t:TypeId} [h:BlkW L b cs cs' t o]:BlkW (c :: L) b cs cs' t (c :: o):=⟨by obtain ⟨k,h1,h2⟩:=h.h; exact ⟨k+1,by simpa using h1,by rw [List.set_cons_succ,h2]⟩⟩
instance {L:List Chunk} {b:Nat} {cs cs':List Value} {t:TypeId}:BlkW (cBlk b cs t :: L) b cs cs' t (cBlk b cs' t :: L):=⟨⟨0,rfl,rfl⟩⟩
/-- A field of an element. -/
class FldC (α:Type) [Elt α] (k:Nat) (e:outParam α) (f:outParam (α->Value)):Prop where
  h:∀ {C:Cells} {v:Value} {l:List α} {n:Nat},Sl C v l->n<l.length->At C (fat (vat v (Elt.sz α) n) k) [f (l.getD n e)]
section
variable {w0 w:World} {L R:List Chunk}
theorem St.bq {b:Nat} {cs:List Value} {t:TypeId} (H:St w0 w L R) [h:BlkR L b cs t]:w.heap[b]?=some (.cells cs.toArray t (0,0)):=by
  obtain ⟨k,hk⟩:=h.h;exact H.get hk
end
section
variable {P:Program} {w:World} {σ:Env} {d:Nat} {ty:TypeId} {pos:String} {af:Array Edge} {g:Option (Nat × Bool)}
theorem pos_succ {m:Nat} (h:Nat.blt 0 m=true):∃ n,m=n+1:=by
  cases m with
  | zero=>cases h
  | succ n=>exact ⟨n,rfl⟩
theorem y_fab {s k off ft m b o c:Nat} {x:Operand} (hx:ev σ x = .pointer (some ⟨b,o,none⟩)) [f:FdC P s k off ft] [z:SzC P ft m] (a:AddC o off c) (hm:Nat.blt 0 m=true) :
    (execOp (ev σ) ⟨some d,.fieldAddr s x k,ty,pos,af,g⟩).run P w = .ok (.value (.pointer (some ⟨b,c,none⟩))) w:=by
  obtain ⟨n,rfl⟩:=pos_succ hm;have:=fa_blk (w:=w) (b:=b) (o:=o) f.h z.h;rw [a.h] at this;exact x_fa hx this
theorem y_fap {s k off ft m:Nat} {x:Operand} {p:Value} (hx:ev σ x=p) [f:FdC P s k off ft] [z:SzC P ft m] (hm:Nat.blt 0 m=true) (hp:∃ b o,p = .pointer (some ⟨b,o,none⟩)) :
    (execOp (ev σ) ⟨some d,.fieldAddr s x k,ty,pos,af,g⟩).run P w = .ok (.value (fat p off)) w:=by
  obtain ⟨n,rfl⟩:=pos_succ hm;exact x_fa hx (fa_pl f.h z.h hp)
theorem y_fav {α:Type} {_:Elt α} {s k off ft m sz n:Nat} {x:Operand} {C:Cells} {v:Value} {l:List α} (hx:ev σ x=vat v sz n) [f:FdC P s k off ft] [z:SzC P ft m] (hm:Nat.blt 0 m=true) (hs:Sl C v l) (hz:Elt.sz α=sz) (h1:n<l.length) :
    (execOp (ev σ) ⟨some d,.fieldAddr s x k,ty,pos,af,g⟩).run P w = .ok (.value (fat (vat v sz n) off)) w:=by
  subst hz;have:=Sl.pl hs (i:=(n:Int)) (by omega) (by omega);exact y_fap hx hm (by simpa using this)
theorem y_faw {α:Type} {_:Elt α} {s k off ft m sz n a c:Nat} {x:Operand} {C:Cells} {v:Value} {l:List α} (hx:ev σ x=fat (vat v sz n) a) [f:FdC P s k off ft] [z:SzC P ft m] (ad:AddC a off c) (hm:Nat.blt 0 m=true) (hs:Sl C v l) (hz:Elt.sz α=sz) (h1:n<l.length) :
    (execOp (ev σ) ⟨some d,.fieldAddr s x k,ty,pos,af,g⟩).run P w = .ok (.value (fat (vat v sz n) c)) w:=by
  subst hz;obtain ⟨b,o,hp⟩:=Sl.pl hs (i:=(n:Int)) (by omega) (by omega);have e:vat v (Elt.sz α) n = .pointer (some ⟨b,o,none⟩):=by simpa using hp
  have:=y_fap (P:=P) (w:=w) (d:=d) (ty:=ty) (pos:=pos) (af:=af) (g:=g) hx (f:=f) (z:=z) hm ⟨b,o+a,by rw [e]; simp [fat,add_lit]⟩;rw [this,e,← ad.h];simp [fat,add_lit,Nat.add_assoc]
theorem y_ldb {t:TypeId} {b off:Nat} {cs:List Value} {et:TypeId} {fr:Nat × Nat} {x:Operand} {v:Value} (hx:ev σ x = .pointer (some ⟨b,off,none⟩)) [s:ScC P t] (h:w.heap[b]?=some (.cells cs.toArray et fr)) (hv:(cs.drop off).take 1=[v]) :
    (execOp (ev σ) ⟨some d,.load t x,ty,pos,af,g⟩).run P w = .ok (.value v) w:=x_ld hx (ldb_sc s.h h hv)
theorem y_lda {t:TypeId} {b off n:Nat} {cs ds:List Value} {et:TypeId} {fr:Nat × Nat} {x:Operand} (hx:ev σ x = .pointer (some ⟨b,off,none⟩)) [s:AgC P t] [z:SzC P t n] (h:w.heap[b]?=some (.cells cs.toArray et fr)) (q:SubR cs off n ds) (hn:ds.length=n) :
    (execOp (ev σ) ⟨some d,.load t x,ty,pos,af,g⟩).run P w = .ok (.value (.agg ds.toArray)) w:=x_ld hx (ldb_ag s.h z.h h q.h hn)
theorem At.flat {α:Type} [Flat α] {C:Cells} {v:Value} {l:List α} (hs:Sl C v l) {n:Nat} (h1:n<l.length) (e:α):At C (vat v (Elt.sz α) n) (Flat.enc (l.getD n e)):=by
  obtain ⟨cs,ha,hr⟩:=hs.atI (i:=(n:Int)) (by omega) (by omega) e;rw [Flat.rep_iff] at hr;subst hr
  simpa using ha
theorem y_lds {α:Type} {_:Flat α} {t sz n:Nat} {x:Operand} {C:Cells} {v u:Value} {l:List α} {e:α} (hx:ev σ x=vat v sz n) [s:ScC P t] (hs:Sl C v l) {ds:List Value} (de:DfC α e) (en:EncL (l.getD n e) ds) (hz:Elt.sz α=sz) (hu:ds=[u]) (hle:C.Le w.cell?) (h1:n<l.length) :
    (execOp (ev σ) ⟨some d,.load t x,ty,pos,af,g⟩).run P w = .ok (.value u) w:=by
  subst hz;have:=(At.flat hs h1 e).mono hle;rw [en.h,hu] at this;exact x_ld hx (ld_sc s.h this)
theorem y_ldf {α:Type} {_:Flat α} {t sz n k:Nat} {x:Operand} {C:Cells} {v u:Value} {l:List α} {e:α} (hx:ev σ x=fat (vat v sz n) k) [s:ScC P t] (hs:Sl C v l) {ds:List Value} (de:DfC α e) (en:EncL (l.getD n e) ds) (hz:Elt.sz α=sz) (hu:(ds.drop k).take 1=[u]) (hle:C.Le w.cell?) (h1:n<l.length) :
    (execOp (ev σ) ⟨some d,.load t x,ty,pos,af,g⟩).run P w = .ok (.value u) w:=by
  subst hz;have:=((At.flat hs h1 e).mono hle).fld k 1;rw [en.h,hu] at this;exact x_ld hx (ld_sc s.h this)
theorem y_ldA {α:Type} {_:Flat α} {t sz n:Nat} {x:Operand} {C:Cells} {v:Value} {l:List α} {e:α} (hx:ev σ x=vat v sz n) [s:AgC P t] [z:SzC P t sz] (hs:Sl C v l) {ds:List Value} (de:DfC α e) (en:EncL (l.getD n e) ds) (hz:Elt.sz α=sz) (hle:C.Le w.cell?) (h1:n<l.length) :
    (execOp (ev σ) ⟨some d,.load t x,ty,pos,af,g⟩).run P w = .ok (.value (.agg ds.toArray)) w:=by
  subst hz;have:=(At.flat hs h1 e).mono hle;rw [en.h] at this;refine x_ld hx (ld_ag s.h ?_ this);rw [z.h,← en.h,Flat.enc_len]
theorem y_ldg {α:Type} {_:Elt α} {t sz n k:Nat} {x:Operand} {C:Cells} {v:Value} {l:List α} {e:α} {f:α->Value} (hx:ev σ x=fat (vat v sz n) k) [s:ScC P t] (hs:Sl C v l) (fc:FldC α k e f) (hz:Elt.sz α=sz) (hle:C.Le w.cell?) (h1:n<l.length) :
    (execOp (ev σ) ⟨some d,.load t x,ty,pos,af,g⟩).run P w = .ok (.value (f (l.getD n e))) w:=by
  subst hz;exact x_ld hx (ld_sc s.h ((fc.h hs h1).mono hle))
theorem y_ldp {t:TypeId} {x:Operand} {p v:Value} (hx:ev σ x=p) [s:ScC P t] (ha:At w.cell? p [v]) :
    (execOp (ev σ) ⟨some d,.load t x,ty,pos,af,g⟩).run P w = .ok (.value v) w:=x_ld hx (ld_sc s.h ha)
theorem y_bld {t:TypeId} {z:Value} {zs:List Value} (L':List Value) {pl:List (Nat × Nat)} {parts:Array (Nat × Operand)} {ps:List (Nat × Value)}
    (hps:parts.toList.map (fun x=>(x.1,ev σ x.2))=ps) [a:AlC P t z] (hzc:z.cells=zs.toArray) [b:BdC P t pl] (hf:Fill pl zs ps L') :
    (execOp (ev σ) ⟨some d,.build t parts,ty,pos,af,g⟩).run P w = .ok (.value (.agg L'.toArray)) w:=by
  obtain ⟨fs,hu,hp⟩:=b.h;exact x_bld hps hu a.h hzc hp hf
theorem y_len {α:Type} {_:Elt α} {t e sz by':Nat} {z:Value} {x:Operand} {C:Cells} {v:Value} {l:List α} [T:TlC P t e sz by' z] (h:ev σ x=v) (hs:Sl C v l) :
    (execOp (ev σ) ⟨some d,.call ⟨.builtin .len,#[x],#[t]⟩,ty,pos,af,g⟩).run P w = .ok (.value (.int .i64 l.length)) w:=x_lenS T.h.und h hs
theorem y_ix {α:Type} {_:Elt α} {t e sz by' n:Nat} {z:Value} {x y:Operand} {C:Cells} {v:Value} {l:List α} {kd:IntKind} {i:Int} [T:TlC P t e sz by' z] (hx:ev σ x=v) (hy:ev σ y = .int kd i) (ix:IxC i n) (hs:Sl C v l) (hz:Elt.sz α=sz) (h0:0<=i) (h1:i<l.length) :
    (execOp (ev σ) ⟨some d,.indexAddr t x y,ty,pos,af,g⟩).run P w = .ok (.value (vat v sz n)) w:=by
  subst hz;have:=Sl.ix (w:=w) (kd:=kd) T.h.und T.h.size hs h0 h1;rw [ix.h] at this;exact x_ix hx hy this
end
section
variable {P:Program} {all rest:List Oper} {Q:Post} {σ:Env} {w0 w:World} {L L' R:List Chunk} {ty:TypeId} {pos:String} {af:Array Edge}
theorem y_alloc {d:Nat} {e:TypeId} {z:Value} {cs:List Value} (H:St w0 w L R) [a:AlC P e z] (hv:z.cells=cs.toArray)
    (k:∀ b w',St w0 w' (cBlk b cs e :: L) R->SL P all Q rest (upd σ d (.pointer (some ⟨b,0,none⟩))) w'):SL P all Q (⟨some d,.alloc e,ty,pos,af,none⟩ :: rest) σ w:=t_alloc H a.h hv k
theorem y_sw {dst:Option Nat} {t:TypeId} {x y:Operand} {b off n:Nat} {cs vs cs':List Value} {v:Value} {et:TypeId} (H:St w0 w L R) (hx:ev σ x = .pointer (some ⟨b,off,none⟩)) (hy:ev σ y=v) (hv:v.cells=vs.toArray)
    (hk:BlkR L b cs et) [z:SzC P t n] (hc:OverR cs off vs cs') (hL:BlkW L b cs cs' et L') (hn:vs.length=n) (hl:Nat.ble (off+n) cs.length=true) (h1:vs.all (·.oneCell')=true)
    (kk:∀ w',St w0 w' L' R->SL P all Q rest (updo σ dst undef) w'):SL P all Q (⟨dst,.store t x y,ty,pos,af,none⟩ :: rest) σ w:=by
  obtain ⟨k,h2,h3⟩:=hL.h;exact t_st (k:=k) H h2 hx hy z.h hv hn hl h1 (by rw [← hn]; exact hc.is) h3 kk
end
theorem W.cnd {rr:Option Nat} {P:Program} {n:Nat} {Q:Post} {σ:Env} {w:World} {α:Type} {b:Bool} {x y:M α} {r:α} {c:Operand} {cx cy:Code} {p p':Prop} (hM:(bif b then x else y).Ends r) (hc:ev σ c = .bool b) [h1:DcQ b true p] [h2:DcQ b false p']
    (ht:p->x.Ends r->WR rr P n cx Q σ w) (hf:p'->y.Ends r->WR rr P n cy Q σ w):WR rr P n (.cond c cx cy) Q σ w :=
  W.cond b hc (fun e=>ht (h1.to e) (M.e_t hM e)) (fun e=>hf (h2.to e) (M.e_f hM e))
instance {x:Int}:EncL x [I x]:=⟨rfl⟩
instance {x:Bool}:EncL x [B x]:=⟨rfl⟩
/-- A slice that reads as a list. -/
theorem jS {A:Prop} (h:A:=by first | assumption | exact H.os 0 | exact H.os 1 | exact H.os 2 | exact H.os 3 | exact H.os 4 | exact H.os 5 | exact H.os 6 | exact H.os 7 | exact H.os 8 | exact H.os 9 | exact (by assumption:_=true->Sl _ _ _) hg):A:=h
/-- Cells that can be read. -/
theorem jL {A:Prop} (h:A:=by first | exact Reads.at (by assumption) H | exact H.ol 0 | exact H.ol 1 | exact H.ol 2 | exact H.ol 3 | exact H.ol 4 | exact H.ol 5 | exact H.ol 6 | exact H.ol 7 | exact H.ol 8 | exact H.ol 9):A:=h
/-- A bound. -/
theorem jO {A:Prop} (h:A:=by first | omega | (have hx_:=hg; simp at hx_; omega) | (have hx_:=hg; simp at hx_; simp only [hg,Bool.true_eq_false,Bool.false_eq_true,reduceCtorEq,false_or,true_or,Bool.not_true,Bool.not_false] at *; omega) | (simp only [hg,Bool.true_eq_false,Bool.false_eq_true,reduceCtorEq,false_or,true_or,Bool.not_true,Bool.not_false] at *; omega)):A:=h
/-- A guard. -/
theorem jB {A:Prop} (h:A:=by first | exact hb | (rw [hb]; rfl) | simp_all):A:=h
/-- A frame. -/
theorem jQ {A:Prop} (h:A:=by exact upds_of _ _ (by repeat (first | exact trivial | refine And.intro rfl ?_))):A:=h
/-- A struct that is filled. -/
theorem jF {A:Prop} (h:A:=by repeat (first | exact Fill.nil | refine Fill.cons rfl rfl rfl rfl rfl ?_ | refine Fill.cons (Sl.cells (by assumption)) rfl rfl rfl rfl ?_ | refine Fill.cons (Sl.cells jS) rfl rfl rfl rfl ?_)):A:=h
/-- A value under a guard, or none. -/
theorem jG {A:Prop} (h:A:=by first | exact gd_of hg _ | ((conv=>lhs; whnf) <;> rfl)):A:=h
/-- A value. -/
theorem jE {A:Prop} (h:A:=by ((conv=>lhs; whnf) <;> rfl)):A:=h
/-- One operation. -/
theorem jU {A:Prop} (h:A:=by 
    first
      | (apply x_mv; exact jE)
      | (apply x_as; exact jE)
      | (apply y_fab; rfl; exact inferInstance; rfl)
      | (apply y_ldb; rfl; exact H.bq; rfl)
      | (apply x_cmp; rfl; rfl; rfl)
      | (apply y_len; exact jE; exact jS)
      | (apply y_ix; exact jE; rfl; exact inferInstance; exact jS; rfl; exact jO; exact jO)
      | (apply y_fav; rfl; rfl; exact jS; rfl; exact jO)
      | (apply y_faw; rfl; exact inferInstance; rfl; exact jS; rfl; exact jO)
      | (apply y_lds; rfl; exact jS; exact inferInstance; exact inferInstance; rfl; rfl; exact jL; exact jO)
      | (apply y_ldf; rfl; exact jS; exact inferInstance; exact inferInstance; rfl; rfl; exact jL; exact jO)
      | (apply y_ldg; rfl; exact jS; exact inferInstance; rfl; exact jL; exact jO)
      | (apply y_ldA; rfl; exact jS; exact inferInstance; exact inferInstance; rfl; exact jL; exact jO)
      | (apply y_ldp; rfl; exact At.mono (by assumption) jL)
      | (apply x_ari; rfl; rfl; rfl; exact jO)
      | (apply x_ext; rfl; rfl)
      | (apply x_nc; rfl)
      | (apply y_lda; rfl; exact H.bq; exact inferInstance; rfl)
      | (apply y_ldb; rfl; exact (by assumption:Has _ (cBlk _ _ _)).blk H; rfl)
      | (apply x_not; rfl)
      | (apply x_max; rfl; rfl)
      | (apply x_min; rfl; rfl)
      | (apply x_quo; rfl; rfl; exact jO)
      | (apply x_por; rfl; rfl; exact fun hb=>gd_of jB _)
      | (apply x_pand; rfl; exact fun hb=>gd_of jB _; rfl)):A:=h
/-- One operation under a guard. -/
theorem jV {A:Prop} (h:A:=by 
    first
      | (apply x_mv; exact jG)
      | (apply x_as; exact jG)
      | (apply y_fab; exact jG; exact inferInstance; rfl)
      | (apply y_ldb; exact jG; exact H.bq; rfl)
      | (apply x_cmp; exact jG; exact jG; rfl)
      | (apply y_len; exact jG; exact jS)
      | (apply y_ix; exact jG; exact jG; exact inferInstance; exact jS; rfl; exact jO; exact jO)
      | (apply y_fav; exact jG; rfl; exact jS; rfl; exact jO)
      | (apply y_faw; exact jG; exact inferInstance; rfl; exact jS; rfl; exact jO)
      | (apply y_lds; exact jG; exact jS; exact inferInstance; exact inferInstance; rfl; rfl; exact jL; exact jO)
      | (apply y_ldf; exact jG; exact jS; exact inferInstance; exact inferInstance; rfl; rfl; exact jL; exact jO)
      | (apply y_ldg; exact jG; exact jS; exact inferInstance; rfl; exact jL; exact jO)
      | (apply y_ldA; exact jG; exact jS; exact inferInstance; exact inferInstance; rfl; exact jL; exact jO)
      | (apply y_ldp; exact jG; exact At.mono (by assumption) jL)
      | (apply x_ari; exact jG; exact jG; rfl; exact jO)
      | (apply x_ext; exact jG; rfl)
      | (apply x_nc; exact jG)
      | (apply y_lda; exact jG; exact H.bq; exact inferInstance; rfl)
      | (apply y_ldb; exact jG; exact (by assumption:Has _ (cBlk _ _ _)).blk H; rfl)
      | (apply x_not; exact jG)
      | (apply x_max; exact jG; exact jG)
      | (apply x_min; exact jG; exact jG)
      | (apply x_quo; exact jG; exact jG; exact jO)
      | (apply x_por; exact jG; exact jG; exact fun hb=>gd_of jB _)
      | (apply x_pand; exact jG; exact fun hb=>gd_of jB _; exact jG)):A:=h
/-- What is left. -/
structure Left (B:Prop):Prop where
  h:B
/-- How many steps are left. -/
structure Cnt (n:Nat):Prop where
  h:n=n
theorem Cnt.dn {n:Nat} (c:Cnt (n+1)):Cnt n:=⟨rfl⟩
/-- So many plain steps. -/
theorem kg {A B:Prop} (n:Nat) (q:B) (f:Cnt n->Left B->A:=by
    intro cnt q
    (repeat (replace cnt:=Cnt.dn cnt; first
      | (apply s_val; exact jU)
      | refine s_nil ?_
      | refine W.seq ?_
      | refine W.region rfl ?_
      | refine W.skip ?_
      | refine W.block ?_
      | (apply d_q; rfl; (intro w' H; exact jU))
      | (apply t_q; rfl; (intro w' H; exact jU))
      | (apply ts_q; rfl; (intro w' H; exact jU))
      | (apply g_val; (first | exact gy_t rfl | exact gy_f rfl | exact gy_gt rfl rfl | exact gy_gf rfl rfl); (intro hg; exact jV))
      | (apply d_qg; rfl; (first | exact gy_t rfl | exact gy_f rfl | exact gy_gt rfl rfl | exact gy_gf rfl rfl); (intro hg w' H; exact jV))
      | (apply t_qg; rfl; (first | exact gy_t rfl | exact gy_f rfl | exact gy_gt rfl rfl | exact gy_gf rfl rfl); (intro hg w' H; exact jV))
      | refine t_nil ?_
      | refine d_nil ?_
      | refine ts_nil ?_))
    exact q.h):A:=f ⟨rfl⟩ ⟨q⟩
/-- A store. -/
theorem ksw {A B:Prop} (q:B) (f:Left B->A:=by intro q; apply y_sw H; rfl; exact jE; rfl; exact inferInstance; exact inferInstance; exact inferInstance; rfl; rfl; rfl; exact q.h):A:=f ⟨q⟩
/-- New memory. -/
theorem kal {A B:Prop} (q:B) (f:Left B->A:=by intro q; apply y_alloc H; rfl; exact q.h):A:=f ⟨q⟩
/-- A box. -/
theorem kbx {A B:Prop} (q:B) (f:Left B->A:=by intro q; apply t_box H; exact jE; rfl; exact q.h):A:=f ⟨q⟩
/-- Returns. -/
theorem rt {A:Prop} (h:A:=by
    refine W.ret ⟨_,(by first | exact resE_tmp rfl | exact resE_tmp2 rfl | exact resE_tmp3 rfl | exact resE_tmp4 rfl),?_⟩;first
      | exact ⟨_,M.e_pure hM,rfl,H⟩
      | exact ⟨_,M.e_pure hM,rfl,H.pk []⟩
      | exact ⟨_,_,M.e_pure hM,rfl,H⟩
      | exact ⟨_,_,M.e_pure hM,rfl,H.pk []⟩
      | exact ⟨_,_,_,M.e_pure hM,rfl,H⟩
      | exact ⟨_,_,_,M.e_pure hM,rfl,H.pk []⟩
      | exact ⟨_,_,_,_,M.e_pure hM,rfl,H⟩
      | exact ⟨_,_,_,_,M.e_pure hM,rfl,H.pk []⟩
      | exact ⟨_,_,_,_,_,M.e_pure hM,rfl,H⟩
      | exact ⟨_,_,_,_,_,M.e_pure hM,rfl,H.pk []⟩
      | exact ⟨_,_,_,_,_,_,M.e_pure hM,rfl,H⟩
      | exact ⟨_,_,_,_,_,_,M.e_pure hM,rfl,H.pk []⟩
      | exact ⟨_,_,_,_,_,_,_,M.e_pure hM,rfl,H⟩
      | exact ⟨_,_,_,_,_,_,_,M.e_pure hM,rfl,H.pk []⟩
      | exact ⟨_,_,_,_,_,_,_,_,M.e_pure hM,rfl,H⟩
      | exact ⟨_,_,_,_,_,_,_,_,M.e_pure hM,rfl,H.pk []⟩
      | exact ⟨_,_,_,_,_,_,_,_,_,M.e_pure hM,rfl,H⟩
      | exact ⟨_,_,_,_,_,_,_,_,_,M.e_pure hM,rfl,H.pk []⟩
      | exact ⟨_,_,_,_,_,_,_,_,_,_,M.e_pure hM,rfl,H⟩
      | exact ⟨_,_,_,_,_,_,_,_,_,_,M.e_pure hM,rfl,H.pk []⟩):A:=h
end Go.Nm
section
set_option maxRecDepth 100000
set_option maxHeartbeats 16000000
namespace Go.Nm
open Go
universe u
/-- A function that can be called. -/
def cfb (P:Program) (f:Nat):Bool:=match P.funcs[f]? with
  | some fn => fn.body.isSome && !(fn.name == "runtime.NumGoroutine")
  | none=>false
theorem cfb_of {P:Program} {f:Nat} (h:cfb P f=true):CF P f:=by
  unfold cfb at h;cases e:P.funcs[f]? with
  | none=>rw [e] at h; cases h
  | some fn =>
    rw [e] at h;simp only [Bool.and_eq_true,Bool.not_eq_true'] at h;exact ⟨fn,e,h.1,h.2⟩
/-- Operands' values, one by one. -/
inductive Evs (σ:Env):List Operand->List Value->Prop
  | nil:Evs σ [] []
  | cons {x:Operand} {v:Value} {xs:List Operand} {vs:List Value} (h:ev σ x=v) (t:Evs σ xs vs):Evs σ (x :: xs) (v :: vs)
theorem Evs.is {σ:Env} {xs:List Operand} {vs:List Value} (h:Evs σ xs vs):xs.map (ev σ)=vs:=by
  induction h with
  | nil=>rfl
  | cons h _ ih=>rw [List.map_cons,h,ih]
/-- The parts of a struct with their values, laid one after the other. -/
inductive FilE (σ:Env) (pl:List (Nat × Nat)):List Value->List (Nat × Operand)->List Value->Prop
  | nil {L:List Value}:FilE σ pl L [] L
  | cons {L cs L1 L':List Value} {i off n:Nat} {x:Operand} {v:Value} {rest:List (Nat × Operand)} (hx:ev σ x=v) (hv:v.cells=cs.toArray) (hp:pl[i]?=some (off,n)) (hn:cs.length=n) (ho:OverR L off cs L1) (hle:Nat.ble (off+n) L.length=true)
      (h:FilE σ pl L1 rest L'):FilE σ pl L ((i,x) :: rest) L'
theorem FilE.is {σ:Env} {pl:List (Nat × Nat)} {L:List Value} {ps:List (Nat × Operand)} {L':List Value} (h:FilE σ pl L ps L'):Fill pl L (ps.map fun x=>(x.1,ev σ x.2)) L':=by
  induction h with
  | nil=>exact .nil
  | cons hx hv hp hn ho hle _ ih=>exact .cons (by rw [hx]; exact hv) hp hn hle (by rw [← hn]; exact ho.is) ih
/-- Values of a slice literal. -/
inductive PtE (σ:Env):Nat->List (Nat × Operand)->List Value->Prop
  | nil {k:Nat}:PtE σ k [] []
  | cons {k:Nat} {x:Operand} {v:Value} {xs:List (Nat × Operand)} {vs:List Value} (h:ev σ x=v) (t:PtE σ (k+1) xs vs):PtE σ k ((k,x) :: xs) (v :: vs)
theorem PtE.is {σ:Env} {k:Nat} {xs:List (Nat × Operand)} {vs:List Value} (h:PtE σ k xs vs):xs.map (fun x=>(x.1,ev σ x.2))=(vs.zipIdx k).map fun x=>(x.2,x.1):=by
  induction h with
  | nil=>rfl
  | cons h _ ih=>rw [List.map_cons,List.zipIdx_cons,List.map_cons,ih]; simp [h]
/-- Values of plain data. -/
inductive RepE {α:Type} [Flat α]:List Value->List α->Prop
  | nil:RepE [] []
  | cons {v:Value} {x:α} {vs:List Value} {l:List α} (h:v.cells=(Flat.enc x:List Value).toArray) (t:RepE vs l):RepE (v :: vs) (x :: l)
theorem RepE.is {α:Type} [Flat α] {C:Cells} {vs:List Value} {l:List α} (h:RepE vs l):Reps C vs l:=by
  induction h with
  | nil=>exact .nil
  | cons h _ ih=>exact .cons h (Flat.rep_enc _ _) ih
theorem all_c {α:Type u} {f:α->Bool} {a:α} {l:List α} (h:f a=true) (t:l.all f=true):(a :: l).all f=true:=by simp [h,t]
/-- A slice that reads as a list; cells that a callee reads. -/
theorem jSl {α:Type} {_:Elt α} {C:Cells} {v:Value} {l:List α} (h:Sl C v l:=by first | assumption | exact H.os 0 | exact H.os 1 | exact H.os 2 | exact H.os 3 | exact H.os 4 | exact H.os 5 | exact H.os 6 | exact H.os 7 | exact H.os 8 | exact H.os 9 | exact H.os 10 | exact H.os 11):Sl C v l:=h
theorem jRd {R:List Chunk} {C:Cells} (h:Reads R C:=by first | assumption | exact Reads.none | exact Reads.app (by assumption) _ | exact rdo 0 | exact rdo 1 | exact rdo 2 | exact rdo 3 | exact rdo 4 | exact rdo 5 | exact rdo 6 | exact rdo 7 | exact rdo 8 | exact rdo 9 | exact rdo 10 | exact rdo 11):Reads R C:=h
/-- One-cell values. -/
theorem jK {A:Prop} (h:A:=by first | rfl | (repeat (first | exact List.all_nil | (refine all_c (by first | rfl | exact Sl.oc jSl) ?_)))):A:=h
theorem jA {A:Prop} (h:A:=by (repeat (first | exact Evs.nil | (apply Evs.cons; exact jE))); fail_if_success focus skip):A:=h
theorem jFE {A:Prop} (h:A:=by (repeat (first | exact FilE.nil | (apply FilE.cons; exact jE; (first | exact Sl.cells jSl | rfl); rfl; rfl; exact inferInstance; rfl))); fail_if_success focus skip):A:=h
theorem jPt {A:Prop} (h:A:=by (repeat (first | exact PtE.nil | (apply PtE.cons; exact jE))); fail_if_success focus skip):A:=h
/-- A list of numbers that is handed on. -/
structure PkS (l:List Nat):Prop where
  h:l=l
/-- A term that is handed on. -/
structure TmS {α:Sort u} (a:α):Prop where
  h:a=a
section
variable {w0 w:World} {L L' L1 R:List Chunk}
theorem St.gtA (h:St w0 w L R) [n:NfR L L1]:St w w [] (L1++R):=h.nf.give rfl
theorem St.pkS {l:List Nat} (h:St w0 w L R) (c:PkS l) [n:NfR L L1] [p:PickR L1 l L'] (hn:l.Nodup:=by decide):St w0 w L' R:=h.nf.pick l hn p.is
end
section
variable {P:Program} {w:World} {σ:Env} {d:Nat} {ty:TypeId} {pos:String} {af:Array Edge} {g:Option (Nat × Bool)}
theorem y_bldE {t:TypeId} {z:Value} {zs L':List Value} {pl:List (Nat × Nat)} {parts:Array (Nat × Operand)} [a:AlC P t z] [b:BdC P t pl] (hzc:z.cells=zs.toArray) (hf:FilE σ pl zs parts.toList L') :
    (execOp (ev σ) ⟨some d,.build t parts,ty,pos,af,g⟩).run P w = .ok (.value (.agg L'.toArray)) w:=by
  obtain ⟨fs,hu,hp⟩:=b.h;exact x_bld rfl hu a.h hzc hp hf.is
theorem y_rla {t:TypeId} {b off n:Nat} {cs ds:List Value} {et:TypeId} {fr:Nat × Nat} [s:AgC P t] [z:SzC P t n] (h:w.heap[b]?=some (.cells cs.toArray et fr)) (q:SubR cs off n ds) (hn:ds.length=n) :
    (loadVar t ⟨b,off,none⟩).run P w = .ok (.agg ds.toArray) w:=run_loadVar_ag s.h z.h h q.h hn
theorem y_rls {t:TypeId} {b off:Nat} {cs:List Value} {et:TypeId} {fr:Nat × Nat} {v:Value} [s:ScC P t] (h:w.heap[b]?=some (.cells cs.toArray et fr)) (hv:(cs.drop off).take 1=[v]) :
    (loadVar t ⟨b,off,none⟩).run P w = .ok v w:=run_loadVar_sc s.h h hv
end
section
variable {P:Program} {all rest:List Oper} {Q:Post} {σ:Env} {w0 w:World} {L L' L1 R:List Chunk} {ty:TypeId} {pos:String} {af:Array Edge}
theorem s_calle {f:FuncId} {dst:Option Nat} {ops:Array Operand} {ts:Array TypeId} {args:List Value} {R:Value->World->Prop} (hcf:CF P f) (ha:Evs σ ops.toList args)
    (hc:Ret P f args.toArray w R) (k:∀ v w',R v w'->SL P all Q rest (updo σ dst v) w') :
    SL P all Q (⟨dst,.call ⟨.value (.func f),ops,ts⟩,ty,pos,af,none⟩ :: rest) σ w:=s_call hcf args ha.is hc k
theorem y_bs {α:Type} [Flat α] {d:Nat} {t e sz by':Nat} {z:Value} {parts:Array (Nat × Operand)} [T:TlC P t e sz by' z] {l:List α} {vs:List Value} (cl:TmS l) (H:St w0 w L R) (hz:Elt.sz α=sz)
    (hp:PtE σ 0 parts.toList vs) (hr:RepE vs l) {n:Nat} (hn:l.length=n) (h0:Nat.blt 0 n=true) (aa:Nat.ble (n*sz) 16777216=true)
    (k:∀ u w',St w0 w' (cOwn e u l :: L) R->SL P all Q rest (upd σ d u) w'):SL P all Q (⟨some d,.buildSlice t n parts,ty,pos,af,none⟩ :: rest) σ w:=by
  subst hz;exact t_bs T.h vs l H hp.is hr.is hn h0 aa k
/-- An own row of a value, found among the parts. -/
class OwnW {α:Type} [Flat α] (L:List Chunk) (v:Value) (e:outParam TypeId) (l:outParam (List α)) (o:outParam (Value->List α->List Chunk)):Prop where
  h:∃ k:Nat,L[k]?=some (cOwn e v l)/\∀ v' l',L.set k (cOwn e v' l')=o v' l'
instance {α:Type} [Flat α] {L:List Chunk} {v:Value} {e:TypeId} {l:List α}:OwnW (cOwn e v l :: L) v e l (fun v' l'=>cOwn e v' l' :: L):=⟨⟨0,rfl,fun _ _=>rfl⟩⟩
instance (priority:=low) {α:Type} [Flat α] {c:Chunk} {L:List Chunk} {v:Value} {e:TypeId} {l:List α} {o:Value->List α->List Chunk} [h:OwnW L v e l o]:OwnW (c :: L) v e l (fun v' l'=>c :: o v' l'):=⟨by
  obtain ⟨k,h1,h2⟩:=h.h;exact ⟨k+1,by simpa using h1,fun v' l'=>by rw [List.set_cons_succ,h2]⟩⟩
theorem y_app {α:Type} {_:Flat α} {d:Nat} {t e sz by':Nat} {z:Value} {x y:Operand} {v vy:Value} {l l2:List α} {C:Cells} {o:Value->List α->List Chunk} (H:St w0 w L R) (hx:ev σ x=v) (hy:ev σ y=vy) (hs:Sl C vy l2) (hk:OwnW L v e l o)
    [T:TlC P t e sz by' z] (hz:Elt.sz α=sz) (hb:Nat.blt 0 by'=true) (hle:C.Le w.cell?) (hn:(l.length+l2.length)*by'<=140737488355328)
    (kk:∀ v' w',St w0 w' (o v' (l++l2)) R->SL P all Q rest (upd σ d v') w') :
    SL P all Q (⟨some d,.call ⟨.builtin .append,#[x,y],#[t,t]⟩,ty,pos,af,none⟩ :: rest) σ w:=by
  subst hz;obtain ⟨k,h1,h2⟩:=hk.h;exact t_app T.h hb H h1 hx hy hs hle rfl hn fun v' w' H'=>kk v' w' (by rw [← h2]; exact H')
theorem y_ost {α:Type} {_:Flat α} {dst:Option Nat} {e t sz n:Nat} {x y:Operand} {v val:Value} {l:List α} {o:Value->List α->List Chunk} {a:α} (ca:TmS a) (H:St w0 w L R) (hx:ev σ x=vat v sz n) (hk:OwnW L v e l o) (hz:Elt.sz α=sz) [hs:SzC P t sz] (h1:n<l.length) (hy:ev σ y=val) (hv:val.cells=(Flat.enc a:List Value).toArray)
    (kk:∀ w',St w0 w' (o v (l.set n a)) R->SL P all Q rest (updo σ dst undef) w'):SL P all Q (⟨dst,.store t x y,ty,pos,af,none⟩ :: rest) σ w:=by
  subst hz;obtain ⟨k,h2,h3⟩:=hk.h;exact t_ost (i:=(n:Int)) H h2 hs.h (by omega) (by omega) a (by simpa using hx) hy hv rfl rfl fun w' H'=>kk w' (by rw [← h3]; simpa using H')
theorem y_fst {α:Type} {_:Flat α} {dst:Option Nat} {e t sz n m off:Nat} {x y:Operand} {v val:Value} {l:List α} {o:Value->List α->List Chunk} {a:α} (ca:TmS a) (H:St w0 w L R) (hx:ev σ x=fat (vat v sz n) off) (hk:OwnW L v e l o) (hz:Elt.sz α=sz) [hs:SzC P t m] (h1:n<l.length) {d:α} (de:DfC α d) (hy:ev σ y=val) {vs:List Value} (hv:val.cells=vs.toArray) (hn:vs.length=m) (hoff:Nat.ble (off+m) sz=true)
    (hone:vs.all (·.oneCell')=true) (he:(Flat.enc a:List Value)=(Flat.enc (l.getD n d)).take off++vs++(Flat.enc (l.getD n d)).drop (off+vs.length))
    (kk:∀ w',St w0 w' (o v (l.set n a)) R->SL P all Q rest (updo σ dst undef) w'):SL P all Q (⟨dst,.store t x y,ty,pos,af,none⟩ :: rest) σ w:=by
  subst hz;obtain ⟨k,h2,h3⟩:=hk.h;exact t_fst (i:=(n:Int)) H h2 hs.h (by omega) (by omega) (l.getD n d) a (by simp [List.getD_eq_getElem?_getD,h1]) (by simpa using hx) hy vs hv hn hoff hone he rfl rfl fun w' H'=>kk w' (by rw [← h3]; simpa using H')
/-- An order: all quiet, one behind the other, but for some. -/
inductive OrdI:Nat->Nat->List Nat->List (Nat × Bool)->Prop
  | nil {k:Nat} {ls:List Nat}:OrdI k 0 ls []
  | l {k n:Nat} {ls:List Nat} {o:List (Nat × Bool)} (h:OrdI (k+1) n ls o):OrdI k (n+1) (k :: ls) ((k,false) :: o)
  | q {k n:Nat} {ls:List Nat} {o:List (Nat × Bool)} (h:OrdI (k+1) n ls o):OrdI k (n+1) ls ((k,true) :: o)
theorem jOr {A:Prop} (h:A:=by (repeat (first | exact OrdI.nil | apply OrdI.l | apply OrdI.q)); fail_if_success focus skip):A:=h
theorem W.drw {r:Option Nat} {n:Nat} {id m:Nat} {l:List Oper} {i ls:List Nat} {order:List (Nat × Bool)} (H:St w0 w L R) (ci:PkS i) (cl:PkS ls) [h1:NfR L L1] [h2:PickR L1 i L'] (hm:P.follows .mixedOrders=true) (hl:l.length=m) (ho:OrdI 0 m ls order) (hn:i.Nodup)
    (hB:(Region.noSelect l.toArray&&Nat.beq order.length l.length&&canonB .any l.toArray order (Array.replicate l.length false))=true)
    (hok:okDst n l=true) (h:∀ w1,St w0 w1 L R->SLD P l (fun W=>St w0 W L' R) Q order σ w1):WR r P n (.region id l.toArray true) Q σ w :=
  W.draw (fun W=>St w0 W L' R) order hm hB hok fun w1 hx=>⟨(H.ext hx).pk i hn,h w1 (H.ext hx)⟩
theorem W.drwo {r:Option Nat} {n:Nat} {id:Nat} {l:List Oper} {i:List Nat} {order:List (Nat × Bool)} (H:St w0 w L R) (ci:PkS i) (co:TmS order) [h1:NfR L L1] [h2:PickR L1 i L'] (hm:P.follows .mixedOrders=true) (hn:i.Nodup)
    (hB:(Region.noSelect l.toArray&&Nat.beq order.length l.length&&canonB .any l.toArray order (Array.replicate l.length false))=true)
    (hok:okDst n l=true) (h:∀ w1,St w0 w1 L R->SLD P l (fun W=>St w0 W L' R) Q order σ w1):WR r P n (.region id l.toArray true) Q σ w :=
  W.draw (fun W=>St w0 W L' R) order hm hB hok fun w1 hx=>⟨(H.ext hx).pk i hn,h w1 (H.ext hx)⟩
theorem W.drwT {r:Option Nat} {n:Nat} {id:Nat} {l:List Oper} {i:List Nat} {order:Ord} (H:St w0 w L R) (ci:PkS i) (co:TmS order) [h1:NfR L L1] [h2:PickR L1 i L'] (hm:P.follows .mixedOrders=true) (hn:i.Nodup)
    (hB:(Region.noSelect l.toArray&&canonT .any l.toArray order l.length (Array.replicate l.length false))=true)
    (hok:okDst n l=true) (h:∀ w1,St w0 w1 L R->SLT P l (fun W=>St w0 W L' R) Q order σ w1):WR r P n (.region id l.toArray true) Q σ w :=
  W.drawT (fun W=>St w0 W L' R) order hm hB hok fun w1 hx=>⟨(H.ext hx).pk i hn,h w1 (H.ext hx)⟩
theorem W.drwTS {r:Option Nat} {n:Nat} {id:Nat} {l:List Oper} {i:List Nat} {order:Ord} {m:Nat} {zs:List Nat} (H:St w0 w L R) (ci:PkS i) (co:TmS order) (cm:TmS m) (cz:PkS zs) [h1:NfR L L1] [h2:PickR L1 i L'] (hm:P.follows .mixedOrders=true) (hn:i.Nodup)
    (hB:(Region.noSelect l.toArray&&Nat.beq (m+zs.length) l.length&&canonTS .any l.toArray zs order m (Array.replicate l.length false))=true)
    (hok:okDst n l=true) (h:∀ w1,St w0 w1 L R->SLTS P l (fun W=>St w0 W L' R) zs Q order σ w1):WR r P n (.region id l.toArray true) Q σ w :=
  W.drawTS (fun W=>St w0 W L' R) order m zs hm hB hok fun w1 hx=>⟨(H.ext hx).pk i hn,h w1 (H.ext hx)⟩
end
/-- What stands at a place of a list. -/
class FindR {α:Type u} (l:List α) (x:α) (k:outParam Nat):Prop where
  is:l[k]?=some x
instance {α:Type u} {l:List α} {x:α}:FindR (x :: l) x 0:=⟨rfl⟩
instance (priority:=low) {α:Type u} {l:List α} {x y:α} {k:Nat} [h:FindR l x k]:FindR (y :: l) x (k+1):=⟨h.is⟩
class PickF {α:Type u} (l:List α) (o:List α) (i:outParam (List Nat)):Prop where
  is:i.mapM (fun j=>l[j]?)=some o
instance {α:Type u} {l:List α}:PickF l [] []:=⟨rfl⟩
instance {α:Type u} {l o:List α} {i:Nat} {is:List Nat} {x:α} [h:FindR l x i] [k:PickF l o is]:PickF l (x :: o) (i :: is):=⟨by rw [List.mapM_cons,h.is,k.is]; rfl⟩
theorem St.pf {w0 w:World} {L L1 L' R:List Chunk} {i:List Nat} (h:St w0 w L R) [n:NfR L L1] [p:PickF L1 L' i] (hn:i.Nodup:=by decide):St w0 w L' R:=h.nf.pick i hn p.is
/-! ### Steps -/
theorem kgC {A B:Prop} {n:Nat} (c:Cnt n) (q:B) (f:Cnt n->Left B->A:=by
    intro cnt q
    (repeat (replace cnt:=Cnt.dn cnt; first
      | (apply s_val; exact jU)
      | refine s_nil ?_
      | refine W.seq ?_
      | refine W.region rfl ?_
      | refine W.skip ?_
      | refine W.block ?_
      | (apply d_q; rfl; (intro w' H; exact jU))
      | (apply t_q; rfl; (intro w' H; exact jU))
      | (apply ts_q; rfl; (intro w' H; exact jU))
      | (apply g_val; (first | exact gy_t rfl | exact gy_f rfl | exact gy_gt rfl rfl | exact gy_gf rfl rfl); (intro hg; exact jV))
      | (apply d_qg; rfl; (first | exact gy_t rfl | exact gy_f rfl | exact gy_gt rfl rfl | exact gy_gf rfl rfl); (intro hg w' H; exact jV))
      | (apply t_qg; rfl; (first | exact gy_t rfl | exact gy_f rfl | exact gy_gt rfl rfl | exact gy_gf rfl rfl); (intro hg w' H; exact jV))
      | refine t_nil ?_
      | refine d_nil ?_
      | refine ts_nil ?_
      | refine d_l rfl ?_
      | refine t_l rfl ?_
      | refine sr_l rfl ?_
      | refine ts_l rfl ?_
      | (apply s_val; apply y_bldE; rfl; exact jFE)
      | (apply d_q; rfl; (intro w' H; apply y_bldE; rfl; exact jFE))
      | (apply t_q; rfl; (intro w' H; apply y_bldE; rfl; exact jFE))
      | (apply ts_q; rfl; (intro w' H; apply y_bldE; rfl; exact jFE))))
    exact q.h):A:=f c ⟨q⟩
/-- So many plain steps. -/
theorem kG {A B:Prop} (n:Nat) (q:B) (f:Cnt n->Left B->A:=by intro c_ q_; exact kgC c_ q_.h):A:=f ⟨rfl⟩ ⟨q⟩
/-- A store. -/
theorem kS {A B:Prop} (n:Nat) (q:B) (f:Cnt n->Left B->A:=by intro c_ q_; refine kgC c_ ?_; apply y_sw H; rfl; exact jE; (first | exact Sl.cells jSl | rfl); exact inferInstance; exact inferInstance; exact inferInstance; rfl; rfl; exact jK; exact q_.h):A:=f ⟨rfl⟩ ⟨q⟩
/-- New memory. -/
theorem kA {A B:Prop} (n:Nat) (q:B) (f:Cnt n->Left B->A:=by intro c_ q_; refine kgC c_ ?_; apply y_alloc H; rfl; exact q_.h):A:=f ⟨rfl⟩ ⟨q⟩
/-- A box. -/
theorem kB {A B:Prop} (n:Nat) (q:B) (f:Cnt n->Left B->A:=by intro c_ q_; refine kgC c_ ?_; apply t_box H; exact jE; (first | exact Sl.cells jSl | exact FnM.cells (by assumption) | rfl); exact q_.h):A:=f ⟨rfl⟩ ⟨q⟩
/-- A condition. -/
theorem kI {A B C:Prop} (n:Nat) (p:B) (q:C) (f:Cnt n->Left B->Left C->A:=by intro c_ p_ q_; refine kgC c_ ?_; exact W.cnd hM rfl p_.h q_.h):A:=f ⟨rfl⟩ ⟨p⟩ ⟨q⟩
/-- A slice literal of plain data. -/
theorem jRe {A:Prop} (h:A:=by (repeat (first | exact RepE.nil | refine RepE.cons rfl ?_ | refine RepE.cons (Sl.cells jSl) ?_)); fail_if_success focus skip):A:=h
theorem kL {α:Type} {A B:Prop} (n:Nat) (l:List α) (q:B) (f:Cnt n->TmS l->Left B->A:=by
    intro c_ l_ q_;refine kgC c_ ?_;apply y_bs l_ H; rfl; exact jPt; exact jRe; rfl; rfl; rfl;exact q_.h):A:=f ⟨rfl⟩ ⟨rfl⟩ ⟨q⟩
/-- A store into an own row; into a field of a row's element. -/
theorem kO {α:Type} {A B:Prop} (n:Nat) (a:α) (q:B) (f:Cnt n->TmS a->Left B->A:=by
    intro c_ l_ q_;refine kgC c_ ?_;first
      | (apply y_ost l_ H; rfl; exact inferInstance; rfl; exact jO; exact jE; rfl; intro w_ H; revert H; revert w_; exact q_.h)
      | (apply y_fst l_ H; rfl; exact inferInstance; rfl; exact jO; exact inferInstance; exact jE; rfl; rfl; rfl; rfl; rfl; intro w_ H; revert H; revert w_; exact q_.h)):A:=f ⟨rfl⟩ ⟨rfl⟩ ⟨q⟩
/-- An append to an own row. -/
theorem jAp {A:Prop} (h:A:=by first | omega | (simp only [List.length_nil] at *; omega) | (simp only [List.length_nil,List.length_cons] at *; omega)):A:=h
theorem kP {A B:Prop} (n:Nat) (q:B) (f:Cnt n->Left B->A:=by
    intro c_ q_;refine kgC c_ ?_;apply y_app H; exact jE; exact jE; exact jSl; exact inferInstance; rfl; rfl; exact jL; exact jAp;intro v_ w_ H;revert H; revert w_; revert v_;exact q_.h):A:=f ⟨rfl⟩ ⟨q⟩
/-- A call. -/
theorem kC {A B C:Prop} (n:Nat) (c:C) (q:B) (f:Cnt n->C->Left B->A:=by
    intro n_ c_ q_;refine kgC n_ ?_;obtain ⟨_,aa,hM⟩:=M.e_bind hM;apply s_calle cq jA
    · apply c_ (hM:=aa)

      (try any_goals (first | exact H.gtA | exact H.gt 0 | exact H.gt 1 | exact H.gt 2 | exact H.gt 3 | exact H.gt 4 | exact H.gt 5 | exact H.gt 6 | exact H.gt 7 | exact H.gt 8))
      (try any_goals exact jSl)
      all_goals first
        | exact jRd
        | exact Has.app (by assumption) _
        | exact Fld.app (by assumption) _
        | exact FnM.app (by assumption) _
        | assumption
        | exact Has.here (k:=0) rfl | exact Has.here (k:=1) rfl | exact Has.here (k:=2) rfl | exact Has.here (k:=3) rfl | exact Has.here (k:=4) rfl | exact Has.here (k:=5) rfl | exact Has.here (k:=6) rfl | exact Has.here (k:=7) rfl | exact Has.here (k:=8) rfl
        | exact Fld.here (k:=0) rfl rfl | exact Fld.here (k:=1) rfl rfl | exact Fld.here (k:=2) rfl rfl | exact Fld.here (k:=3) rfl rfl | exact Fld.here (k:=4) rfl rfl | exact Fld.here (k:=5) rfl rfl | exact Fld.here (k:=6) rfl rfl
        | exact jO
    · intro v_ w_ h_; clear aa
      repeat (first
        | (replace H:=H.bk h_; clear h_)
        | (replace H:=H.bk h_.1; replace h_:=h_.2)
        | (obtain ⟨e_,h_⟩:=h_; subst v_)
        | obtain ⟨rfl,h_⟩:=h_
        | obtain ⟨y_,h_⟩:=h_)
      revert H;revert hM
      (try revert h_)
      (repeat revert y_)
      (try revert v_)
      revert w_;exact q_.h):A:=f ⟨rfl⟩ c ⟨q⟩
/-- Results out of memory. -/
theorem jC {A:Prop} (h:A:=by (repeat (first | exact Res.nil | (apply Res.tmp; exact jE) | (apply Res.cell; rfl; (first | (apply y_rla; exact H.bq; exact inferInstance; rfl) | (apply y_rls; exact H.bq; rfl))))); fail_if_success focus skip):A:=h
theorem kR {A:Prop} (n:Nat) (l:List Nat) (f:Cnt n->PkS l->A:=by
    intro n_ c_;refine kgC n_ ?_;refine W.ret ⟨_,(by first | exact resE_tmp rfl | exact resE_tmp2 rfl | exact resE_tmp3 rfl | exact resE_tmp4 rfl | exact resE_tmp0 rfl | exact resE_of1 rfl jC | exact resE_ofn rfl rfl jC),?_⟩
    repeat (first
      | exact ⟨M.e_pure hM,rfl,H.pkS c_⟩
      | exact ⟨M.e_pure hM,rfl,H.pkS c_,jX⟩
      | apply Exists.intro)
    fail_if_success focus skip):A:=f ⟨rfl⟩ ⟨rfl⟩
/-- What is aa of a result. -/
theorem jX {A:Prop} (h:A:=by first | assumption | exact H.os 0 | exact H.os 1 | exact H.os 2 | trivial):A:=h
/-- The next round; the first one. -/
theorem kX {A:Prop} (n:Nat) (f:Cnt n->A:=by
    intro n_;refine kgC n_ ?_
    repeat (first
      | (refine ⟨?_,M.e_inl hM (by assumption),H⟩; exact jQ)
      | apply Exists.intro
      | refine And.intro (by assumption) ?_)
    fail_if_success focus skip):A:=f ⟨rfl⟩
theorem kXp {A:Prop} (n:Nat) (l:List Nat) (f:Cnt n->PkS l->A:=by
    intro n_ c_;refine kgC n_ ?_
    repeat (first
      | (refine ⟨?_,M.e_inl hM (by assumption),H.pkS c_⟩; exact jQ)
      | apply Exists.intro
      | refine And.intro (by assumption) ?_)
    fail_if_success focus skip):A:=f ⟨rfl⟩ ⟨rfl⟩
theorem kY {A:Prop} (h:A:=by
    repeat (first
      | (refine ⟨?_,by assumption,H⟩; exact jQ)
      | apply Exists.intro)
    fail_if_success focus skip):A:=h
/-- Drawn regions. -/
theorem kD {A B:Prop} (n:Nat) (i ls:List Nat) (q:B) (f:Cnt n->PkS i->PkS ls->Left B->A:=by
    intro n_ i_ l_ q_;refine kgC n_ ?_;apply W.drw H i_ l_ mixed rfl jOr (by decide) (by decide +kernel) rfl;exact q_.h):A:=f ⟨rfl⟩ ⟨rfl⟩ ⟨rfl⟩ ⟨q⟩
theorem kDo {A B:Prop} (n:Nat) (i:List Nat) (o:List (Nat × Bool)) (q:B) (f:Cnt n->PkS i->TmS o->Left B->A:=by
    intro n_ i_ l_ q_;refine kgC n_ ?_;apply W.drwo H i_ l_ mixed (by decide) (by decide +kernel) rfl;exact q_.h):A:=f ⟨rfl⟩ ⟨rfl⟩ ⟨rfl⟩ ⟨q⟩
theorem kDT {A B:Prop} (n:Nat) (i:List Nat) (o:Ord) (q:B) (f:Cnt n->PkS i->TmS o->Left B->A:=by
    intro n_ i_ l_ q_;refine kgC n_ ?_;apply W.drwT H i_ l_ mixed (by decide) (by decide +kernel) rfl;exact q_.h):A:=f ⟨rfl⟩ ⟨rfl⟩ ⟨rfl⟩ ⟨q⟩
theorem kDS {A B:Prop} (n:Nat) (i:List Nat) (o:Ord) (m:Nat) (zs:List Nat) (q:B) (f:Cnt n->PkS i->TmS o->TmS m->PkS zs->Left B->A:=by
    intro n_ i_ l_ m_ z_ q_;refine kgC n_ ?_;apply W.drwTS H i_ l_ m_ z_ mixed (by decide) (by decide +kernel) rfl;exact q_.h):A:=f ⟨rfl⟩ ⟨rfl⟩ ⟨rfl⟩ ⟨rfl⟩ ⟨rfl⟩ ⟨q⟩
/-- The end of a loud operation in a drawn region. -/
theorem kN {A B:Prop} (q:B) (f:Left B->A:=by intro q_; exact s_nil ⟨H.pf,q_.h⟩):A:=f ⟨q⟩
end Go.Nm
end
namespace Go.Nm
open Go
section
variable {P:Program} {w:World} {σ:Env} {d:Nat} {ty:TypeId} {pos:String} {af:Array Edge} {g:Option (Nat × Bool)}
end
end Go.Nm
namespace Go.Nm
open Go
instance {x:Pk}:EncL x [I x.day,I x.stage]:=⟨rfl⟩
instance {x:Yr}:EncL x [I x.year,I x.lo,I x.hi]:=⟨rfl⟩
instance {x:Span}:EncL x [I x.lo,I x.hi]:=⟨rfl⟩
instance {x:Rto}:EncL x [I x.num,I x.den]:=⟨rfl⟩
instance:FldC Old10 0 default (fun x=>I x.src):=⟨fun hs h1=>by have:=Old10_at0 hs (i:=(_:Nat)) (Int.natCast_nonneg _) (Int.ofNat_lt.2 h1); exact this⟩
instance:FldC Old10 1 default (fun x=>I x.dst):=⟨fun hs h1=>by have:=Old10_at1 hs (i:=(_:Nat)) (Int.natCast_nonneg _) (Int.ofNat_lt.2 h1); exact this⟩
instance:FldC Old10 2 default (fun x=>I x.stage):=⟨fun hs h1=>by have:=Old10_at2 hs (i:=(_:Nat)) (Int.natCast_nonneg _) (Int.ofNat_lt.2 h1); exact this⟩
instance {x:FRow}:EncL x [I x.stage,I x.carry]:=⟨rfl⟩
instance:FldC Sect 0 default (fun x=>I x.place):=⟨fun hs h1=>by have:=Sect_at0 hs (i:=(_:Nat)) (Int.natCast_nonneg _) (Int.ofNat_lt.2 h1); exact this⟩
instance {x:Mrk}:EncL x [I x.place,I x.lo,I x.hi]:=⟨rfl⟩
instance {x:Rch}:EncL x [I x.up,I x.down,I x.lo,I x.hi,B x.narrow]:=⟨rfl⟩
instance {x:Cas}:EncL x [I x.up,I x.down,I x.roughup,I x.roughdown]:=⟨rfl⟩
instance {x:Spot}:EncL x [I x.sec,I x.stage]:=⟨rfl⟩
instance {x:Dem}:EncL x [I x.spring,I x.town]:=⟨rfl⟩
instance {x:Town}:EncL x [I x.station,I x.lead,I x.alarm]:=⟨rfl⟩
instance:FldC Flood 0 default (fun x=>I x.spring):=⟨fun hs h1=>by have:=Flood_at0 hs (i:=(_:Nat)) (Int.natCast_nonneg _) (Int.ofNat_lt.2 h1); exact this⟩
instance {x:Rpt}:EncL x [I x.watch,I x.stage,B x.danger]:=⟨rfl⟩
instance {x:CMk}:EncL x [I x.place,I x.height]:=⟨rfl⟩
instance {x:CNt}:EncL x [I x.mark,I x.tlo,I x.thi,I x.slo,I x.shi]:=⟨rfl⟩
instance {x:DVal}:EncL x [B x.known,I x.lo,I x.hi]:=⟨rfl⟩
instance {x:BRch}:EncL x [I x.src,I x.dst,I x.lo,I x.hi]:=⟨rfl⟩
instance {x:BWay}:EncL x [I x.src,I x.dst,I x.lo,I x.hi,I x.now]:=⟨rfl⟩
instance {x:BStep}:EncL x [I x.way,B x.back]:=⟨rfl⟩
instance {x:BFar}:EncL x [I x.cost,I x.many,I x.way,B x.back]:=⟨rfl⟩
instance {x:Rgt}:EncL x [I x.state,I x.amount,I x.loss]:=⟨rfl⟩
instance {x:SPt}:EncL x [I x.index,I x.due]:=⟨rfl⟩
instance {x:SYr}:EncL x [I x.ilo,I x.ihi,I x.dlo,I x.dhi,B x.spill]:=⟨rfl⟩
instance {x:STr}:EncL x [I x.index,I x.delivered]:=⟨rfl⟩
instance {x:Vis}:EncL x [I x.wlo,I x.whi,I x.klo,I x.khi,I x.opn,I x.cls]:=⟨rfl⟩
instance {x:Ride}:EncL x [I x.src,I x.long,I x.wlo,I x.whi]:=⟨rfl⟩
end Go.Nm
namespace Go.Proofs.YtlfkkkbhejeplaaGreat
open Go Go.Nm
def cfx:List Nat:=[0,1,2,3,152,153,177,178,179,180,181,182,183,184,185,186,187,188,194,195,196,197,198,199]
theorem cfs:(List.range 201).all (fun n=>cfx.contains n||cfb Tryz.prog n)=true:=by decide +kernel
theorem cq {n:Nat} (h:(Nat.blt n 201&&!cfx.contains n)=true:=by rfl):CF Tryz.prog n:=by
  simp only [Bool.and_eq_true,Bool.not_eq_true'] at h;have:=List.all_eq_true.1 cfs n (List.mem_range.2 (Nat.le_of_ble_eq_true h.1));rw [h.2,Bool.false_or] at this;exact cfb_of this
theorem keyIntI:KeyL (ν:=Int) Tryz.prog 3 I:=KeyL.int Tryz.underlying3
theorem keyIntSp:KeyL (ν:=Span) Tryz.prog 3 I:=KeyL.int Tryz.underlying3
theorem keyIntFar:KeyL (ν:=BFar) Tryz.prog 3 I:=KeyL.int Tryz.underlying3
instance T22:TlC Tryz.prog 22 5 1 1 (.int .u8 0):=⟨⟨Tryz.underlying22,by kernel_rfl,rfl,by decide⟩⟩
instance T23:TlC Tryz.prog 23 74 3 24 (.agg #[B false,I 0,I 0]):=⟨⟨Tryz.underlying23,by kernel_rfl,rfl,by decide⟩⟩
instance T26:TlC Tryz.prog 26 3 1 8 (I 0):=⟨⟨Tryz.underlying26,by kernel_rfl,rfl,by decide⟩⟩
instance T38:TlC Tryz.prog 38 32 2 16 (.agg #[I 0,I 0]):=⟨⟨Tryz.underlying38,by kernel_rfl,rfl,by decide⟩⟩
instance T41:TlC Tryz.prog 41 40 4 32 (.agg #[I 0,I 0,I 0,I 0]):=⟨⟨Tryz.underlying41,by kernel_rfl,rfl,by decide⟩⟩
instance T47:TlC Tryz.prog 47 122 3 24 (.agg #[I 0,I 0,I 0]):=⟨⟨Tryz.underlying47,by kernel_rfl,rfl,by decide⟩⟩
instance T55:TlC Tryz.prog 55 128 2 16 (.agg #[I 0,I 0]):=⟨⟨Tryz.underlying55,by kernel_rfl,rfl,by decide⟩⟩
instance T58:TlC Tryz.prog 58 63 5 40 (.agg #[I 0,I 0,I 0,I 0,B false]):=⟨⟨Tryz.underlying58,by kernel_rfl,rfl,by decide⟩⟩
instance T59:TlC Tryz.prog 59 65 2 16 (.agg #[I 0,I 0]):=⟨⟨Tryz.underlying59,by kernel_rfl,rfl,by decide⟩⟩
instance T96:TlC Tryz.prog 96 154 3 24 (.agg #[I 0,I 0,I 0]):=⟨⟨Tryz.underlying96,by kernel_rfl,rfl,by decide⟩⟩
instance T97:TlC Tryz.prog 97 156 4 48 (.agg #[I 0,I 0,I 0,.slice none 0 0]):=⟨⟨Tryz.underlying97,by kernel_rfl,rfl,by decide⟩⟩
instance T102:TlC Tryz.prog 102 164 3 24 (.agg #[I 0,I 0,I 0]):=⟨⟨Tryz.underlying102,by kernel_rfl,rfl,by decide⟩⟩
instance T103:TlC Tryz.prog 103 166 2 32 (.agg #[I 0,.slice none 0 0]):=⟨⟨Tryz.underlying103,by kernel_rfl,rfl,by decide⟩⟩
instance T110:TlC Tryz.prog 110 120 5 40 (.agg #[I 0,I 0,I 0,I 0,I 0]):=⟨⟨Tryz.underlying110,by kernel_rfl,rfl,by decide⟩⟩
instance T160:TlC Tryz.prog 160 207 2 16 (.agg #[I 0,I 0]):=⟨⟨Tryz.underlying160,by kernel_rfl,rfl,by decide⟩⟩
instance T260:TlC Tryz.prog 260 222 2 16 (.agg #[I 0,B false]):=⟨⟨Tryz.underlying260,by kernel_rfl,rfl,by decide⟩⟩
instance Sc3:ScC Tryz.prog 3:=⟨by kernel_rfl⟩
instance Sc4:ScC Tryz.prog 4:=⟨by kernel_rfl⟩
instance Sc5:ScC Tryz.prog 5:=⟨by kernel_rfl⟩
instance Sc22:ScC Tryz.prog 22:=⟨by kernel_rfl⟩
instance Sc23:ScC Tryz.prog 23:=⟨by kernel_rfl⟩
instance Sc26:ScC Tryz.prog 26:=⟨by kernel_rfl⟩
instance Sc38:ScC Tryz.prog 38:=⟨by kernel_rfl⟩
instance Sc41:ScC Tryz.prog 41:=⟨by kernel_rfl⟩
instance Sc47:ScC Tryz.prog 47:=⟨by kernel_rfl⟩
instance Sc55:ScC Tryz.prog 55:=⟨by kernel_rfl⟩
instance Sc80:ScC Tryz.prog 80:=⟨by kernel_rfl⟩
instance Sc85:ScC Tryz.prog 85:=⟨by kernel_rfl⟩
instance Sc96:ScC Tryz.prog 96:=⟨by kernel_rfl⟩
instance Sc97:ScC Tryz.prog 97:=⟨by kernel_rfl⟩
instance Sc102:ScC Tryz.prog 102:=⟨by kernel_rfl⟩
instance Sc103:ScC Tryz.prog 103:=⟨by kernel_rfl⟩
instance Sc107:ScC Tryz.prog 107:=⟨by kernel_rfl⟩
instance Sc110:ScC Tryz.prog 110:=⟨by kernel_rfl⟩
instance Sc124:ScC Tryz.prog 124:=⟨by kernel_rfl⟩
instance Sc126:ScC Tryz.prog 126:=⟨by kernel_rfl⟩
instance Sc139:ScC Tryz.prog 139:=⟨by kernel_rfl⟩
instance Sc142:ScC Tryz.prog 142:=⟨by kernel_rfl⟩
instance Sc157:ScC Tryz.prog 157:=⟨by kernel_rfl⟩
instance Sc173:ScC Tryz.prog 173:=⟨by kernel_rfl⟩
instance Sc174:ScC Tryz.prog 174:=⟨by kernel_rfl⟩
instance Sc184:ScC Tryz.prog 184:=⟨by kernel_rfl⟩
instance Sc185:ScC Tryz.prog 185:=⟨by kernel_rfl⟩
instance Sc189:ScC Tryz.prog 189:=⟨by kernel_rfl⟩
instance Sc196:ScC Tryz.prog 196:=⟨by kernel_rfl⟩
instance Sc200:ScC Tryz.prog 200:=⟨by kernel_rfl⟩
instance Sc204:ScC Tryz.prog 204:=⟨by kernel_rfl⟩
instance Sc208:ScC Tryz.prog 208:=⟨by kernel_rfl⟩
instance Sc210:ScC Tryz.prog 210:=⟨by kernel_rfl⟩
instance Sc224:ScC Tryz.prog 224:=⟨by kernel_rfl⟩
instance Sc225:ScC Tryz.prog 225:=⟨by kernel_rfl⟩
instance Sc229:ScC Tryz.prog 229:=⟨by kernel_rfl⟩
instance Sc237:ScC Tryz.prog 237:=⟨by kernel_rfl⟩
instance Sc245:ScC Tryz.prog 245:=⟨by kernel_rfl⟩
instance Sc265:ScC Tryz.prog 265:=⟨by kernel_rfl⟩
instance Sz3:SzC Tryz.prog 3 1:=⟨by kernel_rfl⟩
instance Sz4:SzC Tryz.prog 4 1:=⟨by kernel_rfl⟩
instance Sz22:SzC Tryz.prog 22 1:=⟨by kernel_rfl⟩
instance Sz23:SzC Tryz.prog 23 1:=⟨by kernel_rfl⟩
instance Ag25:AgC Tryz.prog 25:=⟨by kernel_rfl⟩
instance Sz25:SzC Tryz.prog 25 3:=⟨by kernel_rfl⟩
instance Sz26:SzC Tryz.prog 26 1:=⟨by kernel_rfl⟩
instance Ag32:AgC Tryz.prog 32:=⟨by kernel_rfl⟩
instance Sz32:SzC Tryz.prog 32 2:=⟨by kernel_rfl⟩
instance Sz38:SzC Tryz.prog 38 1:=⟨by kernel_rfl⟩
instance Ag40:AgC Tryz.prog 40:=⟨by kernel_rfl⟩
instance Sz40:SzC Tryz.prog 40 4:=⟨by kernel_rfl⟩
instance Sz41:SzC Tryz.prog 41 1:=⟨by kernel_rfl⟩
instance Ag43:AgC Tryz.prog 43:=⟨by kernel_rfl⟩
instance Sz43:SzC Tryz.prog 43 2:=⟨by kernel_rfl⟩
instance Sz47:SzC Tryz.prog 47 1:=⟨by kernel_rfl⟩
instance Ag49:AgC Tryz.prog 49:=⟨by kernel_rfl⟩
instance Sz49:SzC Tryz.prog 49 2:=⟨by kernel_rfl⟩
instance Sz55:SzC Tryz.prog 55 1:=⟨by kernel_rfl⟩
instance Ag57:AgC Tryz.prog 57:=⟨by kernel_rfl⟩
instance Sz57:SzC Tryz.prog 57 2:=⟨by kernel_rfl⟩
instance Ag63:AgC Tryz.prog 63:=⟨by kernel_rfl⟩
instance Sz63:SzC Tryz.prog 63 5:=⟨by kernel_rfl⟩
instance Ag65:AgC Tryz.prog 65:=⟨by kernel_rfl⟩
instance Sz65:SzC Tryz.prog 65 2:=⟨by kernel_rfl⟩
instance Ag69:AgC Tryz.prog 69:=⟨by kernel_rfl⟩
instance Sz69:SzC Tryz.prog 69 3:=⟨by kernel_rfl⟩
instance Ag74:AgC Tryz.prog 74:=⟨by kernel_rfl⟩
instance Sz74:SzC Tryz.prog 74 3:=⟨by kernel_rfl⟩
instance Sz80:SzC Tryz.prog 80 1:=⟨by kernel_rfl⟩
instance Sz85:SzC Tryz.prog 85 1:=⟨by kernel_rfl⟩
instance Ag87:AgC Tryz.prog 87:=⟨by kernel_rfl⟩
instance Sz87:SzC Tryz.prog 87 1:=⟨by kernel_rfl⟩
instance Ag88:AgC Tryz.prog 88:=⟨by kernel_rfl⟩
instance Sz88:SzC Tryz.prog 88 2:=⟨by kernel_rfl⟩
instance Sz96:SzC Tryz.prog 96 1:=⟨by kernel_rfl⟩
instance Sz97:SzC Tryz.prog 97 1:=⟨by kernel_rfl⟩
instance Ag99:AgC Tryz.prog 99:=⟨by kernel_rfl⟩
instance Sz99:SzC Tryz.prog 99 4:=⟨by kernel_rfl⟩
instance Sz102:SzC Tryz.prog 102 1:=⟨by kernel_rfl⟩
instance Sz103:SzC Tryz.prog 103 1:=⟨by kernel_rfl⟩
instance Ag105:AgC Tryz.prog 105:=⟨by kernel_rfl⟩
instance Sz105:SzC Tryz.prog 105 7:=⟨by kernel_rfl⟩
instance Sz110:SzC Tryz.prog 110 1:=⟨by kernel_rfl⟩
instance Ag112:AgC Tryz.prog 112:=⟨by kernel_rfl⟩
instance Sz112:SzC Tryz.prog 112 2:=⟨by kernel_rfl⟩
instance Ag120:AgC Tryz.prog 120:=⟨by kernel_rfl⟩
instance Sz120:SzC Tryz.prog 120 5:=⟨by kernel_rfl⟩
instance Ag122:AgC Tryz.prog 122:=⟨by kernel_rfl⟩
instance Sz122:SzC Tryz.prog 122 3:=⟨by kernel_rfl⟩
instance Sz124:SzC Tryz.prog 124 1:=⟨by kernel_rfl⟩
instance Ag128:AgC Tryz.prog 128:=⟨by kernel_rfl⟩
instance Sz128:SzC Tryz.prog 128 2:=⟨by kernel_rfl⟩
instance Ag134:AgC Tryz.prog 134:=⟨by kernel_rfl⟩
instance Sz134:SzC Tryz.prog 134 2:=⟨by kernel_rfl⟩
instance Ag151:AgC Tryz.prog 151:=⟨by kernel_rfl⟩
instance Sz151:SzC Tryz.prog 151 1:=⟨by kernel_rfl⟩
instance Ag154:AgC Tryz.prog 154:=⟨by kernel_rfl⟩
instance Sz154:SzC Tryz.prog 154 3:=⟨by kernel_rfl⟩
instance Ag156:AgC Tryz.prog 156:=⟨by kernel_rfl⟩
instance Sz156:SzC Tryz.prog 156 4:=⟨by kernel_rfl⟩
instance Ag164:AgC Tryz.prog 164:=⟨by kernel_rfl⟩
instance Sz164:SzC Tryz.prog 164 3:=⟨by kernel_rfl⟩
instance Ag166:AgC Tryz.prog 166:=⟨by kernel_rfl⟩
instance Sz166:SzC Tryz.prog 166 2:=⟨by kernel_rfl⟩
instance Sz174:SzC Tryz.prog 174 1:=⟨by kernel_rfl⟩
instance Ag175:AgC Tryz.prog 175:=⟨by kernel_rfl⟩
instance Sz175:SzC Tryz.prog 175 12:=⟨by kernel_rfl⟩
instance Sz185:SzC Tryz.prog 185 1:=⟨by kernel_rfl⟩
instance Sz189:SzC Tryz.prog 189 1:=⟨by kernel_rfl⟩
instance Sz196:SzC Tryz.prog 196 1:=⟨by kernel_rfl⟩
instance Sz200:SzC Tryz.prog 200 1:=⟨by kernel_rfl⟩
instance Sz204:SzC Tryz.prog 204 1:=⟨by kernel_rfl⟩
instance Ag207:AgC Tryz.prog 207:=⟨by kernel_rfl⟩
instance Sz207:SzC Tryz.prog 207 2:=⟨by kernel_rfl⟩
instance Sz210:SzC Tryz.prog 210 1:=⟨by kernel_rfl⟩
instance Ag219:AgC Tryz.prog 219:=⟨by kernel_rfl⟩
instance Sz219:SzC Tryz.prog 219 2:=⟨by kernel_rfl⟩
instance Ag222:AgC Tryz.prog 222:=⟨by kernel_rfl⟩
instance Sz222:SzC Tryz.prog 222 2:=⟨by kernel_rfl⟩
instance Sz224:SzC Tryz.prog 224 1:=⟨by kernel_rfl⟩
instance Sz225:SzC Tryz.prog 225 1:=⟨by kernel_rfl⟩
instance Ag227:AgC Tryz.prog 227:=⟨by kernel_rfl⟩
instance Sz227:SzC Tryz.prog 227 1:=⟨by kernel_rfl⟩
instance Sz229:SzC Tryz.prog 229 1:=⟨by kernel_rfl⟩
instance Ag232:AgC Tryz.prog 232:=⟨by kernel_rfl⟩
instance Sz232:SzC Tryz.prog 232 4:=⟨by kernel_rfl⟩
instance Ag254:AgC Tryz.prog 254:=⟨by kernel_rfl⟩
instance Sz254:SzC Tryz.prog 254 10:=⟨by kernel_rfl⟩
instance Fd25_0:FdC Tryz.prog 25 0 0 3:=⟨by kernel_rfl⟩
instance Fd25_1:FdC Tryz.prog 25 1 1 3:=⟨by kernel_rfl⟩
instance Fd25_2:FdC Tryz.prog 25 2 2 23:=⟨by kernel_rfl⟩
instance Fd32_0:FdC Tryz.prog 32 0 0 3:=⟨by kernel_rfl⟩
instance Fd32_1:FdC Tryz.prog 32 1 1 3:=⟨by kernel_rfl⟩
instance Fd40_0:FdC Tryz.prog 40 0 0 3:=⟨by kernel_rfl⟩
instance Fd40_1:FdC Tryz.prog 40 1 1 3:=⟨by kernel_rfl⟩
instance Fd40_2:FdC Tryz.prog 40 2 2 32:=⟨by kernel_rfl⟩
instance Fd43_0:FdC Tryz.prog 43 0 0 38:=⟨by kernel_rfl⟩
instance Fd43_1:FdC Tryz.prog 43 1 1 41:=⟨by kernel_rfl⟩
instance Fd49_0:FdC Tryz.prog 49 0 0 3:=⟨by kernel_rfl⟩
instance Fd49_1:FdC Tryz.prog 49 1 1 47:=⟨by kernel_rfl⟩
instance Fd57_0:FdC Tryz.prog 57 0 0 55:=⟨by kernel_rfl⟩
instance Fd57_1:FdC Tryz.prog 57 1 1 3:=⟨by kernel_rfl⟩
instance Fd63_0:FdC Tryz.prog 63 0 0 32:=⟨by kernel_rfl⟩
instance Fd63_1:FdC Tryz.prog 63 1 2 32:=⟨by kernel_rfl⟩
instance Fd63_2:FdC Tryz.prog 63 2 4 4:=⟨by kernel_rfl⟩
instance Fd65_0:FdC Tryz.prog 65 0 0 3:=⟨by kernel_rfl⟩
instance Fd65_1:FdC Tryz.prog 65 1 1 3:=⟨by kernel_rfl⟩
instance Fd69_0:FdC Tryz.prog 69 0 0 3:=⟨by kernel_rfl⟩
instance Fd69_1:FdC Tryz.prog 69 1 1 3:=⟨by kernel_rfl⟩
instance Fd69_2:FdC Tryz.prog 69 2 2 26:=⟨by kernel_rfl⟩
instance Fd74_0:FdC Tryz.prog 74 0 0 4:=⟨by kernel_rfl⟩
instance Fd74_1:FdC Tryz.prog 74 1 1 32:=⟨by kernel_rfl⟩
instance Fd77_0:FdC Tryz.prog 77 0 0 22:=⟨by kernel_rfl⟩
instance Fd77_1:FdC Tryz.prog 77 1 1 3:=⟨by kernel_rfl⟩
instance Fd77_2:FdC Tryz.prog 77 2 2 3:=⟨by kernel_rfl⟩
instance Fd84_0:FdC Tryz.prog 84 0 0 25:=⟨by kernel_rfl⟩
instance Fd84_1:FdC Tryz.prog 84 1 3 38:=⟨by kernel_rfl⟩
instance Fd87_0:FdC Tryz.prog 87 0 0 85:=⟨by kernel_rfl⟩
instance Fd99_0:FdC Tryz.prog 99 0 0 96:=⟨by kernel_rfl⟩
instance Fd99_1:FdC Tryz.prog 99 1 1 97:=⟨by kernel_rfl⟩
instance Fd99_2:FdC Tryz.prog 99 2 2 3:=⟨by kernel_rfl⟩
instance Fd99_3:FdC Tryz.prog 99 3 3 3:=⟨by kernel_rfl⟩
instance Fd105_0:FdC Tryz.prog 105 0 0 26:=⟨by kernel_rfl⟩
instance Fd105_1:FdC Tryz.prog 105 1 1 38:=⟨by kernel_rfl⟩
instance Fd105_2:FdC Tryz.prog 105 2 2 26:=⟨by kernel_rfl⟩
instance Fd105_3:FdC Tryz.prog 105 3 3 102:=⟨by kernel_rfl⟩
instance Fd105_4:FdC Tryz.prog 105 4 4 32:=⟨by kernel_rfl⟩
instance Fd105_5:FdC Tryz.prog 105 5 6 103:=⟨by kernel_rfl⟩
instance Fd112_0:FdC Tryz.prog 112 0 0 110:=⟨by kernel_rfl⟩
instance Fd112_1:FdC Tryz.prog 112 1 1 3:=⟨by kernel_rfl⟩
instance Fd114_0:FdC Tryz.prog 114 0 0 112:=⟨by kernel_rfl⟩
instance Fd114_1:FdC Tryz.prog 114 1 2 3:=⟨by kernel_rfl⟩
instance Fd120_0:FdC Tryz.prog 120 0 0 3:=⟨by kernel_rfl⟩
instance Fd120_1:FdC Tryz.prog 120 1 1 3:=⟨by kernel_rfl⟩
instance Fd120_2:FdC Tryz.prog 120 2 2 32:=⟨by kernel_rfl⟩
instance Fd120_3:FdC Tryz.prog 120 3 4 3:=⟨by kernel_rfl⟩
instance Fd122_0:FdC Tryz.prog 122 0 0 3:=⟨by kernel_rfl⟩
instance Fd122_1:FdC Tryz.prog 122 1 1 3:=⟨by kernel_rfl⟩
instance Fd122_2:FdC Tryz.prog 122 2 2 3:=⟨by kernel_rfl⟩
instance Fd128_0:FdC Tryz.prog 128 0 0 3:=⟨by kernel_rfl⟩
instance Fd128_1:FdC Tryz.prog 128 1 1 3:=⟨by kernel_rfl⟩
instance Fd134_0:FdC Tryz.prog 134 0 0 85:=⟨by kernel_rfl⟩
instance Fd134_1:FdC Tryz.prog 134 1 1 85:=⟨by kernel_rfl⟩
instance Fd146_0:FdC Tryz.prog 146 0 0 3:=⟨by kernel_rfl⟩
instance Fd151_0:FdC Tryz.prog 151 0 0 85:=⟨by kernel_rfl⟩
instance Fd154_0:FdC Tryz.prog 154 0 0 3:=⟨by kernel_rfl⟩
instance Fd154_1:FdC Tryz.prog 154 1 1 32:=⟨by kernel_rfl⟩
instance Fd156_0:FdC Tryz.prog 156 0 0 3:=⟨by kernel_rfl⟩
instance Fd156_1:FdC Tryz.prog 156 1 1 3:=⟨by kernel_rfl⟩
instance Fd156_2:FdC Tryz.prog 156 2 2 3:=⟨by kernel_rfl⟩
instance Fd156_3:FdC Tryz.prog 156 3 3 26:=⟨by kernel_rfl⟩
instance Fd164_0:FdC Tryz.prog 164 0 0 3:=⟨by kernel_rfl⟩
instance Fd164_1:FdC Tryz.prog 164 1 1 3:=⟨by kernel_rfl⟩
instance Fd164_2:FdC Tryz.prog 164 2 2 3:=⟨by kernel_rfl⟩
instance Fd166_0:FdC Tryz.prog 166 0 0 3:=⟨by kernel_rfl⟩
instance Fd166_1:FdC Tryz.prog 166 1 1 26:=⟨by kernel_rfl⟩
instance Fd177_0:FdC Tryz.prog 177 0 0 49:=⟨by kernel_rfl⟩
instance Fd177_1:FdC Tryz.prog 177 1 2 175:=⟨by kernel_rfl⟩
instance Fd198_0:FdC Tryz.prog 198 0 0 99:=⟨by kernel_rfl⟩
instance Fd198_1:FdC Tryz.prog 198 1 4 196:=⟨by kernel_rfl⟩
instance Fd202_0:FdC Tryz.prog 202 0 0 105:=⟨by kernel_rfl⟩
instance Fd202_1:FdC Tryz.prog 202 1 7 200:=⟨by kernel_rfl⟩
instance Fd207_0:FdC Tryz.prog 207 0 0 3:=⟨by kernel_rfl⟩
instance Fd207_1:FdC Tryz.prog 207 1 1 3:=⟨by kernel_rfl⟩
instance Fd219_0:FdC Tryz.prog 219 0 0 26:=⟨by kernel_rfl⟩
instance Fd219_1:FdC Tryz.prog 219 1 1 26:=⟨by kernel_rfl⟩
instance Fd222_0:FdC Tryz.prog 222 0 0 3:=⟨by kernel_rfl⟩
instance Fd222_1:FdC Tryz.prog 222 1 1 4:=⟨by kernel_rfl⟩
instance Fd227_0:FdC Tryz.prog 227 0 0 225:=⟨by kernel_rfl⟩
instance Fd232_0:FdC Tryz.prog 232 0 0 3:=⟨by kernel_rfl⟩
instance Fd232_1:FdC Tryz.prog 232 1 1 3:=⟨by kernel_rfl⟩
instance Fd232_2:FdC Tryz.prog 232 2 2 222:=⟨by kernel_rfl⟩
instance Al3:AlC Tryz.prog 3 (I 0):=⟨by kernel_rfl⟩
instance Al4:AlC Tryz.prog 4 (B false):=⟨by kernel_rfl⟩
instance Al25:AlC Tryz.prog 25 (.agg #[I 0,I 0,.slice none 0 0]):=⟨by kernel_rfl⟩
instance Al26:AlC Tryz.prog 26 (.slice none 0 0):=⟨by kernel_rfl⟩
instance Al32:AlC Tryz.prog 32 (.agg #[I 0,I 0]):=⟨by kernel_rfl⟩
instance Al38:AlC Tryz.prog 38 (.slice none 0 0):=⟨by kernel_rfl⟩
instance Al40:AlC Tryz.prog 40 (.agg #[I 0,I 0,I 0,I 0]):=⟨by kernel_rfl⟩
instance Al43:AlC Tryz.prog 43 (.agg #[.slice none 0 0,.slice none 0 0]):=⟨by kernel_rfl⟩
instance Al49:AlC Tryz.prog 49 (.agg #[I 0,.slice none 0 0]):=⟨by kernel_rfl⟩
instance Al57:AlC Tryz.prog 57 (.agg #[.slice none 0 0,I 0]):=⟨by kernel_rfl⟩
instance Al63:AlC Tryz.prog 63 (.agg #[I 0,I 0,I 0,I 0,B false]):=⟨by kernel_rfl⟩
instance Al65:AlC Tryz.prog 65 (.agg #[I 0,I 0]):=⟨by kernel_rfl⟩
instance Al69:AlC Tryz.prog 69 (.agg #[I 0,I 0,.slice none 0 0]):=⟨by kernel_rfl⟩
instance Al74:AlC Tryz.prog 74 (.agg #[B false,I 0,I 0]):=⟨by kernel_rfl⟩
instance Al77:AlC Tryz.prog 77 (.agg #[.slice none 0 0,I 0,I 0]):=⟨by kernel_rfl⟩
instance Al80:AlC Tryz.prog 80 (.pointer none):=⟨by kernel_rfl⟩
instance Al84:AlC Tryz.prog 84 (.agg #[I 0,I 0,.slice none 0 0,.slice none 0 0]):=⟨by kernel_rfl⟩
instance Al87:AlC Tryz.prog 87 (.agg #[.nilFunc]):=⟨by kernel_rfl⟩
instance Al88:AlC Tryz.prog 88 (.agg #[.nilFunc,.nilFunc]):=⟨by kernel_rfl⟩
instance Al99:AlC Tryz.prog 99 (.agg #[.slice none 0 0,.slice none 0 0,I 0,I 0]):=⟨by kernel_rfl⟩
instance Al105:AlC Tryz.prog 105 (.agg #[.slice none 0 0,.slice none 0 0,.slice none 0 0,.slice none 0 0,I 0,I 0,.slice none 0 0]):=⟨by kernel_rfl⟩
instance Al112:AlC Tryz.prog 112 (.agg #[.slice none 0 0,I 0]):=⟨by kernel_rfl⟩
instance Al114:AlC Tryz.prog 114 (.agg #[.slice none 0 0,I 0,I 0]):=⟨by kernel_rfl⟩
instance Al120:AlC Tryz.prog 120 (.agg #[I 0,I 0,I 0,I 0,I 0]):=⟨by kernel_rfl⟩
instance Al122:AlC Tryz.prog 122 (.agg #[I 0,I 0,I 0]):=⟨by kernel_rfl⟩
instance Al124:AlC Tryz.prog 124 (.nilFunc):=⟨by kernel_rfl⟩
instance Al128:AlC Tryz.prog 128 (.agg #[I 0,I 0]):=⟨by kernel_rfl⟩
instance Al134:AlC Tryz.prog 134 (.agg #[.nilFunc,.nilFunc]):=⟨by kernel_rfl⟩
instance Al146:AlC Tryz.prog 146 (.agg #[I 0]):=⟨by kernel_rfl⟩
instance Al151:AlC Tryz.prog 151 (.agg #[.nilFunc]):=⟨by kernel_rfl⟩
instance Al154:AlC Tryz.prog 154 (.agg #[I 0,I 0,I 0]):=⟨by kernel_rfl⟩
instance Al156:AlC Tryz.prog 156 (.agg #[I 0,I 0,I 0,.slice none 0 0]):=⟨by kernel_rfl⟩
instance Al164:AlC Tryz.prog 164 (.agg #[I 0,I 0,I 0]):=⟨by kernel_rfl⟩
instance Al166:AlC Tryz.prog 166 (.agg #[I 0,.slice none 0 0]):=⟨by kernel_rfl⟩
instance Al174:AlC Tryz.prog 174 (.pointer none):=⟨by kernel_rfl⟩
instance Al185:AlC Tryz.prog 185 (.map none):=⟨by kernel_rfl⟩
instance Al189:AlC Tryz.prog 189 (.nilFunc):=⟨by kernel_rfl⟩
instance Al198:AlC Tryz.prog 198 (.agg #[.slice none 0 0,.slice none 0 0,I 0,I 0,.map none]):=⟨by kernel_rfl⟩
instance Al202:AlC Tryz.prog 202 (.agg #[.slice none 0 0,.slice none 0 0,.slice none 0 0,.slice none 0 0,I 0,I 0,.slice none 0 0,.map none]):=⟨by kernel_rfl⟩
instance Al204:AlC Tryz.prog 204 (.nilFunc):=⟨by kernel_rfl⟩
instance Al207:AlC Tryz.prog 207 (.agg #[I 0,I 0]):=⟨by kernel_rfl⟩
instance Al210:AlC Tryz.prog 210 (.nilFunc):=⟨by kernel_rfl⟩
instance Al214:AlC Tryz.prog 214 (.agg #[B false,B false,B false,B false,B false,B false,B false,B false,B false,B false,B false,B false]):=⟨by kernel_rfl⟩
instance Al219:AlC Tryz.prog 219 (.agg #[.slice none 0 0,.slice none 0 0]):=⟨by kernel_rfl⟩
instance Al222:AlC Tryz.prog 222 (.agg #[I 0,B false]):=⟨by kernel_rfl⟩
instance Al224:AlC Tryz.prog 224 (.nilFunc):=⟨by kernel_rfl⟩
instance Al227:AlC Tryz.prog 227 (.agg #[.nilFunc]):=⟨by kernel_rfl⟩
instance Al229:AlC Tryz.prog 229 (.map none):=⟨by kernel_rfl⟩
instance Al232:AlC Tryz.prog 232 (.agg #[I 0,I 0,I 0,B false]):=⟨by kernel_rfl⟩
instance Al285:AlC Tryz.prog 285 (.agg #[I 0,I 0]):=⟨by kernel_rfl⟩
theorem Bd99 {fs:Array Field} (h:Tryz.prog.underlying 99=some (.struct fs)):fs.toList.mapM (fun f=>(Tryz.prog.info? f.type).map fun i=>(f.offset,i.size))=some [(0,1),(1,1),(2,1),(3,1)]:=by rw [Tryz.underlying99] at h; simp only [Option.some.injEq,TypeDesc.struct.injEq] at h; subst h; kernel_rfl
theorem Bd105 {fs:Array Field} (h:Tryz.prog.underlying 105=some (.struct fs)):fs.toList.mapM (fun f=>(Tryz.prog.info? f.type).map fun i=>(f.offset,i.size))=some [(0,1),(1,1),(2,1),(3,1),(4,2),(6,1)]:=by rw [Tryz.underlying105] at h; simp only [Option.some.injEq,TypeDesc.struct.injEq] at h; subst h; kernel_rfl
theorem Bd112 {fs:Array Field} (h:Tryz.prog.underlying 112=some (.struct fs)):fs.toList.mapM (fun f=>(Tryz.prog.info? f.type).map fun i=>(f.offset,i.size))=some [(0,1),(1,1)]:=by rw [Tryz.underlying112] at h; simp only [Option.some.injEq,TypeDesc.struct.injEq] at h; subst h; kernel_rfl
theorem Bd177 {fs:Array Field} (h:Tryz.prog.underlying 177=some (.struct fs)):fs.toList.mapM (fun f=>(Tryz.prog.info? f.type).map fun i=>(f.offset,i.size))=some [(0,2),(2,12)]:=by rw [Tryz.underlying177] at h; simp only [Option.some.injEq,TypeDesc.struct.injEq] at h; subst h; kernel_rfl
theorem Bd219 {fs:Array Field} (h:Tryz.prog.underlying 219=some (.struct fs)):fs.toList.mapM (fun f=>(Tryz.prog.info? f.type).map fun i=>(f.offset,i.size))=some [(0,1),(1,1)]:=by rw [Tryz.underlying219] at h; simp only [Option.some.injEq,TypeDesc.struct.injEq] at h; subst h; kernel_rfl
theorem Bd222 {fs:Array Field} (h:Tryz.prog.underlying 222=some (.struct fs)):fs.toList.mapM (fun f=>(Tryz.prog.info? f.type).map fun i=>(f.offset,i.size))=some [(0,1),(1,1)]:=by rw [Tryz.underlying222] at h; simp only [Option.some.injEq,TypeDesc.struct.injEq] at h; subst h; kernel_rfl
theorem mixed:Tryz.prog.follows .mixedOrders=true:=by kernel_rfl
instance Al177:AlC Tryz.prog 177 (.agg (List.flatten [[I 0,.slice none 0 0],encF (α:=Int) (List.replicate 12 0)]).toArray):=⟨by kernel_rfl⟩
instance Al254:AlC Tryz.prog 254 (.agg (List.flatten [[],encF (α:=Int) (List.replicate 10 0)]).toArray):=⟨by kernel_rfl⟩

instance:BdC Tryz.prog 25 [(0,1),(1,1),(2,1)]:=⟨_,Tryz.underlying25,by kernel_rfl⟩
instance:BdC Tryz.prog 32 [(0,1),(1,1)]:=⟨_,Tryz.underlying32,by kernel_rfl⟩
instance:BdC Tryz.prog 40 [(0,1),(1,1),(2,2)]:=⟨_,Tryz.underlying40,by kernel_rfl⟩
instance:BdC Tryz.prog 43 [(0,1),(1,1)]:=⟨_,Tryz.underlying43,by kernel_rfl⟩
instance:BdC Tryz.prog 49 [(0,1),(1,1)]:=⟨_,Tryz.underlying49,by kernel_rfl⟩
instance:BdC Tryz.prog 57 [(0,1),(1,1)]:=⟨_,Tryz.underlying57,by kernel_rfl⟩
instance:BdC Tryz.prog 63 [(0,2),(2,2),(4,1)]:=⟨_,Tryz.underlying63,by kernel_rfl⟩
instance:BdC Tryz.prog 65 [(0,1),(1,1)]:=⟨_,Tryz.underlying65,by kernel_rfl⟩
instance:BdC Tryz.prog 69 [(0,1),(1,1),(2,1)]:=⟨_,Tryz.underlying69,by kernel_rfl⟩
instance:BdC Tryz.prog 74 [(0,1),(1,2)]:=⟨_,Tryz.underlying74,by kernel_rfl⟩
instance:BdC Tryz.prog 77 [(0,1),(1,1),(2,1)]:=⟨_,Tryz.underlying77,by kernel_rfl⟩
instance:BdC Tryz.prog 84 [(0,3),(3,1)]:=⟨_,Tryz.underlying84,by kernel_rfl⟩
instance:BdC Tryz.prog 87 [(0,1)]:=⟨_,Tryz.underlying87,by kernel_rfl⟩
instance:BdC Tryz.prog 99 [(0,1),(1,1),(2,1),(3,1)]:=⟨_,Tryz.underlying99,Bd99 Tryz.underlying99⟩
instance:BdC Tryz.prog 105 [(0,1),(1,1),(2,1),(3,1),(4,2),(6,1)]:=⟨_,Tryz.underlying105,Bd105 Tryz.underlying105⟩
instance:BdC Tryz.prog 112 [(0,1),(1,1)]:=⟨_,Tryz.underlying112,Bd112 Tryz.underlying112⟩
instance:BdC Tryz.prog 114 [(0,2),(2,1)]:=⟨_,Tryz.underlying114,by kernel_rfl⟩
instance:BdC Tryz.prog 120 [(0,1),(1,1),(2,2),(4,1)]:=⟨_,Tryz.underlying120,by kernel_rfl⟩
instance:BdC Tryz.prog 122 [(0,1),(1,1),(2,1)]:=⟨_,Tryz.underlying122,by kernel_rfl⟩
instance:BdC Tryz.prog 128 [(0,1),(1,1)]:=⟨_,Tryz.underlying128,by kernel_rfl⟩
instance:BdC Tryz.prog 134 [(0,1),(1,1)]:=⟨_,Tryz.underlying134,by kernel_rfl⟩
instance:BdC Tryz.prog 146 [(0,1)]:=⟨_,Tryz.underlying146,by kernel_rfl⟩
instance:BdC Tryz.prog 151 [(0,1)]:=⟨_,Tryz.underlying151,by kernel_rfl⟩
instance:BdC Tryz.prog 154 [(0,1),(1,2)]:=⟨_,Tryz.underlying154,by kernel_rfl⟩
instance:BdC Tryz.prog 156 [(0,1),(1,1),(2,1),(3,1)]:=⟨_,Tryz.underlying156,by kernel_rfl⟩
instance:BdC Tryz.prog 164 [(0,1),(1,1),(2,1)]:=⟨_,Tryz.underlying164,by kernel_rfl⟩
instance:BdC Tryz.prog 166 [(0,1),(1,1)]:=⟨_,Tryz.underlying166,by kernel_rfl⟩
instance:BdC Tryz.prog 177 [(0,2),(2,12)]:=⟨_,Tryz.underlying177,Bd177 Tryz.underlying177⟩
instance:BdC Tryz.prog 198 [(0,4),(4,1)]:=⟨_,Tryz.underlying198,by kernel_rfl⟩
instance:BdC Tryz.prog 202 [(0,7),(7,1)]:=⟨_,Tryz.underlying202,by kernel_rfl⟩
instance:BdC Tryz.prog 207 [(0,1),(1,1)]:=⟨_,Tryz.underlying207,by kernel_rfl⟩
instance:BdC Tryz.prog 219 [(0,1),(1,1)]:=⟨_,Tryz.underlying219,Bd219 Tryz.underlying219⟩
instance:BdC Tryz.prog 222 [(0,1),(1,1)]:=⟨_,Tryz.underlying222,Bd222 Tryz.underlying222⟩
instance:BdC Tryz.prog 227 [(0,1)]:=⟨_,Tryz.underlying227,by kernel_rfl⟩
instance:BdC Tryz.prog 232 [(0,1),(1,1),(2,2)]:=⟨_,Tryz.underlying232,by kernel_rfl⟩
theorem gdA254:Tryz.prog.eqGuardType Tryz.prog.depth 254=false:=by kernel_rfl
end Go.Proofs.YtlfkkkbhejeplaaGreat
namespace Go.Nm
open Go
abbrev encDm (d:Dem):Value:=.agg #[I d.spring,I d.town]
abbrev encFar (x:BFar):Value:=.agg #[I x.cost,I x.many,I x.way,B x.back]
theorem far_val (o:Option BFar):(o.map encFar).getD (.agg #[I 0,I 0,I 0,B false])=encFar (o.getD default):=by cases o <;> rfl
theorem int_val (o:Option Int):(o.map I).getD (I 0)=I (o.getD 0):=by cases o <;> rfl
end Go.Nm
namespace Go.Proofs.YtlfkkkbhejeplaaGreat
open Go Go.Nm Go.Proofs
theorem findAskDm {ν:Type} (k:Dem) (w:World):∀ (es:List MapEntry) (m:List (Dem × ν)) (venc:ν->Value) (j:Nat),es.map (fun e=>(e.key,e.val))=m.map (fun p=>(encDm p.1,venc p.2)) →
    (Instr.findAsking 207 (encDm k) es j).run Tryz.prog w = .ok ((idxM m k).bind fun i=>(es[i]?).map fun e=>(i+j,e.val)) w
  | [],[],_,_,_=>rfl
  | [],_ :: _,_,_,h=>by simp at h
  | _ :: _,[],_,_,h=>by simp at h
  | e :: es,p :: m,venc,j,h=>by
    simp only [List.map_cons,List.cons.injEq,Prod.mk.injEq] at h;have ih:=findAskDm k w es m venc (j+1) h.2;unfold Instr.findAsking;rw [h.1.1];have he:=eqT207 k p.1 w;unfold idxM;by_cases hp:p.1=k
    · rw [if_pos hp];have:decide (k=p.1)=true:=by simp [hp]
      rw [this] at he;simp [Op.equal,Op.maxDepth,he]
    · rw [if_neg hp];have:decide (k=p.1)=false:=by simp; exact fun e=>hp e.symm
      rw [this] at he;simp only [Op.equal,Op.maxDepth,Sem.run_bind,he,Result.andThen_ok,Bool.false_eq_true,if_false,ih];cases hi:idxM m k with
      | none=>rfl
      | some i =>
        simp only [Option.map_some,Option.bind_some,List.getElem?_cons_succ];cases es[i]? with
        | none=>rfl
        | some e'=>simp; omega
theorem keyDem {ν:Type}:KeyL (ν:=ν) Tryz.prog 207 encDm:=by
  refine ⟨fun e w k=>?_,fun w es m venc k h=>?_,fun k=>?_⟩
  · have u3:=Tryz.underlying3;have a3:=Tryz.isAgg3;have z3:=Tryz.sizeOf3;have h1:∀ (n:Nat) (x:Int),(Instr.checkKey e (n+1) 3 (I x)).run Tryz.prog w = .ok () w:=fun n x=>MapKept.run_checkKey u3 (show MapKept.IsKey (.int .i64) (I x) from rfl) e n;have key:∀ n:Nat,(Instr.checkKey e (n+1+1) 207 (encDm k)).run Tryz.prog w = .ok () w:=by
      intro n;rw [Instr.checkKey];simp only [Sem.run_bind,run_underlying Tryz.underlying207,Result.andThen_ok];rw [← Array.forIn_toList];simp only [List.forIn_cons,List.forIn_nil]
      go_simp
    exact key 9998
  · rw [run_findKey_eq w (by rw [Tryz.underlying207]),findAskDm k w es m venc 0 h];rfl
  · simp [Instr.sameBits]
end Go.Proofs.YtlfkkkbhejeplaaGreat
section
set_option maxRecDepth 100000
set_option maxHeartbeats 16000000
namespace Go.Proofs.YtlfkkkbhejeplaaGreat
open Go Go.Nm
attribute [local irreducible] gd execOp SL SLD SLT WR
def zaq (bytes:List UInt8):M (Int × Int) :=
  M.pure (0,0)
theorem za1 {R ab aa}(bytes)(ae:Reads R ab)(ag:Sl ab aa bytes){r}(hM:(zaq bytes).Ends r)(w)(H:St w w [] R):Ret Tryz.prog 5 #[aa] w fun v w'=>∃ y0 y1 ac,(y0,y1)=r/\v=Pq ac/\St w w' [cBlk ac [aa,I y0,I y1] 77] R:=by
 refine ret_of_W Tryz.func5 rfl rfl rfl ?_;refine kB 8 ?_;intro ah ai H;refine kg 2 ?_;exact rt

def zaT (s_used s_mix n b:Int):M (Int × Int × Int) :=
  M.gi (5*s_mix) <|
  M.gi ((5*s_mix)+b) <|
  M.gi (((5*s_mix)+b)+1) <|
  M.grd (decide ((0:Int)<=(((5*s_mix)+b)+1))&&decide ((0:Int)<251)) <|
  M.gi (s_used+1) <|
  bif decide (256<n) then (
  M.gi (256*b) <|
  M.gi ((256*b)+((((5*s_mix)+b)+1) % 251)) <|
  M.grd (decide ((0:Int)<=((256*b)+((((5*s_mix)+b)+1) % 251)))&&decide ((0:Int)<n)) <|
  M.pure ((((256*b)+((((5*s_mix)+b)+1) % 251)) % n),(s_used+1),((((5*s_mix)+b)+1) % 251)))
  else (
  M.grd (decide ((0:Int)<=b)&&decide ((0:Int)<n)) <|
  M.pure ((b % n),(s_used+1),((((5*s_mix)+b)+1) % 251)))
def zac (s_bytes:List UInt8) (s_used s_mix n:Int):M (Int × Int × Int) :=
  bif ((decide (n<2))||((s_bytes.length:Int)==0)) then (
  M.pure (0,s_used,s_mix))
  else (
  M.grd (decide ((0:Int)<=s_used)&&decide ((0:Int)<(s_bytes.length:Int))) <|
  M.grd (decide ((0:Int)<=(s_used % (s_bytes.length:Int)))&&decide ((s_used % (s_bytes.length:Int))<(s_bytes.length:Int))) <|
  M.grd (decide ((0:Int)<=((s_bytes.getD (Int.toNat (s_used % (s_bytes.length:Int))) 0).toNat:Int))&&decide (((s_bytes.getD (Int.toNat (s_used % (s_bytes.length:Int))) 0).toNat:Int)<(256:Int))) <|
  bif decide ((s_bytes.length:Int)<=s_used) then (
  M.gi (11*s_mix) <|
  M.grd (decide (0<=s_used)&&decide (s_used<=(9223372036854775807:Int))&&decide ((0:Int)<(s_bytes.length:Int))) <|
  M.gi ((11*s_mix)+(s_used / (s_bytes.length:Int))) <|
  M.gi (((s_bytes.getD (Int.toNat (s_used % (s_bytes.length:Int))) 0).toNat:Int)+((11*s_mix)+(s_used / (s_bytes.length:Int)))) <|
  zaT s_used s_mix n (((s_bytes.getD (Int.toNat (s_used % (s_bytes.length:Int))) 0).toNat:Int)+((11*s_mix)+(s_used / (s_bytes.length:Int)))))
  else (
  zaT s_used s_mix n ((s_bytes.getD (Int.toNat (s_used % (s_bytes.length:Int))) 0).toNat:Int)))
theorem zab {R aa ae ac}(s_bytes s_used s_mix n)(ag:Reads R ae)(ab:Sl ae ac s_bytes){r}(hM:(zac s_bytes s_used s_mix n).Ends r)(w)(H:St w w [cBlk aa [ac,I s_used,I s_mix] 77] R):Ret Tryz.prog 18 #[Pq aa,I n] w fun v w'=>∃ y0 y1 y2,(y0,y1,y2)=r/\v=I y0/\St w w' [cBlk aa [ac,I y1,I y2] 77] R:=by
 refine ret_of_W Tryz.func18 rfl rfl rfl ?_;have ak:=(ab).len_le;refine kI 18 ?_ ?_
 ·intro ah hM;refine kg 4 ?_;exact rt
 intro ah hM;refine kD 2 [0] [] ?_;intro al H;have ao:=(ab).len_le;obtain ⟨ap,hM⟩:=M.e_gq hM;refine kg 13 ?_;refine d_q rfl (fun w' H=>x_rem' (a:=s_used) (b:=(s_bytes.length:Int)) rfl rfl (by omega)) ?_;obtain ⟨aq,hM⟩:=M.e_gq hM;refine kg 1 ?_;refine d_q rfl (fun w' H=>x_ld (v:=.int .u8 (((s_bytes.getD (Int.toNat (s_used % (s_bytes.length:Int))) 0).toNat:Int))) rfl (ld_sc Sc5.h (At.mono (UInt8_at ab (i:=s_used % (s_bytes.length:Int)) (by omega) (by omega)) (ag.at H)))) ?_;obtain ⟨au,hM⟩:=M.e_gq hM;refine d_q rfl (fun w' H=>x_conv64 (kd:=.u8) (a:=((s_bytes.getD (Int.toNat (s_used % (s_bytes.length:Int))) 0).toNat:Int)) Tryz.underlying5 Tryz.underlying3 rfl (by omega)) ?_;refine kg 2 ?_;refine W.seqJ (fun σ W=>∃ (b:Int) (ρ:Env),σ=upds ρ [(0,Pq aa),(1,I n),(5,I b)]/\(zaT s_used s_mix n b).Ends r/\St w W [cBlk aa [ac,I s_used,I s_mix] 77] R) ?_ ?_
 ·refine kD 1 [0] [] ?_;intro av H;have aw:=(ab).len_le;refine kI 11 ?_ ?_
  ·intro ai hM;refine kD 0 [0] [] ?_;intro ax H;obtain ⟨ay,hM⟩:=M.e_gq hM;have az:=(ab).len_le;obtain ⟨aA,hM⟩:=M.e_gq hM;obtain ⟨aB,hM⟩:=M.e_gq hM;obtain ⟨aC,hM⟩:=M.e_gq hM;refine kg 20 ?_;exact ⟨((s_bytes.getD (Int.toNat (s_used % (s_bytes.length:Int))) 0).toNat:Int)+((11*s_mix)+(s_used / (s_bytes.length:Int))),_,jQ,hM,H⟩
  intro ai hM;refine W.skip ?_;exact ⟨((s_bytes.getD (Int.toNat (s_used % (s_bytes.length:Int))) 0).toNat:Int),_,jQ,hM,H⟩
 rintro _ aD ⟨b,ρ,rfl,hM,H⟩;unfold zaT at hM;obtain ⟨aE,hM⟩:=M.e_gq hM;obtain ⟨aF,hM⟩:=M.e_gq hM;obtain ⟨aG,hM⟩:=M.e_gq hM;obtain ⟨aH,hM⟩:=M.e_gq hM;refine kg 11 ?_;refine s_val (x_rem' (a:=((5*s_mix)+b)+1) (b:=251) rfl rfl (by omega)) ?_;refine kS 2 ?_;intro aI H;obtain ⟨aJ,hM⟩:=M.e_gq hM;refine kS 10 ?_;intro aK H;refine kI 7 ?_ ?_
 ·intro aj hM;obtain ⟨aL,hM⟩:=M.e_gq hM;obtain ⟨aM,hM⟩:=M.e_gq hM;obtain ⟨aN,hM⟩:=M.e_gq hM;refine kg 14 ?_;refine s_val (x_rem' (a:=(256*b)+((((5*s_mix)+b)+1) % 251)) (b:=n) rfl rfl (by omega)) ?_;refine kg 2 ?_;exact rt
 intro aj hM;obtain ⟨aO,hM⟩:=M.e_gq hM;refine kg 5 ?_;refine s_val (x_rem' (a:=b) (b:=n) rfl rfl (by omega)) ?_;refine kg 2 ?_;exact rt

def zae (s_bytes:List UInt8) (s_used s_mix lo hi:Int):M (Int × Int × Int) :=
  M.gi (hi-lo) <|
  M.gi ((hi-lo)+1) <|
  M.bind (zac s_bytes s_used s_mix ((hi-lo)+1)) fun (r2,q1,q2) =>
  M.gi (lo+r2) <|
  M.pure ((lo+r2),q1,q2)
theorem zag {R aa ac ab}(s_bytes s_used s_mix lo hi)(ae:Reads R ac)(ag:Sl ac ab s_bytes){r}(hM:(zae s_bytes s_used s_mix lo hi).Ends r)(w)(H:St w w [cBlk aa [ab,I s_used,I s_mix] 77] R):Ret Tryz.prog 19 #[Pq aa,I lo,I hi] w fun v w'=>∃ y0 y1 y2,(y0,y1,y2)=r/\v=I y0/\St w w' [cBlk aa [ab,I y1,I y2] 77] R:=by
 refine ret_of_W Tryz.func19 rfl rfl rfl ?_;obtain ⟨ah,hM⟩:=M.e_gq hM;obtain ⟨ai,hM⟩:=M.e_gq hM;refine kC 12 @zab ?_;intro aj r2 q1 q2 hM H;obtain ⟨ak,hM⟩:=M.e_gq hM;refine kg 3 ?_;exact rt

def zaA (v n:Int):M Int :=
  bif decide (n<1) then (
  M.pure 0)
  else (
  M.grd (decide ((0:Int)<n)) <|
  bif decide ((Int.tmod v n)<0) then (
  M.gi ((Int.tmod v n)+n) <|
  M.pure ((Int.tmod v n)+n))
  else (
  M.pure (Int.tmod v n)))
theorem zcw {R}(v n){r}(hM:(zaA v n).Ends r)(w)(H:St w w [] R):Ret Tryz.prog 8 #[I v,I n] w fun v w'=>∃ y0,y0=r/\v=I y0/\St w w' [] R:=by
 refine ret_of_W Tryz.func8 rfl rfl rfl ?_;refine kI 10 ?_ ?_
 ·intro aa hM;refine kg 4 ?_;exact rt
 intro aa hM;obtain ⟨ac,hM⟩:=M.e_gq hM;refine kg 5 ?_;refine s_val (x_rem (a:=v) (b:=n) rfl rfl (by omega)) ?_;refine kI 8 ?_ ?_
 ·intro ab hM;obtain ⟨ae,hM⟩:=M.e_gq hM;refine kg 11 ?_;exact rt
 intro ab hM;refine kg 6 ?_;exact rt

end Go.Proofs.YtlfkkkbhejeplaaGreat
end
namespace Go.Nm
open Go
theorem x_eqnilA {P:Program} {w:World} {σ:Env} {d:Nat} {ty:TypeId} {pos:String} {af:Array Edge} {g:Option (Nat × Bool)} {t e yt:TypeId} {x y:Operand} {a:Option Addr} {n c:Nat} (ht:P.underlying t=some (.slice e)) (hx:ev σ x = .slice a n c) (hy:ev σ y = .slice none 0 0) :
    (execOp (ev σ) ⟨some d,.binOp .eql t x y yt,ty,pos,af,g⟩).run P w = .ok (.value (.bool a.isNone)) w:=by
  simp [execOp,hx,hy,eqGuard,binOp,run_equal_slice_nil w t e a n c ht]
theorem x_min3 {P:Program} {w:World} {σ:Env} {d:Nat} {ty:TypeId} {pos:String} {af:Array Edge} {x y z:Operand} {ts:Array TypeId} {g:Option (Nat × Bool)} {a b c:Int} (hx:ev σ x=I a) (hy:ev σ y=I b) (hz:ev σ z=I c) :
    (execOp (ev σ) ⟨some d,.call ⟨.builtin .min,#[x,y,z],ts⟩,ty,pos,af,g⟩).run P w = .ok (.value (I (min (min a b) c))) w:=by
  simp [execOp,resolve,invoke,builtin,hx,hy,hz,Builtin.min_,Builtin.min2,I];by_cases hab:b<a <;> simp only [hab,if_true,if_false] <;> split <;> omega
end Go.Nm
namespace Go.Proofs.YtlfkkkbhejeplaaGreat
open Go Go.Nm
set_option maxRecDepth 100000 in
theorem clone_any {R:List Chunk} {C_s:Cells} {v_s:Value} (s:List Int) (hC_s:Reads R C_s) (hs_s:Sl C_s v_s s) (hlen:s.length*8<=140737488355328) (w:World) (hsep:Sep w R) :
    Ret Tryz.prog 76 #[v_s] w fun v w'=>St w w' [cOwn (α:=Int) 3 v s] R:=by
 have H:St w w [] R:=St.refl hsep;obtain ⟨a,c,hv,hc,hm,hk⟩:=hs_s.ex;refine ret_of_W Tryz.func76 rfl rfl rfl ?_;refine W.seq ?_;refine W.region rfl ?_;refine s_val (x_as (v:=.slice none 0 0) rfl) ?_;refine s_nil ?_;refine W.seq ?_;refine W.seq ?_;refine W.region rfl ?_;refine s_val (x_mv (v:=v_s) rfl) ?_;refine s_val (v:=B a.isNone) (x_eqnilA (a:=a) (n:=s.length) (c:=c) Tryz.underlying26 hv rfl) ?_;refine s_nil ?_;refine W.cond a.isNone rfl (fun h=>?_) (fun h=>?_)
 ·have e:s=[]:=by
   cases s with
   | nil=>rfl
   | cons x s =>
    obtain ⟨b,o,cs,ha,_⟩:=hk 0 x rfl;subst ha;cases h
  subst e;refine W.seq ?_;refine W.region rfl ?_;refine s_val (x_as (v:=.slice none 0 0) rfl) ?_;refine s_nil ?_;refine W.ret ?_;exact ⟨_,resE_tmp rfl,H.nilOwn (α:=Int) 3⟩
 ·refine W.skip ?_;refine W.seq ?_;refine W.region rfl ?_;refine t_bs0 (α:=Int) T26.h H ?_;intro v3z w4z H;refine s_val (x_mv (v:=v_s) rfl) ?_;refine t_app (α:=Int) (k:=0) (l:=[]) (l2:=s) (l':=s) (vy:=v_s) T26.h rfl H rfl rfl rfl hs_s (hC_s.at H) (List.nil_append _) (by simp only [List.length_nil]; omega) ?_;intro v6z w7z H;refine s_val (x_as (v:=v6z) rfl) ?_;refine s_nil ?_;refine W.ret ?_;exact ⟨_,resE_tmp rfl,H⟩
end Go.Proofs.YtlfkkkbhejeplaaGreat
section
set_option maxRecDepth 100000
set_option maxHeartbeats 16000000
namespace Go.Proofs.YtlfkkkbhejeplaaGreat
open Go Go.Nm
attribute [local irreducible] gd execOp SL SLD SLT WR
def zbq (lo hi:Int):M (Int × Int) :=
  M.pure (lo,hi)
theorem zb6 {R}(lo hi){r}(hM:(zbq lo hi).Ends r)(w)(H:St w w [] R):Ret Tryz.prog 50 #[I lo,I hi] w fun v w'=>∃ y0 y1,(y0,y1)=r/\v = .agg #[I y0,I y1]/\St w w' [] R:=by
 refine ret_of_W Tryz.func50 rfl rfl rfl ?_;refine kA 2 ?_;intro aa ab H;refine kS 6 ?_;intro ac H;exact kR 1 []

def za5 (lo hi:Int):M (Bool × Int × Int) :=
  M.bind (zbq lo hi) fun (r0,r1) =>
  M.pure (true,r0,r1)
theorem zbv {R}(lo hi){r}(hM:(za5 lo hi).Ends r)(w)(H:St w w [] R):Ret Tryz.prog 51 #[I lo,I hi] w fun v w'=>∃ y0 y1 y2,(y0,y1,y2)=r/\v = .agg #[B y0,I y1,I y2]/\St w w' [] R:=by
 refine ret_of_W Tryz.func51 rfl rfl rfl ?_;refine kA 2 ?_;intro aa ab H;refine kC 5 @zb6 ?_;intro ac r0 r1 hM H;refine kS 1 ?_;intro ae H;exact kR 1 []

def za3 (s_bytes:List UInt8) (s_used s_mix flow:Int):M (Bool × Int × Int × Int × Int) :=
  M.bind (zac s_bytes s_used s_mix 3) fun (r2,q1,q2) =>
  bif r2==0 then (
  M.bind (zac s_bytes q1 q2 9) fun (r3,aa,ab) =>
  M.bind (zae s_bytes aa ab (-3) 3) fun (r4,ac,ae) =>
  M.bind (zbq r3 r4) fun (r0,r1) =>
  M.pure (false,r0,r1,ac,ae))
  else (
  M.bind (zac s_bytes q1 q2 50) fun (r5,ag,ah) =>
  M.gi (flow-r5) <|
  M.bind (zac s_bytes ag ah 50) fun (r6,ai,aj) =>
  M.gi (flow+r6) <|
  M.bind (za5 (max 0 (flow-r5)) (flow+r6)) fun (ak,al,ao) =>
  M.pure (ak,al,ao,ai,aj))
theorem zcn {R aa ac ab}(s_bytes s_used s_mix flow)(ae:Reads R ac)(ag:Sl ac ab s_bytes){r}(hM:(za3 s_bytes s_used s_mix flow).Ends r)(w)(H:St w w [cBlk aa [ab,I s_used,I s_mix] 77] R):Ret Tryz.prog 20 #[Pq aa,I flow] w fun v w'=>∃ y0 y1 y2 y3 y4,(y0,y1,y2,y3,y4)=r/\v = .agg #[B y0,I y1,I y2]/\St w w' [cBlk aa [ab,I y3,I y4] 77] R:=by
 refine ret_of_W Tryz.func20 rfl rfl rfl ?_;refine kA 2 ?_;intro ak al H;refine kg 5 ?_;obtain ⟨ao,ah,hM⟩:=M.e_bind hM;refine s_call cq [Pq aa,I 3] rfl (zab s_bytes s_used s_mix 3 (ae.app _) ag ah _ ((H.pk [1,0]).gt 1)) ?_;rintro _ ap ⟨r2,q1,q2,rfl,rfl,ai⟩;replace H:=H.pk [1,0] |>.bk ai
 refine kI 2 ?_ ?_
 ·intro aj hM;refine kC 3 @zab ?_;intro aq r3 au av hM H;refine kC 1 @zag ?_;intro aw r4 ax ay hM H;refine kC 0 @zb6 ?_;intro az r0 r1 hM H;refine kS 1 ?_;intro aA H;exact kR 1 [0]
 intro aj hM;refine kC 5 @zab ?_;intro aB r5 aC aD hM H;obtain ⟨aE,hM⟩:=M.e_gq hM;refine kC 4 @zab ?_;intro aF r6 aG aH hM H;obtain ⟨aI,hM⟩:=M.e_gq hM;refine kC 1 @zbv ?_;intro aJ aK aL aM hM H;refine ksw ?_;intro aN H;exact kR 1 [0]

def zaU (s_bytes:List UInt8) (r2 r3 r5:Int):(Int × Int × Int × Nat × (List DVal) × (List Int))->M ((Int × Int × Int × Nat × (List DVal) × (List Int)) ⊕ ((List DVal) × (List Int) × (List Int) × (List DVal) × Int × Int)):=fun (s2,s3,flow,s4,l,l2) =>
  bif decide ((s4:Int)<r5) then (
  M.grd (decide ((l2.length+([(flow:Int)]).length)*8<=140737488355328)) <|
  M.bind (za3 s_bytes s2 s3 flow) fun (r0,r1,aa,ab,ac) =>
  M.grd (decide ((l.length+([(⟨r0,(r1:Int),(aa:Int)⟩:DVal)]).length)*24<=140737488355328)) <|
  M.gi (flow-r3) <|
  M.gi (flow+r2) <|
  M.bind (zae s_bytes ab ac (flow-r3) (flow+r2)) fun (r6,ae,ag) =>
  M.gi ((s4:Int)+1) <|
  M.pure (.inl (ae,ag,max 0 r6,s4+1,l++([(⟨r0,(r1:Int),(aa:Int)⟩:DVal)]),l2++([(flow:Int)]))))
  else (
  M.pure (.inr (l,l2,l2,l,s2,s3)))
def zaJ (s_bytes:List UInt8) (s_used s_mix most:Int):M (Int × Int × (List DVal) × (List Int) × Int × Int) :=
  M.bind (zac s_bytes s_used s_mix 40) fun (r2,q1,q2) =>
  M.bind (zac s_bytes q1 q2 40) fun (r3,aa,ab) =>
  M.bind (zae s_bytes aa ab 50 400) fun (r4,ac,ae) =>
  M.bind (zae s_bytes ac ae 1 most) fun (r5,ag,ah) =>
  M.bind (M.iter (zaU s_bytes r2 r3 r5) (ag,ah,r4,0,[],[])) fun (l3,l4,l5,l6,s5,s6) =>
  M.pure (r2,r3,l6,l5,s5,s6)
theorem zcR {R aa ak ac}(s_bytes s_used s_mix most)(ae:Reads R ak)(ag:Sl ak ac s_bytes){r}(hM:(zaJ s_bytes s_used s_mix most).Ends r)(w)(H:St w w [cBlk aa [ac,I s_used,I s_mix] 77] R):Ret Tryz.prog 4 #[Pq aa,I most] w fun v w'=>∃ y0 y1 y2 y3 y4 y5 u0 u1,(y0,y1,y2,y3,y4,y5)=r/\v = .tuple #[.agg #[I y0,I y1,u0],u1]/\St w w' [cOwn (α:=DVal) 74 u0 y2,cOwn (α:=Int) 3 u1 y3,cBlk aa [ac,I y4,I y5] 77] R:=by
 refine ret_of_W Tryz.func4 rfl rfl rfl ?_;refine kA 2 ?_;intro al aI H;refine kg 5 ?_;obtain ⟨aJ,av,hM⟩:=M.e_bind hM;refine s_call cq [Pq aa,I 40] rfl (zab s_bytes s_used s_mix 40 (ae.app _) ag av _ ((H.pk [1,0]).gt 1)) ?_;rintro _ aK ⟨r2,q1,q2,rfl,rfl,ab⟩;replace H:=H.pk [1,0] |>.bk ab
 refine kC 1 @zab ?_;intro aL r3 aw ax hM H;refine kA 1 ?_;intro ao aM H;refine ksw ?_;intro aN H;refine kg 4 ?_;obtain ⟨aO,ay,hM⟩:=M.e_bind hM;refine s_call cq [Pq aa,I 50,I 400] rfl (zag s_bytes aw ax 50 400 (ae.app _) ag ay _ ((H.pk [1,0,2]).gt 2)) ?_;rintro _ aP ⟨r4,aQ,aR,rfl,rfl,ab⟩;replace H:=H.pk [1,0,2] |>.bk ab
 refine kC 11 @zag ?_;intro aS r5 aT aU hM H;refine kg 3 ?_;replace H:=H.nilOwn (α:=DVal) 74;replace H:=H.nilOwn (α:=Int) 3;obtain ⟨az,ap,aA⟩:=M.e_bind hM;obtain ⟨aV,ap⟩:=M.e_iter ap;refine W.loop (fun m σ W=>∃ (s2:Int) (s3:Int) (flow:Int) (s4:Nat) (l:List DVal) (l2:List Int) (ai:Value) (aj:Value) (ρ:Env),σ=upds ρ [(0,Pq aa),(4,Pq al),(6,Pq ao),(7,I flow),(8,aj),(18,I r5),(19,I (s4:Int))]/\M.iterN (zaU s_bytes r2 r3 r5) m (s2,s3,flow,s4,l,l2)=some az/\St w W [cOwn (α:=Int) 3 aj l2,cOwn (α:=DVal) 74 ai l,cBlk aa [ac,I s2,I s3] 77,cBlk ao [I r2,I r3,ai] 25,cBlk al [I 0,I 0,.slice none 0 0] 25] R) ?_ ?_
 ·exact kY
 rintro aW σ aX ⟨s2,s3,flow,s4,l,l2,ai,aj,ρ,rfl,aB,H⟩;obtain ⟨aY,aZ,a7,hM,aC⟩:=M.e_iterN aB;refine kI 5 ?_ ?_
 ·intro aD hM;refine kL 7 (α:=Int) [flow] ?_;intro a8 bc H;obtain ⟨bf,hM⟩:=M.e_gq hM;refine kP 0 ?_;intro bh bi H;refine kDT 3 [0,1,5] (.q 0 (.q 2 (.q 3 (.l2 1 (.l 4 (.l 5 (.l 6 (.q 7 (.l 8 .nil))))) 4 (.l2 1 (.l 5 (.l 6 (.q 7 (.l 8 .nil)))) 5 (.l 1 (.l 6 (.q 7 (.l 8 .nil))))))))) ?_;intro bj H;refine kg 3 ?_;refine t_l2 rfl rfl ?_ ?_
  ·refine kG 1 ?_;refine kN ?_;refine t_l rfl ?_;obtain ⟨bm,aE,hM⟩:=M.e_bind hM;refine s_call cq [Pq aa,I flow] rfl (zcn s_bytes s2 s3 flow (ae.app _) ag aE _ ((H.pk [3,0,1,2,4,5]).gt 5)) ?_;rintro _ bn ⟨r0,r1,ah,aF,aG,rfl,rfl,ab⟩;replace H:=H.pk [3,0,1,2,4,5] |>.bk ab
   refine kN ?_;refine kL 1 (α:=DVal) [⟨r0,r1,ah⟩] ?_;intro bo bp H;refine kN ?_;refine t_l rfl ?_;obtain ⟨br,hM⟩:=M.e_gq hM;refine kP 0 ?_;intro bt bu H;refine kN ?_;refine kS 2 ?_;intro bv H;refine kN ?_;refine t_nil ?_;replace H:=H.pk [1,3,4,5,6];obtain ⟨bw,hM⟩:=M.e_gq hM;obtain ⟨bA,hM⟩:=M.e_gq hM;refine kC 10 @zag ?_;intro bB r6 aq au hM H;obtain ⟨bC,hM⟩:=M.e_gq hM;exact kXp 7 [1,2,0,3,4]
  obtain ⟨bD,aH,hM⟩:=M.e_bind hM;refine s_call cq [Pq aa,I flow] rfl (zcn s_bytes s2 s3 flow (ae.app _) ag aH _ ((H.pk [3,0,1,2,4,5]).gt 5)) ?_;rintro _ bE ⟨r0,r1,ah,aF,aG,rfl,rfl,ab⟩;replace H:=H.pk [3,0,1,2,4,5] |>.bk ab
  refine kN ?_;obtain ⟨bF,hM⟩:=M.e_gq hM;refine t_l2 rfl rfl ?_ ?_
  ·refine kG 1 ?_;refine kN ?_;refine kL 1 (α:=DVal) [⟨r0,r1,ah⟩] ?_;intro bG bH H;refine kN ?_;refine kP 1 ?_;intro bI bJ H;refine kN ?_;refine kS 2 ?_;intro bK H;refine kN ?_;refine t_nil ?_;replace H:=H.pk [1,3,4,5,6];obtain ⟨bL,hM⟩:=M.e_gq hM;obtain ⟨bM,hM⟩:=M.e_gq hM;refine kC 10 @zag ?_;intro bN r6 aq au hM H;obtain ⟨bO,hM⟩:=M.e_gq hM;exact kXp 7 [1,2,0,3,4]
  refine kL 0 (α:=DVal) [⟨r0,r1,ah⟩] ?_;intro bP bQ H;refine kN ?_;refine kG 2 ?_;refine kN ?_;refine kP 1 ?_;intro bR bS H;refine kN ?_;refine kS 2 ?_;intro bT H;refine kN ?_;refine t_nil ?_;replace H:=H.pk [1,3,4,5,6];obtain ⟨bU,hM⟩:=M.e_gq hM;obtain ⟨bV,hM⟩:=M.e_gq hM;refine kC 10 @zag ?_;intro bW r6 aq au hM H;obtain ⟨bX,hM⟩:=M.e_gq hM;exact kXp 7 [1,2,0,3,4]
 intro aD hM;refine W.exit ?_;obtain rfl:=M.e_inr hM aC;replace hM:=aA;refine kS 4 ?_;intro bY H;exact kR 2 [1,0,2]

def m_daily_in (n aa greatest:Int):M Bool :=
  M.pure ((decide (aa<=n))&&(decide (n<=greatest)))
theorem daily_in_ok {R}(n aa greatest){r}(hM:(m_daily_in n aa greatest).Ends r)(w)(H:St w w [] R):Ret Tryz.prog 22 #[I n,I aa,I greatest] w fun v w'=>∃ y0,y0=r/\v=B y0/\St w w' [] R:=by
 refine ret_of_W Tryz.func22 rfl rfl rfl ?_;refine kg 16 ?_;exact rt

def m_daily_flow (n:Int):M Bool :=
  M.bind (m_daily_in n 0 1000000000) fun r2 =>
  M.pure r2
theorem daily_flow_ok {R}(n){r}(hM:(m_daily_flow n).Ends r)(w)(H:St w w [] R):Ret Tryz.prog 52 #[I n] w fun v w'=>∃ y0,y0=r/\v=B y0/\St w w' [] R:=by
 refine ret_of_W Tryz.func52 rfl rfl rfl ?_;refine kC 7 @daily_in_ok ?_;intro aa r2 hM H;refine kg 2 ?_;exact rt

def zaE (s:List DVal) (f:DVal->M Bool):Nat->M (Nat ⊕ (Int ⊕ Unit)):=fun s2 =>
  bif decide ((s2:Int)<(s.length:Int)) then (
  M.grd (decide ((s2:Int)<(s.length:Int))) <|
  M.bind (f (s.getD s2 default)) fun r2 =>
  bif r2 then (
  M.pure (.inr (.inl (s2:Int))))
  else (
  M.pure (.inl (s2+1))))
  else (
  M.pure (.inr (.inr ())))
def zbd (s:List DVal) (f:DVal->M Bool):M Int :=
  M.bind (M.iter (zaE s f) 0) fun x_=>match x_ with
  | (.inl s3)=>(
  M.pure s3)
  | (.inr (_:Unit))=>(
  M.pure (-1))
theorem zdm {R ac aa ab}(s f)(au:Reads R ac)(ai:Sl ac aa s)(aj:FnM Tryz.prog R ab f){r}(hM:(zbd s f).Ends r)(w)(H:St w w [] R):Ret Tryz.prog 133 #[aa,ab] w fun v w'=>∃ y0,y0=r/\v=I y0/\St w w' [] R:=by
 refine ret_of_W Tryz.func133 rfl rfl rfl ?_;have av:=(ai).len_le;refine kg 12 ?_;obtain ⟨ak,ae,ag⟩:=M.e_bind hM;obtain ⟨aw,ae⟩:=M.e_iter ae;refine W.loop (fun m σ W=>∃ (s2:Nat) (ρ:Env),σ=upds ρ [(0,aa),(1,ab),(7,I (s.length:Int)),(8,I (s2:Int))]/\M.iterN (zaE s f) m s2=some ak/\St w W [] R) ?_ ?_
 ·exact kY
 rintro ax σ ay ⟨s2,ρ,rfl,al,H⟩;obtain ⟨az,aA,aB,hM,ah⟩:=M.e_iterN al;refine kI 5 ?_ ?_
 ·intro ao hM;obtain ⟨aC,hM⟩:=M.e_gq hM;refine kg 15 ?_;obtain ⟨r2,ap,hM⟩:=M.e_bind hM;refine t_callM H aj rfl rfl (s.getD s2 default) Reads.none ⟨_,rfl,rfl⟩ ap ?_;intro aD H;refine kI 1 ?_ ?_
  ·intro aq hM;refine kg 5 ?_;obtain rfl:=M.e_inr hM ah;replace hM:=ag;exact rt
  intro aq hM;exact kX 5
 intro ao hM;refine W.exit ?_;obtain rfl:=M.e_inr hM ah;replace hM:=ag;refine kg 4 ?_;exact rt

def zaB (s:List DVal) (f:DVal->M Bool):M Bool :=
  M.bind (zbd s f) fun r2 =>
  M.pure (decide (0<=r2))
theorem zcT {R aa ab ac}(s f)(ae:Reads R aa)(ag:Sl aa ab s)(ah:FnM Tryz.prog R ac f){r}(hM:(zaB s f).Ends r)(w)(H:St w w [] R):Ret Tryz.prog 88 #[ab,ac] w fun v w'=>∃ y0,y0=r/\v=B y0/\St w w' [] R:=by
 refine ret_of_W Tryz.func88 rfl rfl rfl ?_;refine kC 8 @zdm ?_;intro ai r2 hM H;refine kg 3 ?_;exact rt

def m_daily_every_daily_Value__1 (x:DVal) (aa:DVal->M Bool):M Bool :=
  M.bind (aa x) fun r2 =>
  M.pure (!r2)
theorem daily_every_daily_Value__1_ok {R aa ab}(x ac)(ae:FnM Tryz.prog R ab ac)(ah:Has R (cBlk aa [ab] 139)){r}(hM:(m_daily_every_daily_Value__1 x ac).Ends r)(w)(H:St w w [] R):Ret Tryz.prog 89 #[.agg #[B x.known,I x.lo,I x.hi],Pq aa] w fun v w'=>∃ y0,y0=r/\v=B y0/\St w w' [] R:=by
 refine ret_of_W Tryz.func89 rfl rfl rfl ?_;refine kB 2 ?_;intro ai aj H;refine kg 6 ?_;obtain ⟨r2,ag,hM⟩:=M.e_bind hM;refine t_callM H ae rfl rfl x Reads.none ⟨_,rfl,rfl⟩ ag ?_;intro ak H;refine kg 3 ?_;exact rt

def m_daily_every_daily_Value (l:List DVal) (so:DVal->M Bool):M Bool :=
  M.bind (zaB l (fun aa=>m_daily_every_daily_Value__1 aa so)) fun r2 =>
  M.pure (!r2)
theorem daily_every_daily_Value_ok {R ae aa ag}(l so)(ai:Reads R ae)(aj:Sl ae aa l)(ak:FnM Tryz.prog R ag so){r}(hM:(m_daily_every_daily_Value l so).Ends r)(w)(H:St w w [] R):Ret Tryz.prog 53 #[aa,ag] w fun v w'=>∃ y0,y0=r/\v=B y0/\St w w' [] R:=by
 refine ret_of_W Tryz.func53 rfl rfl rfl ?_;refine kB 2 ?_;intro ab az H;refine kg 5 ?_;refine s_val (x_mf (fs:=[]) (cs:=[Pq ab]) rfl rfl) ?_;obtain ⟨aA,al,hM⟩:=M.e_bind hM;refine s_call cq [aa,.func (.func 89) #[] #[Pq ab]] rfl (zcT l (fun ac=>m_daily_every_daily_Value__1 ac so) (ai.app _) aj ⟨89,[Pq ab],rfl,cq,fun ah aB aC ao ac aD ap aE aq au=>by obtain rfl:=DVal_arg aq; exact (daily_every_daily_Value__1_ok ac so (FnM.app (ak.app _) _) (Has.app (Has.here (k:=0) rfl) _) au ah (St.refl ap)).mono fun ao ah ⟨aF,av,aw,ax⟩=>by subst av; exact ⟨aw,ax⟩⟩ al _ (H.gt 1)) ?_;rintro _ aG ⟨r2,rfl,rfl,ay⟩;replace H:=H.bk ay;refine kg 3 ?_;exact rt

def m_daily_flows (s:Span):M Bool :=
  M.bind (m_daily_in s.lo 0 s.hi) fun r2 =>
  M.bind (M.opt r2 (m_daily_flow s.hi) false) fun r3 =>
  M.pure (r2&&r3)
theorem daily_flows_ok {R}(s){r}(hM:(m_daily_flows s).Ends r)(w)(H:St w w [] R):Ret Tryz.prog 55 #[.agg #[I s.lo,I s.hi]] w fun v w'=>∃ y0,y0=r/\v=B y0/\St w w' [] R:=by
 refine ret_of_W Tryz.func55 rfl rfl rfl ?_;refine kB 2 ?_;intro ae ag H;refine kC 8 @daily_in_ok ?_;intro ah r2 hM H;refine kg 3 ?_;obtain ⟨r3,aa,hM⟩:=M.e_bind hM;refine t_gcall r2 (gy_t rfl) cq (B r3) (fun _=>[I s.hi]) (fun hg=>lst1 (gd_of hg (I s.hi))) H (fun hg=>(daily_flow_ok s.hi (M.e_opt aa hg) _ (H.give (A:=[]) rfl)).mono fun v_ w_ ⟨y_,ab,ac,H_⟩=>by subst ab; exact ⟨ac,H.via H_⟩) ?_;intro ai H;refine kg 3 ?_;exact rt

def m_daily_Check_1 (v:DVal):M Bool :=
  M.bind (M.opt (!(!v.known)) (m_daily_flows (⟨(v.lo:Int),(v.hi:Int)⟩:Span)) false) fun r2 =>
  M.pure ((!v.known)||r2)
theorem daily_Check_1_ok {R}(v){r}(hM:(m_daily_Check_1 v).Ends r)(w)(H:St w w [] R):Ret Tryz.prog 54 #[.agg #[B v.known,I v.lo,I v.hi]] w fun v w'=>∃ y0,y0=r/\v=B y0/\St w w' [] R:=by
 refine ret_of_W Tryz.func54 rfl rfl rfl ?_;refine kB 2 ?_;intro ae ag H;refine kg 10 ?_;obtain ⟨r2,aa,hM⟩:=M.e_bind hM;refine t_gcall (!(!v.known)) (gy_f rfl) cq (B r2) (fun _=>[.agg #[I v.lo,I v.hi]]) (fun hg=>lst1 (gd_of hg (.agg #[I v.lo,I v.hi]))) H (fun hg=>(daily_flows_ok (⟨(v.lo:Int),(v.hi:Int)⟩:Span) (M.e_opt aa hg) _ (H.give (A:=[]) rfl)).mono fun v_ w_ ⟨y_,ab,ac,H_⟩=>by subst ab; exact ⟨ac,H.via H_⟩) ?_;intro ah H;refine kg 3 ?_;exact rt

def m_daily_Check (ab ac:Int) (aa:List DVal):M Int :=
  M.bind (m_daily_in (aa.length:Int) 1 60) fun r2 =>
  bif !r2 then (
  M.pure 3)
  else (
  M.bind (m_daily_flow ab) fun r3 =>
  M.bind (M.opt (!(!r3)) (m_daily_flow ac) false) fun r4 =>
  M.bind (M.opt (!((!r3)||(!r4))) (m_daily_every_daily_Value aa (fun ae=>m_daily_Check_1 ae)) false) fun r5 =>
  bif (((!r3)||(!r4))||(!r5)) then (
  M.pure 80)
  else (
  M.pure 0))
theorem daily_Check_ok {R ai ab}(aj aa ac)(ao:Reads R ai)(ak:Sl ai ab ac){r}(hM:(m_daily_Check aj aa ac).Ends r)(w)(H:St w w [] R):Ret Tryz.prog 21 #[.agg #[I aj,I aa,ab]] w fun v w'=>∃ y0,y0=r/\v=I y0/\St w w' [] R:=by
 refine ret_of_W Tryz.func21 rfl rfl rfl ?_;refine kB 2 ?_;intro aD aE H;have aF:=(ak).len_le;refine kC 9 @daily_in_ok ?_;intro aG r2 hM H;refine kI 3 ?_ ?_
 ·intro ap hM;refine kg 4 ?_;exact rt
 intro ap hM;refine kC 4 @daily_flow_ok ?_;intro aH r3 hM H;refine kg 4 ?_;obtain ⟨r4,aq,hM⟩:=M.e_bind hM;refine t_gcall (!(!r3)) (gy_f rfl) cq (B r4) (fun _=>[I aa]) (fun hg=>lst1 (gd_of hg (I aa))) H (fun hg=>(daily_flow_ok aa (M.e_opt aq hg) _ (H.give (A:=[]) rfl)).mono fun v_ w_ ⟨y_,ae,ag,H_⟩=>by subst ae; exact ⟨ag,H.via H_⟩) ?_;intro aI H;refine kg 5 ?_;obtain ⟨r5,au,hM⟩:=M.e_bind hM;refine t_gcall (!((!r3)||(!r4))) (gy_f rfl) cq (B r5) (fun _=>[ab,.func (.func 54) #[] #[]]) (fun hg=>lst2 (gd_of hg (ab)) rfl) H (fun hg=>(daily_every_daily_Value_ok ac (fun ah=>m_daily_Check_1 ah) (ao.app _) ak ⟨54,[],rfl,cq,fun al aJ aK av ah aL aw aM ax ay=>by obtain rfl:=DVal_arg ax; exact (daily_Check_1_ok ah ay al (St.refl aw)).mono fun av al ⟨aN,az,aA,aB⟩=>by subst az; exact ⟨aA,aB⟩⟩ (M.e_opt au hg) _ (H.give (A:=[]) rfl)).mono fun v_ w_ ⟨y_,ae,ag,H_⟩=>by subst ae; exact ⟨ag,H.via H_⟩) ?_;intro aO H;refine kI 4 ?_ ?_
 ·intro aC hM;refine kg 4 ?_;exact rt
 intro aC hM;refine kg 5 ?_;exact rt

def m_daily_Value_span (v:DVal):M (Int × Int) :=
  bif v.known then (
  M.pure (v.lo,v.hi))
  else (
  M.pure (0,1000000000))
theorem daily_Value_span_ok {R}(v){r}(hM:(m_daily_Value_span v).Ends r)(w)(H:St w w [] R):Ret Tryz.prog 90 #[.agg #[B v.known,I v.lo,I v.hi]] w fun v w'=>∃ y0 y1,(y0,y1)=r/\v = .agg #[I y0,I y1]/\St w w' [] R:=by
 refine ret_of_W Tryz.func90 rfl rfl rfl ?_;refine kB 2 ?_;intro ab ac H;refine kal ?_;intro ae ag H;refine kI 7 ?_ ?_
 ·intro aa hM;refine kS 4 ?_;intro ah H;exact kR 1 []
 intro aa hM;refine kS 4 ?_;intro ai H;exact kR 1 []

def m_daily_work_pairs (aa ab:Int) (ac:List DVal) (ae:List Span) (back:Bool):M Bool :=
  M.pure back
theorem daily_work_pairs_ok {R aa ab ac ae ag}(ah ai aj ak back)(au:Reads R ab)(av:Sl ab ac aj)(aw:Reads R ae)(ax:Sl ae ag ak)(ay:Has R (cBlk aa [I ah,I ai,ac,ag] 84)){r}(hM:(m_daily_work_pairs ah ai aj ak back).Ends r)(w)(H:St w w [] R):Ret Tryz.prog 92 #[Pq aa,B back] w fun v w'=>∃ y0 al ao,y0=r/\v = .func (.func 134) #[] #[Pq al,Pq ao]/\St w w' [cBlk al [Pq aa] 80,cBlk ao [B y0] 4] R:=by
 refine ret_of_W Tryz.func92 rfl rfl rfl ?_;refine kB 2 ?_;intro ap az H;refine kbx ?_;intro aq aA H;refine kg 4 ?_;refine s_val (x_mf (fs:=[]) (cs:=[Pq ap,Pq aq]) rfl rfl) ?_;exact kR 2 [1,0]

def m_daily_work_pairs_1_b0 {T_:Type} (ab:T_->(Int × Int)->M (Bool × T_)) (aa:List DVal) (ac:Bool):(Nat × T_)->M ((Nat × T_) ⊕ (T_ ⊕ T_)):=fun (s,t2) =>
  bif decide ((s:Int)<((aa.length:Int)-1)) then (
  M.gi ((s:Int)+1) <|
  bif ac then (
  M.gi (((aa.length:Int)-1)-(s:Int)) <|
  M.gi (((aa.length:Int)-2)-(s:Int)) <|
  M.bind (ab t2 (((aa.length:Int)-1)-(s:Int),((aa.length:Int)-2)-(s:Int))) fun (go,t) =>
  bif !go then (
  M.pure (.inr (.inl t)))
  else (
  M.pure (.inl (s+1,t))))
  else (
  M.bind (ab t2 ((s:Int),(s:Int)+1)) fun (go,t) =>
  bif !go then (
  M.pure (.inr (.inl t)))
  else (
  M.pure (.inl (s+1,t)))))
  else (
  M.pure (.inr (.inr t2)))
def m_daily_work_pairs_1 {T_:Type} (aa:T_->(Int × Int)->M (Bool × T_)) (t_:T_) (ae ag:Int) (ab:List DVal) (ac:Bool):M T_ :=
  M.bind (M.iter (m_daily_work_pairs_1_b0 aa ab ac) (0,t_)) fun x_=>match x_ with
  | (.inl t3)=>(
  M.pure t3)
  | (.inr t4)=>(
  M.pure t4)
theorem daily_work_pairs_1_ok {R:List Chunk} {T_:Type} {Y_:T_->List Chunk->Prop} {aj:Value} {ac:List Chunk} {ak:Nat} {ax:Nat} {ay:Cells} {aa:Value} {al:Nat} (ao:T_->(Int × Int)->M (Bool × T_)) (t_:T_) (ae:Int) (ag:Int) (ab:List DVal) (ap:Bool) (az:YieldC Tryz.prog R arII Y_ aj ao) (aA:Y_ t_ ac) (aP:Reads R ay) (aq:Sl ay aa ab) (au:∀ (t_:T_) (ac:List Chunk),Y_ t_ ac->Fld (cAll ac :: R) ax [I ae,I ag,aa]) (aQ:Has R (cBlk ak [Pq ax] 80)) (aR:Has R (cBlk al [B ap] 4)) {r:T_} (hM:(m_daily_work_pairs_1 ao t_ ae ag ab ap).Ends r) (w:World) (H:St w w [cAll ac] R):Ret Tryz.prog 134 #[aj,Pq ak,Pq al] w fun v w'=>∃ (y0:T_) (Ls0:List Chunk),y0=r/\v = .tuple #[]/\St w w' [cAll Ls0] R/\Y_ y0 Ls0:=by
 refine ret_of_W Tryz.func134 rfl rfl rfl ?_;refine kg 6 ?_;refine s_val (x_ld (v:=aa) rfl (fld_sc (pre:=[I ae,I ag,aa]) (i:=2) Sc23.h (Fld.get (Fld.up (au _ _ aA) (k:=0) rfl) H) rfl)) ?_;have aS:=(aq).len_le;refine kg 5 ?_;obtain ⟨aH,av,aw⟩:=M.e_bind hM;obtain ⟨aT,av⟩:=M.e_iter av;refine W.loop (fun m σ W=>∃ (s:Nat) (t2:T_) (Ls_t2:List Chunk) (ρ:Env),σ=upds ρ [(0,aj),(1,Pq ak),(2,Pq al),(13,I ((ab.length:Int)-1)),(14,I (s:Int))]/\M.iterN (m_daily_work_pairs_1_b0 ao ab ap) m (s,t2)=some aH/\St w W [cAll Ls_t2] R/\Y_ t2 Ls_t2) ?_ ?_
 ·exact ⟨_,0,t_,ac,_,jQ,av,H,aA⟩
 rintro aU σ aV ⟨s,t2,Ls_t2,ρ,rfl,aI,H,hY_t2⟩;obtain ⟨aB,aC,aW,hM,ah⟩:=M.e_iterN aI;refine kI 5 ?_ ?_
 ·intro aJ hM;obtain ⟨aX,hM⟩:=M.e_gq hM;refine kI 21 ?_ ?_
  ·intro aK hM;refine kD 0 [0] [] ?_;intro aY H;refine kg 4 ?_;refine d_q rfl (fun w' H=>x_ld (v:=aa) rfl (fld_sc (pre:=[I ae,I ag,aa]) (i:=2) Sc23.h (Fld.get (Fld.up (au _ _ hY_t2) (k:=0) rfl) H) rfl)) ?_;have aZ:=(aq).len_le;obtain ⟨a7,hM⟩:=M.e_gq hM;refine kg 8 ?_;refine d_q rfl (fun w' H=>x_ld (v:=aa) rfl (fld_sc (pre:=[I ae,I ag,aa]) (i:=2) Sc23.h (Fld.get (Fld.up (au _ _ hY_t2) (k:=0) rfl) H) rfl)) ?_;have a8:=(aq).len_le;obtain ⟨bc,hM⟩:=M.e_gq hM;refine kg 12 ?_;obtain ⟨⟨go,t⟩,aL,hM⟩:=M.e_bind hM;refine t_yield (L:=[]) H az hY_t2 rfl [I (((ab.length:Int)-1)-(s:Int)),I (((ab.length:Int)-2)-(s:Int))] rfl (((ab.length:Int)-1)-(s:Int),((ab.length:Int)-2)-(s:Int)) Reads.none rfl aL ?_;intro aD bf aE H;replace H:=H.nf;refine kI 2 ?_ ?_
   ·intro aM hM;refine W.ret ?_;obtain rfl:=M.e_inr hM ah;replace hM:=aw;have ai:=M.e_pure hM;exact ⟨_,resE_tmp0 rfl,⟨t,aD,ai,rfl,H,aE⟩⟩
   intro aM hM;refine kg 5 ?_;exact ⟨aB,aC,s+1,t,aD,_,jQ,M.e_inl hM ah,H,aE⟩
  intro aK hM;refine kg 6 ?_;obtain ⟨⟨go,t⟩,aN,hM⟩:=M.e_bind hM;refine t_yield (L:=[]) H az hY_t2 rfl [I (s:Int),I ((s:Int)+1)] rfl ((s:Int),(s:Int)+1) Reads.none rfl aN ?_;intro aF bh aG H;replace H:=H.nf;refine kI 2 ?_ ?_
  ·intro aO hM;refine W.ret ?_;obtain rfl:=M.e_inr hM ah;replace hM:=aw;have ai:=M.e_pure hM;exact ⟨_,resE_tmp0 rfl,⟨t,aF,ai,rfl,H,aG⟩⟩
  intro aO hM;refine kg 5 ?_;exact ⟨aB,aC,s+1,t,aF,_,jQ,M.e_inl hM ah,H,aG⟩
 intro aJ hM;refine W.exit ?_;obtain rfl:=M.e_inr hM ah;replace hM:=aw;have ai:=M.e_pure hM;exact ⟨_,resE_tmp0 rfl,⟨t2,Ls_t2,ai,rfl,H,hY_t2⟩⟩
def m_daily_opened_1 (i low high ab ac:Int) (ae:List DVal) (aa:List Span):M (List Span) :=
  M.grd (decide ((0:Int)<=i)&&decide (i<(aa.length:Int))) <|
  M.pure ((aa.set (Int.toNat i) ({ (aa.getD (Int.toNat i) default) with lo:=max ((aa.getD (Int.toNat i) default).lo) low })).set (Int.toNat i) ({ ((aa.set (Int.toNat i) ({ (aa.getD (Int.toNat i) default) with lo:=max ((aa.getD (Int.toNat i) default).lo) low })).getD (Int.toNat i) default) with hi:=min ((aa.getD (Int.toNat i) default).hi) high }))
theorem daily_opened_1_ok {R ak ae al ag ab}(i low high ah ai ao aa)(ap:Reads R al)(aq:Sl al ag ao)(au:Has R (cBlk ak [Pq ae] 80)){r}(hM:(m_daily_opened_1 i low high ah ai ao aa).Ends r)(w)(H:St w w [cOwn (α:=Span) 32 ab aa,cBlk ae [I ah,I ai,ag,ab] 84] R):Ret Tryz.prog 91 #[I i,I low,I high,Pq ak] w fun v w'=>∃ y0 u0,y0=r/\v = .tuple #[]/\St w w' [cOwn (α:=Span) 32 u0 y0,cBlk ae [I ah,I ai,ag,u0] 84] R:=by
 refine ret_of_W Tryz.func91 rfl rfl rfl ?_;obtain ⟨av,hM⟩:=M.e_gq hM;refine kg 7 ?_;have ac:=ownSl (H.get (k:=0) rfl);refine kDS 3 [1] (.q 0 (.q 1 (.q 2 (.q 3 (.q 4 (.q 6 (.q 8 (.q 9 (.q 10 (.q 12 (.l2 5 (.q 7 (.l 11 (.q 13 (.q 14 (.q 15 (.l 16 (.q 17 (.q 18 .nil)))))))) 11 (.q 13 (.l 5 (.q 7 (.q 14 (.q 15 (.l 16 (.q 17 (.q 18 .nil))))))))))))))))))) 19 [19] ?_;intro aw H;refine kg 3 ?_;refine ts_q rfl (fun w' H=>x_ncE (p:=vat ab 2 (Int.toNat i)) rfl (Sl.pl (i:=i) ac (by omega) (by omega))) ?_;refine kg 3 ?_;refine ts_q rfl (fun w' H=>x_ncE (p:=vat ab 2 (Int.toNat i)) rfl (Sl.pl (i:=i) ac (by omega) (by omega))) ?_;refine kg 2 ?_;refine ts_l2 rfl rfl ?_ ?_
 ·refine kG 1 ?_;refine kN ?_;refine kG 3 ?_;refine kN ?_;refine kg 1 ?_;refine ts_q rfl (fun w' H=>x_ncE (p:=vat ab 2 (Int.toNat i)) rfl (Sl.pl (i:=i) ac (by omega) (by omega))) ?_;refine kO 2 (α:=Span) ({ (aa.getD (Int.toNat i) default) with lo:=max ((aa.getD (Int.toNat i) default).lo) low }) ?_;intro ax H;have ay:(aa.set (Int.toNat i) ({ (aa.getD (Int.toNat i) default) with lo:=max ((aa.getD (Int.toNat i) default).lo) low })).length=(aa).length:=List.length_set;refine kN ?_;refine ts_q rfl (fun w' H=>x_ncE (p:=vat ab 2 (Int.toNat i)) rfl (Sl.pl (i:=i) ac (by omega) (by omega))) ?_;refine kO 3 (α:=Span) ({ ((aa.set (Int.toNat i) ({ (aa.getD (Int.toNat i) default) with lo:=max ((aa.getD (Int.toNat i) default).lo) low })).getD (Int.toNat i) default) with hi:=min ((aa.getD (Int.toNat i) default).hi) high }) ?_;intro az H;have aA:((aa.set (Int.toNat i) ({ (aa.getD (Int.toNat i) default) with lo:=max ((aa.getD (Int.toNat i) default).lo) low })).set (Int.toNat i) ({ ((aa.set (Int.toNat i) ({ (aa.getD (Int.toNat i) default) with lo:=max ((aa.getD (Int.toNat i) default).lo) low })).getD (Int.toNat i) default) with hi:=min ((aa.getD (Int.toNat i) default).hi) high })).length=(aa.set (Int.toNat i) ({ (aa.getD (Int.toNat i) default) with lo:=max ((aa.getD (Int.toNat i) default).lo) low })).length:=List.length_set;refine s_nil ⟨trivial,?_⟩;refine sr_nil ?_;have aj:=M.e_pure hM;exact ⟨_,resE_tmp0 rfl,⟨((aa.set (Int.toNat i) ({ (aa.getD (Int.toNat i) default) with lo:=max ((aa.getD (Int.toNat i) default).lo) low })).set (Int.toNat i) ({ ((aa.set (Int.toNat i) ({ (aa.getD (Int.toNat i) default) with lo:=max ((aa.getD (Int.toNat i) default).lo) low })).getD (Int.toNat i) default) with hi:=min ((aa.getD (Int.toNat i) default).hi) high })),ab,aj,rfl,H⟩⟩
 refine kG 1 ?_;refine kN ?_;refine kG 3 ?_;refine kN ?_;refine kg 1 ?_;refine ts_q rfl (fun w' H=>x_ncE (p:=vat ab 2 (Int.toNat i)) rfl (Sl.pl (i:=i) ac (by omega) (by omega))) ?_;refine kO 2 (α:=Span) ({ (aa.getD (Int.toNat i) default) with lo:=max ((aa.getD (Int.toNat i) default).lo) low }) ?_;intro aB H;have aC:(aa.set (Int.toNat i) ({ (aa.getD (Int.toNat i) default) with lo:=max ((aa.getD (Int.toNat i) default).lo) low })).length=(aa).length:=List.length_set;refine kN ?_;refine ts_q rfl (fun w' H=>x_ncE (p:=vat ab 2 (Int.toNat i)) rfl (Sl.pl (i:=i) ac (by omega) (by omega))) ?_;refine kO 3 (α:=Span) ({ ((aa.set (Int.toNat i) ({ (aa.getD (Int.toNat i) default) with lo:=max ((aa.getD (Int.toNat i) default).lo) low })).getD (Int.toNat i) default) with hi:=min ((aa.getD (Int.toNat i) default).hi) high }) ?_;intro aD H;have aE:((aa.set (Int.toNat i) ({ (aa.getD (Int.toNat i) default) with lo:=max ((aa.getD (Int.toNat i) default).lo) low })).set (Int.toNat i) ({ ((aa.set (Int.toNat i) ({ (aa.getD (Int.toNat i) default) with lo:=max ((aa.getD (Int.toNat i) default).lo) low })).getD (Int.toNat i) default) with hi:=min ((aa.getD (Int.toNat i) default).hi) high })).length=(aa.set (Int.toNat i) ({ (aa.getD (Int.toNat i) default) with lo:=max ((aa.getD (Int.toNat i) default).lo) low })).length:=List.length_set;refine s_nil ⟨trivial,?_⟩;refine sr_nil ?_;have aj:=M.e_pure hM;exact ⟨_,resE_tmp0 rfl,⟨((aa.set (Int.toNat i) ({ (aa.getD (Int.toNat i) default) with lo:=max ((aa.getD (Int.toNat i) default).lo) low })).set (Int.toNat i) ({ ((aa.set (Int.toNat i) ({ (aa.getD (Int.toNat i) default) with lo:=max ((aa.getD (Int.toNat i) default).lo) low })).getD (Int.toNat i) default) with hi:=min ((aa.getD (Int.toNat i) default).hi) high })),ab,aj,rfl,H⟩⟩

def zaL (s:List Span) (f:Span->M Bool):Nat->M (Nat ⊕ (Int ⊕ Unit)):=fun s2 =>
  bif decide ((s2:Int)<(s.length:Int)) then (
  M.grd (decide ((s2:Int)<(s.length:Int))) <|
  M.bind (f (s.getD s2 default)) fun r2 =>
  bif r2 then (
  M.pure (.inr (.inl (s2:Int))))
  else (
  M.pure (.inl (s2+1))))
  else (
  M.pure (.inr (.inr ())))
def zbp (s:List Span) (f:Span->M Bool):M Int :=
  M.bind (M.iter (zaL s f) 0) fun x_=>match x_ with
  | (.inl s3)=>(
  M.pure s3)
  | (.inr (_:Unit))=>(
  M.pure (-1))
theorem zdI {R ac aa ab}(s f)(au:Reads R ac)(ai:Sl ac aa s)(aj:FnM Tryz.prog R ab f){r}(hM:(zbp s f).Ends r)(w)(H:St w w [] R):Ret Tryz.prog 161 #[aa,ab] w fun v w'=>∃ y0,y0=r/\v=I y0/\St w w' [] R:=by
 refine ret_of_W Tryz.func161 rfl rfl rfl ?_;have av:=(ai).len_le;refine kg 12 ?_;obtain ⟨ak,ae,ag⟩:=M.e_bind hM;obtain ⟨aw,ae⟩:=M.e_iter ae;refine W.loop (fun m σ W=>∃ (s2:Nat) (ρ:Env),σ=upds ρ [(0,aa),(1,ab),(7,I (s.length:Int)),(8,I (s2:Int))]/\M.iterN (zaL s f) m s2=some ak/\St w W [] R) ?_ ?_
 ·exact kY
 rintro ax σ ay ⟨s2,ρ,rfl,al,H⟩;obtain ⟨az,aA,aB,hM,ah⟩:=M.e_iterN al;refine kI 5 ?_ ?_
 ·intro ao hM;obtain ⟨aC,hM⟩:=M.e_gq hM;refine kg 15 ?_;obtain ⟨r2,ap,hM⟩:=M.e_bind hM;refine t_callM H aj rfl rfl (s.getD s2 default) Reads.none ⟨_,rfl,rfl⟩ ap ?_;intro aD H;refine kI 1 ?_ ?_
  ·intro aq hM;refine kg 5 ?_;obtain rfl:=M.e_inr hM ah;replace hM:=ag;exact rt
  intro aq hM;exact kX 5
 intro ao hM;refine W.exit ?_;obtain rfl:=M.e_inr hM ah;replace hM:=ag;refine kg 4 ?_;exact rt

def zas (s:List Span) (f:Span->M Bool):M Bool :=
  M.bind (zbp s f) fun r2 =>
  M.pure (decide (0<=r2))
theorem zb8 {R aa ab ac}(s f)(ae:Reads R aa)(ag:Sl aa ab s)(ah:FnM Tryz.prog R ac f){r}(hM:(zas s f).Ends r)(w)(H:St w w [] R):Ret Tryz.prog 121 #[ab,ac] w fun v w'=>∃ y0,y0=r/\v=B y0/\St w w' [] R:=by
 refine ret_of_W Tryz.func121 rfl rfl rfl ?_;refine kC 8 @zdI ?_;intro ai r2 hM H;refine kg 3 ?_;exact rt

def m_daily_every_api_Span__1 (x:Span) (aa:Span->M Bool):M Bool :=
  M.bind (aa x) fun r2 =>
  M.pure (!r2)
theorem daily_every_api_Span__1_ok {R aa ab}(x ac)(ae:FnM Tryz.prog R ab ac)(ah:Has R (cBlk aa [ab] 126)){r}(hM:(m_daily_every_api_Span__1 x ac).Ends r)(w)(H:St w w [] R):Ret Tryz.prog 135 #[.agg #[I x.lo,I x.hi],Pq aa] w fun v w'=>∃ y0,y0=r/\v=B y0/\St w w' [] R:=by
 refine ret_of_W Tryz.func135 rfl rfl rfl ?_;refine kB 2 ?_;intro ai aj H;refine kg 6 ?_;obtain ⟨r2,ag,hM⟩:=M.e_bind hM;refine t_callM H ae rfl rfl x Reads.none ⟨_,rfl,rfl⟩ ag ?_;intro ak H;refine kg 3 ?_;exact rt

def m_daily_every_api_Span (l:List Span) (so:Span->M Bool):M Bool :=
  M.bind (zas l (fun aa=>m_daily_every_api_Span__1 aa so)) fun r2 =>
  M.pure (!r2)
theorem daily_every_api_Span_ok {R ae aa ag}(l so)(ai:Reads R ae)(aj:Sl ae aa l)(ak:FnM Tryz.prog R ag so){r}(hM:(m_daily_every_api_Span l so).Ends r)(w)(H:St w w [] R):Ret Tryz.prog 93 #[aa,ag] w fun v w'=>∃ y0,y0=r/\v=B y0/\St w w' [] R:=by
 refine ret_of_W Tryz.func93 rfl rfl rfl ?_;refine kB 2 ?_;intro ab az H;refine kg 5 ?_;refine s_val (x_mf (fs:=[]) (cs:=[Pq ab]) rfl rfl) ?_;obtain ⟨aA,al,hM⟩:=M.e_bind hM;refine s_call cq [aa,.func (.func 135) #[] #[Pq ab]] rfl (zb8 l (fun ac=>m_daily_every_api_Span__1 ac so) (ai.app _) aj ⟨135,[Pq ab],rfl,cq,fun ah aB aC ao ac aD ap aE aq au=>by obtain rfl:=Span_arg aq; exact (daily_every_api_Span__1_ok ac so (FnM.app (ak.app _) _) (Has.app (Has.here (k:=0) rfl) _) au ah (St.refl ap)).mono fun ao ah ⟨aF,av,aw,ax⟩=>by subst av; exact ⟨aw,ax⟩⟩ al _ (H.gt 1)) ?_;rintro _ aG ⟨r2,rfl,rfl,ay⟩;replace H:=H.bk ay;refine kg 3 ?_;exact rt

def m_daily_opened_2 (s:Span):M Bool :=
  M.pure (decide (s.lo<=s.hi))
theorem daily_opened_2_ok {R}(s){r}(hM:(m_daily_opened_2 s).Ends r)(w)(H:St w w [] R):Ret Tryz.prog 94 #[.agg #[I s.lo,I s.hi]] w fun v w'=>∃ y0,y0=r/\v=B y0/\St w w' [] R:=by
 refine ret_of_W Tryz.func94 rfl rfl rfl ?_;refine kB 2 ?_;intro aa ab H;refine kg 11 ?_;exact rt

def m_daily_opened_b0 (aa:List DVal):(Nat × (List Span))->M ((Nat × (List Span)) ⊕ ((List Span) × (List Span))):=fun (s,l) =>
  bif decide ((s:Int)<(aa.length:Int)) then (
  M.grd (decide ((s:Int)<(aa.length:Int))) <|
  M.bind (m_daily_Value_span (aa.getD s default)) fun (r0,r1) =>
  M.grd (decide ((l.length+([(⟨(r0:Int),(r1:Int)⟩:Span)]).length)*16<=140737488355328)) <|
  M.pure (.inl (s+1,l++([(⟨(r0:Int),(r1:Int)⟩:Span)]))))
  else (
  M.pure (.inr (l,l)))
def m_daily_opened_b1 (aa ab:Int) (ac:List DVal):(List Span)->(Int × Int)->M ((List Span) ⊕ Unit):=fun l4 (x,x2) =>
  M.grd (decide ((0:Int)<=x)&&decide (x<(l4.length:Int))) <|
  M.gi (((l4.getD (Int.toNat x) default).lo)-ab) <|
  M.gi (((l4.getD (Int.toNat x) default).hi)+aa) <|
  M.bind (m_daily_opened_1 x2 (((l4.getD (Int.toNat x) default).lo)-ab) (((l4.getD (Int.toNat x) default).hi)+aa) aa ab ac l4) fun l_k023 =>
  M.pure (.inl l_k023)
def m_daily_opened_b2 (aa ab:Int) (ac:List DVal):(List Span)->(Int × Int)->M ((List Span) ⊕ Unit):=fun l5 (x3,x4) =>
  M.grd (decide ((0:Int)<=x3)&&decide (x3<(l5.length:Int))) <|
  M.gi (((l5.getD (Int.toNat x3) default).lo)-aa) <|
  M.gi (((l5.getD (Int.toNat x3) default).hi)+ab) <|
  M.bind (m_daily_opened_1 x4 (((l5.getD (Int.toNat x3) default).lo)-aa) (((l5.getD (Int.toNat x3) default).hi)+ab) aa ab ac l5) fun l_k0232 =>
  M.pure (.inl l_k0232)
def m_daily_opened (aa ab:Int) (ac:List DVal):M ((Bool × Int) ⊕ (Int × Int × (List Span) × Bool × Int)) :=
  M.bind (m_daily_Check aa ab ac) fun r2 =>
  bif r2 != 0 then (
  M.pure (.inl (false,r2)))
  else (
  M.bind (M.iter (m_daily_opened_b0 ac) (0,[])) fun (l2,l3) =>
  M.bind (m_daily_work_pairs aa ab ac l3 false) fun ae =>
  M.bind (m_daily_work_pairs_1 (M.yl (m_daily_opened_b1 aa ab ac)) (.inl l3) aa ab ac ae) fun x_=>match x_ with
  | .inl l4=>(
  M.bind (m_daily_work_pairs aa ab ac l4 true) fun ag =>
  M.bind (m_daily_work_pairs_1 (M.yl (m_daily_opened_b2 aa ab ac)) (.inl l4) aa ab ac ag) fun x_=>match x_ with
  | .inl l5=>(
  M.bind (m_daily_every_api_Span l5 (fun ah=>m_daily_opened_2 ah)) fun r3 =>
  M.pure (.inr (aa,ab,l5,r3,0)))
  | .inr _=>M.fail)
  | .inr _=>M.fail)
theorem daily_opened_ok {R aV ae}(aa ab ah)(aq:Reads R aV)(ax:Sl aV ae ah){r}(hM:(m_daily_opened aa ab ah).Ends r)(w)(H:St w w [] R):Ret Tryz.prog 56 #[.agg #[I aa,I ab,ae]] w fun v w'=>(∃ (y0:Bool) (y1:Int),(.inl (y0,y1))=r/\v = .tuple #[.pointer none,B y0,I y1]/\St w w' [] R)∨(∃ (y0:Int) (y1:Int) (y2:List Span) (y3:Bool) (y4:Int) (aW:Nat) (u1:Value),(.inr (y0,y1,y2,y3,y4))=r/\v = .tuple #[Pq aW,B y3,I y4]/\St w w' [cBlk aW [I y0,I y1,ae,u1] 84,cOwn (α:=Span) 32 u1 y2] R):=by
 refine ret_of_WD Tryz.func56 rfl rfl rfl ?_;replace H:St w w [cMk ([])] R:=H.mk0;have bG:=ax.len_le;unfold m_daily_opened at hM;refine WD.seq<|WD.of ?_;refine kB 1 ?_;intro ay bH H;refine kg 4 ?_;refine WD.seq<|WD.seq<|WD.of ?_;refine kC 2 @daily_Check_ok ?_;intro bI r2 hM H;refine kg 2 ?_;refine WD.seq<|WD.of ?_;refine kg 4 ?_
 refine WD.cond (r2 != 0) rfl (fun av=>?_) (fun av=>?_)
 ·replace hM:=M.e_t hM av;replace av:=dI av;refine WD.seq<|WD.of ?_;refine kg 6 ?_;refine WD.of ?_;refine W.ret ?_;refine bodyD_r (H.pk [1,0]) ?_;intro bJ H;replace H:=H.nf
  have aI:=M.e_pure hM;exact ⟨_,resE_tmp3 rfl,.inl (⟨false,r2,aI,rfl,(H.pk [])⟩)⟩
 replace hM:=M.e_f hM av;replace av:=dI av;refine WD.of<|W.skip<|WD.seq<|WD.of ?_;refine kB 3 ?_;intro ac bK H;refine kal ?_;intro ag bL H;refine ksw ?_;intro bM H;refine s_nil<|WD.seq<|WD.seq<|WD.of ?_
 have bN:=(ax).len_le;refine kg 6 ?_;refine WD.block ?_;replace H:=H.nilOwn (α:=Span) 32;obtain ⟨a8,aX,bc⟩:=M.e_bind hM;obtain ⟨bO,aX⟩:=M.e_iter aX;refine WD.loop (fun m au σ W=>∃ (s:Nat) (l:List Span) (al:Value) (ρ:Env),σ=upds ρ [(6,Pq ag),(23,ae),(24,I (ah.length:Int)),(25,I (s:Int))]/\M.iterN (m_daily_opened_b0 ah) m (s,l)=some a8/\St w W [cOwn (α:=Span) 32 al l,cBlk ag [Pq ac] 80,cBlk ac [I aa,I ab,ae,al] 84,cBlk ay [I aa,I ab,ae] 25,cMk au] R) ?_ ?_
 ·exact kY
 rintro bP au σ bQ ⟨s,l,al,ρ,rfl,bf,H⟩;obtain ⟨bR,bS,bT,hM,bh⟩:=M.e_iterN bf;refine WD.seq<|WD.of ?_;refine kg 3 ?_;refine WD.seq ?_
 refine WD.cond (decide ((s:Int)<(ah.length:Int))) rfl (fun aw=>?_) (fun aw=>?_)
 ·replace hM:=M.e_t hM aw;replace aw:=dI aw;refine WD.of<|W.skip<|WD.seq<|WD.block<|WD.seq<|WD.of ?_;obtain ⟨bU,hM⟩:=M.e_gq hM;refine kA 3 ?_;intro bV bW H;refine ksw ?_;intro bX H;refine s_nil<|WD.of ?_;refine kDS 0 [0,2,3,4,5] (.q 0 (.q 1 (.q 2 (.q 3 (.q 4 (.q 5 (.l 6 (.l 7 (.l 8 (.q 9 (.q 10 .nil))))))))))) 11 [11] ?_;intro bY H;refine kC 7 @daily_Value_span_ok ?_;intro bZ r0 r1 hM H;refine kN ?_;refine kL 1 (α:=Span) [⟨r0,r1⟩] ?_;intro b5 b6 H;refine kN ?_;refine ts_l rfl ?_;obtain ⟨b7,hM⟩:=M.e_gq hM;refine kP 0 ?_;intro b8 b9 H;refine kN ?_;refine kS 4 ?_;intro cb H
  refine s_nil ⟨trivial,?_⟩;refine sr_nil ?_;replace H:=H.pk [2,3,4,5,6];refine WD.of ?_;exact kX 4
 replace hM:=M.e_f hM aw;replace aw:=dI aw;refine WD.of ?_;refine W.exit ?_;obtain rfl:=M.e_inr hM bh;replace hM:=bc;refine WD.seq<|WD.of<|W.region rfl<|s_val (x_mf (fs:=[]) (cs:=[Pq ag]) rfl rfl) ?_;refine kal ?_;intro ao cc H;refine ksw ?_;intro cd H;refine s_nil<|WD.seq<|WD.seq<|WD.of ?_;refine kC 2 @daily_work_pairs_ok ?_;intro ce az aA aB hM H;refine s_nil<|WD.block ?_;obtain ⟨cf,bi,hM⟩:=M.e_bind hM;refine WD.range (L:=[cOwn (α:=Span) 32 al l,cBlk ac [I aa,I ab,ae,al] 84,cBlk aA [Pq ac] 80,cBlk aB [B az] 4,cBlk ao [.func (.func 91) #[] #[Pq ag]] 189,cBlk ag [Pq ac] 80,cBlk ay [I aa,I ab,ae] 25]) [Pq aA,Pq aB] (H.pk [7,3,5,0,1,2,4,6]) rfl cq ?_;intro aG aC aJ bj aK H
 have hYC:YieldC Tryz.prog ([cMk (aC :: au),cBlk aA [Pq ac] 80,cBlk aB [B az] 4,cBlk ao [.func (.func 91) #[] #[Pq ag]] 189,cBlk ag [Pq ac] 80,cBlk ay [I aa,I ab,ae] 25]++R) arII (yJ aG aJ (fun l4 ap=>∃ (ai:Value),ap=[cOwn (α:=Span) 32 ai l4,cBlk ac [I aa,I ab,ae,ai] 84]) (fun (_:Unit) _=>False) (fun _=>.ret)) (.func (.yield aG) #[] #[]) (M.yl (m_daily_opened_b1 aa ab ah)):=by
  refine YieldC.mk aK (fun l4 ap=>∃ (ai:Value),ap=[cOwn (α:=Span) 32 ai l4,cBlk ac [I aa,I ab,ae,ai] 84]) (fun (_:Unit) _=>False) (fun _=>.ret) (m_daily_opened_b1 aa ab ah) (by rintro l4 _ h_; obtain ⟨_,rfl⟩:=h_; rfl) (fun _ _ h_=>h_.elim) rfl (arII_len rfl) ?_;intro C_ bm x_ W_ aL;obtain ⟨x,x2⟩:=x_;obtain rfl:=aL;refine kg 7 ?_;refine ⟨rfl,rfl,?_⟩;intro w R aM ap s_ r aN hM H
  skip
  obtain ⟨l4,aO⟩:∃ y_,y_=s_:=⟨_,rfl⟩
  subst aO;obtain ⟨ai,rfl⟩:=aN;replace aq:=aq.sub aM;replace hM:(m_daily_opened_b1 aa ab ah l4 (x,x2)).Ends r:=hM;simp only [m_daily_opened_b1] at hM;replace H:=H.pk [0,1,3,4,5,6,7,2];refine kDS 1 [0,1,2,3,4,5,6,7] (.q 0 (.q 1 (.q 2 (.q 3 (.q 4 (.q 5 (.q 6 (.q 7 (.q 8 (.q 9 (.q 10 (.q 11 (.q 12 (.q 13 (.q 14 (.q 15 (.q 16 (.q 17 (.q 18 (.q 19 (.q 20 (.q 21 (.q 22 (.q 23 (.q 24 (.q 25 (.q 26 (.q 27 (.q 28 (.q 29 .nil)))))))))))))))))))))))))))))) 30 [30] ?_;intro cg H;obtain ⟨ch,hM⟩:=M.e_gq hM;obtain ⟨cj,hM⟩:=M.e_gq hM;obtain ⟨ck,hM⟩:=M.e_gq hM;refine kG 32 ?_;obtain ⟨ct,bn,hM⟩:=M.e_bind hM;refine s_callv (f:=91) rfl cq [I x2,I (((l4.getD (Int.toNat x) default).lo)-ab),I (((l4.getD (Int.toNat x) default).hi)+aa)] rfl (daily_opened_1_ok x2 (((l4.getD (Int.toNat x) default).lo)-ab) (((l4.getD (Int.toNat x) default).hi)+aa) aa ab ah l4 (aq.app _) ax (Has.here (k:=3) rfl) bn _ (H.gt 6)) ?_;rintro _ cu ⟨l_k023,aP,rfl,rfl,aj⟩;replace H:=H.bk aj;refine s_nil ⟨trivial,?_⟩;refine sr_nil ?_;exact ⟨l_k023,[cOwn (α:=Span) 32 aP l_k023,cBlk ac [I aa,I ab,ae,aP] 84],(M.e_pure hM).symm,⟨aP,rfl⟩,H.pick [0,1,7,2,3,4,5,6] (by decide) rfl⟩
 replace H:St w bj (cAll (cObj aG (.loop aJ) :: [cOwn (α:=Span) 32 al l,cBlk ac [I aa,I ab,ae,al] 84]) :: [cMk (aC :: au),cBlk aA [Pq ac] 80,cBlk aB [B az] 4,cBlk ao [.func (.func 91) #[] #[Pq ag]] 189,cBlk ag [Pq ac] 80,cBlk ay [I aa,I ab,ae] 25]) R:=St.bundleB (A:=cObj aG (.loop aJ) :: [cOwn (α:=Span) 32 al l,cBlk ac [I aa,I ab,ae,al] 84]) (T:=[cMk (aC :: au),cBlk aA [Pq ac] 80,cBlk aB [B az] 4,cBlk ao [.func (.func 91) #[] #[Pq ag]] 189,cBlk ag [Pq ac] 80,cBlk ay [I aa,I ab,ae] 25]) rfl (H.pk [0,2,3,1,4,5,6,7,8]);refine (daily_work_pairs_1_ok (M.yl (m_daily_opened_b1 aa ab ah)) (.inl l) aa ab ah az hYC ⟨_,rfl,⟨al,rfl⟩⟩ (aq.app _) ax (by rintro (l4 | _) _ h_; (obtain ⟨_,rfl,_,rfl⟩:=h_; exact Fld.all (Fld.here (k:=2) rfl rfl)); (obtain ⟨_,_,h_⟩:=h_; exact h_.elim)) (Has.here (k:=1) rfl) (Has.here (k:=2) rfl) bi _ (H.gt 6)).mono ?_;rintro vq cv ⟨bo,cw,rfl,hvq,aj,aY⟩;replace H:=H.back aj rfl;clear aj hYC;rcases bo with l4 | _
 ·obtain ⟨_,rfl,ai,rfl⟩:=aY;refine ⟨_,[cOwn (α:=Span) 32 ai l4,cBlk ac [I aa,I ab,ae,ai] 84,cBlk aA [Pq ac] 80,cBlk aB [B az] 4,cBlk ao [.func (.func 91) #[] #[Pq ag]] 189,cBlk ag [Pq ac] 80,cBlk ay [I aa,I ab,ae] 25],H.unbundle.pick [0,3,1,2,4,5,6,7,8] (by decide) rfl,aK.nb,?_⟩;intro cA H;rw [aK.pd];replace H:=H.nf
  try simp only []
  replace H:=H.pk [0,1,2,5,6];refine WD.seq<|WD.seq<|WD.of ?_;refine kC 2 @daily_work_pairs_ok ?_;intro cB aD aE aF hM H;refine s_nil<|WD.block ?_;obtain ⟨cC,bp,hM⟩:=M.e_bind hM;refine WD.range (L:=[cOwn (α:=Span) 32 ai l4,cBlk ac [I aa,I ab,ae,ai] 84,cBlk aE [Pq ac] 80,cBlk aF [B aD] 4,cBlk ao [.func (.func 91) #[] #[Pq ag]] 189,cBlk ag [Pq ac] 80]) [Pq aE,Pq aF] (H.pk [2,3,4,0,1,5,6]) rfl cq ?_;intro aH aQ aR br aS H
  have hYC:YieldC Tryz.prog ([cMk (aQ :: (aC :: au)),cBlk aE [Pq ac] 80,cBlk aF [B aD] 4,cBlk ao [.func (.func 91) #[] #[Pq ag]] 189,cBlk ag [Pq ac] 80]++R) arII (yJ aH aR (fun l5 ap=>∃ (ak:Value),ap=[cOwn (α:=Span) 32 ak l5,cBlk ac [I aa,I ab,ae,ak] 84]) (fun (_:Unit) _=>False) (fun _=>.ret)) (.func (.yield aH) #[] #[]) (M.yl (m_daily_opened_b2 aa ab ah)):=by
   refine YieldC.mk aS (fun l5 ap=>∃ (ak:Value),ap=[cOwn (α:=Span) 32 ak l5,cBlk ac [I aa,I ab,ae,ak] 84]) (fun (_:Unit) _=>False) (fun _=>.ret) (m_daily_opened_b2 aa ab ah) (by rintro l5 _ h_; obtain ⟨_,rfl⟩:=h_; rfl) (fun _ _ h_=>h_.elim) rfl (arII_len rfl) ?_;intro C_ bm x_ W_ aL;obtain ⟨x3,x4⟩:=x_;obtain rfl:=aL;refine kg 7 ?_;refine ⟨rfl,rfl,?_⟩;intro w R aM ap s_ r aN hM H
   skip
   obtain ⟨l5,aO⟩:∃ y_,y_=s_:=⟨_,rfl⟩
   subst aO;obtain ⟨ak,rfl⟩:=aN;replace aq:=aq.sub aM;replace hM:(m_daily_opened_b2 aa ab ah l5 (x3,x4)).Ends r:=hM;simp only [m_daily_opened_b2] at hM;replace H:=H.pk [0,1,3,4,5,6,2];refine kDS 1 [0,1,2,3,4,5,6] (.q 0 (.q 1 (.q 2 (.q 3 (.q 4 (.q 5 (.q 6 (.q 7 (.q 8 (.q 9 (.q 10 (.q 11 (.q 12 (.q 13 (.q 14 (.q 15 (.q 16 (.q 17 (.q 18 (.q 19 (.q 20 (.q 21 (.q 22 (.q 23 (.q 24 (.q 25 (.q 26 (.q 27 (.q 28 (.q 29 .nil)))))))))))))))))))))))))))))) 30 [30] ?_;intro cD H;obtain ⟨cE,hM⟩:=M.e_gq hM;obtain ⟨cF,hM⟩:=M.e_gq hM;obtain ⟨cG,hM⟩:=M.e_gq hM;refine kG 32 ?_;obtain ⟨cH,bt,hM⟩:=M.e_bind hM;refine s_callv (f:=91) rfl cq [I x4,I (((l5.getD (Int.toNat x3) default).lo)-aa),I (((l5.getD (Int.toNat x3) default).hi)+ab)] rfl (daily_opened_1_ok x4 (((l5.getD (Int.toNat x3) default).lo)-aa) (((l5.getD (Int.toNat x3) default).hi)+ab) aa ab ah l5 (aq.app _) ax (Has.here (k:=3) rfl) bt _ (H.gt 5)) ?_;rintro _ cI ⟨l_k0232,aT,rfl,rfl,aj⟩;replace H:=H.bk aj;refine s_nil ⟨trivial,?_⟩;refine sr_nil ?_;exact ⟨l_k0232,[cOwn (α:=Span) 32 aT l_k0232,cBlk ac [I aa,I ab,ae,aT] 84],(M.e_pure hM).symm,⟨aT,rfl⟩,H.pick [0,1,6,2,3,4,5] (by decide) rfl⟩
  replace H:St w br (cAll (cObj aH (.loop aR) :: [cOwn (α:=Span) 32 ai l4,cBlk ac [I aa,I ab,ae,ai] 84]) :: [cMk (aQ :: (aC :: au)),cBlk aE [Pq ac] 80,cBlk aF [B aD] 4,cBlk ao [.func (.func 91) #[] #[Pq ag]] 189,cBlk ag [Pq ac] 80]) R:=St.bundleB (A:=cObj aH (.loop aR) :: [cOwn (α:=Span) 32 ai l4,cBlk ac [I aa,I ab,ae,ai] 84]) (T:=[cMk (aQ :: (aC :: au)),cBlk aE [Pq ac] 80,cBlk aF [B aD] 4,cBlk ao [.func (.func 91) #[] #[Pq ag]] 189,cBlk ag [Pq ac] 80]) rfl (H.pk [0,2,3,1,4,5,6,7]);refine (daily_work_pairs_1_ok (M.yl (m_daily_opened_b2 aa ab ah)) (.inl l4) aa ab ah aD hYC ⟨_,rfl,⟨ai,rfl⟩⟩ (aq.app _) ax (by rintro (l5 | _) _ h_; (obtain ⟨_,rfl,_,rfl⟩:=h_; exact Fld.all (Fld.here (k:=2) rfl rfl)); (obtain ⟨_,_,h_⟩:=h_; exact h_.elim)) (Has.here (k:=1) rfl) (Has.here (k:=2) rfl) bp _ (H.gt 5)).mono ?_;rintro vq cJ ⟨bu,cK,rfl,hvq,aj,aZ⟩;replace H:=H.back aj rfl;clear aj hYC;rcases bu with l5 | _
  ·obtain ⟨_,rfl,ak,rfl⟩:=aZ;refine ⟨_,[cOwn (α:=Span) 32 ak l5,cBlk ac [I aa,I ab,ae,ak] 84,cBlk aE [Pq ac] 80,cBlk aF [B aD] 4,cBlk ao [.func (.func 91) #[] #[Pq ag]] 189,cBlk ag [Pq ac] 80],H.unbundle.pick [0,3,1,2,4,5,6,7] (by decide) rfl,aS.nb,?_⟩;intro cL H;rw [aS.pd];replace H:=H.nf
   try simp only []
   replace H:=H.pk [0,1,2,6];refine WD.seq<|WD.of ?_;refine kD 0 [0,1,2,3] [5] ?_;intro cM H;refine kg 5 ?_;refine d_l rfl ?_;obtain ⟨cN,bv,hM⟩:=M.e_bind hM;refine s_call cq [ak,.func (.func 94) #[] #[]] rfl (daily_every_api_Span_ok l5 (fun aU=>m_daily_opened_2 aU) (rdo 1) (H.os 1) ⟨94,[],rfl,cq,fun a7 cO cP bw aU cQ bA cR bB bC=>by obtain rfl:=Span_arg bB; exact (daily_opened_2_ok aU bC a7 (St.refl bA)).mono fun bw a7 ⟨cS,bD,bE,bF⟩=>by subst bD; exact ⟨bE,bF⟩⟩ bv _ (H.gt 4)) ?_
   rintro _ cT ⟨r3,rfl,rfl,aj⟩;replace H:=H.bk aj;refine kN ?_;refine kg 4 ?_;refine WD.of ?_;refine W.ret ?_;refine bodyD_r (H.pk [0,1,2,3]) ?_;intro cU H;replace H:=H.nf;have aI:=M.e_pure hM;exact ⟨_,resE_tmp3 rfl,.inr (⟨aa,ab,l5,r3,0,ac,ak,aI,rfl,(H.pk [1,0])⟩)⟩
  obtain ⟨_,_,h_⟩:=aZ; exact h_.elim
 obtain ⟨_,_,h_⟩:=aY; exact h_.elim

def m_daily_agreed (ag ah:Int) (ai:List DVal):M (Int ⊕ (Int × Int × (List Span) × Int)) :=
  M.bind (m_daily_opened ag ah ai) fun x_=>match x_ with
  | (.inl (r1,r2))=>(
  bif ((r2==0)&&(!r1)) then (
  M.pure (.inl 7))
  else (
  M.pure (.inl r2)))
  | (.inr (aa,ab,ac,aj,ae))=>(
  bif ((ae==0)&&(!aj)) then (
  M.pure (.inr (aa,ab,ac,7)))
  else (
  M.pure (.inr (aa,ab,ac,ae))))
theorem daily_agreed_ok {R ai ab}(ac ae ag)(au:Reads R ai)(av:Sl ai ab ag){r}(hM:(m_daily_agreed ac ae ag).Ends r)(w)(H:St w w [] R):Ret Tryz.prog 23 #[.agg #[I ac,I ae,ab]] w fun v w'=>(∃ (y0:Int),(.inl y0)=r/\v = .tuple #[.pointer none,I y0]/\St w w' [] R)∨(∃ (y0:Int) (y1:Int) (y2:List Span) (y3:Int) (aj:Nat) (u1:Value),(.inr (y0,y1,y2,y3))=r/\v = .tuple #[Pq aj,I y3]/\St w w' [cBlk aj [I y0,I y1,ab,u1] 84,cOwn (α:=Span) 32 u1 y2] R):=by
 refine ret_of_W Tryz.func23 rfl rfl rfl ?_;refine kB 2 ?_;intro aC aD H;refine kg 6 ?_;obtain ⟨aE,aw,hM⟩:=M.e_bind hM;refine s_call cq [.agg #[I ac,I ae,ab]] rfl (daily_opened_ok ac ae ag (au.app _) av aw _ (H.gt 1)) ?_;rintro vq aF (⟨r1,r2,ax,hvq,ah⟩ | ⟨ak,al,ao,aG,ay,ap,aq,az,hvq,ah⟩)
 ·subst ax;subst vq;replace H:=H.bk ah;refine kI 18 ?_ ?_
  ·intro aA hM;refine kg 10 ?_;refine W.ret ?_;have aa:=M.e_pure hM;exact ⟨_,resE_tmp2 rfl,.inl (⟨7,aa,rfl,(H.pk [])⟩)⟩
  intro aA hM;refine kg 8 ?_;refine W.ret ?_;have aa:=M.e_pure hM;exact ⟨_,resE_tmp2 rfl,.inl (⟨r2,aa,rfl,(H.pk [])⟩)⟩
 subst az;subst vq;replace H:=H.bk ah;refine kI 18 ?_ ?_
 ·intro aB hM;refine kg 10 ?_;refine W.ret ?_;have aa:=M.e_pure hM;exact ⟨_,resE_tmp2 rfl,.inr (⟨ak,al,ao,7,ap,aq,aa,rfl,(H.pk [0,1])⟩)⟩
 intro aB hM;refine kg 8 ?_;refine W.ret ?_;have aa:=M.e_pure hM;exact ⟨_,resE_tmp2 rfl,.inr (⟨ak,al,ao,ay,ap,aq,aa,rfl,(H.pk [0,1])⟩)⟩

def m_daily_both  : M Unit :=
  M.pure ()
theorem daily_both_ok {R r}(hM:(m_daily_both).Ends r)(w)(H:St w w [] R):Ret Tryz.prog 24 #[] w fun v w'=>()=r/\v = .agg #[.func (.func 57) #[] #[],.func (.func 58) #[] #[]]/\St w w' [] R:=by
 refine ret_of_W Tryz.func24 rfl rfl rfl ?_;refine kA 2 ?_;intro aa ab H;refine kG 5 ?_;refine s_val (x_bldA (e:=87) (n:=2) (s:=1) (pl:=[(0,1),(1,1)]) (ps:=[(0,.agg #[.func (.func 57) #[] #[]]),(1,.agg #[.func (.func 58) #[] #[]])]) (zs:=[.nilFunc,.nilFunc]) (L':=[.func (.func 57) #[] #[],.func (.func 58) #[] #[]]) rfl Tryz.underlying88 Al88.h rfl Sz87.h rfl (.cons (cs:=[.func (.func 57) #[] #[]]) rfl rfl rfl rfl rfl<|.cons (cs:=[.func (.func 58) #[] #[]]) rfl rfl rfl rfl rfl<|.nil)) ?_;refine ksw ?_;intro ac H;exact kR 1 []

def m_daily_both_1 (s:Span):M Int :=
  M.pure s.lo
theorem daily_both_1_ok {R}(s){r}(hM:(m_daily_both_1 s).Ends r)(w)(H:St w w [] R):Ret Tryz.prog 57 #[.agg #[I s.lo,I s.hi]] w fun v w'=>∃ y0,y0=r/\v=I y0/\St w w' [] R:=by
 refine ret_of_W Tryz.func57 rfl rfl rfl ?_;refine kB 2 ?_;intro aa ab H;refine kg 8 ?_;exact rt

def m_daily_ends_57_b0 (l:List Span):(Nat × (List Int))->M ((Nat × (List Int)) ⊕ ((List Int) × (List Int))):=fun (s,l2) =>
  bif decide ((s:Int)<(l.length:Int)) then (
  M.grd (decide ((s:Int)<(l.length:Int))) <|
  M.bind (m_daily_both_1 (l.getD s default)) fun r2 =>
  M.grd (decide ((l2.length+([(r2:Int)]).length)*8<=140737488355328)) <|
  M.pure (.inl (s+1,l2++([(r2:Int)]))))
  else (
  M.pure (.inr (l2,l2)))
def m_daily_ends_57 (l:List Span):M (List Int) :=
  M.bind (M.iter (m_daily_ends_57_b0 l) (0,[])) fun (l3,l4) =>
  M.pure l4
theorem daily_ends_57_ok {R ac aa}(l)(au:Reads R ac)(ah:Sl ac aa l){r}(hM:(m_daily_ends_57 l).Ends r)(w)(H:St w w [] R):Ret Tryz.prog 26 #[aa,.agg #[.func (.func 57) #[] #[]]] w fun v w'=>∃ y0 u0,y0=r/\v=u0/\St w w' [cOwn (α:=Int) 3 u0 y0] R:=by
 refine ret_of_W Tryz.func26 rfl rfl rfl ?_;refine kB 2 ?_;intro ae av H;have aw:=(ah).len_le;refine kg 14 ?_;replace H:=H.nilOwn (α:=Int) 3;obtain ⟨ai,ag,aj⟩:=M.e_bind hM;obtain ⟨ax,ag⟩:=M.e_iter ag;refine W.loop (fun m σ W=>∃ (s:Nat) (l2:List Int) (ab:Value) (ρ:Env),σ=upds ρ [(3,Pq ae),(5,ab),(8,aa),(9,I (l.length:Int)),(10,I (s:Int))]/\M.iterN (m_daily_ends_57_b0 l) m (s,l2)=some ai/\St w W [cOwn (α:=Int) 3 ab l2,cBlk ae [.func (.func 57) #[] #[]] 87] R) ?_ ?_
 ·exact kY
 rintro ay σ az ⟨s,l2,ab,ρ,rfl,ak,H⟩;obtain ⟨aA,aB,aC,hM,al⟩:=M.e_iterN ak;refine kI 5 ?_ ?_
 ·intro ao hM;obtain ⟨aD,hM⟩:=M.e_gq hM;refine kA 7 ?_;intro aE aF H;refine ksw ?_;intro aG H;refine kg 6 ?_;obtain ⟨aH,ap,hM⟩:=M.e_bind hM;refine s_callv (f:=57) rfl cq [.agg #[I ((l.getD s default).lo),I ((l.getD s default).hi)]] rfl (daily_both_1_ok (l.getD s default) ap _ (H.gt 3)) ?_;rintro _ aI ⟨r2,rfl,rfl,aq⟩;replace H:=H.bk aq;refine kL 0 (α:=Int) [r2] ?_;intro aJ aK H;obtain ⟨aL,hM⟩:=M.e_gq hM;refine kP 0 ?_;intro aM aN H;refine kg 2 ?_;replace H:=H.pk [2,3];exact kX 4
 intro ao hM;refine W.exit ?_;obtain rfl:=M.e_inr hM al;replace hM:=aj;exact kR 5 [0]

def m_daily_sum_b0 (l:List Int):(Int × Nat)->M ((Int × Nat) ⊕ Int):=fun (out,s) =>
  bif decide ((s:Int)<(l.length:Int)) then (
  M.grd (decide ((s:Int)<(l.length:Int))) <|
  M.gi (out+(l.getD s 0)) <|
  M.pure (.inl (out+(l.getD s 0),s+1)))
  else (
  M.pure (.inr out))
def m_daily_sum (l:List Int):M Int :=
  M.bind (M.iter (m_daily_sum_b0 l) (0,0)) fun out2 =>
  M.pure out2
theorem daily_sum_ok {R ab aa}(l)(al:Reads R ab)(ae:Sl ab aa l){r}(hM:(m_daily_sum l).Ends r)(w)(H:St w w [] R):Ret Tryz.prog 25 #[aa] w fun v w'=>∃ y0,y0=r/\v=I y0/\St w w' [] R:=by
 refine ret_of_W Tryz.func25 rfl rfl rfl ?_;have ao:=(ae).len_le;refine kg 16 ?_;obtain ⟨ag,ac,ah⟩:=M.e_bind hM;obtain ⟨ap,ac⟩:=M.e_iter ac;refine W.loop (fun m σ W=>∃ (out:Int) (s:Nat) (ρ:Env),σ=upds ρ [(3,I out),(6,aa),(7,I (l.length:Int)),(8,I (s:Int))]/\M.iterN (m_daily_sum_b0 l) m (out,s)=some ag/\St w W [] R) ?_ ?_
 ·exact kY
 rintro aq σ au ⟨out,s,ρ,rfl,ai,H⟩;obtain ⟨av,aw,ax,hM,aj⟩:=M.e_iterN ai;refine kI 5 ?_ ?_
 ·intro ak hM;obtain ⟨ay,hM⟩:=M.e_gq hM;obtain ⟨az,hM⟩:=M.e_gq hM;exact kX 19
 intro ak hM;refine W.exit ?_;obtain rfl:=M.e_inr hM aj;replace hM:=ah;refine kg 5 ?_;exact rt

def m_daily_both_2 (s:Span):M Int :=
  M.pure s.hi
theorem daily_both_2_ok {R}(s){r}(hM:(m_daily_both_2 s).Ends r)(w)(H:St w w [] R):Ret Tryz.prog 58 #[.agg #[I s.lo,I s.hi]] w fun v w'=>∃ y0,y0=r/\v=I y0/\St w w' [] R:=by
 refine ret_of_W Tryz.func58 rfl rfl rfl ?_;refine kB 2 ?_;intro aa ab H;refine kg 8 ?_;exact rt

end Go.Proofs.YtlfkkkbhejeplaaGreat
end
section
set_option maxRecDepth 100000
set_option maxHeartbeats 16000000
namespace Go.Proofs.YtlfkkkbhejeplaaGreat
open Go Go.Nm
attribute [local irreducible] gd execOp SL SLD SLT WR
def m_daily_ends_58_b0 (l:List Span):(Nat × (List Int))->M ((Nat × (List Int)) ⊕ ((List Int) × (List Int))):=fun (s,l2) =>
  bif decide ((s:Int)<(l.length:Int)) then (
  M.grd (decide ((s:Int)<(l.length:Int))) <|
  M.bind (m_daily_both_2 (l.getD s default)) fun r2 =>
  M.grd (decide ((l2.length+([(r2:Int)]).length)*8<=140737488355328)) <|
  M.pure (.inl (s+1,l2++([(r2:Int)]))))
  else (
  M.pure (.inr (l2,l2)))
def m_daily_ends_58 (l:List Span):M (List Int) :=
  M.bind (M.iter (m_daily_ends_58_b0 l) (0,[])) fun (l3,l4) =>
  M.pure l4
theorem daily_ends_58_ok {R ac aa}(l)(au:Reads R ac)(ah:Sl ac aa l){r}(hM:(m_daily_ends_58 l).Ends r)(w)(H:St w w [] R):Ret Tryz.prog 26 #[aa,.agg #[.func (.func 58) #[] #[]]] w fun v w'=>∃ y0 u0,y0=r/\v=u0/\St w w' [cOwn (α:=Int) 3 u0 y0] R:=by
 refine ret_of_W Tryz.func26 rfl rfl rfl ?_;refine kB 2 ?_;intro ae av H;have aw:=(ah).len_le;refine kg 14 ?_;replace H:=H.nilOwn (α:=Int) 3;obtain ⟨ai,ag,aj⟩:=M.e_bind hM;obtain ⟨ax,ag⟩:=M.e_iter ag;refine W.loop (fun m σ W=>∃ (s:Nat) (l2:List Int) (ab:Value) (ρ:Env),σ=upds ρ [(3,Pq ae),(5,ab),(8,aa),(9,I (l.length:Int)),(10,I (s:Int))]/\M.iterN (m_daily_ends_58_b0 l) m (s,l2)=some ai/\St w W [cOwn (α:=Int) 3 ab l2,cBlk ae [.func (.func 58) #[] #[]] 87] R) ?_ ?_
 ·exact kY
 rintro ay σ az ⟨s,l2,ab,ρ,rfl,ak,H⟩;obtain ⟨aA,aB,aC,hM,al⟩:=M.e_iterN ak;refine kI 5 ?_ ?_
 ·intro ao hM;obtain ⟨aD,hM⟩:=M.e_gq hM;refine kA 7 ?_;intro aE aF H;refine ksw ?_;intro aG H;refine kg 6 ?_;obtain ⟨aH,ap,hM⟩:=M.e_bind hM;refine s_callv (f:=58) rfl cq [.agg #[I ((l.getD s default).lo),I ((l.getD s default).hi)]] rfl (daily_both_2_ok (l.getD s default) ap _ (H.gt 3)) ?_;rintro _ aI ⟨r2,rfl,rfl,aq⟩;replace H:=H.bk aq;refine kL 0 (α:=Int) [r2] ?_;intro aJ aK H;obtain ⟨aL,hM⟩:=M.e_gq hM;refine kP 0 ?_;intro aM aN H;refine kg 2 ?_;replace H:=H.pk [2,3];exact kX 4
 intro ao hM;refine W.exit ?_;obtain rfl:=M.e_inr hM al;replace hM:=aj;exact kR 5 [0]

def m_daily_Volume (ae ag:Int) (ab:List DVal) (aa to_:Int):M (Int × Int × Int) :=
  M.bind (m_daily_Check ae ag ab) fun r2 =>
  bif r2 != 0 then (
  M.pure (0,0,r2))
  else (
  M.bind (m_daily_in aa 0 to_) fun r3 =>
  bif ((!r3)||(decide ((ab.length:Int)<=to_))) then (
  M.pure (0,0,2))
  else (
  M.bind (m_daily_agreed ae ag ab) fun x_=>match x_ with
  | (.inl r1)=>(
  bif r1 != 0 then (
  M.pure (0,0,r1))
  else (
  M.fail))
  | (.inr (ai,aj,ac,ah))=>(
  bif ah != 0 then (
  M.fail)
  else (
  M.gi (to_+1) <|
  M.grd (decide ((0:Int)<=aa)&&decide (aa<=(to_+1))&&decide ((to_+1)<=(ac.length:Int))) <|
  M.bind (m_daily_both) fun (_:Unit) =>
  M.bind (m_daily_ends_57 ((ac.take (Int.toNat (to_+1))).drop (Int.toNat aa))) fun r4 =>
  M.bind (m_daily_sum r4) fun r5 =>
  M.bind (m_daily_ends_58 ((ac.take (Int.toNat (to_+1))).drop (Int.toNat aa))) fun r6 =>
  M.bind (m_daily_sum r6) fun r7 =>
  M.pure (r5,r7,0)))))
theorem daily_Volume_ok {R aj ag}(ac ae ah aa to_)(ap:Reads R aj)(ak:Sl aj ag ah){r}(hM:(m_daily_Volume ac ae ah aa to_).Ends r)(w)(H:St w w [] R):Ret Tryz.prog 6 #[.agg #[I ac,I ae,ag],I aa,I to_] w fun v w'=>∃ y0 y1 y2,(y0,y1,y2)=r/\v = .tuple #[.agg #[I y0,I y1],I y2]/\St w w' [] R:=by
 refine ret_of_W Tryz.func6 rfl rfl rfl ?_;refine kB 2 ?_;intro aF aG H;refine kal ?_;intro aH aI H;refine kC 6 @daily_Check_ok ?_;intro aJ r2 hM H;refine kI 7 ?_ ?_
 ·intro aq hM;refine kS 4 ?_;intro aK H;exact kR 2 []
 intro aq hM;refine kC 6 @daily_in_ok ?_;intro aL r3 hM H;have aM:=(ak).len_le;refine kI 9 ?_ ?_
 ·intro au hM;refine kS 3 ?_;intro aN H;exact kR 2 []
 intro au hM;refine kg 4 ?_;obtain ⟨aO,av,hM⟩:=M.e_bind hM;refine s_call cq [.agg #[I ac,I ae,ag]] rfl (daily_agreed_ok ac ae ah (ap.app _) ak av _ (H.gt 2)) ?_;rintro vq aP (⟨r1,aw,hvq,ai⟩ | ⟨aQ,aR,ax,aS,aT,ay,az,hvq,ai⟩)
 ·subst aw;subst vq;replace H:=H.bk ai;refine kI 12 ?_ ?_
  ·intro aA hM;refine kS 4 ?_;intro aU H;exact kR 2 []
  intro aA hM;exact (M.e_fail hM).elim
 subst az;subst vq;replace H:=H.bk ai;refine kI 12 ?_ ?_
 ·intro aB hM;exact (M.e_fail hM).elim
 intro aB hM;refine kDT 2 [0,1,2,3] (.q 0 (.q 1 (.q 2 (.q 3 (.q 4 (.q 5 (.q 6 (.q 7 (.l2 8 (.l 9 (.q 10 (.l 11 .nil))) 9 (.l 8 (.q 10 (.l 11 .nil)))))))))))) ?_;intro aV H;obtain ⟨aW,hM⟩:=M.e_gq hM;obtain ⟨aX,hM⟩:=M.e_gq hM;refine kg 7 ?_;obtain ⟨al,aC,ao⟩:=sl_lohi T38.h.und T38.h.size (H.os 1) (i:=aa) (j:=to_+1) (by omega) (by omega) (by omega);replace ao:Sl _ al ((ax.take (Int.toNat (to_+1))).drop (Int.toNat aa)):=ao;refine t_q rfl (fun w' H=>x_sl (v:=ay) (u:=al) (lo':=some (I aa)) (hi':=some (I (to_+1))) (mx':=none) rfl rfl rfl rfl (aC _)) ?_;refine t_l2 rfl rfl ?_ ?_
 ·refine kC 0 @daily_both_ok ?_;intro aY hM H;refine kN ?_;refine kA 1 ?_;intro ab aZ H;refine kN ?_;refine kS 2 ?_;intro a7 H;refine kN ?_;refine t_nil ?_;replace H:=H.pk [0,2,3];refine kDo 1 [0,1] [(0,true),(1,true),(2,true),(5,true),(6,true),(7,true),(3,false),(4,false),(8,false),(9,false),(10,true),(11,false),(12,true)] ?_;intro a8 H;refine kg 1 ?_;refine d_q rfl (fun w' H=>x_ix (v:=Pq ab) rfl rfl (run_indexArrC Tryz.underlying88 Sz87.h (by decide) (by decide))) ?_;refine kg 2 ?_;refine d_q rfl (fun w' H=>x_ix (v:=Oq ab 1) rfl rfl (run_indexArrC Tryz.underlying88 Sz87.h (by decide) (by decide))) ?_;refine kC 2 @daily_ends_57_ok ?_;intro bc r4 aD hM H;refine kN ?_;refine kC 1 @daily_sum_ok ?_;intro bf r5 hM H;refine kN ?_;refine kC 1 @daily_ends_58_ok ?_;intro bh r6 aE hM H;refine kN ?_;refine kC 1 @daily_sum_ok ?_;intro bi r7 hM H;refine kN ?_;refine kS 2 ?_;intro bj H;refine kN ?_;refine kg 2 ?_;replace H:=H.pk [4];exact kR 0 []
 refine kal ?_;intro ab bm H;refine kN ?_;refine kC 1 @daily_both_ok ?_;intro bn hM H;refine kN ?_;refine kS 2 ?_;intro bo H;refine kN ?_;refine t_nil ?_;replace H:=H.pk [0,2,3];refine kDo 1 [0,1] [(0,true),(1,true),(2,true),(5,true),(6,true),(7,true),(3,false),(4,false),(8,false),(9,false),(10,true),(11,false),(12,true)] ?_;intro bp H;refine kg 1 ?_;refine d_q rfl (fun w' H=>x_ix (v:=Pq ab) rfl rfl (run_indexArrC Tryz.underlying88 Sz87.h (by decide) (by decide))) ?_;refine kg 2 ?_;refine d_q rfl (fun w' H=>x_ix (v:=Oq ab 1) rfl rfl (run_indexArrC Tryz.underlying88 Sz87.h (by decide) (by decide))) ?_;refine kC 2 @daily_ends_57_ok ?_;intro br r4 aD hM H;refine kN ?_;refine kC 1 @daily_sum_ok ?_;intro bt r5 hM H;refine kN ?_;refine kC 1 @daily_ends_58_ok ?_;intro bu r6 aE hM H;refine kN ?_;refine kC 1 @daily_sum_ok ?_;intro bv r7 hM H;refine kN ?_;refine kS 2 ?_;intro bw H;refine kN ?_;refine kg 2 ?_;replace H:=H.pk [4];exact kR 0 []

end Go.Proofs.YtlfkkkbhejeplaaGreat
end
