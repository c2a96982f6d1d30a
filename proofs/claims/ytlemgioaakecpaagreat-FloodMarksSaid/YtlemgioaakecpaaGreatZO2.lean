/- Part 2 of the texts on which the proof rests. Conditions: none. -/
import Derived.ScopeJumps
import Derived.Below
import Derived.Maps.RangeRun
import Derived.Test.YtlemgioaakecpaaGreatProg
import Derived.Shelf.SlIterI.Nil
import Derived.Shelf.SortM.Plain
import Derived.Shelf.SortM.SortNone
import Derived.WideKeyRuns
import Derived.Test.YtlemgioaakecpaaGreatZO1
set_option linter.unusedVariables false
set_option linter.unusedSimpArgs false
set_option linter.unusedSectionVars false
namespace Go.Nm
open Go
/-- As Q; a jump to the label: K. -/
def jumpQ (l:Nat) (K:Env->World->Prop) (Q:Post):Post
  | .goto l',σ,w=>l'=l/\K σ w
  | e,σ,w=>Q e σ w
section
variable {P:Program} {n:Nat} {Q:Post} {σ:Env} {w:World}
theorem W.goto {r:Option Nat} {l:Nat} (h:Q (.goto l) σ w):WR r P n (.goto l) Q σ w:=fun _ _ ha=>wpIn_goto ⟨σ,ha,h⟩
theorem W.jump {c rest:Code} (l:Nat) (hf:findLabel c l=some rest) (I:Nat->Env->World->Prop) (first:W P n c (jumpQ l (fun σ w=>∃ m,I m σ w) Q) σ w)
    (pass:∀ m σ w,I m σ w->W P n rest (jumpQ l (fun σ' w'=>∃ m',m'<m/\I m' σ' w') Q) σ w):W P n (.scope c) Q σ w:=by
  intro ds a ha
  classical
  let J:Act->World->Prop:=fun a w=>∃ m σ,Fr ds n σ a/\I m σ w
  have hmin:∀ a w,J a w->∃ m,(∃ σ,Fr ds n σ a/\I m σ w)/\∀ m',(∃ σ,Fr ds n σ a/\I m' σ w)->m<=m':=by
    rintro a w ⟨m,σ,h1,h2⟩
    have key:∀ k m,m<=k->(∃ σ,Fr ds n σ a/\I m σ w)->∃ m,(∃ σ,Fr ds n σ a/\I m σ w)/\∀ m',(∃ σ,Fr ds n σ a/\I m' σ w)->m<=m':=by
      intro k
      induction k with
      | zero=>intro m hm h; exact ⟨m,h,fun m' _=>by omega⟩
      | succ k ih =>
        intro m hm h
        by_cases hx:∃ m',m'<m/\∃ σ,Fr ds n σ a/\I m' σ w
        · obtain ⟨m',hlt,h'⟩:=hx
          exact ih m' (by omega) h'
        · exact ⟨m,h,fun m' h'=>Nat.le_of_not_lt fun hlt=>hx ⟨m',hlt,h'⟩⟩
    exact key m m (Nat.le_refl _) ⟨σ,h1,h2⟩
  let μ:Act->World->Nat:=fun a w=>if h:J a w then (hmin a w h).choose else 0
  refine (wpIn_wide (n:=0)).2 (wp_scope_jumps l J μ hf ?_ ?_)
  · refine wp_mono ((wpIn_wide (n:=0)).1 (first ds a ha)) ?_
    rintro e a' w' ⟨s,hs,h'⟩
    cases e with
    | goto l'=>exact ⟨h'.1,h'.2.choose,s,hs,h'.2.choose_spec⟩
    | _=>exact ⟨s,hs,h'⟩
  · intro a w hJ
    obtain ⟨σ,hσ,hI⟩:=(hmin a w hJ).choose_spec.1
    refine wp_mono ((wpIn_wide (n:=0)).1 (pass _ σ w hI ds a hσ)) ?_
    rintro e a' w' ⟨s,hs,h'⟩
    cases e with
    | goto l' =>
      obtain ⟨rfl,m',hlt,hI'⟩:=h'
      have hJ':J a' w':=⟨m',s,hs,hI'⟩
      refine ⟨rfl,hJ',?_⟩
      have h1:=(hmin a' w' hJ').choose_spec.2 m' ⟨s,hs,hI'⟩
      have e1:μ a' w'=(hmin a' w' hJ').choose:=dif_pos hJ'
      have e2:μ a w=(hmin a w hJ).choose:=dif_pos hJ
      rw [e1,e2]
      omega
    | _=>exact ⟨s,hs,h'⟩
/-- What is asked where a jump leads: some way to tell the passes. -/
def JG (P:Program) (n l:Nat) (R:Code) (Q:Post) (σ:Env) (w:World):Prop :=
  ∃ I:Nat->Env->World->Prop,∃ m,I m σ w/\∀ m σ w,I m σ w->W P n R (jumpQ l (fun σ' w'=>∃ m',m'<m/\I m' σ' w') Q) σ w
theorem jumpQ_mono {l:Nat} {K K':Env->World->Prop} (h:∀ σ w,K σ w->K' σ w):∀ e σ w,jumpQ l K Q e σ w->jumpQ l K' Q e σ w:=fun e σ w hh=>by
  cases e with
  | goto l'=>exact ⟨hh.1,h _ _ hh.2⟩
  | _=>exact hh
theorem W.jumpS {c R:Code} (l:Nat) (hf:findLabel c l=some R) (first:W P n c (jumpQ l (JG P n l R Q) Q) σ w):W P n (.scope c) Q σ w :=
  W.jump l hf (fun m σ w=>∃ I:Nat->Env->World->Prop,I m σ w/\∀ m σ w,I m σ w->W P n R (jumpQ l (fun σ' w'=>∃ m',m'<m/\I m' σ' w') Q) σ w)
    (W.mono first (jumpQ_mono fun _ _ ⟨I,m,h,p⟩=>⟨m,I,h,p⟩))
    fun m σ w ⟨I,h,p⟩=>W.mono (p m σ w h) (jumpQ_mono fun _ _ ⟨m',hlt,h'⟩=>⟨m',hlt,I,h',p⟩)
theorem W.jumpL {R:Code} {l:Nat} (I:Nat->Env->World->Prop) (h0:∃ m,I m σ w) (pass:∀ m σ w,I m σ w->W P n R (jumpQ l (fun σ' w'=>∃ m',m'<m/\I m' σ' w') Q) σ w) :
    W P n (.seq (.label l) R) (jumpQ l (JG P n l (.seq .skip R) Q) Q) σ w:=by
  obtain ⟨m,h⟩:=h0
  exact W.seq (W.label (W.mono (pass m σ w h) (jumpQ_mono fun _ _ ⟨m',_,h'⟩=>⟨I,m',h',fun m σ w hh=>W.seq (W.skip (pass m σ w hh))⟩)))
end
end Go.Nm
namespace Go.Nm
open Go
def noGotoD (Q:PostD):PostD
  | .goto _,_,_,_=>False
  | e,Ds,σ,w=>Q e Ds σ w
theorem WD.scope {P:Program} {n:Nat} {Q:PostD} {σ:Env} {w:World} {Ds:List Nat} {c:Code} (h:WD P n Ds c (noGotoD Q) σ w):WD P n Ds (.scope c) Q σ w:=by
  intro a ha
  refine (wpIn_wide (n:=0)).2 (wp_scope_straight (wp_mono ((wpIn_wide (n:=0)).1 (h a ha)) ?_))
  rintro e a' w' ⟨d,s,hs,h'⟩
  cases e with
  | goto l=>exact h'.elim
  | _=>exact ⟨d,s,hs,h'⟩
section
variable {P:Program} {w:World} {σ:Env} {d:Nat} {ty:TypeId} {pos:String} {af:Array Edge} {g:Option (Nat × Bool)}
/-! ### Values of any type, and what type they are of -/
theorem x_mi {t:TypeId} {x:Operand} {v:Value} {D:TypeDesc} (hu:P.underlying t=some D) (hn:∀ m,D ≠ .interface m) (hx:ev σ x=v) :
    (execOp (ev σ) ⟨some d,.makeInterface t x,ty,pos,af,g⟩).run P w = .ok (.value (.iface t v)) w:=by
  cases D <;> first | exact absurd rfl (hn _) | simp [execOp,Instr.makeInterface,run_underlying hu,hx]
theorem x_ushr1 {t yt:TypeId} {x y:Operand} {a:Int} (hx:ev σ x = .int .u64 a) (hy:ev σ y = .int .u64 1) :
    (execOp (ev σ) ⟨some d,.binOp .shr t x y yt,ty,pos,af,g⟩).run P w = .ok (.value (.int .u64 (a / 2))) w:=by
  have e:a.fdiv 2=a / 2:=Int.fdiv_eq_ediv_of_nonneg _ (by decide)
  simp only [execOp,hx,hy,eqGuard,binOp,Op.shift]
  simp
  exact e
end
end Go.Nm
namespace Go.Nm
open Go
section
variable {P:Program} {w:World} {σ:Env} {d:Nat} {ty:TypeId} {pos:String} {af:Array Edge} {g:Option (Nat × Bool)}
end
end Go.Nm
namespace Go.Nm
open Go
theorem fat_fat {p:Value} (hp:∃ b o,p = .pointer (some ⟨b,o,none⟩)) (a c:Nat):fat (fat p a) c=fat p (a+c):=by
  obtain ⟨b,o,rfl⟩:=hp
  simp [fat,add_lit,Nat.add_assoc]
section
variable {P:Program} {w:World}
theorem fa_pl2 {s:TypeId} {k off a c:Nat} {ft:TypeId}
    (h:(P.underlying s).bind (fun d=>match d with | .struct fs=>(fs[k]?).map (fun f=>(f.offset,f.type)) | _=>none)=some (off,ft))
    {n:Nat} (hn:(P.info? ft).map (·.size)=some (n+1)) {p:Value} (hp:∃ b o,p = .pointer (some ⟨b,o,none⟩)) (hc:a+off=c):(Instr.fieldAt s (fat p a) k).run P w = .ok (fat p c) w:=by
  subst hc
  rw [fa_pl h hn (p:=fat p a) (by obtain ⟨b,o,rfl⟩:=hp; exact ⟨b,o+a,by simp [fat,add_lit]⟩),fat_fat hp]
end
/-- A row of truths that lies in a block, read on only. -/
theorem St.freezeB {w0 w:World} {L R:List Chunk} (H:St w0 w L R) {k b:Nat} {l:List Bool} {t:TypeId} {n:Nat} (hk:L[k]?=some (cBlk b (encB l) t)) (hn:l.length=n) (hm:n<=9223372036854775807) :
    ∃ B,St w0 w (L.set k (cRo B)) R/\∀ j:Int,0<=j->j<=n->Sl B.cells (.slice (some ⟨b,0,none⟩) j.toNat n) (l.take j.toNat):=by
  subst hn
  refine ⟨⟨w,fun i=>i=b⟩,H.set (c':=cRo ⟨w,fun i=>i=b⟩) hk rfl (.refl w) (fun _ _ _=>rfl) (fun i hi=>.inl hi.1) ⟨Nat.le_refl _,fun _ _ _=>rfl⟩ rfl,fun j h0 h1=>?_⟩
  have hb:w.heap[b]?=some (.cells (encB l).toArray t (0,0)):=H.get hk
  refine ⟨⟨some ⟨b,0,none⟩,l.length,by rw [List.length_take,Nat.min_eq_left (by omega)],by rw [List.length_take]; omega,hm,fun k x hx=>⟨b,0,[.bool x],rfl,rfl,fun i y hy=>?_⟩⟩⟩
  obtain ⟨rfl,rfl⟩:i=0/\y = .bool x:=by
    cases i with
    | zero=>simp at hy; exact ⟨rfl,hy.symm⟩
    | succ i=>simp at hy
  have hx':l[k]?=some x:=by
    rw [List.getElem?_take] at hx
    split at hx
    · exact hx
    · cases hx
  have hs:(Elt.sz Bool)=1:=rfl
  unfold Base.cells
  rw [if_pos rfl]
  show w.cell? ⟨b,0+k*Elt.sz Bool+0,none⟩=_
  rw [hs]
  simp [World.cell?,hb,encB,hx']
theorem run_sliceB {P:Program} {t e:TypeId} {n k:Nat} {w:World} {b:Nat} {j:Int} (hu:P.underlying t=some (.array n e)) (hz:(P.info? e).map (·.size)=some k) (h0:0<=j) (h1:j<=n) :
    (Instr.sliceAt t (.pointer (some ⟨b,0,none⟩)) none (some (I j)) none).run P w = .ok (.slice (some ⟨b,0,none⟩) j.toNat n) w:=by
  simp [Instr.sliceAt,Instr.sureAddr,Instr.sliceBounds,Instr.sliceBound,asIntOf,run_underlying hu,run_sizeOf hz,h0,h1,Addr.add]
end Go.Nm
namespace Go.Nm
open Go
/-! ### Numbers in order -/
def insI (x:Int):List Int->List Int
  | []=>[x]
  | y :: l=>bif decide (x<=y) then x :: y :: l else y :: insI x l
def isort (l:List Int):List Int:=l.foldr insI []
theorem insI_perm (x:Int):∀ l:List Int,(insI x l).Perm (x :: l)
  | []=>.refl _
  | y :: l=>by
    unfold insI
    cases decide (x<=y) with
    | true=>exact .refl _
    | false=>exact ((insI_perm x l).cons y).trans (.swap x y l)
theorem isort_perm:∀ l:List Int,(isort l).Perm l
  | []=>.refl _
  | x :: l=>(insI_perm x _).trans ((isort_perm l).cons x)
theorem insI_asc (x:Int):∀ l:List Int,l.Pairwise (·<=·)->(insI x l).Pairwise (·<=·)
  | [],_=>by simp [insI]
  | y :: l,h=>by
    rw [List.pairwise_cons] at h
    unfold insI
    cases hc:decide (x<=y) with
    | true =>
      have hc:=of_decide_eq_true hc
      show (x :: y :: l).Pairwise _
      rw [List.pairwise_cons,List.pairwise_cons]
      refine ⟨fun z hz=>?_,h⟩
      rcases List.mem_cons.1 hz with rfl | hz
      · exact hc
      · exact Int.le_trans hc (h.1 z hz)
    | false =>
      have hc:=of_decide_eq_false hc
      show (y :: insI x l).Pairwise _
      rw [List.pairwise_cons]
      refine ⟨fun z hz=>?_,insI_asc x l h.2⟩
      rcases List.mem_cons.1 ((insI_perm x l).mem_iff.1 hz) with rfl | hz
      · omega
      · exact h.1 z hz
theorem isort_asc:∀ l:List Int,(isort l).Pairwise (·<=·)
  | []=>.nil
  | x :: l=>insI_asc x _ (isort_asc l)
theorem asc_uniq:∀ {l m:List Int},l.Pairwise (·<=·)->m.Pairwise (·<=·)->l.Perm m->l=m
  | [],m,_,_,p=>(List.nil_perm.1 p).symm
  | x :: l,[],_,_,p=>by have:=p.length_eq; simp at this
  | x :: l,y :: m,h,k,p=>by
    rw [List.pairwise_cons] at h k
    have h1:x<=y:=by
      rcases List.mem_cons.1 (p.mem_iff.2 (List.mem_cons_self (a:=y) (l:=m))) with e | e
      · omega
      · exact h.1 y e
    have h2:y<=x:=by
      rcases List.mem_cons.1 (p.mem_iff.1 (List.mem_cons_self (a:=x) (l:=l))) with e | e
      · omega
      · exact k.1 x e
    obtain rfl:x=y:=by omega
    rw [asc_uniq h.2 k.2 (List.perm_cons x |>.1 p)]
theorem merge_isort {ss ks:List Int} (p:ss.Perm ks):ss.mergeSort (fun x y=>decide (x<=y))=isort ks:=by
  refine asc_uniq ?_ (isort_asc ks) (((List.mergeSort_perm ss _).trans p).trans (isort_perm ks).symm)
  have:=List.pairwise_mergeSort (le:=fun x y:Int=>decide (x<=y)) (fun a b c h1 h2=>by simp only [decide_eq_true_eq] at *; omega) (fun a b=>by simp only [Bool.or_eq_true,decide_eq_true_eq]; omega) ss
  exact this.imp fun h=>of_decide_eq_true h
/-! ### Maps, told entry by entry -/
def MapL {κ ν:Type} (kenc:κ->Value) (venc:ν->Value) (es:Array MapEntry) (clk:Nat) (m:List (κ × ν)):Prop :=
  es.toList.map (fun e=>(e.key,e.val))=m.map (fun p=>(kenc p.1,venc p.2))/\(es.toList.map (·.born)).Nodup/\∀ e∈es.toList,e.born<clk
section
variable {P:Program} {w w0:World} {L L' R:List Chunk} {t kt et:TypeId} {b:Nat} {es:Array MapEntry} {clk:Nat} {ks:List Int}
variable {all rest:List Oper} {Q:Post} {σ:Env} {d:Nat} {ty:TypeId} {pos:String} {af:Array Edge} {g:Option (Nat × Bool)}
end
end Go.Nm
namespace Go.Nm
open Go
/-! ### What is reckoned entry by entry -/
namespace M
variable {κ ν:Type}
def mapL (body:κ->ν->M ν):List (κ × ν)->M (List (κ × ν))
  | []=>pure []
  | p :: m=>bind (body p.1 p.2) fun v=>bind (mapL body m) fun m'=>pure ((p.1,v) :: m')
theorem mapL_at {body:κ->ν->M ν}:∀ {m m':List (κ × ν)},(mapL body m).Ends m'->m'.length=m.length/\∀ (i:Nat) (k:κ) (v:ν),m[i]?=some (k,v)->∃ v',(body k v).Ends v'/\m'[i]?=some (k,v')
  | [],m',h=>by
    obtain rfl:=e_pure h
    exact ⟨rfl,fun i k v h=>by simp at h⟩
  | p :: m,m',h=>by
    obtain ⟨v1,h1,h⟩:=e_bind h
    obtain ⟨m1,h2,h⟩:=e_bind h
    obtain rfl:=e_pure h
    obtain ⟨l,ih⟩:=mapL_at h2
    refine ⟨by simp [l],fun i k v hi=>?_⟩
    cases i with
    | zero =>
      simp only [List.getElem?_cons_zero,Option.some.injEq] at hi
      subst hi
      exact ⟨v1,h1,rfl⟩
    | succ i=>exact ih i k v (by simpa using hi)
end M
/-! ### In memory -/
section
variable {κ ν:Type} [DecidableEq κ] {kenc:κ->Value} {venc:ν->Value}
def cMl (kenc:κ->Value) (venc:ν->Value) (b:Nat) (m:List (κ × ν)):Chunk where
  D k:=k=b
  ex:=true
  ok w:=∃ es n,w.heap[b]?=some (.map es n)/\MapL kenc venc es n m/\(m.map Prod.fst).Nodup
  st w w':=fun ⟨es,n,h1,h2⟩ _ k=>⟨es,n,(k b rfl).trans h1,h2⟩
  bd w k:=fun ⟨_,_,h,_⟩ e=>by rw [e]; exact heap_lt h
variable {P:Program} {w w0:World} {L L' R:List Chunk} {t kt et:TypeId} {b r:Nat} {es:Array MapEntry} {clk:Nat} {m:List (κ × ν)}
variable {all rest:List Oper} {Q:Post} {σ:Env} {d:Nat} {ty:TypeId} {pos:String} {af:Array Edge} {g:Option (Nat × Bool)}
omit [DecidableEq κ] in theorem t_mkMl {t':TypeId} (kenc:κ->Value) (venc:ν->Value) (H:St w0 w L R) (k:∀ b w',St w0 w' (cMl kenc venc b [] :: L) R->SL P all Q rest (upd σ d (.map (some b))) w'):SL P all Q (⟨some d,.makeMap t' none,ty,pos,af,none⟩ :: rest) σ w :=
  s_mkmap fun b w' hn=>k b w' (H.push (c:=cMl kenc venc b []) hn.ext ⟨_,_,hn.same,⟨rfl,List.nodup_nil,fun e h=>by simp at h⟩,List.nodup_nil⟩ (fun j hj=>by rw [show j=b from hj]; exact hn.ge))
end
/-- How far a loop over a map has come: what is left is as it was, what was met is as it will be. -/
def ItR {κ ν:Type} (m m' m1:List (κ × ν)) (left:List Bool):Prop:=m1.length=m.length/\m'.length=m.length/\left.length=m.length/\∀ i,i<m.length->m1[i]?=if left.getD i false then m[i]? else m'[i]?
namespace ItR
variable {κ ν:Type} {m m' m1:List (κ × ν)} {left:List Bool} {body:κ->ν->M ν}
theorem fin (h:ItR m m' m1 left) (hl:∀ j:Nat,left.getD j false=false):m1=m':=by
  apply List.ext_getElem?
  intro i
  by_cases hi:i<m.length
  · rw [h.2.2.2 i hi,hl i]; rfl
  · rw [List.getElem?_eq_none (by have:=h.1; omega),List.getElem?_eq_none (by have:=h.2.1; omega)]
theorem lt (h:ItR m m' m1 left) {j:Nat} (hj:left.getD j false=true):j<m.length:=by
  rw [← h.2.2.1]
  refine Nat.lt_of_not_le fun hn=>?_
  rw [List.getD_eq_getElem?_getD,List.getElem?_eq_none hn] at hj
  cases hj
theorem at_ (h:ItR m m' m1 left) (hb:(M.mapL body m).Ends m') {j:Nat} {k:κ} {v:ν} (hj:left.getD j false=true) (hm:m1[j]?=some (k,v)):∃ v',(body k v).Ends v'/\m'[j]?=some (k,v'):=by
  have:=h.2.2.2 j (h.lt hj)
  rw [hj,hm] at this
  exact (M.mapL_at hb).2 j k v (by simpa using this.symm)
theorem step (h:ItR m m' m1 left) {j:Nat} {k:κ} {v v':ν} (hj:left.getD j false=true) (hm:m1[j]?=some (k,v)) (hv:m'[j]?=some (k,v')):ItR m m' (m1.set j (k,v')) (left.set j false):=by
  have hjl:=h.lt hj
  have hl:=h.2.2.1
  have h1:=h.1
  refine ⟨by rw [List.length_set]; exact h.1,h.2.1,by rw [List.length_set]; exact h.2.2.1,fun i hi=>?_⟩
  by_cases e:j=i
  · subst e
    rw [List.getElem?_set_self (by omega),List.getD_eq_getElem?_getD,List.getElem?_set_self (by omega),hv]
    rfl
  · rw [List.getElem?_set_ne e,List.getD_eq_getElem?_getD,List.getElem?_set_ne e,← List.getD_eq_getElem?_getD]
    exact h.2.2.2 i hi
theorem keep (h:ItR m m' m1 left) {j:Nat} {k:κ} {v:ν} (hj:left.getD j false=true) (hm:m1[j]?=some (k,v)) (hv:m'[j]?=some (k,v)):ItR m m' m1 (left.set j false):=by
  have:=h.step hj hm hv
  rwa [show m1.set j (k,v)=m1 from by
    obtain ⟨hl,e⟩:=List.getElem?_eq_some_iff.1 hm
    rw [← e,List.set_getElem_self]] at this
theorem less {j:Nat} (hj:left.getD j false=true):(left.set j false).count true<left.count true:=by
  have hl:j<left.length:=Nat.lt_of_not_le fun hn=>by
    rw [List.getD_eq_getElem?_getD,List.getElem?_eq_none hn] at hj
    cases hj
  have hg:left[j]=true:=by
    rw [List.getD_eq_getElem?_getD,List.getElem?_eq_getElem hl] at hj
    exact hj
  rw [List.count_set hl,hg]
  have:0<left.count true:=List.count_pos_iff.2 (by rw [← hg]; exact List.getElem_mem hl)
  simp
  omega
end ItR
end Go.Nm
namespace Go.Proofs
open Go.RowKit Go.Maps Go.Sort Go.Shelf
def Tryz.sortA_ren:Go.Shelf.Ren:=⟨fun | 5=>52 | 7=>97 | 8=>98 | 10=>121 | 11=>122 | 12=>123 | 13=>124 | 14=>125 | 15=>126 | 16=>127 | 17=>128 | 18=>129 | 19=>130 | 20=>131 | 30=>139 | 31=>140 | 32=>141 | 33=>142 | 34=>143 | 35=>138 | 40=>145 | n=>n,fun | 0=>0 | 3=>3 | 4=>4 | 5=>5 | 9=>9 | 22=>28 | 23=>28 | 25=>3 | 32=>185 | 35=>193 | 36=>194 | 41=>188 | 44=>200 | 46=>202 | 53=>207 | 57=>211 | 63=>214 | 64=>215 | n=>n,fun | n=>n⟩
theorem Tryz.sortA:Go.Proofs.SlLaysM.n5 Tryz.prog Tryz.sortA_ren:={
  mixed:=by kernel_rfl
  f5 := ⟨"slices.Sort[[]int,int]", by kernel_rfl, Tryz.func52.trans (congrArg some (by kernel_rfl))⟩
  f7 := ⟨"slices.pdqsortOrdered[int]", by kernel_rfl, Tryz.func97.trans (congrArg some (by kernel_rfl))⟩
  f8:=Tryz.func98.trans (congrArg some (by kernel_rfl))
  f10 := ⟨"slices.insertionSortOrdered[int]", by kernel_rfl, Tryz.func121.trans (congrArg some (by kernel_rfl))⟩
  f11 := ⟨"slices.heapSortOrdered[int]", by kernel_rfl, Tryz.func122.trans (congrArg some (by kernel_rfl))⟩
  f12 := ⟨"slices.breakPatternsOrdered[int]", by kernel_rfl, Tryz.func123.trans (congrArg some (by kernel_rfl))⟩
  f13 := ⟨"slices.choosePivotOrdered[int]", by kernel_rfl, Tryz.func124.trans (congrArg some (by kernel_rfl))⟩
  f14 := ⟨"slices.reverseRangeOrdered[int]", by kernel_rfl, Tryz.func125.trans (congrArg some (by kernel_rfl))⟩
  f15 := ⟨"slices.partialInsertionSortOrdered[int]", by kernel_rfl, Tryz.func126.trans (congrArg some (by kernel_rfl))⟩
  f16 := ⟨"cmp.Less[int]", by kernel_rfl, Tryz.func127.trans (congrArg some (by kernel_rfl))⟩
  f17 := ⟨"slices.partitionEqualOrdered[int]", by kernel_rfl, Tryz.func128.trans (congrArg some (by kernel_rfl))⟩
  f18 := ⟨"slices.partitionOrdered[int]", by kernel_rfl, Tryz.func129.trans (congrArg some (by kernel_rfl))⟩
  f19:=Tryz.func130.trans (congrArg some (by kernel_rfl))
  f20:=Tryz.func131.trans (congrArg some (by kernel_rfl))
  f30 := ⟨"slices.siftDownOrdered[int]", by kernel_rfl, Tryz.func139.trans (congrArg some (by kernel_rfl))⟩
  f31:=Tryz.func140.trans (congrArg some (by kernel_rfl))
  f32:=Tryz.func141.trans (congrArg some (by kernel_rfl))
  f33 := ⟨"slices.medianAdjacentOrdered[int]", by kernel_rfl, Tryz.func142.trans (congrArg some (by kernel_rfl))⟩
  f34 := ⟨"slices.medianOrdered[int]", by kernel_rfl, Tryz.func143.trans (congrArg some (by kernel_rfl))⟩
  f35 := ⟨"cmp.isNaN[int]", by kernel_rfl, Tryz.func138.trans (congrArg some (by kernel_rfl))⟩
  f40 := ⟨"slices.order2Ordered[int]", by kernel_rfl, Tryz.func145.trans (congrArg some (by kernel_rfl))⟩
  t0:=Tryz.underlying0
  a0:=Tryz.isAgg0
  z0:=Tryz.sizeOf0
  v0:=Tryz.zeroValue0
  t3:=Tryz.underlying3
  a3:=Tryz.isAgg3
  z3:=Tryz.sizeOf3
  v3:=Tryz.zeroValue3
  t4:=Tryz.underlying4
  a4:=Tryz.isAgg4
  z4:=Tryz.sizeOf4
  v4:=Tryz.zeroValue4
  t5:=Tryz.underlying5
  a5:=Tryz.isAgg5
  z5:=Tryz.sizeOf5
  v5:=Tryz.zeroValue5
  t9:=Tryz.underlying9
  a9:=Tryz.isAgg9
  z9:=Tryz.sizeOf9
  v9:=Tryz.zeroValue9
  t22:=Tryz.underlying28
  a22:=Tryz.isAgg28
  z22:=Tryz.sizeOf28
  v22:=Tryz.zeroValue28
  t23:=Tryz.underlying28
  a23:=Tryz.isAgg28
  z23:=Tryz.sizeOf28
  v23:=Tryz.zeroValue28
  t25:=Tryz.underlying3
  a25:=Tryz.isAgg3
  z25:=Tryz.sizeOf3
  v25:=Tryz.zeroValue3
  t32:=Tryz.underlying185
  a32:=Tryz.isAgg185
  z32:=Tryz.sizeOf185
  v32:=Tryz.zeroValue185
  t35:=Tryz.underlying193
  a35:=Tryz.isAgg193
  z35:=Tryz.sizeOf193
  v35:=Tryz.zeroValue193
  t36:=Tryz.underlying194
  a36:=Tryz.isAgg194
  z36:=Tryz.sizeOf194
  v36:=Tryz.zeroValue194
  t41:=Tryz.underlying188
  a41:=Tryz.isAgg188
  z41:=Tryz.sizeOf188
  v41:=Tryz.zeroValue188
  t44:=Tryz.underlying200
  a44:=Tryz.isAgg200
  z44:=Tryz.sizeOf200
  v44:=Tryz.zeroValue200
  t46:=Tryz.underlying202
  a46:=Tryz.isAgg202
  z46:=Tryz.sizeOf202
  v46:=Tryz.zeroValue202
  t53:=Tryz.underlying207
  a53:=Tryz.isAgg207
  z53:=Tryz.sizeOf207
  v53:=Tryz.zeroValue207
  t57:=Tryz.underlying211
  a57:=Tryz.isAgg211
  z57:=Tryz.sizeOf211
  v57:=Tryz.zeroValue211
  t63:=Tryz.underlying214
  a63:=Tryz.isAgg214
  z63:=Tryz.sizeOf214
  v63:=Tryz.zeroValue214
  t64:=Tryz.underlying215
  a64:=Tryz.isAgg215
  z64:=Tryz.sizeOf215
  v64:=Tryz.zeroValue215 }

end Go.Proofs
namespace Go.Nm
open Go
theorem OwnF.row {B:Nat} {e:TypeId} {w:World} {l:List Int} {g cap:Nat} {cur:Array Value} (ho:OwnF B e w (.slice (some ⟨g,0,none⟩) l.length cap) l) (hg:w.heap[g]?=some (.cells cur e (0,0)))
    (hcs:l.length<=cap) (hsz:cur.size=cap) (hb:B<=g) (hm:cap<=maxLen) (d:Array Int) (hl:d.size=l.length) (q:Nat) :
    OwnF B e (Sort.putRow (Value.int .i64) (Sort.ahead w q) g 0 d) (.slice (some ⟨g,0,none⟩) l.length cap) d.toList/\Grow B (.slice (some ⟨g,0,none⟩) l.length cap) w (Sort.putRow (Value.int .i64) (Sort.ahead w q) g 0 d):=by
  have hs1:Elt.sz Int=1:=rfl
  have h1:(Sort.putRow (Value.int .i64) (Sort.ahead w q) g 0 d).heap[g]?=some (.cells (Sort.putCells (Value.int .i64) 0 d cur) e (0,0)):=by
    show (w.heap.modify g _)[g]?=_
    rw [Array.getElem?_modify,if_pos rfl,hg]
    rfl
  have h2:∀ k,k ≠ g->(Sort.putRow (Value.int .i64) (Sort.ahead w q) g 0 d).heap[k]?=w.heap[k]?:=by
    intro k hk
    show (w.heap.modify g _)[k]?=_
    rw [Array.getElem?_modify,if_neg (fun h=>hk h.symm)]
  refine ⟨⟨by rw [enc_ints]; simp [hs1],.inr ⟨g,cap,_,by simp [hl],hb,h1,by simp [hl]; omega,hm,by simp [hs1,Sort.putCells]; omega,?_⟩⟩,⟨rfl,rfl,by simp [Sort.putRow,Sort.mapBlock,Sort.ahead],fun k _ hk=>?_,fun g' hg'=>(ho.lt g' hg').1,fun a=>by simp⟩⟩
  · rw [enc_ints,hs1]
    apply List.ext_getElem?
    intro i
    rw [List.getElem?_take,List.getElem?_map]
    by_cases hi:i<d.toList.length*1
    · rw [if_pos hi]
      have hi':i<d.size:=by simpa using hi
      have hc:i<cur.size:=by omega
      simp [Sort.putCells,hi',hc]
    · rw [if_neg hi,List.getElem?_eq_none (by simpa using hi)]
      rfl
  · refine h2 k (fun e'=>hk ?_)
    rw [e']
    rfl
end Go.Nm
namespace Go.Proofs.YtlemgioaakecpaaGreat
open Go Go.Nm Go.Proofs
theorem sort_any {w:World} {v:Value} {l:List Int} (ho:OwnF 0 3 w v l) (hl:l.length<=1000000):Ret Tryz.prog 52 #[v] w fun u w'=>u = .tuple #[]/\OwnF 0 3 w' v (isort l)/\Keep w w'/\∀ b,b<w.heap.size->v.ownBlock ≠ some b->w'.heap[b]?=w.heap[b]?:=by
  have ho':=ho
  rcases ho.2 with ⟨rfl,hn⟩ | ⟨g,cap,cur,rfl,hb,hg,hc,hm,hcs,htake⟩
  · obtain rfl:=List.length_eq_zero_iff.1 hn
    have h:=AnyM.slices_Sort_int_none Tryz.sortA none 0 w
    refine Calls.mono h ?_
    rintro _ w' ⟨rfl,rfl⟩
    exact ⟨_,rfl,rfl,ho,Keep.refl _,fun _ _ _=>rfl⟩
  · have hs1:Elt.sz Int=1:=rfl
    rw [hs1] at hcs htake
    rw [enc_ints] at htake
    have hcell:∀ j,j<l.length->w.cell? ⟨g,0+j,none⟩=some (.int .i64 (l.getD j 0)):=by
      intro j hj
      rw [Nat.zero_add,cell_of_row w g j cur 3 (0,0) hg]
      have h1:(cur.toList.take (l.length*1))[j]?=(l.map I)[j]?:=by rw [htake]
      rw [List.getElem?_take,if_pos (by omega),List.getElem?_map,getD_some l hj 0] at h1
      simpa using h1
    have hH:Sort.Holds (Value.int .i64) w g 0 l.toArray:=by
      intro j hj
      have hj:j<l.length:=by simpa using hj
      refine ⟨?_,by simp [World.frozen?,hg]⟩
      rw [hcell j hj]
      have:l.getD j 0=l.toArray[j]!:=by
        rw [List.getD_eq_getElem?_getD,List.getElem?_eq_getElem hj]
        simp [getElem!_pos,hj]
      rw [this]
    have h:=AnyM.slices_Sort_int Tryz.sortA g 0 cap l w hH (heap_lt hg) (by omega)
    refine Calls.mono h ?_
    rintro _ w' ⟨rfl,q,os,rfl⟩
    rw [merge_isort (List.Perm.refl l)]
    have hlen:(isort l).length=l.length:=(isort_perm l).length_eq
    obtain ⟨h1,h2⟩:=OwnF.row ho hg hc (by omega) hb hm (isort l).toArray (by simp [hlen]) q
    have hlt:g<(Sort.putRow (Value.int .i64) (Sort.ahead w q) g 0 (isort l).toArray).heap.size:=Nat.lt_of_lt_of_le (heap_lt hg) h2.size
    refine ⟨_,rfl,rfl,?_,⟨h2.os,h2.out,by rw [Sort.size_grow]; exact Nat.le_trans h2.size (Nat.le_add_right _ _)⟩,fun b hb' hne=>?_⟩
    · rcases h1 with ⟨h3,h4 | ⟨g',cap',cur',h5,h6,h7,h8⟩⟩
      · exact absurd h4.1 (by simp)
      · simp only [Value.slice.injEq,Option.some.injEq,Addr.mk.injEq,and_true] at h5
        obtain ⟨rfl,_,rfl⟩:=h5
        refine ⟨h3,.inr ⟨g,cap,cur',by simp [hlen],h6,by rw [Sort.heap_grow_old _ _ hlt]; exact h7,h8⟩⟩
    · rw [Sort.heap_grow_old _ _ (Nat.lt_of_lt_of_le hb' h2.size)]
      exact h2.blk b hb' hne
end Go.Proofs.YtlemgioaakecpaaGreat
namespace Go.Nm
open Go
theorem St.sorted {w0 w w':World} {L L' R:List Chunk} {k:Nat} {v:Value} {l l':List Int} {e:TypeId} (H:St w0 w L R) (hk:L[k]?=some (cOwn (α:=Int) e v l)) (ho:OwnF 0 e w' v l') (kp:Keep w w') (hs:∀ b,b<w.heap.size->v.ownBlock ≠ some b->w'.heap[b]?=w.heap[b]?)
    (hl:L.set k (cOwn (α:=Int) e v l')=L'):St w0 w' L' R :=
  H.set (c':=cOwn (α:=Int) e v l') hk rfl kp hs (fun b hb=>.inl hb) ho hl
end Go.Nm
namespace Go.Nm
open Go
end Go.Nm
namespace Go.Nm
open Go
universe u
theorem qy1 {p:Prop} [Decidable p]:(decide p=true)=p:=decide_eq_true_eq
theorem qy2 {p:Prop} [Decidable p]:(decide p=false)↔¬p:=decide_eq_false_iff_not
theorem qy3 {α:Type _} [BEq α] [LawfulBEq α] {a b:α}:(a==b)=true↔a=b:=beq_iff_eq
theorem qy4 {α:Type _} [BEq α] [LawfulBEq α] {a b:α}:(a != b)=true↔a ≠ b:=bne_iff_ne
theorem qy5 {α:Type _} [BEq α] [LawfulBEq α] {a b:α}:(a==b)=false↔a ≠ b:=beq_eq_false_iff_ne
theorem qy6 {α:Type _} [BEq α] [LawfulBEq α] {a b:α}:(a != b)=false↔a=b:=bne_eq_false_iff_eq
theorem qy7 {p:Prop} [Decidable p]:¬¬p↔p:=Decidable.not_not
abbrev Pq (b:Nat):Value:=.pointer (some ⟨b,0,none⟩)
abbrev Oq (b o:Nat):Value:=.pointer (some ⟨b,o,none⟩)
class NthR {α:Type u} (l:List α) (i:Nat) (x:outParam α):Prop where
  is:l[i]?=some x
instance {α:Type u} {l:List α} {x:α}:NthR (x :: l) 0 x:=⟨rfl⟩
instance {α:Type u} {l:List α} {x y:α} {i:Nat} [h:NthR l i x]:NthR (y :: l) (i+1) x:=⟨h.is⟩
instance (priority:=high) {α:Type u} {l:List α} {x a b c d:α} {i:Nat} [h:NthR l i x]:NthR (a :: b :: c :: d :: l) (i+4) x:=⟨h.is⟩
class PickR {α:Type u} (l:List α) (i:List Nat) (o:outParam (List α)):Prop where
  is:i.mapM (fun j=>l[j]?)=some o
instance {α:Type u} {l:List α}:PickR l [] []:=⟨rfl⟩
instance {α:Type u} {l o:List α} {i:Nat} {is:List Nat} {x:α} [h:NthR l i x] [k:PickR l is o]:PickR l (i :: is) (x :: o):=⟨by rw [List.mapM_cons,h.is,k.is]; rfl⟩
class AppR {α:Type u} (a b:List α) (o:outParam (List α)):Prop where
  is:a++b=o
instance {α:Type u} {b:List α}:AppR [] b b:=⟨rfl⟩
instance {α:Type u} {x:α} {a b o:List α} [h:AppR a b o]:AppR (x :: a) b (x :: o):=⟨by rw [List.cons_append,h.is]⟩
class LenR {α:Type u} (l:List α) (n:Nat):Prop where
  is:l.length=n
instance {α:Type u}:LenR ([]:List α) 0:=⟨rfl⟩
instance {α:Type u} {l:List α} {x:α} {n:Nat} [h:LenR l n]:LenR (x :: l) (n+1):=⟨by rw [List.length_cons,h.is]⟩
class EndR {α:Type u} (n:Nat) (l:List α) (a b:outParam (List α)):Prop where
  is:a++b=l
instance (priority:=low) {α:Type u} {x:α} {n:Nat} {l a b:List α} [h:EndR n l a b]:EndR n (x :: l) (x :: a) b:=⟨by rw [List.cons_append,h.is]⟩
instance {α:Type u} {n:Nat} {l:List α} [LenR l n]:EndR n l [] l:=⟨rfl⟩
class SetR {α:Type u} (l:List α) (k:Nat) (x:α) (o:outParam (List α)):Prop where
  is:l.set k x=o
instance {α:Type u} {l:List α} {x y:α}:SetR (y :: l) 0 x (x :: l):=⟨rfl⟩
instance {α:Type u} {l o:List α} {x y:α} {k:Nat} [h:SetR l k x o]:SetR (y :: l) (k+1) x (y :: o):=⟨by rw [List.set_cons_succ,h.is]⟩
class NfR {α:Type u} (l:List α) (o:outParam (List α)):Prop where
  is:l=o
instance {α:Type u}:NfR ([]:List α) []:=⟨rfl⟩
instance {α:Type u} {x:α} {l o:List α} [h:NfR l o]:NfR (x :: l) (x :: o):=⟨by rw [← h.is]⟩
instance {α:Type u} {l o p:List α} {k:Nat} {x:α} [h:NfR l o] [s:SetR o k x p]:NfR (l.set k x) p:=⟨by rw [h.is,s.is]⟩
instance {α:Type u} {a b a' b' o:List α} [h:NfR a a'] [h':NfR b b'] [s:AppR a' b' o]:NfR (a++b) o:=⟨by rw [h.is,h'.is,s.is]⟩
instance {α:Type u} {x:α} {l o:List α} [h:NfR l o]:NfR ((x :: l).eraseIdx 0) o:=⟨by rw [← h.is]; rfl⟩
instance {α:Type u} {x:α} {l o:List α} {k:Nat} [h:NfR (l.eraseIdx k) o]:NfR ((x :: l).eraseIdx (k+1)) (x :: o):=⟨by rw [List.eraseIdx_cons_succ,h.is]⟩
class OverR {α:Type u} (cs:List α) (off:Nat) (vs:List α) (o:outParam (List α)):Prop where
  is:cs.take off++vs++cs.drop (off+vs.length)=o
instance {α:Type u} {cs:List α}:OverR cs 0 [] cs:=⟨by simp⟩
instance {α:Type u} {c v:α} {cs vs o:List α} [h:OverR cs 0 vs o]:OverR (c :: cs) 0 (v :: vs) (v :: o):=⟨by
  have:=h.is
  simp only [List.take_zero,List.nil_append,Nat.zero_add] at this ⊢
  simp [this]⟩
instance {α:Type u} {c:α} {cs vs o:List α} {n:Nat} [h:OverR cs n vs o]:OverR (c :: cs) (n+1) vs (c :: o):=⟨by
  have:=h.is
  rw [List.take_succ_cons,show n+1+vs.length=n+vs.length+1 by omega,List.drop_succ_cons,List.cons_append,List.cons_append,this]⟩
section
variable {w0 w w':World} {L L' L1 R A T:List Chunk}
theorem St.os {α:Type} [Flat α] {e:TypeId} {v:Value} {l:List α} (h:St w0 w L R) (k:Nat) [n:NthR L k (cOwn e v l)]:Sl (rowC v (l.flatMap Flat.enc)) v l:=ownSl (h.get n.is)
theorem St.ol {α:Type} [Flat α] {e:TypeId} {v:Value} {l:List α} (h:St w0 w L R) (k:Nat) [n:NthR L k (cOwn e v l)]:(rowC v (l.flatMap Flat.enc)).Le w.cell?:=ownLe w (h.get n.is)
theorem rdo {α:Type} [Flat α] {e:TypeId} {v:Value} {l:List α} (k:Nat) [n:NthR L k (cOwn e v l)]:Reads (L++R) (rowC v (l.flatMap Flat.enc)):=Reads.of n.is ownLe
theorem St.bl {b:Nat} {cs:List Value} {t:TypeId} (h:St w0 w L R) (k:Nat) [n:NthR L k (cBlk b cs t)]:w.heap[b]?=some (.cells cs.toArray t (0,0)):=h.blk n.is
theorem St.nf (h:St w0 w L R) [n:NfR L L']:St w0 w L' R:=by
  have:=n.is
  subst this
  exact h
theorem St.pk (h:St w0 w L R) (i:List Nat) [n:NfR L L1] [p:PickR L1 i L'] (hn:i.Nodup:=by decide):St w0 w L' R:=h.nf.pick i hn p.is
theorem St.bk (h:St w0 w L R) (h':St w w' A (T++R)) [a:NfR (A++T) L']:St w0 w' L' R:=h.back h' a.is
theorem St.gt (h:St w0 w L R) (k:Nat) [n:NfR L L1] [s:EndR k L1 A T]:St w w A (T++R):=h.nf.give s.is
end
section
variable {P:Program} {all rest:List Oper} {Q:Post} {σ:Env} {w0 w:World} {L L' R:List Chunk} {ty:TypeId} {pos:String} {af:Array Edge}
theorem zM {d:Nat} {x:Operand} (v:Value) (h:ev σ x=v) (k:SL P all Q rest (upd σ d v) w):SL P all Q (⟨some d,.move x,ty,pos,af,none⟩ :: rest) σ w:=s_val (x_mv h) k
theorem zA {d:Nat} {x:Operand} (v:Value) (h:ev σ x=v) (k:SL P all Q rest (upd σ d v) w):SL P all Q (⟨some d,.assign x,ty,pos,af,none⟩ :: rest) σ w:=s_val (x_as h) k
theorem zC {d:Nat} {op:BinOp} {t yt:TypeId} {x y:Operand} (a b:Int) (r:Bool) (hx:ev σ x = .int .i64 a) (hy:ev σ y = .int .i64 b) (hr:cmpV op a b=some r) (k:SL P all Q rest (upd σ d (.bool r)) w):SL P all Q (⟨some d,.binOp op t x y yt,ty,pos,af,none⟩ :: rest) σ w:=s_val (x_cmp hx hy hr) k
theorem zR {d:Nat} {op:BinOp} {t yt:TypeId} {x y:Operand} (a b r:Int) (hx:ev σ x = .int .i64 a) (hy:ev σ y = .int .i64 b) (hr:ariV op a b=some r) (h:-9223372036854775808<=r/\r<=9223372036854775807) (k:SL P all Q rest (upd σ d (.int .i64 r)) w):SL P all Q (⟨some d,.binOp op t x y yt,ty,pos,af,none⟩ :: rest) σ w:=s_val (x_ari hx hy hr h) k
theorem zX {d i:Nat} {x:Operand} (vs:List Value) (v:Value) (h:ev σ x = .tuple vs.toArray) (hv:vs[i]?=some v) (k:SL P all Q rest (upd σ d v) w):SL P all Q (⟨some d,.extract x i,ty,pos,af,none⟩ :: rest) σ w:=s_val (x_ext h hv) k
theorem t_sw {dst:Option Nat} {t:TypeId} {x y:Operand} {b n:Nat} {cs cs':List Value} {et:TypeId} (k off:Nat) (vs:List Value) (v:Value) (H:St w0 w L R) [hk:NthR L k (cBlk b cs et)] [hc:OverR cs off vs cs'] [hL:SetR L k (cBlk b cs' et) L'] (hx:ev σ x = .pointer (some ⟨b,off,none⟩)) (hy:ev σ y=v)
    (hs:(P.info? t).map (·.size)=some n) (hv:v.cells=vs.toArray) (hn:vs.length=n) (hl:Nat.ble (off+n) cs.length=true) (h1:vs.all (·.oneCell')=true)
    (kk:∀ w',St w0 w' L' R->SL P all Q rest (updo σ dst undef) w'):SL P all Q (⟨dst,.store t x y,ty,pos,af,none⟩ :: rest) σ w :=
  t_st H hk.is hx hy hs hv hn hl h1 (by rw [← hn]; exact hc.is) hL.is kk
end
end Go.Nm
namespace Go.Nm
open Go
section
variable {P:Program} {w:World} {σ:Env} {d:Nat} {ty:TypeId} {pos:String} {af:Array Edge} {g:Option (Nat × Bool)}
end
end Go.Nm
namespace Go.Proofs.YtlemgioaakecpaaGreat
open Go Go.Nm
theorem cf10:CF Tryz.prog 10:=⟨_,Tryz.func10,rfl,by decide +kernel⟩
theorem cf11:CF Tryz.prog 11:=⟨_,Tryz.func11,rfl,by decide +kernel⟩
theorem cf12:CF Tryz.prog 12:=⟨_,Tryz.func12,rfl,by decide +kernel⟩
theorem cf13:CF Tryz.prog 13:=⟨_,Tryz.func13,rfl,by decide +kernel⟩
theorem cf15:CF Tryz.prog 15:=⟨_,Tryz.func15,rfl,by decide +kernel⟩
theorem cf16:CF Tryz.prog 16:=⟨_,Tryz.func16,rfl,by decide +kernel⟩
theorem cf17:CF Tryz.prog 17:=⟨_,Tryz.func17,rfl,by decide +kernel⟩
theorem cf20:CF Tryz.prog 20:=⟨_,Tryz.func20,rfl,by decide +kernel⟩
theorem cf22:CF Tryz.prog 22:=⟨_,Tryz.func22,rfl,by decide +kernel⟩
theorem cf24:CF Tryz.prog 24:=⟨_,Tryz.func24,rfl,by decide +kernel⟩
theorem cf25:CF Tryz.prog 25:=⟨_,Tryz.func25,rfl,by decide +kernel⟩
theorem cf26:CF Tryz.prog 26:=⟨_,Tryz.func26,rfl,by decide +kernel⟩
theorem cf27:CF Tryz.prog 27:=⟨_,Tryz.func27,rfl,by decide +kernel⟩
theorem cf28:CF Tryz.prog 28:=⟨_,Tryz.func28,rfl,by decide +kernel⟩
theorem cf29:CF Tryz.prog 29:=⟨_,Tryz.func29,rfl,by decide +kernel⟩
theorem cf30:CF Tryz.prog 30:=⟨_,Tryz.func30,rfl,by decide +kernel⟩
theorem cf31:CF Tryz.prog 31:=⟨_,Tryz.func31,rfl,by decide +kernel⟩
theorem cf32:CF Tryz.prog 32:=⟨_,Tryz.func32,rfl,by decide +kernel⟩
theorem cf33:CF Tryz.prog 33:=⟨_,Tryz.func33,rfl,by decide +kernel⟩
theorem cf34:CF Tryz.prog 34:=⟨_,Tryz.func34,rfl,by decide +kernel⟩
theorem cf35:CF Tryz.prog 35:=⟨_,Tryz.func35,rfl,by decide +kernel⟩
theorem cf36:CF Tryz.prog 36:=⟨_,Tryz.func36,rfl,by decide +kernel⟩
theorem cf37:CF Tryz.prog 37:=⟨_,Tryz.func37,rfl,by decide +kernel⟩
theorem cf45:CF Tryz.prog 45:=⟨_,Tryz.func45,rfl,by decide +kernel⟩
theorem cf49:CF Tryz.prog 49:=⟨_,Tryz.func49,rfl,by decide +kernel⟩
theorem cf50:CF Tryz.prog 50:=⟨_,Tryz.func50,rfl,by decide +kernel⟩
theorem cf51:CF Tryz.prog 51:=⟨_,Tryz.func51,rfl,by decide +kernel⟩
theorem cf52:CF Tryz.prog 52:=⟨_,Tryz.func52,rfl,by decide +kernel⟩
theorem cf53:CF Tryz.prog 53:=⟨_,Tryz.func53,rfl,by decide +kernel⟩
theorem cf54:CF Tryz.prog 54:=⟨_,Tryz.func54,rfl,by decide +kernel⟩
theorem cf55:CF Tryz.prog 55:=⟨_,Tryz.func55,rfl,by decide +kernel⟩
theorem cf56:CF Tryz.prog 56:=⟨_,Tryz.func56,rfl,by decide +kernel⟩
theorem cf57:CF Tryz.prog 57:=⟨_,Tryz.func57,rfl,by decide +kernel⟩
theorem cf58:CF Tryz.prog 58:=⟨_,Tryz.func58,rfl,by decide +kernel⟩
theorem cf59:CF Tryz.prog 59:=⟨_,Tryz.func59,rfl,by decide +kernel⟩
theorem cf60:CF Tryz.prog 60:=⟨_,Tryz.func60,rfl,by decide +kernel⟩
theorem cf61:CF Tryz.prog 61:=⟨_,Tryz.func61,rfl,by decide +kernel⟩
theorem cf62:CF Tryz.prog 62:=⟨_,Tryz.func62,rfl,by decide +kernel⟩
theorem cf63:CF Tryz.prog 63:=⟨_,Tryz.func63,rfl,by decide +kernel⟩
theorem cf64:CF Tryz.prog 64:=⟨_,Tryz.func64,rfl,by decide +kernel⟩
theorem cf65:CF Tryz.prog 65:=⟨_,Tryz.func65,rfl,by decide +kernel⟩
theorem cf66:CF Tryz.prog 66:=⟨_,Tryz.func66,rfl,by decide +kernel⟩
theorem cf67:CF Tryz.prog 67:=⟨_,Tryz.func67,rfl,by decide +kernel⟩
theorem cf68:CF Tryz.prog 68:=⟨_,Tryz.func68,rfl,by decide +kernel⟩
theorem cf69:CF Tryz.prog 69:=⟨_,Tryz.func69,rfl,by decide +kernel⟩
theorem cf70:CF Tryz.prog 70:=⟨_,Tryz.func70,rfl,by decide +kernel⟩
theorem cf71:CF Tryz.prog 71:=⟨_,Tryz.func71,rfl,by decide +kernel⟩
theorem cf72:CF Tryz.prog 72:=⟨_,Tryz.func72,rfl,by decide +kernel⟩
theorem cf73:CF Tryz.prog 73:=⟨_,Tryz.func73,rfl,by decide +kernel⟩
theorem cf74:CF Tryz.prog 74:=⟨_,Tryz.func74,rfl,by decide +kernel⟩
theorem cf75:CF Tryz.prog 75:=⟨_,Tryz.func75,rfl,by decide +kernel⟩
theorem cf76:CF Tryz.prog 76:=⟨_,Tryz.func76,rfl,by decide +kernel⟩
theorem cf77:CF Tryz.prog 77:=⟨_,Tryz.func77,rfl,by decide +kernel⟩
theorem cf78:CF Tryz.prog 78:=⟨_,Tryz.func78,rfl,by decide +kernel⟩
theorem cf79:CF Tryz.prog 79:=⟨_,Tryz.func79,rfl,by decide +kernel⟩
theorem cf80:CF Tryz.prog 80:=⟨_,Tryz.func80,rfl,by decide +kernel⟩
theorem cf81:CF Tryz.prog 81:=⟨_,Tryz.func81,rfl,by decide +kernel⟩
theorem cf82:CF Tryz.prog 82:=⟨_,Tryz.func82,rfl,by decide +kernel⟩
theorem cf83:CF Tryz.prog 83:=⟨_,Tryz.func83,rfl,by decide +kernel⟩
theorem cf84:CF Tryz.prog 84:=⟨_,Tryz.func84,rfl,by decide +kernel⟩
theorem cf85:CF Tryz.prog 85:=⟨_,Tryz.func85,rfl,by decide +kernel⟩
theorem cf86:CF Tryz.prog 86:=⟨_,Tryz.func86,rfl,by decide +kernel⟩
theorem cf87:CF Tryz.prog 87:=⟨_,Tryz.func87,rfl,by decide +kernel⟩
theorem cf88:CF Tryz.prog 88:=⟨_,Tryz.func88,rfl,by decide +kernel⟩
theorem cf95:CF Tryz.prog 95:=⟨_,Tryz.func95,rfl,by decide +kernel⟩
theorem cf96:CF Tryz.prog 96:=⟨_,Tryz.func96,rfl,by decide +kernel⟩
theorem cf99:CF Tryz.prog 99:=⟨_,Tryz.func99,rfl,by decide +kernel⟩
theorem cf100:CF Tryz.prog 100:=⟨_,Tryz.func100,rfl,by decide +kernel⟩
theorem cf101:CF Tryz.prog 101:=⟨_,Tryz.func101,rfl,by decide +kernel⟩
theorem cf102:CF Tryz.prog 102:=⟨_,Tryz.func102,rfl,by decide +kernel⟩
theorem cf103:CF Tryz.prog 103:=⟨_,Tryz.func103,rfl,by decide +kernel⟩
theorem cf104:CF Tryz.prog 104:=⟨_,Tryz.func104,rfl,by decide +kernel⟩
theorem cf105:CF Tryz.prog 105:=⟨_,Tryz.func105,rfl,by decide +kernel⟩
theorem cf106:CF Tryz.prog 106:=⟨_,Tryz.func106,rfl,by decide +kernel⟩
theorem cf107:CF Tryz.prog 107:=⟨_,Tryz.func107,rfl,by decide +kernel⟩
theorem cf108:CF Tryz.prog 108:=⟨_,Tryz.func108,rfl,by decide +kernel⟩
theorem cf109:CF Tryz.prog 109:=⟨_,Tryz.func109,rfl,by decide +kernel⟩
theorem cf110:CF Tryz.prog 110:=⟨_,Tryz.func110,rfl,by decide +kernel⟩
theorem cf111:CF Tryz.prog 111:=⟨_,Tryz.func111,rfl,by decide +kernel⟩
theorem cf112:CF Tryz.prog 112:=⟨_,Tryz.func112,rfl,by decide +kernel⟩
theorem cf113:CF Tryz.prog 113:=⟨_,Tryz.func113,rfl,by decide +kernel⟩
theorem cf114:CF Tryz.prog 114:=⟨_,Tryz.func114,rfl,by decide +kernel⟩
theorem cf115:CF Tryz.prog 115:=⟨_,Tryz.func115,rfl,by decide +kernel⟩
theorem cf116:CF Tryz.prog 116:=⟨_,Tryz.func116,rfl,by decide +kernel⟩
theorem cf117:CF Tryz.prog 117:=⟨_,Tryz.func117,rfl,by decide +kernel⟩
theorem cf118:CF Tryz.prog 118:=⟨_,Tryz.func118,rfl,by decide +kernel⟩
theorem cf119:CF Tryz.prog 119:=⟨_,Tryz.func119,rfl,by decide +kernel⟩
theorem cf120:CF Tryz.prog 120:=⟨_,Tryz.func120,rfl,by decide +kernel⟩
theorem cf132:CF Tryz.prog 132:=⟨_,Tryz.func132,rfl,by decide +kernel⟩
theorem cf133:CF Tryz.prog 133:=⟨_,Tryz.func133,rfl,by decide +kernel⟩
theorem cf134:CF Tryz.prog 134:=⟨_,Tryz.func134,rfl,by decide +kernel⟩
theorem cf135:CF Tryz.prog 135:=⟨_,Tryz.func135,rfl,by decide +kernel⟩
theorem cf136:CF Tryz.prog 136:=⟨_,Tryz.func136,rfl,by decide +kernel⟩
theorem cf137:CF Tryz.prog 137:=⟨_,Tryz.func137,rfl,by decide +kernel⟩
theorem cf138:CF Tryz.prog 138:=⟨_,Tryz.func138,rfl,by decide +kernel⟩
theorem cf144:CF Tryz.prog 144:=⟨_,Tryz.func144,rfl,by decide +kernel⟩
theorem T23:SlT Tryz.prog 23 68 2 32 (.agg #[I 0,.slice none 0 0]):=⟨Tryz.underlying23,by kernel_rfl,rfl,by decide⟩
theorem T24:SlT Tryz.prog 24 70 3 24 (.agg #[I 0,I 0,I 0]):=⟨Tryz.underlying24,by kernel_rfl,rfl,by decide⟩
theorem T25:SlT Tryz.prog 25 58 5 40 (.agg #[I 0,I 0,I 0,I 0,B false]):=⟨Tryz.underlying25,by kernel_rfl,rfl,by decide⟩
theorem T28:SlT Tryz.prog 28 3 1 8 (I 0):=⟨Tryz.underlying28,by kernel_rfl,rfl,by decide⟩
theorem T38:SlT Tryz.prog 38 28 1 24 (.slice none 0 0):=⟨Tryz.underlying38,by kernel_rfl,rfl,by decide⟩
theorem T43:SlT Tryz.prog 43 54 2 16 (.agg #[I 0,I 0]):=⟨Tryz.underlying43,by kernel_rfl,rfl,by decide⟩
theorem T59:SlT Tryz.prog 59 4 1 1 (B false):=⟨Tryz.underlying59,by kernel_rfl,rfl,by decide⟩
theorem T66:SlT Tryz.prog 66 109 2 16 (.agg #[I 0,I 0]):=⟨Tryz.underlying66,by kernel_rfl,rfl,by decide⟩
theorem T77:SlT Tryz.prog 77 148 2 32 (.agg #[I 0,.slice none 0 0]):=⟨Tryz.underlying77,by kernel_rfl,rfl,by decide⟩
theorem T78:SlT Tryz.prog 78 150 3 24 (.agg #[I 0,I 0,I 0]):=⟨Tryz.underlying78,by kernel_rfl,rfl,by decide⟩
theorem T79:SlT Tryz.prog 79 151 5 40 (.agg #[I 0,I 0,I 0,I 0,B false]):=⟨Tryz.underlying79,by kernel_rfl,rfl,by decide⟩
theorem T146:SlT Tryz.prog 146 149 2 16 (.agg #[I 0,I 0]):=⟨Tryz.underlying146,by kernel_rfl,rfl,by decide⟩
theorem Sc3:isSc (Tryz.prog.underlying 3)=true:=by rw [Tryz.underlying3]; rfl
theorem Sc4:isSc (Tryz.prog.underlying 4)=true:=by rw [Tryz.underlying4]; rfl
theorem Sc23:isSc (Tryz.prog.underlying 23)=true:=by rw [Tryz.underlying23]; rfl
theorem Sc24:isSc (Tryz.prog.underlying 24)=true:=by rw [Tryz.underlying24]; rfl
theorem Sc25:isSc (Tryz.prog.underlying 25)=true:=by rw [Tryz.underlying25]; rfl
theorem Sc28:isSc (Tryz.prog.underlying 28)=true:=by rw [Tryz.underlying28]; rfl
theorem Sc35:isSc (Tryz.prog.underlying 35)=true:=by rw [Tryz.underlying35]; rfl
theorem Sc66:isSc (Tryz.prog.underlying 66)=true:=by rw [Tryz.underlying66]; rfl
theorem Sc77:isSc (Tryz.prog.underlying 77)=true:=by rw [Tryz.underlying77]; rfl
theorem Sc78:isSc (Tryz.prog.underlying 78)=true:=by rw [Tryz.underlying78]; rfl
theorem Sc79:isSc (Tryz.prog.underlying 79)=true:=by rw [Tryz.underlying79]; rfl
theorem Sc112:isSc (Tryz.prog.underlying 112)=true:=by rw [Tryz.underlying112]; rfl
theorem Sc116:isSc (Tryz.prog.underlying 116)=true:=by rw [Tryz.underlying116]; rfl
theorem Sc125:isSc (Tryz.prog.underlying 125)=true:=by rw [Tryz.underlying125]; rfl
theorem Sc143:isSc (Tryz.prog.underlying 143)=true:=by rw [Tryz.underlying143]; rfl
theorem Sc146:isSc (Tryz.prog.underlying 146)=true:=by rw [Tryz.underlying146]; rfl
theorem Sc152:isSc (Tryz.prog.underlying 152)=true:=by rw [Tryz.underlying152]; rfl
theorem Sc155:isSc (Tryz.prog.underlying 155)=true:=by rw [Tryz.underlying155]; rfl
theorem Sc157:isSc (Tryz.prog.underlying 157)=true:=by rw [Tryz.underlying157]; rfl
theorem Sc175:isSc (Tryz.prog.underlying 175)=true:=by rw [Tryz.underlying175]; rfl
theorem Sc178:isSc (Tryz.prog.underlying 178)=true:=by rw [Tryz.underlying178]; rfl
theorem Sc191:isSc (Tryz.prog.underlying 191)=true:=by rw [Tryz.underlying191]; rfl
theorem Sz3:(Tryz.prog.info? 3).map (·.size)=some 1:=by kernel_rfl
theorem Sz4:(Tryz.prog.info? 4).map (·.size)=some 1:=by kernel_rfl
theorem Sz23:(Tryz.prog.info? 23).map (·.size)=some 1:=by kernel_rfl
theorem Sz24:(Tryz.prog.info? 24).map (·.size)=some 1:=by kernel_rfl
theorem Sz25:(Tryz.prog.info? 25).map (·.size)=some 1:=by kernel_rfl
theorem Ag27:isAg (Tryz.prog.underlying 27)=true:=by rw [Tryz.underlying27]; rfl
theorem Sz27:(Tryz.prog.info? 27).map (·.size)=some 3:=by kernel_rfl
theorem Sz35:(Tryz.prog.info? 35).map (·.size)=some 1:=by kernel_rfl
theorem Ag54:isAg (Tryz.prog.underlying 54)=true:=by rw [Tryz.underlying54]; rfl
theorem Sz54:(Tryz.prog.info? 54).map (·.size)=some 2:=by kernel_rfl
theorem Ag58:isAg (Tryz.prog.underlying 58)=true:=by rw [Tryz.underlying58]; rfl
theorem Sz58:(Tryz.prog.info? 58).map (·.size)=some 5:=by kernel_rfl
theorem Ag61:isAg (Tryz.prog.underlying 61)=true:=by rw [Tryz.underlying61]; rfl
theorem Sz61:(Tryz.prog.info? 61).map (·.size)=some 4:=by kernel_rfl
theorem Sz66:(Tryz.prog.info? 66).map (·.size)=some 1:=by kernel_rfl
theorem Ag68:isAg (Tryz.prog.underlying 68)=true:=by rw [Tryz.underlying68]; rfl
theorem Sz68:(Tryz.prog.info? 68).map (·.size)=some 2:=by kernel_rfl
theorem Ag70:isAg (Tryz.prog.underlying 70)=true:=by rw [Tryz.underlying70]; rfl
theorem Sz70:(Tryz.prog.info? 70).map (·.size)=some 3:=by kernel_rfl
theorem Sz77:(Tryz.prog.info? 77).map (·.size)=some 1:=by kernel_rfl
theorem Sz78:(Tryz.prog.info? 78).map (·.size)=some 1:=by kernel_rfl
theorem Sz79:(Tryz.prog.info? 79).map (·.size)=some 1:=by kernel_rfl
theorem Ag81:isAg (Tryz.prog.underlying 81)=true:=by rw [Tryz.underlying81]; rfl
theorem Sz81:(Tryz.prog.info? 81).map (·.size)=some 3:=by kernel_rfl
theorem Ag109:isAg (Tryz.prog.underlying 109)=true:=by rw [Tryz.underlying109]; rfl
theorem Sz109:(Tryz.prog.info? 109).map (·.size)=some 2:=by kernel_rfl
theorem Sz116:(Tryz.prog.info? 116).map (·.size)=some 1:=by kernel_rfl
theorem Ag138:isAg (Tryz.prog.underlying 138)=true:=by rw [Tryz.underlying138]; rfl
theorem Sz138:(Tryz.prog.info? 138).map (·.size)=some 1:=by kernel_rfl
theorem Sz146:(Tryz.prog.info? 146).map (·.size)=some 1:=by kernel_rfl
theorem Ag148:isAg (Tryz.prog.underlying 148)=true:=by rw [Tryz.underlying148]; rfl
theorem Sz148:(Tryz.prog.info? 148).map (·.size)=some 2:=by kernel_rfl
theorem Ag150:isAg (Tryz.prog.underlying 150)=true:=by rw [Tryz.underlying150]; rfl
theorem Sz150:(Tryz.prog.info? 150).map (·.size)=some 3:=by kernel_rfl
theorem Ag151:isAg (Tryz.prog.underlying 151)=true:=by rw [Tryz.underlying151]; rfl
theorem Sz151:(Tryz.prog.info? 151).map (·.size)=some 5:=by kernel_rfl
theorem Sz157:(Tryz.prog.info? 157).map (·.size)=some 1:=by kernel_rfl
theorem Ag160:isAg (Tryz.prog.underlying 160)=true:=by rw [Tryz.underlying160]; rfl
theorem Sz160:(Tryz.prog.info? 160).map (·.size)=some 2:=by kernel_rfl
theorem Sz175:(Tryz.prog.info? 175).map (·.size)=some 1:=by kernel_rfl
theorem Sz178:(Tryz.prog.info? 178).map (·.size)=some 1:=by kernel_rfl
theorem Sz180:(Tryz.prog.info? 180).map (·.size)=some 16:=by kernel_rfl
theorem Sz191:(Tryz.prog.info? 191).map (·.size)=some 1:=by kernel_rfl
theorem Fd27_0:(Tryz.prog.underlying 27).bind (fun d=>match d with | .struct fs=>(fs[0]?).map (fun f=>(f.offset,f.type)) | _=>none)=some (0,23):=by rw [Tryz.underlying27]; rfl
theorem Fd27_1:(Tryz.prog.underlying 27).bind (fun d=>match d with | .struct fs=>(fs[1]?).map (fun f=>(f.offset,f.type)) | _=>none)=some (1,24):=by rw [Tryz.underlying27]; rfl
theorem Fd27_2:(Tryz.prog.underlying 27).bind (fun d=>match d with | .struct fs=>(fs[2]?).map (fun f=>(f.offset,f.type)) | _=>none)=some (2,25):=by rw [Tryz.underlying27]; rfl
theorem Fd54_0:(Tryz.prog.underlying 54).bind (fun d=>match d with | .struct fs=>(fs[0]?).map (fun f=>(f.offset,f.type)) | _=>none)=some (0,3):=by rw [Tryz.underlying54]; rfl
theorem Fd54_1:(Tryz.prog.underlying 54).bind (fun d=>match d with | .struct fs=>(fs[1]?).map (fun f=>(f.offset,f.type)) | _=>none)=some (1,3):=by rw [Tryz.underlying54]; rfl
theorem Fd58_0:(Tryz.prog.underlying 58).bind (fun d=>match d with | .struct fs=>(fs[0]?).map (fun f=>(f.offset,f.type)) | _=>none)=some (0,3):=by rw [Tryz.underlying58]; rfl
theorem Fd58_1:(Tryz.prog.underlying 58).bind (fun d=>match d with | .struct fs=>(fs[1]?).map (fun f=>(f.offset,f.type)) | _=>none)=some (1,3):=by rw [Tryz.underlying58]; rfl
theorem Fd58_2:(Tryz.prog.underlying 58).bind (fun d=>match d with | .struct fs=>(fs[2]?).map (fun f=>(f.offset,f.type)) | _=>none)=some (2,54):=by rw [Tryz.underlying58]; rfl
theorem Fd58_3:(Tryz.prog.underlying 58).bind (fun d=>match d with | .struct fs=>(fs[3]?).map (fun f=>(f.offset,f.type)) | _=>none)=some (4,4):=by rw [Tryz.underlying58]; rfl
theorem Fd61_0:(Tryz.prog.underlying 61).bind (fun d=>match d with | .struct fs=>(fs[0]?).map (fun f=>(f.offset,f.type)) | _=>none)=some (0,3):=by rw [Tryz.underlying61]; rfl
theorem Fd61_1:(Tryz.prog.underlying 61).bind (fun d=>match d with | .struct fs=>(fs[1]?).map (fun f=>(f.offset,f.type)) | _=>none)=some (1,3):=by rw [Tryz.underlying61]; rfl
theorem Fd61_2:(Tryz.prog.underlying 61).bind (fun d=>match d with | .struct fs=>(fs[2]?).map (fun f=>(f.offset,f.type)) | _=>none)=some (2,3):=by rw [Tryz.underlying61]; rfl
theorem Fd61_3:(Tryz.prog.underlying 61).bind (fun d=>match d with | .struct fs=>(fs[3]?).map (fun f=>(f.offset,f.type)) | _=>none)=some (3,3):=by rw [Tryz.underlying61]; rfl
theorem Fd68_0:(Tryz.prog.underlying 68).bind (fun d=>match d with | .struct fs=>(fs[0]?).map (fun f=>(f.offset,f.type)) | _=>none)=some (0,3):=by rw [Tryz.underlying68]; rfl
theorem Fd68_1:(Tryz.prog.underlying 68).bind (fun d=>match d with | .struct fs=>(fs[1]?).map (fun f=>(f.offset,f.type)) | _=>none)=some (1,66):=by rw [Tryz.underlying68]; rfl
theorem Fd70_0:(Tryz.prog.underlying 70).bind (fun d=>match d with | .struct fs=>(fs[0]?).map (fun f=>(f.offset,f.type)) | _=>none)=some (0,3):=by rw [Tryz.underlying70]; rfl
theorem Fd70_1:(Tryz.prog.underlying 70).bind (fun d=>match d with | .struct fs=>(fs[1]?).map (fun f=>(f.offset,f.type)) | _=>none)=some (1,54):=by rw [Tryz.underlying70]; rfl
theorem Fd81_0:(Tryz.prog.underlying 81).bind (fun d=>match d with | .struct fs=>(fs[0]?).map (fun f=>(f.offset,f.type)) | _=>none)=some (0,77):=by rw [Tryz.underlying81]; rfl
theorem Fd81_1:(Tryz.prog.underlying 81).bind (fun d=>match d with | .struct fs=>(fs[1]?).map (fun f=>(f.offset,f.type)) | _=>none)=some (1,78):=by rw [Tryz.underlying81]; rfl
theorem Fd81_2:(Tryz.prog.underlying 81).bind (fun d=>match d with | .struct fs=>(fs[2]?).map (fun f=>(f.offset,f.type)) | _=>none)=some (2,79):=by rw [Tryz.underlying81]; rfl
theorem Fd109_0:(Tryz.prog.underlying 109).bind (fun d=>match d with | .struct fs=>(fs[0]?).map (fun f=>(f.offset,f.type)) | _=>none)=some (0,3):=by rw [Tryz.underlying109]; rfl
theorem Fd109_1:(Tryz.prog.underlying 109).bind (fun d=>match d with | .struct fs=>(fs[1]?).map (fun f=>(f.offset,f.type)) | _=>none)=some (1,3):=by rw [Tryz.underlying109]; rfl
theorem Fd138_0:(Tryz.prog.underlying 138).bind (fun d=>match d with | .struct fs=>(fs[0]?).map (fun f=>(f.offset,f.type)) | _=>none)=some (0,116):=by rw [Tryz.underlying138]; rfl
theorem Fd148_0:(Tryz.prog.underlying 148).bind (fun d=>match d with | .struct fs=>(fs[0]?).map (fun f=>(f.offset,f.type)) | _=>none)=some (0,3):=by rw [Tryz.underlying148]; rfl
theorem Fd148_1:(Tryz.prog.underlying 148).bind (fun d=>match d with | .struct fs=>(fs[1]?).map (fun f=>(f.offset,f.type)) | _=>none)=some (1,146):=by rw [Tryz.underlying148]; rfl
theorem Fd149_0:(Tryz.prog.underlying 149).bind (fun d=>match d with | .struct fs=>(fs[0]?).map (fun f=>(f.offset,f.type)) | _=>none)=some (0,3):=by rw [Tryz.underlying149]; rfl
theorem Fd149_1:(Tryz.prog.underlying 149).bind (fun d=>match d with | .struct fs=>(fs[1]?).map (fun f=>(f.offset,f.type)) | _=>none)=some (1,3):=by rw [Tryz.underlying149]; rfl
theorem Fd150_0:(Tryz.prog.underlying 150).bind (fun d=>match d with | .struct fs=>(fs[0]?).map (fun f=>(f.offset,f.type)) | _=>none)=some (0,3):=by rw [Tryz.underlying150]; rfl
theorem Fd150_1:(Tryz.prog.underlying 150).bind (fun d=>match d with | .struct fs=>(fs[1]?).map (fun f=>(f.offset,f.type)) | _=>none)=some (1,54):=by rw [Tryz.underlying150]; rfl
theorem Fd151_0:(Tryz.prog.underlying 151).bind (fun d=>match d with | .struct fs=>(fs[0]?).map (fun f=>(f.offset,f.type)) | _=>none)=some (0,3):=by rw [Tryz.underlying151]; rfl
theorem Fd151_1:(Tryz.prog.underlying 151).bind (fun d=>match d with | .struct fs=>(fs[1]?).map (fun f=>(f.offset,f.type)) | _=>none)=some (1,3):=by rw [Tryz.underlying151]; rfl
theorem Fd151_2:(Tryz.prog.underlying 151).bind (fun d=>match d with | .struct fs=>(fs[2]?).map (fun f=>(f.offset,f.type)) | _=>none)=some (2,54):=by rw [Tryz.underlying151]; rfl
theorem Fd160_0:(Tryz.prog.underlying 160).bind (fun d=>match d with | .struct fs=>(fs[0]?).map (fun f=>(f.offset,f.type)) | _=>none)=some (0,3):=by rw [Tryz.underlying160]; rfl
theorem Fd160_1:(Tryz.prog.underlying 160).bind (fun d=>match d with | .struct fs=>(fs[1]?).map (fun f=>(f.offset,f.type)) | _=>none)=some (1,3):=by rw [Tryz.underlying160]; rfl
theorem Fd177_0:(Tryz.prog.underlying 177).bind (fun d=>match d with | .struct fs=>(fs[0]?).map (fun f=>(f.offset,f.type)) | _=>none)=some (0,27):=by rw [Tryz.underlying177]; rfl
theorem Fd177_1:(Tryz.prog.underlying 177).bind (fun d=>match d with | .struct fs=>(fs[1]?).map (fun f=>(f.offset,f.type)) | _=>none)=some (3,175):=by rw [Tryz.underlying177]; rfl
theorem Fd182_0:(Tryz.prog.underlying 182).bind (fun d=>match d with | .struct fs=>(fs[0]?).map (fun f=>(f.offset,f.type)) | _=>none)=some (0,180):=by rw [Tryz.underlying182]; rfl
theorem Fd182_1:(Tryz.prog.underlying 182).bind (fun d=>match d with | .struct fs=>(fs[1]?).map (fun f=>(f.offset,f.type)) | _=>none)=some (16,180):=by rw [Tryz.underlying182]; rfl
theorem Al3:(Tryz.prog.info? 3).map (·.zero)=some (some (I 0)):=by kernel_rfl
theorem Al4:(Tryz.prog.info? 4).map (·.zero)=some (some (B false)):=by kernel_rfl
theorem Al27:(Tryz.prog.info? 27).map (·.zero)=some (some (.agg #[.slice none 0 0,.slice none 0 0,.slice none 0 0])):=by kernel_rfl
theorem Al35:(Tryz.prog.info? 35).map (·.zero)=some (some (I 0)):=by kernel_rfl
theorem Al54:(Tryz.prog.info? 54).map (·.zero)=some (some (.agg #[I 0,I 0])):=by kernel_rfl
theorem Al58:(Tryz.prog.info? 58).map (·.zero)=some (some (.agg #[I 0,I 0,I 0,I 0,B false])):=by kernel_rfl
theorem Al61:(Tryz.prog.info? 61).map (·.zero)=some (some (.agg #[I 0,I 0,I 0,I 0])):=by kernel_rfl
theorem Al68:(Tryz.prog.info? 68).map (·.zero)=some (some (.agg #[I 0,.slice none 0 0])):=by kernel_rfl
theorem Al70:(Tryz.prog.info? 70).map (·.zero)=some (some (.agg #[I 0,I 0,I 0])):=by kernel_rfl
theorem Al81:(Tryz.prog.info? 81).map (·.zero)=some (some (.agg #[.slice none 0 0,.slice none 0 0,.slice none 0 0])):=by kernel_rfl
theorem Al109:(Tryz.prog.info? 109).map (·.zero)=some (some (.agg #[I 0,I 0])):=by kernel_rfl
theorem Al116:(Tryz.prog.info? 116).map (·.zero)=some (some (.nilFunc)):=by kernel_rfl
theorem Al121:(Tryz.prog.info? 121).map (·.zero)=some (some (.agg #[B false,B false,B false,B false,B false,B false,B false,B false,B false,B false,B false,B false,B false,B false,B false,B false])):=by kernel_rfl
theorem Al138:(Tryz.prog.info? 138).map (·.zero)=some (some (.agg #[.nilFunc])):=by kernel_rfl
theorem Al148:(Tryz.prog.info? 148).map (·.zero)=some (some (.agg #[I 0,.slice none 0 0])):=by kernel_rfl
theorem Al150:(Tryz.prog.info? 150).map (·.zero)=some (some (.agg #[I 0,I 0,I 0])):=by kernel_rfl
theorem Al151:(Tryz.prog.info? 151).map (·.zero)=some (some (.agg #[I 0,I 0,I 0,I 0,B false])):=by kernel_rfl
theorem Al157:(Tryz.prog.info? 157).map (·.zero)=some (some (.nilFunc)):=by kernel_rfl
theorem Al160:(Tryz.prog.info? 160).map (·.zero)=some (some (.agg #[I 0,I 0])):=by kernel_rfl
theorem Al177:(Tryz.prog.info? 177).map (·.zero)=some (some (.agg #[.slice none 0 0,.slice none 0 0,.slice none 0 0,.map none])):=by kernel_rfl
theorem Al178:(Tryz.prog.info? 178).map (·.zero)=some (some (.pointer none)):=by kernel_rfl
theorem Al191:(Tryz.prog.info? 191).map (·.zero)=some (some (.map none)):=by kernel_rfl
theorem Bd27 {fs:Array Field} (h:Tryz.prog.underlying 27=some (.struct fs)):fs.toList.mapM (fun f=>(Tryz.prog.info? f.type).map fun i=>(f.offset,i.size))=some [(0,1),(1,1),(2,1)]:=by rw [Tryz.underlying27] at h; simp only [Option.some.injEq,TypeDesc.struct.injEq] at h; subst h; kernel_rfl
theorem Bd54 {fs:Array Field} (h:Tryz.prog.underlying 54=some (.struct fs)):fs.toList.mapM (fun f=>(Tryz.prog.info? f.type).map fun i=>(f.offset,i.size))=some [(0,1),(1,1)]:=by rw [Tryz.underlying54] at h; simp only [Option.some.injEq,TypeDesc.struct.injEq] at h; subst h; kernel_rfl
theorem Bd58 {fs:Array Field} (h:Tryz.prog.underlying 58=some (.struct fs)):fs.toList.mapM (fun f=>(Tryz.prog.info? f.type).map fun i=>(f.offset,i.size))=some [(0,1),(1,1),(2,2),(4,1)]:=by rw [Tryz.underlying58] at h; simp only [Option.some.injEq,TypeDesc.struct.injEq] at h; subst h; kernel_rfl
theorem Bd61 {fs:Array Field} (h:Tryz.prog.underlying 61=some (.struct fs)):fs.toList.mapM (fun f=>(Tryz.prog.info? f.type).map fun i=>(f.offset,i.size))=some [(0,1),(1,1),(2,1),(3,1)]:=by rw [Tryz.underlying61] at h; simp only [Option.some.injEq,TypeDesc.struct.injEq] at h; subst h; kernel_rfl
theorem Bd68 {fs:Array Field} (h:Tryz.prog.underlying 68=some (.struct fs)):fs.toList.mapM (fun f=>(Tryz.prog.info? f.type).map fun i=>(f.offset,i.size))=some [(0,1),(1,1)]:=by rw [Tryz.underlying68] at h; simp only [Option.some.injEq,TypeDesc.struct.injEq] at h; subst h; kernel_rfl
theorem Bd70 {fs:Array Field} (h:Tryz.prog.underlying 70=some (.struct fs)):fs.toList.mapM (fun f=>(Tryz.prog.info? f.type).map fun i=>(f.offset,i.size))=some [(0,1),(1,2)]:=by rw [Tryz.underlying70] at h; simp only [Option.some.injEq,TypeDesc.struct.injEq] at h; subst h; kernel_rfl
theorem Bd109 {fs:Array Field} (h:Tryz.prog.underlying 109=some (.struct fs)):fs.toList.mapM (fun f=>(Tryz.prog.info? f.type).map fun i=>(f.offset,i.size))=some [(0,1),(1,1)]:=by rw [Tryz.underlying109] at h; simp only [Option.some.injEq,TypeDesc.struct.injEq] at h; subst h; kernel_rfl
theorem Bd138 {fs:Array Field} (h:Tryz.prog.underlying 138=some (.struct fs)):fs.toList.mapM (fun f=>(Tryz.prog.info? f.type).map fun i=>(f.offset,i.size))=some [(0,1)]:=by rw [Tryz.underlying138] at h; simp only [Option.some.injEq,TypeDesc.struct.injEq] at h; subst h; kernel_rfl
theorem Bd148 {fs:Array Field} (h:Tryz.prog.underlying 148=some (.struct fs)):fs.toList.mapM (fun f=>(Tryz.prog.info? f.type).map fun i=>(f.offset,i.size))=some [(0,1),(1,1)]:=by rw [Tryz.underlying148] at h; simp only [Option.some.injEq,TypeDesc.struct.injEq] at h; subst h; kernel_rfl
theorem Bd160 {fs:Array Field} (h:Tryz.prog.underlying 160=some (.struct fs)):fs.toList.mapM (fun f=>(Tryz.prog.info? f.type).map fun i=>(f.offset,i.size))=some [(0,1),(1,1)]:=by rw [Tryz.underlying160] at h; simp only [Option.some.injEq,TypeDesc.struct.injEq] at h; subst h; kernel_rfl
theorem Bd177 {fs:Array Field} (h:Tryz.prog.underlying 177=some (.struct fs)):fs.toList.mapM (fun f=>(Tryz.prog.info? f.type).map fun i=>(f.offset,i.size))=some [(0,3),(3,1)]:=by rw [Tryz.underlying177] at h; simp only [Option.some.injEq,TypeDesc.struct.injEq] at h; subst h; kernel_rfl
theorem Bd182 {fs:Array Field} (h:Tryz.prog.underlying 182=some (.struct fs)):fs.toList.mapM (fun f=>(Tryz.prog.info? f.type).map fun i=>(f.offset,i.size))=some [(0,16),(16,16)]:=by rw [Tryz.underlying182] at h; simp only [Option.some.injEq,TypeDesc.struct.injEq] at h; subst h; kernel_rfl
theorem mixed:Tryz.prog.follows .mixedOrders=true:=by kernel_rfl
theorem Al182:(Tryz.prog.info? 182).map (·.zero)=some (some (.agg (List.flatten [[],encF (α:=Int) (List.replicate 16 0),encF (α:=Int) (List.replicate 16 0)]).toArray)):=by kernel_rfl

end Go.Proofs.YtlemgioaakecpaaGreat
namespace Go.Nm
open Go
abbrev encSpt (x:Spot):Value:=.agg #[I x.sec,I x.stage]
theorem bool_val (o:Option Bool):(o.map B).getD (.bool false)=B (o.getD false):=by cases o <;> rfl
end Go.Nm
namespace Go.Proofs.YtlemgioaakecpaaGreat
open Go Go.Nm Go.Proofs
theorem keyIntB:KeyL (ν:=Bool) Tryz.prog 3 I:=KeyL.int Tryz.underlying3
theorem findAskSpt {ν:Type} (k:Spot) (w:World):∀ (es:List MapEntry) (m:List (Spot × ν)) (venc:ν->Value) (j:Nat),es.map (fun e=>(e.key,e.val))=m.map (fun p=>(encSpt p.1,venc p.2)) →
    (Instr.findAsking 160 (encSpt k) es j).run Tryz.prog w = .ok ((idxM m k).bind fun i=>(es[i]?).map fun e=>(i+j,e.val)) w
  | [],[],_,_,_=>rfl
  | [],_ :: _,_,_,h=>by simp at h
  | _ :: _,[],_,_,h=>by simp at h
  | e :: es,p :: m,venc,j,h=>by
    simp only [List.map_cons,List.cons.injEq,Prod.mk.injEq] at h
    have ih:=findAskSpt k w es m venc (j+1) h.2
    unfold Instr.findAsking
    rw [h.1.1]
    have he:=eqT160 k p.1 w
    unfold idxM
    by_cases hp:p.1=k
    · rw [if_pos hp]
      have:decide (k=p.1)=true:=by simp [hp]
      rw [this] at he
      simp [Op.equal,Op.maxDepth,he]
    · rw [if_neg hp]
      have:decide (k=p.1)=false:=by simp; exact fun e=>hp e.symm
      rw [this] at he
      simp only [Op.equal,Op.maxDepth,Sem.run_bind,he,Result.andThen_ok,Bool.false_eq_true,if_false,ih]
      cases hi:idxM m k with
      | none=>rfl
      | some i =>
        simp only [Option.map_some,Option.bind_some,List.getElem?_cons_succ]
        cases es[i]? with
        | none=>rfl
        | some e'=>simp; omega
theorem keySpot:KeyL (ν:=Int) Tryz.prog 160 encSpt:=by
  refine ⟨fun e w k=>?_,fun w es m venc k h=>?_,fun k=>?_⟩
  · have u3:=Tryz.underlying3
    have a3:=Tryz.isAgg3
    have z3:=Tryz.sizeOf3
    have h1:∀ (n:Nat) (x:Int),(Instr.checkKey e (n+1) 3 (I x)).run Tryz.prog w = .ok () w:=fun n x=>MapKept.run_checkKey u3 (show MapKept.IsKey (.int .i64) (I x) from rfl) e n
    have key:∀ n:Nat,(Instr.checkKey e (n+1+1) 160 (encSpt k)).run Tryz.prog w = .ok () w:=by
      intro n
      rw [Instr.checkKey]
      simp only [Sem.run_bind,run_underlying Tryz.underlying160,Result.andThen_ok]
      rw [← Array.forIn_toList]
      simp only [List.forIn_cons,List.forIn_nil]
      go_simp
    exact key 9998
  · rw [run_findKey_eq w (by rw [Tryz.underlying160]),findAskSpt k w es m venc 0 h]
    rfl
  · simp [Instr.sameBits]
end Go.Proofs.YtlemgioaakecpaaGreat
section
set_option maxRecDepth 100000
set_option maxHeartbeats 16000000
namespace Go.Proofs.YtlemgioaakecpaaGreat
open Go Go.Nm
def m_cmp_isNaN_int (x:Int):M Bool :=
  M.pure (x != x)
theorem cmp_isNaN_int_ok {R:List Chunk}  (x:Int)  {r:Bool} (hM:(m_cmp_isNaN_int x).Ends r) (w:World) (H:St w w [] R):Ret Tryz.prog 138 #[I x] w fun v w'=>∃ (y0:Bool),y0=r/\v=B y0/\St w w' [] R:=by
 refine ret_of_W Tryz.func138 rfl rfl rfl ?_
 refine W.seq ?_
 refine W.region rfl ?_
 refine zA (B false) rfl ?_
 refine s_nil ?_
 refine W.seq ?_
 refine W.region rfl ?_
 refine zM (I x) rfl ?_
 refine zM (I x) rfl ?_
 refine zC x x (x != x) rfl rfl rfl ?_
 refine zA (B (x != x)) rfl ?_
 refine s_nil ?_
 refine W.ret ?_
 have aa:=M.e_pure hM
 exact ⟨_,resE_tmp rfl,⟨(x != x),aa,rfl,H⟩⟩

def m_cmp_Compare_int (x:Int) (y:Int):M Int :=
  M.bind (m_cmp_isNaN_int x) fun r2 =>
  M.bind (m_cmp_isNaN_int y) fun r3 =>
  bif r2 then (
  bif r3 then (
  M.pure 0)
  else (
  M.pure (-1)))
  else (
  bif r3 then (
  M.pure 1)
  else (
  bif decide (x<y) then (
  M.pure (-1))
  else (
  bif decide (y<x) then (
  M.pure 1)
  else (
  M.pure 0))))
theorem cmp_Compare_int_ok {R:List Chunk}  (x:Int) (y:Int)  {r:Int} (hM:(m_cmp_Compare_int x y).Ends r) (w:World) (H:St w w [] R):Ret Tryz.prog 118 #[I x,I y] w fun v w'=>∃ (y0:Int),y0=r/\v=I y0/\St w w' [] R:=by
 refine ret_of_W Tryz.func118 rfl rfl rfl ?_
 refine W.seq ?_
 refine W.region rfl ?_
 refine zA (I 0) rfl ?_
 refine s_nil ?_
 refine W.seq ?_
 refine W.region rfl ?_
 refine zM (I x) rfl ?_
 obtain ⟨aq,ak,hM⟩:=M.e_bind hM
 refine s_call cf138 [I x] rfl (cmp_isNaN_int_ok x ak _ (H.gt 0)) ?_
 rintro vq au ⟨r2,am,hvq,ab⟩
 subst am
 subst vq
 try dsimp only at hM
 replace H:=H.bk ab
 clear ab
 refine zA (B r2) rfl ?_
 refine s_nil ?_
 refine W.seq ?_
 refine W.region rfl ?_
 refine zM (I y) rfl ?_
 obtain ⟨av,ao,hM⟩:=M.e_bind hM
 refine s_call cf138 [I y] rfl (cmp_isNaN_int_ok y ao _ (H.gt 0)) ?_
 rintro vq aw ⟨r3,ap,hvq,ab⟩
 subst ap
 subst vq
 try dsimp only at hM
 replace H:=H.bk ab
 clear ab
 refine zA (B r3) rfl ?_
 refine s_nil ?_
 refine W.seq ?_
 refine W.seq ?_
 refine W.region rfl ?_
 refine zM (B r2) rfl ?_
 refine s_nil ?_
 refine W.cond r2 rfl (fun ag=>?_) (fun ag=>?_)
 ·replace hM:=M.e_t hM ag
  refine W.seq ?_
  refine W.seq ?_
  refine W.region rfl ?_
  refine zM (B r3) rfl ?_
  refine s_nil ?_
  refine W.cond r3 rfl (fun ai=>?_) (fun ai=>?_)
  ·replace hM:=M.e_t hM ai
   refine W.seq ?_
   refine W.region rfl ?_
   refine zA (I 0) rfl ?_
   refine s_nil ?_
   refine W.ret ?_
   have aa:=M.e_pure hM
   exact ⟨_,resE_tmp rfl,⟨0,aa,rfl,H⟩⟩
  replace hM:=M.e_f hM ai
  refine W.skip ?_
  refine W.seq ?_
  refine W.region rfl ?_
  refine zA (I (-1)) rfl ?_
  refine s_nil ?_
  refine W.ret ?_
  have aa:=M.e_pure hM
  exact ⟨_,resE_tmp rfl,⟨(-1),aa,rfl,H⟩⟩
 replace hM:=M.e_f hM ag
 refine W.skip ?_
 refine W.seq ?_
 refine W.seq ?_
 refine W.region rfl ?_
 refine zM (B r3) rfl ?_
 refine s_nil ?_
 refine W.cond r3 rfl (fun aj=>?_) (fun aj=>?_)
 ·replace hM:=M.e_t hM aj
  refine W.seq ?_
  refine W.region rfl ?_
  refine zA (I 1) rfl ?_
  refine s_nil ?_
  refine W.ret ?_
  have aa:=M.e_pure hM
  exact ⟨_,resE_tmp rfl,⟨1,aa,rfl,H⟩⟩
 replace hM:=M.e_f hM aj
 refine W.skip ?_
 refine W.seq ?_
 refine W.seq ?_
 refine W.region rfl ?_
 refine zM (I x) rfl ?_
 refine zM (I y) rfl ?_
 refine zC x y (decide (x<y)) rfl rfl rfl ?_
 refine s_nil ?_
 refine W.cond (decide (x<y)) rfl (fun ac=>?_) (fun ac=>?_)
 ·replace hM:=M.e_t hM ac
  simp only [qy1,qy2,qy3,qy4,qy5,qy6,ne_eq,qy7] at ac
  refine W.seq ?_
  refine W.region rfl ?_
  refine zA (I (-1)) rfl ?_
  refine s_nil ?_
  refine W.ret ?_
  have aa:=M.e_pure hM
  exact ⟨_,resE_tmp rfl,⟨(-1),aa,rfl,H⟩⟩
 replace hM:=M.e_f hM ac
 simp only [qy1,qy2,qy3,qy4,qy5,qy6,ne_eq,qy7] at ac
 refine W.skip ?_
 refine W.seq ?_
 refine W.seq ?_
 refine W.region rfl ?_
 refine zM (I x) rfl ?_
 refine zM (I y) rfl ?_
 refine zC x y (decide (y<x)) rfl rfl rfl ?_
 refine s_nil ?_
 refine W.cond (decide (y<x)) rfl (fun ae=>?_) (fun ae=>?_)
 ·replace hM:=M.e_t hM ae
  simp only [qy1,qy2,qy3,qy4,qy5,qy6,ne_eq,qy7] at ae
  refine W.seq ?_
  refine W.region rfl ?_
  refine zA (I 1) rfl ?_
  refine s_nil ?_
  refine W.ret ?_
  have aa:=M.e_pure hM
  exact ⟨_,resE_tmp rfl,⟨1,aa,rfl,H⟩⟩
 replace hM:=M.e_f hM ae
 simp only [qy1,qy2,qy3,qy4,qy5,qy6,ne_eq,qy7] at ae
 refine W.skip ?_
 refine W.seq ?_
 refine W.region rfl ?_
 refine zA (I 0) rfl ?_
 refine s_nil ?_
 refine W.ret ?_
 have aa:=M.e_pure hM
 exact ⟨_,resE_tmp rfl,⟨0,aa,rfl,H⟩⟩

def za2 (r_:FRow) (stage:Int):M Int :=
  M.bind (m_cmp_Compare_int r_.stage stage) fun r2 =>
  M.pure r2
theorem zc2 {R:List Chunk}  (r_:FRow) (stage:Int)  {r:Int} (hM:(za2 r_ stage).Ends r) (w:World) (H:St w w [] R):Ret Tryz.prog 117 #[.agg #[I r_.stage,I r_.carry],I stage] w fun v w'=>∃ (y0:Int),y0=r/\v=I y0/\St w w' [] R:=by
 refine ret_of_W Tryz.func117 rfl rfl rfl ?_
 refine W.seq ?_
 refine W.region rfl ?_
 refine t_box (v:=.agg #[I r_.stage,I r_.carry]) (cs:=[I r_.stage,I r_.carry]) H rfl rfl ?_
 intro aa ai H
 refine zA (I 0) rfl ?_
 refine s_nil ?_
 refine W.seq ?_
 refine W.region rfl ?_
 refine s_val (x_fa (a:=Pq aa) (v:=Pq aa) rfl (fa_blk (o:=0) Fd109_0 Sz3)) ?_
 refine s_val (x_ld (p:=Pq aa) (v:=I r_.stage) rfl (ldb_sc Sc3 (H.bl 0) rfl)) ?_
 refine zM (I stage) rfl ?_
 obtain ⟨aj,ac,hM⟩:=M.e_bind hM
 refine s_call cf118 [I r_.stage,I stage] rfl (cmp_Compare_int_ok r_.stage stage ac _ (H.gt 1)) ?_
 rintro vq ak ⟨r2,ae,hvq,ab⟩
 subst ae
 subst vq
 try dsimp only at hM
 replace H:=H.bk ab
 clear ab
 refine zA (I r2) rfl ?_
 refine s_nil ?_
 refine W.ret ?_
 have ag:=M.e_pure hM
 exact ⟨_,resE_tmp rfl,⟨r2,ag,rfl,(H.pk [])⟩⟩

def zbO (x:List FRow) (target:Int):(Int × Int)->M ((Int × Int) ⊕ Int):=fun (i,j) =>
  bif decide (i<j) then (
  M.grd (decide ((-9223372036854775808:Int)<=(i+j))&&decide ((i+j)<=(9223372036854775807:Int))) <|
  M.grd (decide ((0:Int)<=(i+j))&&decide ((i+j)<=(9223372036854775807:Int))) <|
  M.grd (decide ((0:Int)<=((i+j) / 2))&&decide (((i+j) / 2)<=(9223372036854775807:Int))) <|
  M.grd (decide ((0:Int)<=((i+j) / 2))&&decide (((i+j) / 2)<(x.length:Int))) <|
  M.bind (za2 (x.getD (Int.toNat ((i+j) / 2)) default) target) fun r2 =>
  bif decide (r2<0) then (
  M.pure (.inl (((i+j) / 2)+1,j)))
  else (
  M.pure (.inl (i,(i+j) / 2))))
  else (
  M.pure (.inr i))
def zb6 (x:List FRow) (target:Int):M (Int × Bool) :=
  M.bind (M.iter (zbO x target) (0,(x.length:Int))) fun i2 =>
  M.grd ((!(decide (i2<(x.length:Int)))||(decide ((0:Int)<=i2)&&decide (i2<(x.length:Int))))) <|
  M.bind (M.opt (decide (i2<(x.length:Int))) (za2 (x.getD (Int.toNat i2) default) target) 0) fun r3 =>
  M.pure (i2,((decide (i2<(x.length:Int)))&&(r3==0)))
theorem zdA {R:List Chunk} {ap:Cells} {ab:Value} (x:List FRow) (target:Int) (aq:Reads R ap) (ag:Sl ap ab x) {r:(Int × Bool)} (hM:(zb6 x target).Ends r) (w:World) (H:St w w [] R):Ret Tryz.prog 116 #[ab,I target,.func (.func 117) #[] #[]] w fun v w'=>∃ (y0:Int) (y1:Bool),(y0,y1)=r/\v = .tuple #[I y0,B y1]/\St w w' [] R:=by
 refine ret_of_W Tryz.func116 rfl rfl rfl ?_
 refine W.seq ?_
 refine W.region rfl ?_
 refine zA (I 0) rfl ?_
 refine zA (B false) rfl ?_
 refine s_nil ?_
 refine W.seq ?_
 refine W.region rfl ?_
 refine zM ab rfl ?_
 have aJ:=(ag).len_le
 refine s_val (x_lenS T66.und rfl ag) ?_
 refine zA (I (x.length:Int)) rfl ?_
 refine s_nil ?_
 refine W.seq ?_
 refine W.region rfl ?_
 refine zM (I (x.length:Int)) rfl ?_
 refine zA (I 0) rfl ?_
 refine zA (I (x.length:Int)) rfl ?_
 refine s_nil ?_
 refine W.seq ?_
 refine W.block ?_
 obtain ⟨ay,ak,az⟩:=M.e_bind hM
 obtain ⟨aK,ak⟩:=M.e_iter ak
 refine W.loop (fun m σ W=>∃ (i:Int) (j:Int) (ρ:Env),σ=upds ρ [(0,ab),(1,I target),(2,.func (.func 117) #[] #[]),(8,I (x.length:Int)),(9,I i),(10,I j)]/\M.iterN (zbO x target) m (i,j)=some ay/\St w W [] R) ?_ ?_
 ·exact ⟨_,0,(x.length:Int),_,upds_of _ _ ⟨rfl,rfl,rfl,rfl,rfl,rfl,trivial⟩,ak,H⟩
 rintro aL σ aM ⟨i,j,ρ,rfl,au,H⟩
 obtain ⟨av,aw,aN,hM,am⟩:=M.e_iterN au
 simp only [zbO] at hM
 clear au
 refine W.seq ?_
 refine W.seq ?_
 refine W.region rfl ?_
 refine zM (I i) rfl ?_
 refine zM (I j) rfl ?_
 refine zC i j (decide (i<j)) rfl rfl rfl ?_
 refine s_nil ?_
 refine W.cond (decide (i<j)) rfl (fun ai=>?_) (fun ai=>?_)
 ·replace hM:=M.e_t hM ai
  simp only [qy1,qy2,qy3,qy4,qy5,qy6,ne_eq,qy7] at ai
  refine W.skip ?_
  refine W.block ?_
  refine W.seq ?_
  refine W.region rfl ?_
  refine zM (I i) rfl ?_
  refine zM (I j) rfl ?_
  obtain ⟨aA,hM⟩:=M.e_grd hM
  simp only [Bool.and_eq_true,decide_eq_true_eq] at aA
  refine zR i j (i+j) rfl rfl rfl (by omega) ?_
  obtain ⟨aB,hM⟩:=M.e_grd hM
  simp only [Bool.and_eq_true,decide_eq_true_eq] at aB
  refine s_val (x_convU (kd:=.i64) (a:=i+j) Tryz.underlying3 Tryz.underlying185 rfl (by omega)) ?_
  refine s_val (x_ushr1 (a:=i+j) rfl rfl) ?_
  obtain ⟨aC,hM⟩:=M.e_grd hM
  simp only [Bool.and_eq_true,decide_eq_true_eq] at aC
  refine s_val (x_conv64 (kd:=.u64) (a:=(i+j) / 2) Tryz.underlying185 Tryz.underlying3 rfl (by omega)) ?_
  refine zA (I ((i+j) / 2)) rfl ?_
  refine s_nil ?_
  refine W.seq ?_
  refine W.region rfl ?_
  refine zM (.func (.func 117) #[] #[]) rfl ?_
  refine zM ab rfl ?_
  refine zM (I ((i+j) / 2)) rfl ?_
  obtain ⟨aD,hM⟩:=M.e_grd hM
  simp only [Bool.and_eq_true,decide_eq_true_eq] at aD
  refine s_val (x_ix (a:=ab) (b:=I ((i+j) / 2)) (v:=vat ab 2 (Int.toNat ((i+j) / 2))) rfl rfl (Sl.ix (α:=FRow) T66.und T66.size ag (by omega) (by omega))) ?_
  refine s_val (x_ld (p:=vat ab 2 (Int.toNat ((i+j) / 2))) (v:=.agg #[I ((x.getD (Int.toNat ((i+j) / 2)) default).stage),I ((x.getD (Int.toNat ((i+j) / 2)) default).carry)]) rfl (ld_ag Ag109 Sz109 (At.mono (FRow_atA ag (i:=(i+j) / 2) (by omega) (by omega)) (aq.at H)))) ?_
  refine zM (I target) rfl ?_
  obtain ⟨aO,aE,hM⟩:=M.e_bind hM
  refine s_callv (f:=117) rfl cf117 [.agg #[I ((x.getD (Int.toNat ((i+j) / 2)) default).stage),I ((x.getD (Int.toNat ((i+j) / 2)) default).carry)],I target] rfl (zc2 (x.getD (Int.toNat ((i+j) / 2)) default) target aE _ (H.gt 0)) ?_
  rintro vq aP ⟨r2,aF,hvq,ax⟩
  subst aF
  subst vq
  try dsimp only at hM
  replace H:=H.bk ax
  clear ax
  refine zC r2 0 (decide (r2<0)) rfl rfl rfl ?_
  refine s_nil ?_
  refine W.cond (decide (r2<0)) rfl (fun aj=>?_) (fun aj=>?_)
  ·replace hM:=M.e_t hM aj
   simp only [qy1,qy2,qy3,qy4,qy5,qy6,ne_eq,qy7] at aj
   refine W.region rfl ?_
   refine zM (I ((i+j) / 2)) rfl ?_
   refine zR ((i+j) / 2) 1 (((i+j) / 2)+1) rfl rfl rfl (by omega) ?_
   refine zA (I (((i+j) / 2)+1)) rfl ?_
   refine s_nil ?_
   exact ⟨av,aw,((i+j) / 2)+1,j,_,upds_of _ _ ⟨rfl,rfl,rfl,rfl,rfl,rfl,trivial⟩,M.e_inl hM am,H⟩
  replace hM:=M.e_f hM aj
  simp only [qy1,qy2,qy3,qy4,qy5,qy6,ne_eq,qy7] at aj
  refine W.region rfl ?_
  refine zM (I ((i+j) / 2)) rfl ?_
  refine zA (I ((i+j) / 2)) rfl ?_
  refine s_nil ?_
  exact ⟨av,aw,i,(i+j) / 2,_,upds_of _ _ ⟨rfl,rfl,rfl,rfl,rfl,rfl,trivial⟩,M.e_inl hM am,H⟩
 replace hM:=M.e_f hM ai
 simp only [qy1,qy2,qy3,qy4,qy5,qy6,ne_eq,qy7] at ai
 refine W.exit ?_
 have aG:=M.e_inr hM am
 subst aG
 replace hM:=az
 try dsimp only at hM
 refine W.seq ?_
 refine W.region rfl ?_
 refine zM (I i) rfl ?_
 refine zM (I i) rfl ?_
 refine zM (I (x.length:Int)) rfl ?_
 refine zC i (x.length:Int) (decide (i<(x.length:Int))) rfl rfl rfl ?_
 refine zM (B (decide (i<(x.length:Int)))) rfl ?_
 refine g_val (decide (i<(x.length:Int))) (gy_t rfl) (fun hg=>x_mv (v:=.func (.func 117) #[] #[]) rfl) ?_
 refine g_val (decide (i<(x.length:Int))) (gy_t rfl) (fun hg=>x_mv (v:=ab) rfl) ?_
 refine g_val (decide (i<(x.length:Int))) (gy_t rfl) (fun hg=>x_mv (v:=I i) rfl) ?_
 obtain ⟨ac,hM⟩:=M.e_grd hM
 replace ac:=M.imp_of ac
 simp only [Bool.and_eq_true,decide_eq_true_eq] at ac
 refine g_val (decide (i<(x.length:Int))) (gy_t rfl) (fun hg=>x_ix (a:=ab) (b:=I i) (v:=vat ab 2 (Int.toNat i)) (gd_of (c:=decide (i<(x.length:Int))) hg (ab)) (gd_of (c:=decide (i<(x.length:Int))) hg (I i)) (Sl.ix (α:=FRow) T66.und T66.size ag (by have aa:=ac.resolve_left (by rw [hg]; decide); first | exact aa | exact aa.1 | exact aa.2 | omega | (have ae:=hg; simp at ae; omega)) (by have aa:=ac.resolve_left (by rw [hg]; decide); first | exact aa | exact aa.1 | exact aa.2 | omega | (have ae:=hg; simp at ae; omega)))) ?_
 refine g_val (decide (i<(x.length:Int))) (gy_t rfl) (fun hg=>x_ld (p:=vat ab 2 (Int.toNat i)) (v:=.agg #[I ((x.getD (Int.toNat i) default).stage),I ((x.getD (Int.toNat i) default).carry)]) (gd_of (c:=decide (i<(x.length:Int))) hg (vat ab 2 (Int.toNat i))) (ld_ag Ag109 Sz109 (At.mono (FRow_atA ag (i:=i) (by have aa:=ac.resolve_left (by rw [hg]; decide); first | exact aa | exact aa.1 | exact aa.2 | omega | (have ae:=hg; simp at ae; omega)) (by have aa:=ac.resolve_left (by rw [hg]; decide); first | exact aa | exact aa.1 | exact aa.2 | omega | (have ae:=hg; simp at ae; omega))) (aq.at H)))) ?_
 refine g_val (decide (i<(x.length:Int))) (gy_t rfl) (fun hg=>x_mv (v:=I target) rfl) ?_
 obtain ⟨r3,aH,hM⟩:=M.e_bind hM
 refine t_gcallv (cap:=[]) (decide (i<(x.length:Int))) (gy_t rfl) cf117 (fun hg=>(gd_of (c:=decide (i<(x.length:Int))) hg (.func (.func 117) #[] #[]))) (I r3) (fun _=>[.agg #[I ((x.getD (Int.toNat i) default).stage),I ((x.getD (Int.toNat i) default).carry)],I target]) (fun hg=>lst2 (gd_of (c:=decide (i<(x.length:Int))) hg (.agg #[I ((x.getD (Int.toNat i) default).stage),I ((x.getD (Int.toNat i) default).carry)])) (gd_of (c:=decide (i<(x.length:Int))) hg (I target))) H (fun hg=>(zc2 (x.getD (Int.toNat i) default) target (M.e_opt aH hg) _ (H.give (A:=[]) rfl)).mono fun v_ w_ ⟨y_,ao,aI,H_⟩=>by subst ao; exact ⟨aI,H.via H_⟩) ?_
 intro aQ H
 refine g_val (decide (i<(x.length:Int))) (gy_t rfl) (fun hg=>x_cmp (kd:=.i64) (a:=r3) (b:=0) (r:=r3==0) (gd_of (c:=decide (i<(x.length:Int))) hg (I r3)) rfl rfl) ?_
 refine s_val (x_pand (b:=decide (i<(x.length:Int))) (r:=r3==0) rfl (fun hb=>gd_of (c:=decide (i<(x.length:Int))) (by first | exact hb | (rw [hb]; rfl) | simp_all) (B (r3==0))) rfl) ?_
 refine zA (I i) rfl ?_
 refine zA (B ((decide (i<(x.length:Int)))&&(r3==0))) rfl ?_
 refine s_nil ?_
 refine W.ret ?_
 have ao:=M.e_pure hM
 exact ⟨_,resE_tmp2 rfl,⟨i,((decide (i<(x.length:Int)))&&(r3==0)),ao,rfl,H⟩⟩

def zaa (aa:List Sect) (ab:List Mrk) (ac:List Rch) (x:Spot):M Int :=
  M.grd (decide ((0:Int)<=x.sec)&&decide (x.sec<(aa.length:Int))) <|
  M.bind (zb6 ((aa.getD (Int.toNat x.sec) default).rows) x.stage) fun (r0,r1) =>
  bif r1 then (
  M.grd (decide ((0:Int)<=r0)&&decide (r0<(((aa.getD (Int.toNat x.sec) default).rows).length:Int))) <|
  M.pure ((((aa.getD (Int.toNat x.sec) default).rows).getD (Int.toNat r0) default).carry))
  else (
  bif r0==(((aa.getD (Int.toNat x.sec) default).rows).length:Int) then (
  M.grd (decide ((-9223372036854775808:Int)<=(r0-1))&&decide ((r0-1)<=(9223372036854775807:Int))) <|
  M.grd (decide ((0:Int)<=(r0-1))&&decide ((r0-1)<(((aa.getD (Int.toNat x.sec) default).rows).length:Int))) <|
  M.pure ((((aa.getD (Int.toNat x.sec) default).rows).getD (Int.toNat (r0-1)) default).carry))
  else (
  bif decide (0<r0) then (
  M.grd (decide ((-9223372036854775808:Int)<=(r0-1))&&decide ((r0-1)<=(9223372036854775807:Int))) <|
  M.grd (decide ((0:Int)<=(r0-1))&&decide ((r0-1)<(((aa.getD (Int.toNat x.sec) default).rows).length:Int))) <|
  M.grd (decide ((0:Int)<=r0)&&decide (r0<(((aa.getD (Int.toNat x.sec) default).rows).length:Int))) <|
  M.grd (decide ((-9223372036854775808:Int)<=(((((aa.getD (Int.toNat x.sec) default).rows).getD (Int.toNat r0) default).carry)-((((aa.getD (Int.toNat x.sec) default).rows).getD (Int.toNat (r0-1)) default).carry)))&&decide ((((((aa.getD (Int.toNat x.sec) default).rows).getD (Int.toNat r0) default).carry)-((((aa.getD (Int.toNat x.sec) default).rows).getD (Int.toNat (r0-1)) default).carry))<=(9223372036854775807:Int))) <|
  M.grd (decide ((-9223372036854775808:Int)<=(x.stage-((((aa.getD (Int.toNat x.sec) default).rows).getD (Int.toNat (r0-1)) default).stage)))&&decide ((x.stage-((((aa.getD (Int.toNat x.sec) default).rows).getD (Int.toNat (r0-1)) default).stage))<=(9223372036854775807:Int))) <|
  M.grd (decide ((-9223372036854775808:Int)<=((((((aa.getD (Int.toNat x.sec) default).rows).getD (Int.toNat r0) default).carry)-((((aa.getD (Int.toNat x.sec) default).rows).getD (Int.toNat (r0-1)) default).carry))*(x.stage-((((aa.getD (Int.toNat x.sec) default).rows).getD (Int.toNat (r0-1)) default).stage))))&&decide (((((((aa.getD (Int.toNat x.sec) default).rows).getD (Int.toNat r0) default).carry)-((((aa.getD (Int.toNat x.sec) default).rows).getD (Int.toNat (r0-1)) default).carry))*(x.stage-((((aa.getD (Int.toNat x.sec) default).rows).getD (Int.toNat (r0-1)) default).stage)))<=(9223372036854775807:Int))) <|
  M.grd (decide ((-9223372036854775808:Int)<=(((((aa.getD (Int.toNat x.sec) default).rows).getD (Int.toNat r0) default).stage)-((((aa.getD (Int.toNat x.sec) default).rows).getD (Int.toNat (r0-1)) default).stage)))&&decide ((((((aa.getD (Int.toNat x.sec) default).rows).getD (Int.toNat r0) default).stage)-((((aa.getD (Int.toNat x.sec) default).rows).getD (Int.toNat (r0-1)) default).stage))<=(9223372036854775807:Int))) <|
  M.grd (decide (0<=((((((aa.getD (Int.toNat x.sec) default).rows).getD (Int.toNat r0) default).carry)-((((aa.getD (Int.toNat x.sec) default).rows).getD (Int.toNat (r0-1)) default).carry))*(x.stage-((((aa.getD (Int.toNat x.sec) default).rows).getD (Int.toNat (r0-1)) default).stage))))&&decide (((((((aa.getD (Int.toNat x.sec) default).rows).getD (Int.toNat r0) default).carry)-((((aa.getD (Int.toNat x.sec) default).rows).getD (Int.toNat (r0-1)) default).carry))*(x.stage-((((aa.getD (Int.toNat x.sec) default).rows).getD (Int.toNat (r0-1)) default).stage)))<=(9223372036854775807:Int))&&decide ((0:Int)<(((((aa.getD (Int.toNat x.sec) default).rows).getD (Int.toNat r0) default).stage)-((((aa.getD (Int.toNat x.sec) default).rows).getD (Int.toNat (r0-1)) default).stage)))) <|
  M.grd (decide ((-9223372036854775808:Int)<=(((((aa.getD (Int.toNat x.sec) default).rows).getD (Int.toNat (r0-1)) default).carry)+(((((((aa.getD (Int.toNat x.sec) default).rows).getD (Int.toNat r0) default).carry)-((((aa.getD (Int.toNat x.sec) default).rows).getD (Int.toNat (r0-1)) default).carry))*(x.stage-((((aa.getD (Int.toNat x.sec) default).rows).getD (Int.toNat (r0-1)) default).stage))) / (((((aa.getD (Int.toNat x.sec) default).rows).getD (Int.toNat r0) default).stage)-((((aa.getD (Int.toNat x.sec) default).rows).getD (Int.toNat (r0-1)) default).stage)))))&&decide ((((((aa.getD (Int.toNat x.sec) default).rows).getD (Int.toNat (r0-1)) default).carry)+(((((((aa.getD (Int.toNat x.sec) default).rows).getD (Int.toNat r0) default).carry)-((((aa.getD (Int.toNat x.sec) default).rows).getD (Int.toNat (r0-1)) default).carry))*(x.stage-((((aa.getD (Int.toNat x.sec) default).rows).getD (Int.toNat (r0-1)) default).stage))) / (((((aa.getD (Int.toNat x.sec) default).rows).getD (Int.toNat r0) default).stage)-((((aa.getD (Int.toNat x.sec) default).rows).getD (Int.toNat (r0-1)) default).stage))))<=(9223372036854775807:Int))) <|
  M.pure (((((aa.getD (Int.toNat x.sec) default).rows).getD (Int.toNat (r0-1)) default).carry)+(((((((aa.getD (Int.toNat x.sec) default).rows).getD (Int.toNat r0) default).carry)-((((aa.getD (Int.toNat x.sec) default).rows).getD (Int.toNat (r0-1)) default).carry))*(x.stage-((((aa.getD (Int.toNat x.sec) default).rows).getD (Int.toNat (r0-1)) default).stage))) / (((((aa.getD (Int.toNat x.sec) default).rows).getD (Int.toNat r0) default).stage)-((((aa.getD (Int.toNat x.sec) default).rows).getD (Int.toNat (r0-1)) default).stage)))))
  else (
  M.pure 0)))
theorem zcq {R:List Chunk} {ab:Nat} {aF:Cells} {au:Value} {aG:Cells} {aH:Value} {aI:Cells} {aJ:Value} {aj:Nat} (aa:List Sect) (aA:List Mrk) (aB:List Rch) (x:Spot) (ax:Reads R aF) (aC:Sl aF au aa) (bm:Reads R aG) (bn:Sl aG aH aA) (bo:Reads R aI) (bp:Sl aI aJ aB) (av:Has R (cBlk ab [au,aH,aJ,.map (some aj)] 177)) {r:Int} (hM:(zaa aa aA aB x).Ends r) (w:World) (H:St w w [cMemI encSpt aj (zaa aa aA aB)] R):Ret Tryz.prog 83 #[Pq ab,.agg #[I x.sec,I x.stage]] w fun v w'=>∃ (y0:Int),y0=r/\v=I y0/\St w w' [cMemI encSpt aj (zaa aa aA aB)] R:=by
 refine ret_of_W Tryz.func83 rfl rfl rfl ?_
 have hM0:=hM
 obtain ⟨ak,H,aw⟩:=St.memOpenI H (i:=0) rfl
 replace H:=H.nf
 cases aD:ak x with
 | none =>
  refine W.seq ?_
  refine W.region rfl ?_
  refine t_box (v:=.agg #[I x.sec,I x.stage]) (cs:=[I x.sec,I x.stage]) H rfl rfl ?_
  intro ac bq H
  refine zA (I 0) rfl ?_
  refine s_nil ?_
  refine W.seq ?_
  refine W.seq ?_
  refine W.draw (fun W=>St w W [cBlk ac [I x.sec,I x.stage] 160] R) [(0,true),(1,true),(2,true),(3,true),(4,true),(5,false),(6,true),(7,true),(8,true),(9,true),(10,true)] mixed (by decide +kernel) rfl ?_
  intro br ae
  replace H:=H.ext ae
  clear ae
  refine ⟨(H.pk [0]),?_⟩
  refine d_q rfl (fun w' H=>x_mv (v:=Pq ab) rfl) ?_
  refine d_q rfl (fun w' H=>x_nc (a:=⟨ab,0,none⟩) rfl) ?_
  refine d_q rfl (fun w' H=>x_fa (a:=Pq ab) (v:=Oq ab 3) rfl (fa_blk (o:=0) Fd177_1 Sz175)) ?_
  refine d_q rfl (fun w' H=>x_ld (p:=Oq ab 3) (v:=.map (some aj)) rfl (ldb_sc Sc175 (av.blk H) rfl)) ?_
  refine d_q rfl (fun w' H=>x_ld (p:=Pq ac) (v:=.agg #[I x.sec,I x.stage]) rfl (ldb_ag (ds:=[I x.sec,I x.stage]) Ag160 Sz160 (H.bl 0) rfl rfl)) ?_
  refine d_l rfl ?_
  refine s_val (q_look (kenc:=encSpt) (venc:=I) (f:=ak) (k:=x) (z:=I 0) (v:=.tuple #[I 0,B false]) keySpot Tryz.underlying175 Al3 rfl rfl (H.get (k:=1) rfl) true (by simp [aD])) ?_
  refine s_nil ⟨(H.pk [0]),?_⟩
  refine d_q rfl (fun w' H=>x_mv (v:=.tuple #[I 0,B false]) rfl) ?_
  refine d_q rfl (fun w' H=>x_ext (vs:=[I 0,B false]) (v:=I 0) rfl rfl) ?_
  refine d_q rfl (fun w' H=>x_ext (vs:=[I 0,B false]) (v:=B false) rfl rfl) ?_
  refine d_q rfl (fun w' H=>x_as (v:=I 0) rfl) ?_
  refine d_q rfl (fun w' H=>x_as (v:=B false) rfl) ?_
  refine d_nil ?_
  refine W.seq ?_
  refine W.region rfl ?_
  refine zM (B false) rfl ?_
  refine s_nil ?_
  refine W.cond false rfl (fun aK=>?_) (fun aK=>?_)
  ·skip
   exact absurd aK (by decide)
  skip
  refine W.skip ?_
  refine W.seq ?_
  refine W.draw (fun W=>St w W [cBlk ac [I x.sec,I x.stage] 160,cMap encSpt I aj ak] R) [(0,true),(1,true),(2,true),(3,true),(4,true),(5,true),(6,true),(7,true),(8,true),(9,true),(10,true)] mixed (by decide +kernel) rfl ?_
  intro bt ae
  replace H:=H.ext ae
  clear ae
  refine ⟨(H.pk [0,1]),?_⟩
  refine d_q rfl (fun w' H=>x_mv (v:=Pq ab) rfl) ?_
  refine d_q rfl (fun w' H=>x_nc (a:=⟨ab,0,none⟩) rfl) ?_
  refine d_q rfl (fun w' H=>x_fa (a:=Pq ab) (v:=Pq ab) rfl (fa_blk (o:=0) Fd177_0 Sz27)) ?_
  refine d_q rfl (fun w' H=>x_fa (a:=Pq ab) (v:=Pq ab) rfl (fa_blk (o:=0) Fd27_0 Sz23)) ?_
  refine d_q rfl (fun w' H=>x_ld (p:=Pq ab) (v:=au) rfl (ldb_sc Sc23 (av.blk H) rfl)) ?_
  refine d_q rfl (fun w' H=>x_fa (a:=Pq ac) (v:=Pq ac) rfl (fa_blk (o:=0) Fd160_0 Sz3)) ?_
  refine d_q rfl (fun w' H=>x_ld (p:=Pq ac) (v:=I x.sec) rfl (ldb_sc Sc3 (H.bl 0) rfl)) ?_
  obtain ⟨aN,hM⟩:=M.e_grd hM
  simp only [Bool.and_eq_true,decide_eq_true_eq] at aN
  refine d_q rfl (fun w' H=>x_ix (a:=au) (b:=I x.sec) (v:=vat au 2 (Int.toNat x.sec)) rfl rfl (Sl.ix (α:=Sect) T23.und T23.size aC (by omega) (by omega))) ?_
  refine d_q rfl (fun w' H=>x_fa (a:=vat au 2 (Int.toNat x.sec)) (v:=fat (vat au 2 (Int.toNat x.sec)) 1) rfl (fa_pl Fd68_1 Sz66 (Sl.pl (i:=x.sec) aC (by omega) (by omega)))) ?_
  obtain ⟨ai,aO,am⟩:=Sect_at1 aC (i:=x.sec) (by omega) (by omega)
  replace am:Sl _ ai (aa.getD (Int.toNat x.sec) default).rows:=am
  have bu:=am.len_le
  refine d_q rfl (fun w' H=>x_ld (p:=fat (vat au 2 (Int.toNat x.sec)) 1) (v:=ai) rfl (ld_sc Sc66 (At.mono (aO) (ax.at H)))) ?_
  refine d_q rfl (fun w' H=>x_as (v:=ai) rfl) ?_
  refine d_nil ?_
  refine W.seq ?_
  refine W.region rfl ?_
  refine zM ai rfl ?_
  refine s_val (x_fa (a:=Pq ac) (v:=Oq ac 1) rfl (fa_blk (o:=0) Fd160_1 Sz3)) ?_
  refine s_val (x_ld (p:=Oq ac 1) (v:=I x.stage) rfl (ldb_sc Sc3 (H.bl 0) rfl)) ?_
  obtain ⟨bv,aP,hM⟩:=M.e_bind hM
  refine s_call cf116 [ai,I x.stage,.func (.func 117) #[] #[]] rfl (zdA ((aa.getD (Int.toNat x.sec) default).rows) x.stage (ax.app _) am aP _ (H.gt 2)) ?_
  rintro vq bw ⟨r0,r1,aQ,hvq,aL⟩
  subst aQ
  subst vq
  try dsimp only at hM
  replace H:=H.bk aL
  clear aL
  refine zM (.tuple #[I r0,B r1]) rfl ?_
  refine zX [I r0,B r1] (I r0) rfl rfl ?_
  refine zX [I r0,B r1] (B r1) rfl rfl ?_
  refine zA (I r0) rfl ?_
  refine zA (B r1) rfl ?_
  refine s_nil ?_
  refine W.seq ?_
  refine W.region rfl ?_
  refine zA (I 0) rfl ?_
  refine s_nil ?_
  refine W.seq ?_
  refine W.block ?_
  refine W.seq ?_
  refine W.region rfl ?_
  refine zM (B r1) rfl ?_
  refine zA (B r1) rfl ?_
  refine s_nil ?_
  refine W.cond r1 rfl (fun aE=>?_) (fun aE=>?_)
  ·replace hM:=M.e_t hM aE
   refine W.region rfl ?_
   refine zM ai rfl ?_
   refine zM (I r0) rfl ?_
   obtain ⟨aR,hM⟩:=M.e_grd hM
   simp only [Bool.and_eq_true,decide_eq_true_eq] at aR
   refine s_val (x_ix (a:=ai) (b:=I r0) (v:=vat ai 2 (Int.toNat r0)) rfl rfl (Sl.ix (α:=FRow) T66.und T66.size am (by omega) (by omega))) ?_
   refine s_val (x_fa (a:=vat ai 2 (Int.toNat r0)) (v:=fat (vat ai 2 (Int.toNat r0)) 1) rfl (fa_pl Fd109_1 Sz3 (Sl.pl (i:=r0) am (by omega) (by omega)))) ?_
   refine s_val (x_ld (p:=fat (vat ai 2 (Int.toNat r0)) 1) (v:=I ((((aa.getD (Int.toNat x.sec) default).rows).getD (Int.toNat r0) default).carry)) rfl (ld_sc Sc3 (At.mono (FRow_at1 am (i:=r0) (by omega) (by omega)) (ax.at H)))) ?_
   refine zA (I ((((aa.getD (Int.toNat x.sec) default).rows).getD (Int.toNat r0) default).carry)) rfl ?_
   refine s_nil ?_
   refine W.seq ?_
   refine W.draw (fun W=>St w W [cBlk ac [I x.sec,I x.stage] 160] R) [(0,true),(1,true),(2,true),(3,true),(4,true),(5,true),(6,false)] mixed (by decide +kernel) rfl ?_
   intro bx ae
   replace H:=H.ext ae
   clear ae
   refine ⟨(H.pk [0]),?_⟩
   refine d_q rfl (fun w' H=>x_mv (v:=Pq ab) rfl) ?_
   refine d_q rfl (fun w' H=>x_nc (a:=⟨ab,0,none⟩) rfl) ?_
   refine d_q rfl (fun w' H=>x_fa (a:=Pq ab) (v:=Oq ab 3) rfl (fa_blk (o:=0) Fd177_1 Sz175)) ?_
   refine d_q rfl (fun w' H=>x_ld (p:=Oq ab 3) (v:=.map (some aj)) rfl (ldb_sc Sc175 (av.blk H) rfl)) ?_
   refine d_q rfl (fun w' H=>x_ld (p:=Pq ac) (v:=.agg #[I x.sec,I x.stage]) rfl (ldb_ag (ds:=[I x.sec,I x.stage]) Ag160 Sz160 (H.bl 0) rfl rfl)) ?_
   refine d_q rfl (fun w' H=>x_mv (v:=I ((((aa.getD (Int.toNat x.sec) default).rows).getD (Int.toNat r0) default).carry)) rfl) ?_
   refine d_l rfl ?_
   refine t_mapu (i:=1) (kenc:=encSpt) (venc:=I) (f:=ak) (k:=x) (v:=(((aa.getD (Int.toNat x.sec) default).rows).getD (Int.toNat r0) default).carry) (L':=[cBlk ac [I x.sec,I x.stage] 160,cMap encSpt I aj (updF ak x ((((aa.getD (Int.toNat x.sec) default).rows).getD (Int.toNat r0) default).carry))]) keySpot Tryz.underlying175 H rfl rfl rfl rfl rfl ?_
   intro bz H
   refine s_nil ⟨(H.pk [0]),?_⟩
   refine d_nil ?_
   refine W.seq ?_
   refine W.region rfl ?_
   refine zM (I ((((aa.getD (Int.toNat x.sec) default).rows).getD (Int.toNat r0) default).carry)) rfl ?_
   refine zA (I ((((aa.getD (Int.toNat x.sec) default).rows).getD (Int.toNat r0) default).carry)) rfl ?_
   refine s_nil ?_
   refine W.ret ?_
   replace H:=St.memShutI H (i:=1) rfl (memIput aw (by rw [M.e_pure hM]; exact hM0))
   replace H:=H.nf
   have aq:=M.e_pure hM
   exact ⟨_,resE_tmp rfl,⟨((((aa.getD (Int.toNat x.sec) default).rows).getD (Int.toNat r0) default).carry),aq,rfl,(H.pk [1])⟩⟩
  replace hM:=M.e_f hM aE
  refine W.seq ?_
  refine W.region rfl ?_
  refine zM (I r0) rfl ?_
  refine zM ai rfl ?_
  have bA:=(am).len_le
  refine s_val (x_lenS T66.und rfl am) ?_
  refine zC r0 (((aa.getD (Int.toNat x.sec) default).rows).length:Int) (r0==(((aa.getD (Int.toNat x.sec) default).rows).length:Int)) rfl rfl rfl ?_
  refine zA (B (r0==(((aa.getD (Int.toNat x.sec) default).rows).length:Int))) rfl ?_
  refine s_nil ?_
  refine W.cond (r0==(((aa.getD (Int.toNat x.sec) default).rows).length:Int)) rfl (fun ay=>?_) (fun ay=>?_)
  ·replace hM:=M.e_t hM ay
   simp only [qy1,qy2,qy3,qy4,qy5,qy6,ne_eq,qy7] at ay
   refine W.region rfl ?_
   refine zM ai rfl ?_
   refine zM (I r0) rfl ?_
   obtain ⟨aS,hM⟩:=M.e_grd hM
   simp only [Bool.and_eq_true,decide_eq_true_eq] at aS
   refine zR r0 1 (r0-1) rfl rfl rfl (by omega) ?_
   obtain ⟨aT,hM⟩:=M.e_grd hM
   simp only [Bool.and_eq_true,decide_eq_true_eq] at aT
   refine s_val (x_ix (a:=ai) (b:=I (r0-1)) (v:=vat ai 2 (Int.toNat (r0-1))) rfl rfl (Sl.ix (α:=FRow) T66.und T66.size am (by omega) (by omega))) ?_
   refine s_val (x_fa (a:=vat ai 2 (Int.toNat (r0-1))) (v:=fat (vat ai 2 (Int.toNat (r0-1))) 1) rfl (fa_pl Fd109_1 Sz3 (Sl.pl (i:=r0-1) am (by omega) (by omega)))) ?_
   refine s_val (x_ld (p:=fat (vat ai 2 (Int.toNat (r0-1))) 1) (v:=I ((((aa.getD (Int.toNat x.sec) default).rows).getD (Int.toNat (r0-1)) default).carry)) rfl (ld_sc Sc3 (At.mono (FRow_at1 am (i:=r0-1) (by omega) (by omega)) (ax.at H)))) ?_
   refine zA (I ((((aa.getD (Int.toNat x.sec) default).rows).getD (Int.toNat (r0-1)) default).carry)) rfl ?_
   refine s_nil ?_
   refine W.seq ?_
   refine W.draw (fun W=>St w W [cBlk ac [I x.sec,I x.stage] 160] R) [(0,true),(1,true),(2,true),(3,true),(4,true),(5,true),(6,false)] mixed (by decide +kernel) rfl ?_
   intro bB ae
   replace H:=H.ext ae
   clear ae
   refine ⟨(H.pk [0]),?_⟩
   refine d_q rfl (fun w' H=>x_mv (v:=Pq ab) rfl) ?_
   refine d_q rfl (fun w' H=>x_nc (a:=⟨ab,0,none⟩) rfl) ?_
   refine d_q rfl (fun w' H=>x_fa (a:=Pq ab) (v:=Oq ab 3) rfl (fa_blk (o:=0) Fd177_1 Sz175)) ?_
   refine d_q rfl (fun w' H=>x_ld (p:=Oq ab 3) (v:=.map (some aj)) rfl (ldb_sc Sc175 (av.blk H) rfl)) ?_
   refine d_q rfl (fun w' H=>x_ld (p:=Pq ac) (v:=.agg #[I x.sec,I x.stage]) rfl (ldb_ag (ds:=[I x.sec,I x.stage]) Ag160 Sz160 (H.bl 0) rfl rfl)) ?_
   refine d_q rfl (fun w' H=>x_mv (v:=I ((((aa.getD (Int.toNat x.sec) default).rows).getD (Int.toNat (r0-1)) default).carry)) rfl) ?_
   refine d_l rfl ?_
   refine t_mapu (i:=1) (kenc:=encSpt) (venc:=I) (f:=ak) (k:=x) (v:=(((aa.getD (Int.toNat x.sec) default).rows).getD (Int.toNat (r0-1)) default).carry) (L':=[cBlk ac [I x.sec,I x.stage] 160,cMap encSpt I aj (updF ak x ((((aa.getD (Int.toNat x.sec) default).rows).getD (Int.toNat (r0-1)) default).carry))]) keySpot Tryz.underlying175 H rfl rfl rfl rfl rfl ?_
   intro bC H
   refine s_nil ⟨(H.pk [0]),?_⟩
   refine d_nil ?_
   refine W.seq ?_
   refine W.region rfl ?_
   refine zM (I ((((aa.getD (Int.toNat x.sec) default).rows).getD (Int.toNat (r0-1)) default).carry)) rfl ?_
   refine zA (I ((((aa.getD (Int.toNat x.sec) default).rows).getD (Int.toNat (r0-1)) default).carry)) rfl ?_
   refine s_nil ?_
   refine W.ret ?_
   replace H:=St.memShutI H (i:=1) rfl (memIput aw (by rw [M.e_pure hM]; exact hM0))
   replace H:=H.nf
   have aq:=M.e_pure hM
   exact ⟨_,resE_tmp rfl,⟨((((aa.getD (Int.toNat x.sec) default).rows).getD (Int.toNat (r0-1)) default).carry),aq,rfl,(H.pk [1])⟩⟩
  replace hM:=M.e_f hM ay
  simp only [qy1,qy2,qy3,qy4,qy5,qy6,ne_eq,qy7] at ay
  refine W.seq ?_
  refine W.region rfl ?_
  refine zM (I r0) rfl ?_
  refine zC r0 0 (decide (0<r0)) rfl rfl rfl ?_
  refine zA (B (decide (0<r0))) rfl ?_
  refine s_nil ?_
  refine W.cond (decide (0<r0)) rfl (fun az=>?_) (fun az=>?_)
  ·replace hM:=M.e_t hM az
   simp only [qy1,qy2,qy3,qy4,qy5,qy6,ne_eq,qy7] at az
   refine W.seq ?_
   refine W.drawT (fun W=>St w W [cBlk ac [I x.sec,I x.stage] 160,cMap encSpt I aj ak] R) (.q 0 (.q 1 (.q 2 (.q 3 (.q 4 (.q 5 (.q 6 (.q 7 (.q 8 (.l2 9 (.l 10 (.l 11 (.l 12 .nil))) 10 (.l 9 (.l 11 (.l 12 .nil))))))))))))) mixed (by decide +kernel) rfl ?_
   intro bD ae
   replace H:=H.ext ae
   clear ae
   refine ⟨(H.pk [0,1]),?_⟩
   refine t_q rfl (fun w' H=>x_mv (v:=ai) rfl) ?_
   refine t_q rfl (fun w' H=>x_mv (v:=I r0) rfl) ?_
   obtain ⟨aU,hM⟩:=M.e_grd hM
   simp only [Bool.and_eq_true,decide_eq_true_eq] at aU
   refine t_q rfl (fun w' H=>x_ari (a:=r0) (b:=1) (r:=r0-1) rfl rfl rfl (by omega)) ?_
   obtain ⟨aV,hM⟩:=M.e_grd hM
   simp only [Bool.and_eq_true,decide_eq_true_eq] at aV
   refine t_q rfl (fun w' H=>x_ix (a:=ai) (b:=I (r0-1)) (v:=vat ai 2 (Int.toNat (r0-1))) rfl rfl (Sl.ix (α:=FRow) T66.und T66.size am (by omega) (by omega))) ?_
   refine t_q rfl (fun w' H=>x_ld (p:=vat ai 2 (Int.toNat (r0-1))) (v:=.agg #[I ((((aa.getD (Int.toNat x.sec) default).rows).getD (Int.toNat (r0-1)) default).stage),I ((((aa.getD (Int.toNat x.sec) default).rows).getD (Int.toNat (r0-1)) default).carry)]) rfl (ld_ag Ag109 Sz109 (At.mono (FRow_atA am (i:=r0-1) (by omega) (by omega)) (ax.at H)))) ?_
   refine t_q rfl (fun w' H=>x_mv (v:=ai) rfl) ?_
   refine t_q rfl (fun w' H=>x_mv (v:=I r0) rfl) ?_
   obtain ⟨aW,hM⟩:=M.e_grd hM
   simp only [Bool.and_eq_true,decide_eq_true_eq] at aW
   refine t_q rfl (fun w' H=>x_ix (a:=ai) (b:=I r0) (v:=vat ai 2 (Int.toNat r0)) rfl rfl (Sl.ix (α:=FRow) T66.und T66.size am (by omega) (by omega))) ?_
   refine t_q rfl (fun w' H=>x_ld (p:=vat ai 2 (Int.toNat r0)) (v:=.agg #[I ((((aa.getD (Int.toNat x.sec) default).rows).getD (Int.toNat r0) default).stage),I ((((aa.getD (Int.toNat x.sec) default).rows).getD (Int.toNat r0) default).carry)]) rfl (ld_ag Ag109 Sz109 (At.mono (FRow_atA am (i:=r0) (by omega) (by omega)) (ax.at H)))) ?_
   refine t_l2 rfl rfl ?_ ?_
   ·skip
    refine t_alloc (cs:=[I 0,I 0]) H Al109 rfl ?_
    intro ag bE H
    refine s_nil ⟨(H.pk [1,2]),?_⟩
    refine t_l rfl ?_
    refine t_alloc (cs:=[I 0,I 0]) H Al109 rfl ?_
    intro ao bF H
    refine s_nil ⟨(H.pk [2,3]),?_⟩
    refine t_l rfl ?_
    refine t_sw 1 0 [I ((((aa.getD (Int.toNat x.sec) default).rows).getD (Int.toNat (r0-1)) default).stage),I ((((aa.getD (Int.toNat x.sec) default).rows).getD (Int.toNat (r0-1)) default).carry)] (.agg #[I ((((aa.getD (Int.toNat x.sec) default).rows).getD (Int.toNat (r0-1)) default).stage),I ((((aa.getD (Int.toNat x.sec) default).rows).getD (Int.toNat (r0-1)) default).carry)]) H rfl rfl Sz109 rfl rfl rfl rfl ?_
    intro bG H
    refine s_nil ⟨(H.pk [2,3]),?_⟩
    refine t_l rfl ?_
    refine t_sw 0 0 [I ((((aa.getD (Int.toNat x.sec) default).rows).getD (Int.toNat r0) default).stage),I ((((aa.getD (Int.toNat x.sec) default).rows).getD (Int.toNat r0) default).carry)] (.agg #[I ((((aa.getD (Int.toNat x.sec) default).rows).getD (Int.toNat r0) default).stage),I ((((aa.getD (Int.toNat x.sec) default).rows).getD (Int.toNat r0) default).carry)]) H rfl rfl Sz109 rfl rfl rfl rfl ?_
    intro bH H
    refine s_nil ⟨(H.pk [2,3]),?_⟩
    refine t_nil ?_
    refine W.draw (fun W=>St w W [cBlk ao [I ((((aa.getD (Int.toNat x.sec) default).rows).getD (Int.toNat r0) default).stage),I ((((aa.getD (Int.toNat x.sec) default).rows).getD (Int.toNat r0) default).carry)] 109,cBlk ag [I ((((aa.getD (Int.toNat x.sec) default).rows).getD (Int.toNat (r0-1)) default).stage),I ((((aa.getD (Int.toNat x.sec) default).rows).getD (Int.toNat (r0-1)) default).carry)] 109,cBlk ac [I x.sec,I x.stage] 160,cMap encSpt I aj ak] R) [(0,true),(1,true),(2,true),(3,true),(4,true),(5,true),(6,true),(7,true),(8,true),(9,true),(10,true),(11,true),(12,true),(13,true),(14,true),(15,true),(16,true),(17,true),(18,true),(19,true),(20,true)] mixed (by decide +kernel) rfl ?_
    intro bI ae
    replace H:=H.ext ae
    clear ae
    refine ⟨(H.pk [0,1,2,3]),?_⟩
    refine d_q rfl (fun w' H=>x_fa (a:=Pq ag) (v:=Oq ag 1) rfl (fa_blk (o:=0) Fd109_1 Sz3)) ?_
    refine d_q rfl (fun w' H=>x_ld (p:=Oq ag 1) (v:=I ((((aa.getD (Int.toNat x.sec) default).rows).getD (Int.toNat (r0-1)) default).carry)) rfl (ldb_sc Sc3 (H.bl 1) rfl)) ?_
    refine d_q rfl (fun w' H=>x_fa (a:=Pq ao) (v:=Oq ao 1) rfl (fa_blk (o:=0) Fd109_1 Sz3)) ?_
    refine d_q rfl (fun w' H=>x_ld (p:=Oq ao 1) (v:=I ((((aa.getD (Int.toNat x.sec) default).rows).getD (Int.toNat r0) default).carry)) rfl (ldb_sc Sc3 (H.bl 0) rfl)) ?_
    refine d_q rfl (fun w' H=>x_fa (a:=Pq ag) (v:=Oq ag 1) rfl (fa_blk (o:=0) Fd109_1 Sz3)) ?_
    refine d_q rfl (fun w' H=>x_ld (p:=Oq ag 1) (v:=I ((((aa.getD (Int.toNat x.sec) default).rows).getD (Int.toNat (r0-1)) default).carry)) rfl (ldb_sc Sc3 (H.bl 1) rfl)) ?_
    obtain ⟨aX,hM⟩:=M.e_grd hM
    simp only [Bool.and_eq_true,decide_eq_true_eq] at aX
    refine d_q rfl (fun w' H=>x_ari (a:=(((aa.getD (Int.toNat x.sec) default).rows).getD (Int.toNat r0) default).carry) (b:=(((aa.getD (Int.toNat x.sec) default).rows).getD (Int.toNat (r0-1)) default).carry) (r:=((((aa.getD (Int.toNat x.sec) default).rows).getD (Int.toNat r0) default).carry)-((((aa.getD (Int.toNat x.sec) default).rows).getD (Int.toNat (r0-1)) default).carry)) rfl rfl rfl (by omega)) ?_
    refine d_q rfl (fun w' H=>x_fa (a:=Pq ac) (v:=Oq ac 1) rfl (fa_blk (o:=0) Fd160_1 Sz3)) ?_
    refine d_q rfl (fun w' H=>x_ld (p:=Oq ac 1) (v:=I x.stage) rfl (ldb_sc Sc3 (H.bl 2) rfl)) ?_
    refine d_q rfl (fun w' H=>x_fa (a:=Pq ag) (v:=Pq ag) rfl (fa_blk (o:=0) Fd109_0 Sz3)) ?_
    refine d_q rfl (fun w' H=>x_ld (p:=Pq ag) (v:=I ((((aa.getD (Int.toNat x.sec) default).rows).getD (Int.toNat (r0-1)) default).stage)) rfl (ldb_sc Sc3 (H.bl 1) rfl)) ?_
    obtain ⟨aY,hM⟩:=M.e_grd hM
    simp only [Bool.and_eq_true,decide_eq_true_eq] at aY
    refine d_q rfl (fun w' H=>x_ari (a:=x.stage) (b:=(((aa.getD (Int.toNat x.sec) default).rows).getD (Int.toNat (r0-1)) default).stage) (r:=x.stage-((((aa.getD (Int.toNat x.sec) default).rows).getD (Int.toNat (r0-1)) default).stage)) rfl rfl rfl (by omega)) ?_
    obtain ⟨aZ,hM⟩:=M.e_grd hM
    simp only [Bool.and_eq_true,decide_eq_true_eq] at aZ
    refine d_q rfl (fun w' H=>x_ari (a:=((((aa.getD (Int.toNat x.sec) default).rows).getD (Int.toNat r0) default).carry)-((((aa.getD (Int.toNat x.sec) default).rows).getD (Int.toNat (r0-1)) default).carry)) (b:=x.stage-((((aa.getD (Int.toNat x.sec) default).rows).getD (Int.toNat (r0-1)) default).stage)) (r:=(((((aa.getD (Int.toNat x.sec) default).rows).getD (Int.toNat r0) default).carry)-((((aa.getD (Int.toNat x.sec) default).rows).getD (Int.toNat (r0-1)) default).carry))*(x.stage-((((aa.getD (Int.toNat x.sec) default).rows).getD (Int.toNat (r0-1)) default).stage))) rfl rfl rfl (by omega)) ?_
    refine d_q rfl (fun w' H=>x_fa (a:=Pq ao) (v:=Pq ao) rfl (fa_blk (o:=0) Fd109_0 Sz3)) ?_
    refine d_q rfl (fun w' H=>x_ld (p:=Pq ao) (v:=I ((((aa.getD (Int.toNat x.sec) default).rows).getD (Int.toNat r0) default).stage)) rfl (ldb_sc Sc3 (H.bl 0) rfl)) ?_
    refine d_q rfl (fun w' H=>x_fa (a:=Pq ag) (v:=Pq ag) rfl (fa_blk (o:=0) Fd109_0 Sz3)) ?_
    refine d_q rfl (fun w' H=>x_ld (p:=Pq ag) (v:=I ((((aa.getD (Int.toNat x.sec) default).rows).getD (Int.toNat (r0-1)) default).stage)) rfl (ldb_sc Sc3 (H.bl 1) rfl)) ?_
    obtain ⟨a6,hM⟩:=M.e_grd hM
    simp only [Bool.and_eq_true,decide_eq_true_eq] at a6
    refine d_q rfl (fun w' H=>x_ari (a:=(((aa.getD (Int.toNat x.sec) default).rows).getD (Int.toNat r0) default).stage) (b:=(((aa.getD (Int.toNat x.sec) default).rows).getD (Int.toNat (r0-1)) default).stage) (r:=((((aa.getD (Int.toNat x.sec) default).rows).getD (Int.toNat r0) default).stage)-((((aa.getD (Int.toNat x.sec) default).rows).getD (Int.toNat (r0-1)) default).stage)) rfl rfl rfl (by omega)) ?_
    obtain ⟨a7,hM⟩:=M.e_grd hM
    simp only [Bool.and_eq_true,decide_eq_true_eq] at a7
    refine d_q rfl (fun w' H=>x_quo (a:=(((((aa.getD (Int.toNat x.sec) default).rows).getD (Int.toNat r0) default).carry)-((((aa.getD (Int.toNat x.sec) default).rows).getD (Int.toNat (r0-1)) default).carry))*(x.stage-((((aa.getD (Int.toNat x.sec) default).rows).getD (Int.toNat (r0-1)) default).stage))) (b:=((((aa.getD (Int.toNat x.sec) default).rows).getD (Int.toNat r0) default).stage)-((((aa.getD (Int.toNat x.sec) default).rows).getD (Int.toNat (r0-1)) default).stage)) rfl rfl (by omega)) ?_
    obtain ⟨a8,hM⟩:=M.e_grd hM
    simp only [Bool.and_eq_true,decide_eq_true_eq] at a8
    refine d_q rfl (fun w' H=>x_ari (a:=(((aa.getD (Int.toNat x.sec) default).rows).getD (Int.toNat (r0-1)) default).carry) (b:=((((((aa.getD (Int.toNat x.sec) default).rows).getD (Int.toNat r0) default).carry)-((((aa.getD (Int.toNat x.sec) default).rows).getD (Int.toNat (r0-1)) default).carry))*(x.stage-((((aa.getD (Int.toNat x.sec) default).rows).getD (Int.toNat (r0-1)) default).stage))) / (((((aa.getD (Int.toNat x.sec) default).rows).getD (Int.toNat r0) default).stage)-((((aa.getD (Int.toNat x.sec) default).rows).getD (Int.toNat (r0-1)) default).stage))) (r:=((((aa.getD (Int.toNat x.sec) default).rows).getD (Int.toNat (r0-1)) default).carry)+(((((((aa.getD (Int.toNat x.sec) default).rows).getD (Int.toNat r0) default).carry)-((((aa.getD (Int.toNat x.sec) default).rows).getD (Int.toNat (r0-1)) default).carry))*(x.stage-((((aa.getD (Int.toNat x.sec) default).rows).getD (Int.toNat (r0-1)) default).stage))) / (((((aa.getD (Int.toNat x.sec) default).rows).getD (Int.toNat r0) default).stage)-((((aa.getD (Int.toNat x.sec) default).rows).getD (Int.toNat (r0-1)) default).stage)))) rfl rfl rfl (by omega)) ?_
    refine d_q rfl (fun w' H=>x_as (v:=I (((((aa.getD (Int.toNat x.sec) default).rows).getD (Int.toNat (r0-1)) default).carry)+(((((((aa.getD (Int.toNat x.sec) default).rows).getD (Int.toNat r0) default).carry)-((((aa.getD (Int.toNat x.sec) default).rows).getD (Int.toNat (r0-1)) default).carry))*(x.stage-((((aa.getD (Int.toNat x.sec) default).rows).getD (Int.toNat (r0-1)) default).stage))) / (((((aa.getD (Int.toNat x.sec) default).rows).getD (Int.toNat r0) default).stage)-((((aa.getD (Int.toNat x.sec) default).rows).getD (Int.toNat (r0-1)) default).stage))))) rfl) ?_
    refine d_nil ?_
    replace H:=H.pk [2,3]
    refine W.seq ?_
    refine W.draw (fun W=>St w W [cBlk ac [I x.sec,I x.stage] 160] R) [(0,true),(1,true),(2,true),(3,true),(4,true),(5,true),(6,false)] mixed (by decide +kernel) rfl ?_
    intro bJ ae
    replace H:=H.ext ae
    clear ae
    refine ⟨(H.pk [0]),?_⟩
    refine d_q rfl (fun w' H=>x_mv (v:=Pq ab) rfl) ?_
    refine d_q rfl (fun w' H=>x_nc (a:=⟨ab,0,none⟩) rfl) ?_
    refine d_q rfl (fun w' H=>x_fa (a:=Pq ab) (v:=Oq ab 3) rfl (fa_blk (o:=0) Fd177_1 Sz175)) ?_
    refine d_q rfl (fun w' H=>x_ld (p:=Oq ab 3) (v:=.map (some aj)) rfl (ldb_sc Sc175 (av.blk H) rfl)) ?_
    refine d_q rfl (fun w' H=>x_ld (p:=Pq ac) (v:=.agg #[I x.sec,I x.stage]) rfl (ldb_ag (ds:=[I x.sec,I x.stage]) Ag160 Sz160 (H.bl 0) rfl rfl)) ?_
    refine d_q rfl (fun w' H=>x_mv (v:=I (((((aa.getD (Int.toNat x.sec) default).rows).getD (Int.toNat (r0-1)) default).carry)+(((((((aa.getD (Int.toNat x.sec) default).rows).getD (Int.toNat r0) default).carry)-((((aa.getD (Int.toNat x.sec) default).rows).getD (Int.toNat (r0-1)) default).carry))*(x.stage-((((aa.getD (Int.toNat x.sec) default).rows).getD (Int.toNat (r0-1)) default).stage))) / (((((aa.getD (Int.toNat x.sec) default).rows).getD (Int.toNat r0) default).stage)-((((aa.getD (Int.toNat x.sec) default).rows).getD (Int.toNat (r0-1)) default).stage))))) rfl) ?_
    refine d_l rfl ?_
    refine t_mapu (i:=1) (kenc:=encSpt) (venc:=I) (f:=ak) (k:=x) (v:=((((aa.getD (Int.toNat x.sec) default).rows).getD (Int.toNat (r0-1)) default).carry)+(((((((aa.getD (Int.toNat x.sec) default).rows).getD (Int.toNat r0) default).carry)-((((aa.getD (Int.toNat x.sec) default).rows).getD (Int.toNat (r0-1)) default).carry))*(x.stage-((((aa.getD (Int.toNat x.sec) default).rows).getD (Int.toNat (r0-1)) default).stage))) / (((((aa.getD (Int.toNat x.sec) default).rows).getD (Int.toNat r0) default).stage)-((((aa.getD (Int.toNat x.sec) default).rows).getD (Int.toNat (r0-1)) default).stage)))) (L':=[cBlk ac [I x.sec,I x.stage] 160,cMap encSpt I aj (updF ak x (((((aa.getD (Int.toNat x.sec) default).rows).getD (Int.toNat (r0-1)) default).carry)+(((((((aa.getD (Int.toNat x.sec) default).rows).getD (Int.toNat r0) default).carry)-((((aa.getD (Int.toNat x.sec) default).rows).getD (Int.toNat (r0-1)) default).carry))*(x.stage-((((aa.getD (Int.toNat x.sec) default).rows).getD (Int.toNat (r0-1)) default).stage))) / (((((aa.getD (Int.toNat x.sec) default).rows).getD (Int.toNat r0) default).stage)-((((aa.getD (Int.toNat x.sec) default).rows).getD (Int.toNat (r0-1)) default).stage)))))]) keySpot Tryz.underlying175 H rfl rfl rfl rfl rfl ?_
    intro bK H
    refine s_nil ⟨(H.pk [0]),?_⟩
    refine d_nil ?_
    refine W.seq ?_
    refine W.region rfl ?_
    refine zM (I (((((aa.getD (Int.toNat x.sec) default).rows).getD (Int.toNat (r0-1)) default).carry)+(((((((aa.getD (Int.toNat x.sec) default).rows).getD (Int.toNat r0) default).carry)-((((aa.getD (Int.toNat x.sec) default).rows).getD (Int.toNat (r0-1)) default).carry))*(x.stage-((((aa.getD (Int.toNat x.sec) default).rows).getD (Int.toNat (r0-1)) default).stage))) / (((((aa.getD (Int.toNat x.sec) default).rows).getD (Int.toNat r0) default).stage)-((((aa.getD (Int.toNat x.sec) default).rows).getD (Int.toNat (r0-1)) default).stage))))) rfl ?_
    refine zA (I (((((aa.getD (Int.toNat x.sec) default).rows).getD (Int.toNat (r0-1)) default).carry)+(((((((aa.getD (Int.toNat x.sec) default).rows).getD (Int.toNat r0) default).carry)-((((aa.getD (Int.toNat x.sec) default).rows).getD (Int.toNat (r0-1)) default).carry))*(x.stage-((((aa.getD (Int.toNat x.sec) default).rows).getD (Int.toNat (r0-1)) default).stage))) / (((((aa.getD (Int.toNat x.sec) default).rows).getD (Int.toNat r0) default).stage)-((((aa.getD (Int.toNat x.sec) default).rows).getD (Int.toNat (r0-1)) default).stage))))) rfl ?_
    refine s_nil ?_
    refine W.ret ?_
    replace H:=St.memShutI H (i:=1) rfl (memIput aw (by rw [M.e_pure hM]; exact hM0))
    replace H:=H.nf
    have aq:=M.e_pure hM
    exact ⟨_,resE_tmp rfl,⟨(((((aa.getD (Int.toNat x.sec) default).rows).getD (Int.toNat (r0-1)) default).carry)+(((((((aa.getD (Int.toNat x.sec) default).rows).getD (Int.toNat r0) default).carry)-((((aa.getD (Int.toNat x.sec) default).rows).getD (Int.toNat (r0-1)) default).carry))*(x.stage-((((aa.getD (Int.toNat x.sec) default).rows).getD (Int.toNat (r0-1)) default).stage))) / (((((aa.getD (Int.toNat x.sec) default).rows).getD (Int.toNat r0) default).stage)-((((aa.getD (Int.toNat x.sec) default).rows).getD (Int.toNat (r0-1)) default).stage)))),aq,rfl,(H.pk [1])⟩⟩
   skip
   refine t_alloc (cs:=[I 0,I 0]) H Al109 rfl ?_
   intro ao bL H
   refine s_nil ⟨(H.pk [1,2]),?_⟩
   refine t_l rfl ?_
   refine t_alloc (cs:=[I 0,I 0]) H Al109 rfl ?_
   intro ag bM H
   refine s_nil ⟨(H.pk [2,3]),?_⟩
   refine t_l rfl ?_
   refine t_sw 0 0 [I ((((aa.getD (Int.toNat x.sec) default).rows).getD (Int.toNat (r0-1)) default).stage),I ((((aa.getD (Int.toNat x.sec) default).rows).getD (Int.toNat (r0-1)) default).carry)] (.agg #[I ((((aa.getD (Int.toNat x.sec) default).rows).getD (Int.toNat (r0-1)) default).stage),I ((((aa.getD (Int.toNat x.sec) default).rows).getD (Int.toNat (r0-1)) default).carry)]) H rfl rfl Sz109 rfl rfl rfl rfl ?_
   intro bN H
   refine s_nil ⟨(H.pk [2,3]),?_⟩
   refine t_l rfl ?_
   refine t_sw 1 0 [I ((((aa.getD (Int.toNat x.sec) default).rows).getD (Int.toNat r0) default).stage),I ((((aa.getD (Int.toNat x.sec) default).rows).getD (Int.toNat r0) default).carry)] (.agg #[I ((((aa.getD (Int.toNat x.sec) default).rows).getD (Int.toNat r0) default).stage),I ((((aa.getD (Int.toNat x.sec) default).rows).getD (Int.toNat r0) default).carry)]) H rfl rfl Sz109 rfl rfl rfl rfl ?_
   intro bO H
   refine s_nil ⟨(H.pk [2,3]),?_⟩
   refine t_nil ?_
   refine W.draw (fun W=>St w W [cBlk ag [I ((((aa.getD (Int.toNat x.sec) default).rows).getD (Int.toNat (r0-1)) default).stage),I ((((aa.getD (Int.toNat x.sec) default).rows).getD (Int.toNat (r0-1)) default).carry)] 109,cBlk ao [I ((((aa.getD (Int.toNat x.sec) default).rows).getD (Int.toNat r0) default).stage),I ((((aa.getD (Int.toNat x.sec) default).rows).getD (Int.toNat r0) default).carry)] 109,cBlk ac [I x.sec,I x.stage] 160,cMap encSpt I aj ak] R) [(0,true),(1,true),(2,true),(3,true),(4,true),(5,true),(6,true),(7,true),(8,true),(9,true),(10,true),(11,true),(12,true),(13,true),(14,true),(15,true),(16,true),(17,true),(18,true),(19,true),(20,true)] mixed (by decide +kernel) rfl ?_
   intro bP ae
   replace H:=H.ext ae
   clear ae
   refine ⟨(H.pk [0,1,2,3]),?_⟩
   refine d_q rfl (fun w' H=>x_fa (a:=Pq ag) (v:=Oq ag 1) rfl (fa_blk (o:=0) Fd109_1 Sz3)) ?_
   refine d_q rfl (fun w' H=>x_ld (p:=Oq ag 1) (v:=I ((((aa.getD (Int.toNat x.sec) default).rows).getD (Int.toNat (r0-1)) default).carry)) rfl (ldb_sc Sc3 (H.bl 0) rfl)) ?_
   refine d_q rfl (fun w' H=>x_fa (a:=Pq ao) (v:=Oq ao 1) rfl (fa_blk (o:=0) Fd109_1 Sz3)) ?_
   refine d_q rfl (fun w' H=>x_ld (p:=Oq ao 1) (v:=I ((((aa.getD (Int.toNat x.sec) default).rows).getD (Int.toNat r0) default).carry)) rfl (ldb_sc Sc3 (H.bl 1) rfl)) ?_
   refine d_q rfl (fun w' H=>x_fa (a:=Pq ag) (v:=Oq ag 1) rfl (fa_blk (o:=0) Fd109_1 Sz3)) ?_
   refine d_q rfl (fun w' H=>x_ld (p:=Oq ag 1) (v:=I ((((aa.getD (Int.toNat x.sec) default).rows).getD (Int.toNat (r0-1)) default).carry)) rfl (ldb_sc Sc3 (H.bl 0) rfl)) ?_
   obtain ⟨ba,hM⟩:=M.e_grd hM
   simp only [Bool.and_eq_true,decide_eq_true_eq] at ba
   refine d_q rfl (fun w' H=>x_ari (a:=(((aa.getD (Int.toNat x.sec) default).rows).getD (Int.toNat r0) default).carry) (b:=(((aa.getD (Int.toNat x.sec) default).rows).getD (Int.toNat (r0-1)) default).carry) (r:=((((aa.getD (Int.toNat x.sec) default).rows).getD (Int.toNat r0) default).carry)-((((aa.getD (Int.toNat x.sec) default).rows).getD (Int.toNat (r0-1)) default).carry)) rfl rfl rfl (by omega)) ?_
   refine d_q rfl (fun w' H=>x_fa (a:=Pq ac) (v:=Oq ac 1) rfl (fa_blk (o:=0) Fd160_1 Sz3)) ?_
   refine d_q rfl (fun w' H=>x_ld (p:=Oq ac 1) (v:=I x.stage) rfl (ldb_sc Sc3 (H.bl 2) rfl)) ?_
   refine d_q rfl (fun w' H=>x_fa (a:=Pq ag) (v:=Pq ag) rfl (fa_blk (o:=0) Fd109_0 Sz3)) ?_
   refine d_q rfl (fun w' H=>x_ld (p:=Pq ag) (v:=I ((((aa.getD (Int.toNat x.sec) default).rows).getD (Int.toNat (r0-1)) default).stage)) rfl (ldb_sc Sc3 (H.bl 0) rfl)) ?_
   obtain ⟨bb,hM⟩:=M.e_grd hM
   simp only [Bool.and_eq_true,decide_eq_true_eq] at bb
   refine d_q rfl (fun w' H=>x_ari (a:=x.stage) (b:=(((aa.getD (Int.toNat x.sec) default).rows).getD (Int.toNat (r0-1)) default).stage) (r:=x.stage-((((aa.getD (Int.toNat x.sec) default).rows).getD (Int.toNat (r0-1)) default).stage)) rfl rfl rfl (by omega)) ?_
   obtain ⟨bc,hM⟩:=M.e_grd hM
   simp only [Bool.and_eq_true,decide_eq_true_eq] at bc
   refine d_q rfl (fun w' H=>x_ari (a:=((((aa.getD (Int.toNat x.sec) default).rows).getD (Int.toNat r0) default).carry)-((((aa.getD (Int.toNat x.sec) default).rows).getD (Int.toNat (r0-1)) default).carry)) (b:=x.stage-((((aa.getD (Int.toNat x.sec) default).rows).getD (Int.toNat (r0-1)) default).stage)) (r:=(((((aa.getD (Int.toNat x.sec) default).rows).getD (Int.toNat r0) default).carry)-((((aa.getD (Int.toNat x.sec) default).rows).getD (Int.toNat (r0-1)) default).carry))*(x.stage-((((aa.getD (Int.toNat x.sec) default).rows).getD (Int.toNat (r0-1)) default).stage))) rfl rfl rfl (by omega)) ?_
   refine d_q rfl (fun w' H=>x_fa (a:=Pq ao) (v:=Pq ao) rfl (fa_blk (o:=0) Fd109_0 Sz3)) ?_
   refine d_q rfl (fun w' H=>x_ld (p:=Pq ao) (v:=I ((((aa.getD (Int.toNat x.sec) default).rows).getD (Int.toNat r0) default).stage)) rfl (ldb_sc Sc3 (H.bl 1) rfl)) ?_
   refine d_q rfl (fun w' H=>x_fa (a:=Pq ag) (v:=Pq ag) rfl (fa_blk (o:=0) Fd109_0 Sz3)) ?_
   refine d_q rfl (fun w' H=>x_ld (p:=Pq ag) (v:=I ((((aa.getD (Int.toNat x.sec) default).rows).getD (Int.toNat (r0-1)) default).stage)) rfl (ldb_sc Sc3 (H.bl 0) rfl)) ?_
   obtain ⟨bf,hM⟩:=M.e_grd hM
   simp only [Bool.and_eq_true,decide_eq_true_eq] at bf
   refine d_q rfl (fun w' H=>x_ari (a:=(((aa.getD (Int.toNat x.sec) default).rows).getD (Int.toNat r0) default).stage) (b:=(((aa.getD (Int.toNat x.sec) default).rows).getD (Int.toNat (r0-1)) default).stage) (r:=((((aa.getD (Int.toNat x.sec) default).rows).getD (Int.toNat r0) default).stage)-((((aa.getD (Int.toNat x.sec) default).rows).getD (Int.toNat (r0-1)) default).stage)) rfl rfl rfl (by omega)) ?_
   obtain ⟨bh,hM⟩:=M.e_grd hM
   simp only [Bool.and_eq_true,decide_eq_true_eq] at bh
   refine d_q rfl (fun w' H=>x_quo (a:=(((((aa.getD (Int.toNat x.sec) default).rows).getD (Int.toNat r0) default).carry)-((((aa.getD (Int.toNat x.sec) default).rows).getD (Int.toNat (r0-1)) default).carry))*(x.stage-((((aa.getD (Int.toNat x.sec) default).rows).getD (Int.toNat (r0-1)) default).stage))) (b:=((((aa.getD (Int.toNat x.sec) default).rows).getD (Int.toNat r0) default).stage)-((((aa.getD (Int.toNat x.sec) default).rows).getD (Int.toNat (r0-1)) default).stage)) rfl rfl (by omega)) ?_
   obtain ⟨bi,hM⟩:=M.e_grd hM
   simp only [Bool.and_eq_true,decide_eq_true_eq] at bi
   refine d_q rfl (fun w' H=>x_ari (a:=(((aa.getD (Int.toNat x.sec) default).rows).getD (Int.toNat (r0-1)) default).carry) (b:=((((((aa.getD (Int.toNat x.sec) default).rows).getD (Int.toNat r0) default).carry)-((((aa.getD (Int.toNat x.sec) default).rows).getD (Int.toNat (r0-1)) default).carry))*(x.stage-((((aa.getD (Int.toNat x.sec) default).rows).getD (Int.toNat (r0-1)) default).stage))) / (((((aa.getD (Int.toNat x.sec) default).rows).getD (Int.toNat r0) default).stage)-((((aa.getD (Int.toNat x.sec) default).rows).getD (Int.toNat (r0-1)) default).stage))) (r:=((((aa.getD (Int.toNat x.sec) default).rows).getD (Int.toNat (r0-1)) default).carry)+(((((((aa.getD (Int.toNat x.sec) default).rows).getD (Int.toNat r0) default).carry)-((((aa.getD (Int.toNat x.sec) default).rows).getD (Int.toNat (r0-1)) default).carry))*(x.stage-((((aa.getD (Int.toNat x.sec) default).rows).getD (Int.toNat (r0-1)) default).stage))) / (((((aa.getD (Int.toNat x.sec) default).rows).getD (Int.toNat r0) default).stage)-((((aa.getD (Int.toNat x.sec) default).rows).getD (Int.toNat (r0-1)) default).stage)))) rfl rfl rfl (by omega)) ?_
   refine d_q rfl (fun w' H=>x_as (v:=I (((((aa.getD (Int.toNat x.sec) default).rows).getD (Int.toNat (r0-1)) default).carry)+(((((((aa.getD (Int.toNat x.sec) default).rows).getD (Int.toNat r0) default).carry)-((((aa.getD (Int.toNat x.sec) default).rows).getD (Int.toNat (r0-1)) default).carry))*(x.stage-((((aa.getD (Int.toNat x.sec) default).rows).getD (Int.toNat (r0-1)) default).stage))) / (((((aa.getD (Int.toNat x.sec) default).rows).getD (Int.toNat r0) default).stage)-((((aa.getD (Int.toNat x.sec) default).rows).getD (Int.toNat (r0-1)) default).stage))))) rfl) ?_
   refine d_nil ?_
   replace H:=H.pk [2,3]
   refine W.seq ?_
   refine W.draw (fun W=>St w W [cBlk ac [I x.sec,I x.stage] 160] R) [(0,true),(1,true),(2,true),(3,true),(4,true),(5,true),(6,false)] mixed (by decide +kernel) rfl ?_
   intro bQ ae
   replace H:=H.ext ae
   clear ae
   refine ⟨(H.pk [0]),?_⟩
   refine d_q rfl (fun w' H=>x_mv (v:=Pq ab) rfl) ?_
   refine d_q rfl (fun w' H=>x_nc (a:=⟨ab,0,none⟩) rfl) ?_
   refine d_q rfl (fun w' H=>x_fa (a:=Pq ab) (v:=Oq ab 3) rfl (fa_blk (o:=0) Fd177_1 Sz175)) ?_
   refine d_q rfl (fun w' H=>x_ld (p:=Oq ab 3) (v:=.map (some aj)) rfl (ldb_sc Sc175 (av.blk H) rfl)) ?_
   refine d_q rfl (fun w' H=>x_ld (p:=Pq ac) (v:=.agg #[I x.sec,I x.stage]) rfl (ldb_ag (ds:=[I x.sec,I x.stage]) Ag160 Sz160 (H.bl 0) rfl rfl)) ?_
   refine d_q rfl (fun w' H=>x_mv (v:=I (((((aa.getD (Int.toNat x.sec) default).rows).getD (Int.toNat (r0-1)) default).carry)+(((((((aa.getD (Int.toNat x.sec) default).rows).getD (Int.toNat r0) default).carry)-((((aa.getD (Int.toNat x.sec) default).rows).getD (Int.toNat (r0-1)) default).carry))*(x.stage-((((aa.getD (Int.toNat x.sec) default).rows).getD (Int.toNat (r0-1)) default).stage))) / (((((aa.getD (Int.toNat x.sec) default).rows).getD (Int.toNat r0) default).stage)-((((aa.getD (Int.toNat x.sec) default).rows).getD (Int.toNat (r0-1)) default).stage))))) rfl) ?_
   refine d_l rfl ?_
   refine t_mapu (i:=1) (kenc:=encSpt) (venc:=I) (f:=ak) (k:=x) (v:=((((aa.getD (Int.toNat x.sec) default).rows).getD (Int.toNat (r0-1)) default).carry)+(((((((aa.getD (Int.toNat x.sec) default).rows).getD (Int.toNat r0) default).carry)-((((aa.getD (Int.toNat x.sec) default).rows).getD (Int.toNat (r0-1)) default).carry))*(x.stage-((((aa.getD (Int.toNat x.sec) default).rows).getD (Int.toNat (r0-1)) default).stage))) / (((((aa.getD (Int.toNat x.sec) default).rows).getD (Int.toNat r0) default).stage)-((((aa.getD (Int.toNat x.sec) default).rows).getD (Int.toNat (r0-1)) default).stage)))) (L':=[cBlk ac [I x.sec,I x.stage] 160,cMap encSpt I aj (updF ak x (((((aa.getD (Int.toNat x.sec) default).rows).getD (Int.toNat (r0-1)) default).carry)+(((((((aa.getD (Int.toNat x.sec) default).rows).getD (Int.toNat r0) default).carry)-((((aa.getD (Int.toNat x.sec) default).rows).getD (Int.toNat (r0-1)) default).carry))*(x.stage-((((aa.getD (Int.toNat x.sec) default).rows).getD (Int.toNat (r0-1)) default).stage))) / (((((aa.getD (Int.toNat x.sec) default).rows).getD (Int.toNat r0) default).stage)-((((aa.getD (Int.toNat x.sec) default).rows).getD (Int.toNat (r0-1)) default).stage)))))]) keySpot Tryz.underlying175 H rfl rfl rfl rfl rfl ?_
   intro bR H
   refine s_nil ⟨(H.pk [0]),?_⟩
   refine d_nil ?_
   refine W.seq ?_
   refine W.region rfl ?_
   refine zM (I (((((aa.getD (Int.toNat x.sec) default).rows).getD (Int.toNat (r0-1)) default).carry)+(((((((aa.getD (Int.toNat x.sec) default).rows).getD (Int.toNat r0) default).carry)-((((aa.getD (Int.toNat x.sec) default).rows).getD (Int.toNat (r0-1)) default).carry))*(x.stage-((((aa.getD (Int.toNat x.sec) default).rows).getD (Int.toNat (r0-1)) default).stage))) / (((((aa.getD (Int.toNat x.sec) default).rows).getD (Int.toNat r0) default).stage)-((((aa.getD (Int.toNat x.sec) default).rows).getD (Int.toNat (r0-1)) default).stage))))) rfl ?_
   refine zA (I (((((aa.getD (Int.toNat x.sec) default).rows).getD (Int.toNat (r0-1)) default).carry)+(((((((aa.getD (Int.toNat x.sec) default).rows).getD (Int.toNat r0) default).carry)-((((aa.getD (Int.toNat x.sec) default).rows).getD (Int.toNat (r0-1)) default).carry))*(x.stage-((((aa.getD (Int.toNat x.sec) default).rows).getD (Int.toNat (r0-1)) default).stage))) / (((((aa.getD (Int.toNat x.sec) default).rows).getD (Int.toNat r0) default).stage)-((((aa.getD (Int.toNat x.sec) default).rows).getD (Int.toNat (r0-1)) default).stage))))) rfl ?_
   refine s_nil ?_
   refine W.ret ?_
   replace H:=St.memShutI H (i:=1) rfl (memIput aw (by rw [M.e_pure hM]; exact hM0))
   replace H:=H.nf
   have aq:=M.e_pure hM
   exact ⟨_,resE_tmp rfl,⟨(((((aa.getD (Int.toNat x.sec) default).rows).getD (Int.toNat (r0-1)) default).carry)+(((((((aa.getD (Int.toNat x.sec) default).rows).getD (Int.toNat r0) default).carry)-((((aa.getD (Int.toNat x.sec) default).rows).getD (Int.toNat (r0-1)) default).carry))*(x.stage-((((aa.getD (Int.toNat x.sec) default).rows).getD (Int.toNat (r0-1)) default).stage))) / (((((aa.getD (Int.toNat x.sec) default).rows).getD (Int.toNat r0) default).stage)-((((aa.getD (Int.toNat x.sec) default).rows).getD (Int.toNat (r0-1)) default).stage)))),aq,rfl,(H.pk [1])⟩⟩
  replace hM:=M.e_f hM az
  simp only [qy1,qy2,qy3,qy4,qy5,qy6,ne_eq,qy7] at az
  refine W.skip ?_
  refine W.seq ?_
  refine W.draw (fun W=>St w W [cBlk ac [I x.sec,I x.stage] 160] R) [(0,true),(1,true),(2,true),(3,true),(4,true),(5,true),(6,false)] mixed (by decide +kernel) rfl ?_
  intro bS ae
  replace H:=H.ext ae
  clear ae
  refine ⟨(H.pk [0]),?_⟩
  refine d_q rfl (fun w' H=>x_mv (v:=Pq ab) rfl) ?_
  refine d_q rfl (fun w' H=>x_nc (a:=⟨ab,0,none⟩) rfl) ?_
  refine d_q rfl (fun w' H=>x_fa (a:=Pq ab) (v:=Oq ab 3) rfl (fa_blk (o:=0) Fd177_1 Sz175)) ?_
  refine d_q rfl (fun w' H=>x_ld (p:=Oq ab 3) (v:=.map (some aj)) rfl (ldb_sc Sc175 (av.blk H) rfl)) ?_
  refine d_q rfl (fun w' H=>x_ld (p:=Pq ac) (v:=.agg #[I x.sec,I x.stage]) rfl (ldb_ag (ds:=[I x.sec,I x.stage]) Ag160 Sz160 (H.bl 0) rfl rfl)) ?_
  refine d_q rfl (fun w' H=>x_mv (v:=I 0) rfl) ?_
  refine d_l rfl ?_
  refine t_mapu (i:=1) (kenc:=encSpt) (venc:=I) (f:=ak) (k:=x) (v:=0) (L':=[cBlk ac [I x.sec,I x.stage] 160,cMap encSpt I aj (updF ak x 0)]) keySpot Tryz.underlying175 H rfl rfl rfl rfl rfl ?_
  intro bT H
  refine s_nil ⟨(H.pk [0]),?_⟩
  refine d_nil ?_
  refine W.seq ?_
  refine W.region rfl ?_
  refine zM (I 0) rfl ?_
  refine zA (I 0) rfl ?_
  refine s_nil ?_
  refine W.ret ?_
  replace H:=St.memShutI H (i:=1) rfl (memIput aw (by rw [M.e_pure hM]; exact hM0))
  replace H:=H.nf
  have aq:=M.e_pure hM
  exact ⟨_,resE_tmp rfl,⟨0,aq,rfl,(H.pk [1])⟩⟩
 | some ap =>
  have bj:=M.Ends.det (aw x ap aD) hM0
  subst bj
  replace hM:(M.pure ap).Ends ap:=M.i_pure
  refine W.seq ?_
  refine W.region rfl ?_
  refine t_box (v:=.agg #[I x.sec,I x.stage]) (cs:=[I x.sec,I x.stage]) H rfl rfl ?_
  intro ac bU H
  refine zA (I 0) rfl ?_
  refine s_nil ?_
  refine W.seq ?_
  refine W.seq ?_
  refine W.draw (fun W=>St w W [cBlk ac [I x.sec,I x.stage] 160] R) [(0,true),(1,true),(2,true),(3,true),(4,true),(5,false),(6,true),(7,true),(8,true),(9,true),(10,true)] mixed (by decide +kernel) rfl ?_
  intro bV ae
  replace H:=H.ext ae
  clear ae
  refine ⟨(H.pk [0]),?_⟩
  refine d_q rfl (fun w' H=>x_mv (v:=Pq ab) rfl) ?_
  refine d_q rfl (fun w' H=>x_nc (a:=⟨ab,0,none⟩) rfl) ?_
  refine d_q rfl (fun w' H=>x_fa (a:=Pq ab) (v:=Oq ab 3) rfl (fa_blk (o:=0) Fd177_1 Sz175)) ?_
  refine d_q rfl (fun w' H=>x_ld (p:=Oq ab 3) (v:=.map (some aj)) rfl (ldb_sc Sc175 (av.blk H) rfl)) ?_
  refine d_q rfl (fun w' H=>x_ld (p:=Pq ac) (v:=.agg #[I x.sec,I x.stage]) rfl (ldb_ag (ds:=[I x.sec,I x.stage]) Ag160 Sz160 (H.bl 0) rfl rfl)) ?_
  refine d_l rfl ?_
  refine s_val (q_look (kenc:=encSpt) (venc:=I) (f:=ak) (k:=x) (z:=I 0) (v:=.tuple #[I ap,B true]) keySpot Tryz.underlying175 Al3 rfl rfl (H.get (k:=1) rfl) true (by simp [aD])) ?_
  refine s_nil ⟨(H.pk [0]),?_⟩
  refine d_q rfl (fun w' H=>x_mv (v:=.tuple #[I ap,B true]) rfl) ?_
  refine d_q rfl (fun w' H=>x_ext (vs:=[I ap,B true]) (v:=I ap) rfl rfl) ?_
  refine d_q rfl (fun w' H=>x_ext (vs:=[I ap,B true]) (v:=B true) rfl rfl) ?_
  refine d_q rfl (fun w' H=>x_as (v:=I ap) rfl) ?_
  refine d_q rfl (fun w' H=>x_as (v:=B true) rfl) ?_
  refine d_nil ?_
  refine W.seq ?_
  refine W.region rfl ?_
  refine zM (B true) rfl ?_
  refine s_nil ?_
  refine W.cond true rfl (fun aM=>?_) (fun aM=>?_)
  ·skip
   refine W.seq ?_
   refine W.region rfl ?_
   refine zM (I ap) rfl ?_
   refine zA (I ap) rfl ?_
   refine s_nil ?_
   refine W.ret ?_
   replace H:=St.memShutI H (i:=1) rfl aw
   replace H:=H.nf
   have aq:=M.e_pure hM
   exact ⟨_,resE_tmp rfl,⟨ap,aq,rfl,(H.pk [1])⟩⟩
  skip
  exact absurd aM (by decide)

def zcT (n:Int):(Int × Int)->M ((Int × Int) ⊕ Int):=fun (low,high) =>
  bif decide (low<high) then (
  M.grd (decide ((-9223372036854775808:Int)<=(high-low))&&decide ((high-low)<=(9223372036854775807:Int))) <|
  M.grd (decide ((-9223372036854775808:Int)<=((high-low)+1))&&decide (((high-low)+1)<=(9223372036854775807:Int))) <|
  M.grd (decide (0<=((high-low)+1))&&decide (((high-low)+1)<=(9223372036854775807:Int))&&decide ((0:Int)<2)) <|
  M.grd (decide ((-9223372036854775808:Int)<=(low+(((high-low)+1) / 2)))&&decide ((low+(((high-low)+1) / 2))<=(9223372036854775807:Int))) <|
  M.grd (decide ((-9223372036854775808:Int)<=((low+(((high-low)+1) / 2))*(low+(((high-low)+1) / 2))))&&decide (((low+(((high-low)+1) / 2))*(low+(((high-low)+1) / 2)))<=(9223372036854775807:Int))) <|
  bif decide (((low+(((high-low)+1) / 2))*(low+(((high-low)+1) / 2)))<=n) then (
  M.pure (.inl (low+(((high-low)+1) / 2),high)))
  else (
  M.grd (decide ((-9223372036854775808:Int)<=((low+(((high-low)+1) / 2))-1))&&decide (((low+(((high-low)+1) / 2))-1)<=(9223372036854775807:Int))) <|
  M.pure (.inl (low,(low+(((high-low)+1) / 2))-1))))
  else (
  M.pure (.inr low))
def zc4 (n:Int):M Int :=
  M.bind (M.iter (zcT n) (0,2147483648)) fun low2 =>
  M.pure low2
theorem zdM {R:List Chunk}  (n:Int)  {r:Int} (hM:(zc4 n).Ends r) (w:World) (H:St w w [] R):Ret Tryz.prog 108 #[I n] w fun v w'=>∃ (y0:Int),y0=r/\v=I y0/\St w w' [] R:=by
 refine ret_of_W Tryz.func108 rfl rfl rfl ?_
 refine W.seq ?_
 refine W.region rfl ?_
 refine zA (I 0) rfl ?_
 refine s_nil ?_
 refine W.seq ?_
 refine W.region rfl ?_
 refine zA (I 0) rfl ?_
 refine zA (I 2147483648) rfl ?_
 refine s_nil ?_
 refine W.seq ?_
 refine W.block ?_
 obtain ⟨ak,ac,am⟩:=M.e_bind hM
 obtain ⟨az,ac⟩:=M.e_iter ac
 refine W.loop (fun m σ W=>∃ (low:Int) (high:Int) (ρ:Env),σ=upds ρ [(0,I n),(3,I low),(4,I high)]/\M.iterN (zcT n) m (low,high)=some ak/\St w W [] R) ?_ ?_
 ·exact ⟨_,0,2147483648,_,upds_of _ _ ⟨rfl,rfl,rfl,trivial⟩,ac,H⟩
 rintro aA σ aB ⟨low,high,ρ,rfl,ag,H⟩
 obtain ⟨ai,aj,aC,hM,ae⟩:=M.e_iterN ag
 simp only [zcT] at hM
 clear ag
 refine W.seq ?_
 refine W.seq ?_
 refine W.region rfl ?_
 refine zM (I low) rfl ?_
 refine zM (I high) rfl ?_
 refine zC low high (decide (low<high)) rfl rfl rfl ?_
 refine s_nil ?_
 refine W.cond (decide (low<high)) rfl (fun aa=>?_) (fun aa=>?_)
 ·replace hM:=M.e_t hM aa
  simp only [qy1,qy2,qy3,qy4,qy5,qy6,ne_eq,qy7] at aa
  refine W.skip ?_
  refine W.block ?_
  refine W.seq ?_
  refine W.region rfl ?_
  refine zM (I low) rfl ?_
  refine zM (I high) rfl ?_
  refine zM (I low) rfl ?_
  obtain ⟨ao,hM⟩:=M.e_grd hM
  simp only [Bool.and_eq_true,decide_eq_true_eq] at ao
  refine zR high low (high-low) rfl rfl rfl (by omega) ?_
  obtain ⟨ap,hM⟩:=M.e_grd hM
  simp only [Bool.and_eq_true,decide_eq_true_eq] at ap
  refine zR (high-low) 1 ((high-low)+1) rfl rfl rfl (by omega) ?_
  obtain ⟨aq,hM⟩:=M.e_grd hM
  simp only [Bool.and_eq_true,decide_eq_true_eq] at aq
  refine s_val (x_quo (a:=(high-low)+1) (b:=2) rfl rfl (by omega)) ?_
  obtain ⟨au,hM⟩:=M.e_grd hM
  simp only [Bool.and_eq_true,decide_eq_true_eq] at au
  refine zR low (((high-low)+1) / 2) (low+(((high-low)+1) / 2)) rfl rfl rfl (by omega) ?_
  refine zA (I (low+(((high-low)+1) / 2))) rfl ?_
  refine s_nil ?_
  refine W.seq ?_
  refine W.region rfl ?_
  refine zM (I (low+(((high-low)+1) / 2))) rfl ?_
  refine zM (I (low+(((high-low)+1) / 2))) rfl ?_
  obtain ⟨av,hM⟩:=M.e_grd hM
  simp only [Bool.and_eq_true,decide_eq_true_eq] at av
  refine zR (low+(((high-low)+1) / 2)) (low+(((high-low)+1) / 2)) ((low+(((high-low)+1) / 2))*(low+(((high-low)+1) / 2))) rfl rfl rfl (by omega) ?_
  refine zM (I n) rfl ?_
  refine zC ((low+(((high-low)+1) / 2))*(low+(((high-low)+1) / 2))) n (decide (((low+(((high-low)+1) / 2))*(low+(((high-low)+1) / 2)))<=n)) rfl rfl rfl ?_
  refine s_nil ?_
  refine W.cond (decide (((low+(((high-low)+1) / 2))*(low+(((high-low)+1) / 2)))<=n)) rfl (fun ab=>?_) (fun ab=>?_)
  ·replace hM:=M.e_t hM ab
   simp only [qy1,qy2,qy3,qy4,qy5,qy6,ne_eq,qy7] at ab
   refine W.region rfl ?_
   refine zM (I (low+(((high-low)+1) / 2))) rfl ?_
   refine zA (I (low+(((high-low)+1) / 2))) rfl ?_
   refine s_nil ?_
   exact ⟨ai,aj,low+(((high-low)+1) / 2),high,_,upds_of _ _ ⟨rfl,rfl,rfl,trivial⟩,M.e_inl hM ae,H⟩
  replace hM:=M.e_f hM ab
  simp only [qy1,qy2,qy3,qy4,qy5,qy6,ne_eq,qy7] at ab
  refine W.region rfl ?_
  refine zM (I (low+(((high-low)+1) / 2))) rfl ?_
  obtain ⟨aw,hM⟩:=M.e_grd hM
  simp only [Bool.and_eq_true,decide_eq_true_eq] at aw
  refine zR (low+(((high-low)+1) / 2)) 1 ((low+(((high-low)+1) / 2))-1) rfl rfl rfl (by omega) ?_
  refine zA (I ((low+(((high-low)+1) / 2))-1)) rfl ?_
  refine s_nil ?_
  exact ⟨ai,aj,low,(low+(((high-low)+1) / 2))-1,_,upds_of _ _ ⟨rfl,rfl,rfl,trivial⟩,M.e_inl hM ae,H⟩
 replace hM:=M.e_f hM aa
 simp only [qy1,qy2,qy3,qy4,qy5,qy6,ne_eq,qy7] at aa
 refine W.exit ?_
 have ax:=M.e_inr hM ae
 subst ax
 replace hM:=am
 try dsimp only at hM
 refine W.seq ?_
 refine W.region rfl ?_
 refine zM (I low) rfl ?_
 refine zA (I low) rfl ?_
 refine s_nil ?_
 refine W.ret ?_
 have ay:=M.e_pure hM
 exact ⟨_,resE_tmp rfl,⟨low,ay,rfl,H⟩⟩

def zbP (aa:List Sect) (ab:List Mrk) (ac:List Rch) (r_:Rch) (c:Cas) (r3:Int) (s:Int) (a:Int):M Int :=
  M.grd (decide ((0:Int)<=r_.down)&&decide (r_.down<(aa.length:Int))) <|
  M.grd (decide ((0:Int)<=r_.up)&&decide (r_.up<(aa.length:Int))) <|
  M.grd (decide ((-9223372036854775808:Int)<=(((aa.getD (Int.toNat r_.down) default).place)-((aa.getD (Int.toNat r_.up) default).place)))&&decide ((((aa.getD (Int.toNat r_.down) default).place)-((aa.getD (Int.toNat r_.up) default).place))<=(9223372036854775807:Int))) <|
  M.grd (decide ((-9223372036854775808:Int)<=(10000*a))&&decide ((10000*a)<=(9223372036854775807:Int))) <|
  M.grd (decide ((-9223372036854775808:Int)<=((10000*a)*r3))&&decide (((10000*a)*r3)<=(9223372036854775807:Int))) <|
  M.grd (decide ((-9223372036854775808:Int)<=(c.up-c.down))&&decide ((c.up-c.down)<=(9223372036854775807:Int))) <|
  M.grd (decide ((-9223372036854775808:Int)<=(((10000*a)*r3)*(c.up-c.down)))&&decide ((((10000*a)*r3)*(c.up-c.down))<=(9223372036854775807:Int))) <|
  M.grd (decide ((-9223372036854775808:Int)<=(s*c.roughdown))&&decide ((s*c.roughdown)<=(9223372036854775807:Int))) <|
  M.grd (decide ((-9223372036854775808:Int)<=((s*c.roughdown)*(((aa.getD (Int.toNat r_.down) default).place)-((aa.getD (Int.toNat r_.up) default).place))))&&decide (((s*c.roughdown)*(((aa.getD (Int.toNat r_.down) default).place)-((aa.getD (Int.toNat r_.up) default).place)))<=(9223372036854775807:Int))) <|
  M.grd (decide (0<=(((10000*a)*r3)*(c.up-c.down)))&&decide ((((10000*a)*r3)*(c.up-c.down))<=(9223372036854775807:Int))&&decide ((0:Int)<((s*c.roughdown)*(((aa.getD (Int.toNat r_.down) default).place)-((aa.getD (Int.toNat r_.up) default).place))))) <|
  M.bind (zc4 ((((10000*a)*r3)*(c.up-c.down)) / ((s*c.roughdown)*(((aa.getD (Int.toNat r_.down) default).place)-((aa.getD (Int.toNat r_.up) default).place))))) fun r4 =>
  M.pure r4
def zcj (aa:List Sect) (ab:List Mrk) (ac:List Rch) (r_:Rch) (c:Cas):M Int :=
  M.bind (zaa aa ab ac (⟨(r_.up:Int),(c.up:Int)⟩:Spot)) fun r2 =>
  M.bind (zaa aa ab ac (⟨(r_.down:Int),(c.down:Int)⟩:Spot)) fun r3 =>
  bif r_.narrow then (
  zbP aa ab ac r_ c r3 c.roughdown r3)
  else (
  zbP aa ab ac r_ c r3 c.roughup r2)
theorem zcG {R:List Chunk} {ac:Nat} {aw:Cells} {ag:Value} {ax:Cells} {ay:Value} {az:Cells} {aA:Value} {ap:Nat} (aa:List Sect) (ai:List Mrk) (aj:List Rch) (r_:Rch) (c:Cas) (aq:Reads R aw) (ak:Sl aw ag aa) (aB:Reads R ax) (aC:Sl ax ay ai) (aD:Reads R az) (aE:Sl az aA aj) (au:Has R (cBlk ac [ag,ay,aA,.map (some ap)] 177)) {r:Int} (hM:(zcj aa ai aj r_ c).Ends r) (w:World) (H:St w w [cMemI encSpt ap (zaa aa ai aj)] R):Ret Tryz.prog 72 #[Pq ac,.agg #[I r_.up,I r_.down,I r_.lo,I r_.hi,B r_.narrow],.agg #[I c.up,I c.down,I c.roughup,I c.roughdown]] w fun v w'=>∃ (y0:Int),y0=r/\v=I y0/\St w w' [cMemI encSpt ap (zaa aa ai aj)] R:=by
 refine ret_of_W Tryz.func72 rfl rfl rfl ?_
 refine W.seq ?_
 refine W.region rfl ?_
 refine t_box (v:=.agg #[I r_.up,I r_.down,I r_.lo,I r_.hi,B r_.narrow]) (cs:=[I r_.up,I r_.down,I r_.lo,I r_.hi,B r_.narrow]) H rfl rfl ?_
 intro ae aW H
 refine t_box (v:=.agg #[I c.up,I c.down,I c.roughup,I c.roughdown]) (cs:=[I c.up,I c.down,I c.roughup,I c.roughdown]) H rfl rfl ?_
 intro ab aX H
 refine zA (I 0) rfl ?_
 refine s_nil ?_
 refine W.seq ?_
 refine W.draw (fun W=>St w W [cBlk ab [I c.up,I c.down,I c.roughup,I c.roughdown] 61,cBlk ae [I r_.up,I r_.down,I r_.lo,I r_.hi,B r_.narrow] 58] R) [(0,true),(1,true),(2,true),(3,true),(4,true),(5,true),(7,true),(8,true),(9,true),(10,true),(11,true),(12,true),(6,false),(13,false),(14,true),(15,true)] mixed (by decide +kernel) rfl ?_
 intro aY am
 replace H:=H.ext am
 clear am
 refine ⟨(H.pk [0,1]),?_⟩
 refine d_q rfl (fun w' H=>x_mv (v:=Pq ac) rfl) ?_
 refine d_q rfl (fun w' H=>x_fa (a:=Pq ae) (v:=Pq ae) rfl (fa_blk (o:=0) Fd58_0 Sz3)) ?_
 refine d_q rfl (fun w' H=>x_ld (p:=Pq ae) (v:=I r_.up) rfl (ldb_sc Sc3 (H.bl 1) rfl)) ?_
 refine d_q rfl (fun w' H=>x_fa (a:=Pq ab) (v:=Pq ab) rfl (fa_blk (o:=0) Fd61_0 Sz3)) ?_
 refine d_q rfl (fun w' H=>x_ld (p:=Pq ab) (v:=I c.up) rfl (ldb_sc Sc3 (H.bl 0) rfl)) ?_
 refine d_q rfl (fun w' H=>x_bld (ps:=[(0,I r_.up),(1,I c.up)]) (zs:=[I 0,I 0]) (L':=[I r_.up,I c.up]) rfl Tryz.underlying160 Al160 rfl (Bd160 Tryz.underlying160) (.cons (cs:=[I r_.up]) rfl rfl rfl rfl rfl<|.cons (cs:=[I c.up]) rfl rfl rfl rfl rfl<|.nil)) ?_
 refine d_q rfl (fun w' H=>x_mv (v:=Pq ac) rfl) ?_
 refine d_q rfl (fun w' H=>x_fa (a:=Pq ae) (v:=Oq ae 1) rfl (fa_blk (o:=0) Fd58_1 Sz3)) ?_
 refine d_q rfl (fun w' H=>x_ld (p:=Oq ae 1) (v:=I r_.down) rfl (ldb_sc Sc3 (H.bl 1) rfl)) ?_
 refine d_q rfl (fun w' H=>x_fa (a:=Pq ab) (v:=Oq ab 1) rfl (fa_blk (o:=0) Fd61_1 Sz3)) ?_
 refine d_q rfl (fun w' H=>x_ld (p:=Oq ab 1) (v:=I c.down) rfl (ldb_sc Sc3 (H.bl 0) rfl)) ?_
 refine d_q rfl (fun w' H=>x_bld (ps:=[(0,I r_.down),(1,I c.down)]) (zs:=[I 0,I 0]) (L':=[I r_.down,I c.down]) rfl Tryz.underlying160 Al160 rfl (Bd160 Tryz.underlying160) (.cons (cs:=[I r_.down]) rfl rfl rfl rfl rfl<|.cons (cs:=[I c.down]) rfl rfl rfl rfl rfl<|.nil)) ?_
 refine d_l rfl ?_
 obtain ⟨aZ,aF,hM⟩:=M.e_bind hM
 refine s_call cf83 [Pq ac,.agg #[I r_.up,I c.up]] rfl (zcq aa ai aj (⟨(r_.up:Int),(c.up:Int)⟩:Spot) (aq.app _) ak (aB.app _) aC (aD.app _) aE (au.app _) aF _ ((H.pk [2,0,1]).gt 2)) ?_
 rintro vq a6 ⟨r2,aG,hvq,ao⟩
 subst aG
 subst vq
 try dsimp only at hM
 replace H:=H.pk [2,0,1] |>.bk ao
 clear ao
 refine s_nil ⟨(H.pk [1,2]),?_⟩
 refine d_l rfl ?_
 obtain ⟨a7,aH,hM⟩:=M.e_bind hM
 refine s_call cf83 [Pq ac,.agg #[I r_.down,I c.down]] rfl (zcq aa ai aj (⟨(r_.down:Int),(c.down:Int)⟩:Spot) (aq.app _) ak (aB.app _) aC (aD.app _) aE (au.app _) aH _ (H.gt 2)) ?_
 rintro vq a8 ⟨r3,aI,hvq,ao⟩
 subst aI
 subst vq
 try dsimp only at hM
 replace H:=H.bk ao
 clear ao
 refine s_nil ⟨(H.pk [1,2]),?_⟩
 refine d_q rfl (fun w' H=>x_as (v:=I r2) rfl) ?_
 refine d_q rfl (fun w' H=>x_as (v:=I r3) rfl) ?_
 refine d_nil ?_
 refine W.seqJ (fun σ W=>∃ (s:Int) (a:Int) (ρ:Env),σ=upds ρ [(0,Pq ac),(4,Pq ae),(5,Pq ab),(7,I a),(8,I r3)]/\(zbP aa ai aj r_ c r3 s a).Ends r/\St w W [cMemI encSpt ap (zaa aa ai aj),cBlk ab [I c.up,I c.down,I s,I c.roughdown] 61,cBlk ae [I r_.up,I r_.down,I r_.lo,I r_.hi,B r_.narrow] 58] R) ?_ ?_
 ·skip
  refine W.seq ?_
  refine W.region rfl ?_
  refine s_val (x_fa (a:=Pq ae) (v:=Oq ae 4) rfl (fa_blk (o:=0) Fd58_3 Sz4)) ?_
  refine s_val (x_ld (p:=Oq ae 4) (v:=B r_.narrow) rfl (ldb_sc Sc4 (H.bl 2) rfl)) ?_
  refine s_nil ?_
  refine W.cond r_.narrow rfl (fun av=>?_) (fun av=>?_)
  ·replace hM:=M.e_t hM av
   refine W.draw (fun W=>St w W [cMemI encSpt ap (zaa aa ai aj),cBlk ae [I r_.up,I r_.down,I r_.lo,I r_.hi,B r_.narrow] 58] R) [(0,true),(1,true),(3,true),(2,false),(4,true),(5,false)] mixed (by decide +kernel) rfl ?_
   intro ba am
   replace H:=H.ext am
   clear am
   refine ⟨(H.pk [0,2]),?_⟩
   refine d_q rfl (fun w' H=>x_mv (v:=I r3) rfl) ?_
   refine d_q rfl (fun w' H=>x_fa (a:=Pq ab) (v:=Oq ab 3) rfl (fa_blk (o:=0) Fd61_3 Sz3)) ?_
   refine d_q rfl (fun w' H=>x_as (v:=I r3) rfl) ?_
   refine d_l rfl ?_
   refine s_val (x_ld (p:=Oq ab 3) (v:=I c.roughdown) rfl (ldb_sc Sc3 (H.bl 1) rfl)) ?_
   refine s_nil ⟨(H.pk [0,2]),?_⟩
   refine d_q rfl (fun w' H=>x_fa (a:=Pq ab) (v:=Oq ab 2) rfl (fa_blk (o:=0) Fd61_2 Sz3)) ?_
   refine d_l rfl ?_
   refine t_sw 1 2 [I c.roughdown] (I c.roughdown) H rfl rfl Sz3 rfl rfl rfl rfl ?_
   intro bb H
   refine s_nil ⟨(H.pk [0,2]),?_⟩
   refine d_nil ?_
   exact ⟨c.roughdown,r3,_,upds_of _ _ ⟨rfl,rfl,rfl,rfl,rfl,trivial⟩,hM,H⟩
  replace hM:=M.e_f hM av
  refine W.skip ?_
  exact ⟨c.roughup,r2,_,upds_of _ _ ⟨rfl,rfl,rfl,rfl,rfl,trivial⟩,hM,H⟩
 rintro _ bc ⟨s,a,ρ,rfl,hM,H⟩
 unfold zbP at hM
 refine W.seq ?_
 refine W.draw (fun W=>St w W [cMemI encSpt ap (zaa aa ai aj),cBlk ab [I c.up,I c.down,I s,I c.roughdown] 61,cBlk ae [I r_.up,I r_.down,I r_.lo,I r_.hi,B r_.narrow] 58] R) [(0,true),(1,true),(2,true),(3,true),(4,true),(5,true),(6,true),(7,true),(8,true),(9,true),(10,true),(11,true),(12,true),(13,true),(14,true),(15,true),(16,true),(17,true),(18,true),(19,true),(20,true),(21,true)] mixed (by decide +kernel) rfl ?_
 intro bf am
 replace H:=H.ext am
 clear am
 refine ⟨(H.pk [0,1,2]),?_⟩
 refine d_q rfl (fun w' H=>x_mv (v:=Pq ac) rfl) ?_
 refine d_q rfl (fun w' H=>x_nc (a:=⟨ac,0,none⟩) rfl) ?_
 refine d_q rfl (fun w' H=>x_fa (a:=Pq ac) (v:=Pq ac) rfl (fa_blk (o:=0) Fd177_0 Sz27)) ?_
 refine d_q rfl (fun w' H=>x_fa (a:=Pq ac) (v:=Pq ac) rfl (fa_blk (o:=0) Fd27_0 Sz23)) ?_
 refine d_q rfl (fun w' H=>x_ld (p:=Pq ac) (v:=ag) rfl (ldb_sc Sc23 (au.blk H) rfl)) ?_
 refine d_q rfl (fun w' H=>x_fa (a:=Pq ae) (v:=Oq ae 1) rfl (fa_blk (o:=0) Fd58_1 Sz3)) ?_
 refine d_q rfl (fun w' H=>x_ld (p:=Oq ae 1) (v:=I r_.down) rfl (ldb_sc Sc3 (H.bl 2) rfl)) ?_
 obtain ⟨aJ,hM⟩:=M.e_grd hM
 simp only [Bool.and_eq_true,decide_eq_true_eq] at aJ
 refine d_q rfl (fun w' H=>x_ix (a:=ag) (b:=I r_.down) (v:=vat ag 2 (Int.toNat r_.down)) rfl rfl (Sl.ix (α:=Sect) T23.und T23.size ak (by omega) (by omega))) ?_
 refine d_q rfl (fun w' H=>x_fa (a:=vat ag 2 (Int.toNat r_.down)) (v:=fat (vat ag 2 (Int.toNat r_.down)) 0) rfl (fa_pl Fd68_0 Sz3 (Sl.pl (i:=r_.down) ak (by omega) (by omega)))) ?_
 refine d_q rfl (fun w' H=>x_ld (p:=fat (vat ag 2 (Int.toNat r_.down)) 0) (v:=I ((aa.getD (Int.toNat r_.down) default).place)) rfl (ld_sc Sc3 (At.mono (Sect_at0 ak (i:=r_.down) (by omega) (by omega)) (aq.at H)))) ?_
 refine d_q rfl (fun w' H=>x_mv (v:=Pq ac) rfl) ?_
 refine d_q rfl (fun w' H=>x_nc (a:=⟨ac,0,none⟩) rfl) ?_
 refine d_q rfl (fun w' H=>x_fa (a:=Pq ac) (v:=Pq ac) rfl (fa_blk (o:=0) Fd177_0 Sz27)) ?_
 refine d_q rfl (fun w' H=>x_fa (a:=Pq ac) (v:=Pq ac) rfl (fa_blk (o:=0) Fd27_0 Sz23)) ?_
 refine d_q rfl (fun w' H=>x_ld (p:=Pq ac) (v:=ag) rfl (ldb_sc Sc23 (au.blk H) rfl)) ?_
 refine d_q rfl (fun w' H=>x_fa (a:=Pq ae) (v:=Pq ae) rfl (fa_blk (o:=0) Fd58_0 Sz3)) ?_
 refine d_q rfl (fun w' H=>x_ld (p:=Pq ae) (v:=I r_.up) rfl (ldb_sc Sc3 (H.bl 2) rfl)) ?_
 obtain ⟨aK,hM⟩:=M.e_grd hM
 simp only [Bool.and_eq_true,decide_eq_true_eq] at aK
 refine d_q rfl (fun w' H=>x_ix (a:=ag) (b:=I r_.up) (v:=vat ag 2 (Int.toNat r_.up)) rfl rfl (Sl.ix (α:=Sect) T23.und T23.size ak (by omega) (by omega))) ?_
 refine d_q rfl (fun w' H=>x_fa (a:=vat ag 2 (Int.toNat r_.up)) (v:=fat (vat ag 2 (Int.toNat r_.up)) 0) rfl (fa_pl Fd68_0 Sz3 (Sl.pl (i:=r_.up) ak (by omega) (by omega)))) ?_
 refine d_q rfl (fun w' H=>x_ld (p:=fat (vat ag 2 (Int.toNat r_.up)) 0) (v:=I ((aa.getD (Int.toNat r_.up) default).place)) rfl (ld_sc Sc3 (At.mono (Sect_at0 ak (i:=r_.up) (by omega) (by omega)) (aq.at H)))) ?_
 obtain ⟨aL,hM⟩:=M.e_grd hM
 simp only [Bool.and_eq_true,decide_eq_true_eq] at aL
 refine d_q rfl (fun w' H=>x_ari (a:=(aa.getD (Int.toNat r_.down) default).place) (b:=(aa.getD (Int.toNat r_.up) default).place) (r:=((aa.getD (Int.toNat r_.down) default).place)-((aa.getD (Int.toNat r_.up) default).place)) rfl rfl rfl (by omega)) ?_
 refine d_q rfl (fun w' H=>x_as (v:=I (((aa.getD (Int.toNat r_.down) default).place)-((aa.getD (Int.toNat r_.up) default).place))) rfl) ?_
 refine d_nil ?_
 refine W.seq ?_
 refine W.region rfl ?_
 refine zM (I a) rfl ?_
 obtain ⟨aM,hM⟩:=M.e_grd hM
 simp only [Bool.and_eq_true,decide_eq_true_eq] at aM
 refine zR 10000 a (10000*a) rfl rfl rfl (by omega) ?_
 refine zM (I r3) rfl ?_
 obtain ⟨aN,hM⟩:=M.e_grd hM
 simp only [Bool.and_eq_true,decide_eq_true_eq] at aN
 refine zR (10000*a) r3 ((10000*a)*r3) rfl rfl rfl (by omega) ?_
 refine s_val (x_fa (a:=Pq ab) (v:=Pq ab) rfl (fa_blk (o:=0) Fd61_0 Sz3)) ?_
 refine s_val (x_ld (p:=Pq ab) (v:=I c.up) rfl (ldb_sc Sc3 (H.bl 1) rfl)) ?_
 refine s_val (x_fa (a:=Pq ab) (v:=Oq ab 1) rfl (fa_blk (o:=0) Fd61_1 Sz3)) ?_
 refine s_val (x_ld (p:=Oq ab 1) (v:=I c.down) rfl (ldb_sc Sc3 (H.bl 1) rfl)) ?_
 obtain ⟨aO,hM⟩:=M.e_grd hM
 simp only [Bool.and_eq_true,decide_eq_true_eq] at aO
 refine zR c.up c.down (c.up-c.down) rfl rfl rfl (by omega) ?_
 obtain ⟨aP,hM⟩:=M.e_grd hM
 simp only [Bool.and_eq_true,decide_eq_true_eq] at aP
 refine zR ((10000*a)*r3) (c.up-c.down) (((10000*a)*r3)*(c.up-c.down)) rfl rfl rfl (by omega) ?_
 refine s_val (x_fa (a:=Pq ab) (v:=Oq ab 2) rfl (fa_blk (o:=0) Fd61_2 Sz3)) ?_
 refine s_val (x_ld (p:=Oq ab 2) (v:=I s) rfl (ldb_sc Sc3 (H.bl 1) rfl)) ?_
 refine s_val (x_fa (a:=Pq ab) (v:=Oq ab 3) rfl (fa_blk (o:=0) Fd61_3 Sz3)) ?_
 refine s_val (x_ld (p:=Oq ab 3) (v:=I c.roughdown) rfl (ldb_sc Sc3 (H.bl 1) rfl)) ?_
 obtain ⟨aQ,hM⟩:=M.e_grd hM
 simp only [Bool.and_eq_true,decide_eq_true_eq] at aQ
 refine zR s c.roughdown (s*c.roughdown) rfl rfl rfl (by omega) ?_
 refine zM (I (((aa.getD (Int.toNat r_.down) default).place)-((aa.getD (Int.toNat r_.up) default).place))) rfl ?_
 obtain ⟨aR,hM⟩:=M.e_grd hM
 simp only [Bool.and_eq_true,decide_eq_true_eq] at aR
 refine zR (s*c.roughdown) (((aa.getD (Int.toNat r_.down) default).place)-((aa.getD (Int.toNat r_.up) default).place)) ((s*c.roughdown)*(((aa.getD (Int.toNat r_.down) default).place)-((aa.getD (Int.toNat r_.up) default).place))) rfl rfl rfl (by omega) ?_
 obtain ⟨aS,hM⟩:=M.e_grd hM
 simp only [Bool.and_eq_true,decide_eq_true_eq] at aS
 refine s_val (x_quo (a:=((10000*a)*r3)*(c.up-c.down)) (b:=(s*c.roughdown)*(((aa.getD (Int.toNat r_.down) default).place)-((aa.getD (Int.toNat r_.up) default).place))) rfl rfl (by omega)) ?_
 obtain ⟨bh,aT,hM⟩:=M.e_bind hM
 refine s_call cf108 [I ((((10000*a)*r3)*(c.up-c.down)) / ((s*c.roughdown)*(((aa.getD (Int.toNat r_.down) default).place)-((aa.getD (Int.toNat r_.up) default).place))))] rfl (zdM ((((10000*a)*r3)*(c.up-c.down)) / ((s*c.roughdown)*(((aa.getD (Int.toNat r_.down) default).place)-((aa.getD (Int.toNat r_.up) default).place)))) aT _ (H.gt 3)) ?_
 rintro vq bi ⟨r4,aU,hvq,ao⟩
 subst aU
 subst vq
 try dsimp only at hM
 replace H:=H.bk ao
 clear ao
 refine zA (I r4) rfl ?_
 refine s_nil ?_
 replace H:=H.pk [0]
 refine W.ret ?_
 have aV:=M.e_pure hM
 exact ⟨_,resE_tmp rfl,⟨r4,aV,rfl,H⟩⟩

def zc0:M Unit :=
  M.pure ()
theorem zde {R:List Chunk}    {r:Unit} (hM:(zc0).Ends r) (w:World) (H:St w w [] R):Ret Tryz.prog 67 #[] w fun v w'=>()=r/\v = .agg #[.func (.func 106) #[] #[]]/\St w w' [] R:=by
 refine ret_of_W Tryz.func67 rfl rfl rfl ?_
 refine W.seq ?_
 refine W.region rfl ?_
 refine t_alloc (cs:=[.nilFunc]) H Al138 rfl ?_
 intro ac ae H
 refine s_nil ?_
 refine W.seq ?_
 refine W.region rfl ?_
 refine s_val (x_bld (ps:=[(0,.func (.func 106) #[] #[])]) (zs:=[.nilFunc]) (L':=[.func (.func 106) #[] #[]]) rfl Tryz.underlying138 Al138 rfl (Bd138 Tryz.underlying138) (.cons (cs:=[.func (.func 106) #[] #[]]) rfl rfl rfl rfl rfl<|.nil)) ?_
 refine t_sw 0 0 [.func (.func 106) #[] #[]] (.agg #[.func (.func 106) #[] #[]]) H rfl rfl Sz138 rfl rfl rfl rfl ?_
 intro ag H
 refine s_nil ?_
 refine W.ret ?_
 have aa:=(H.bl 0)
 have ab:=M.e_pure hM
 exact ⟨_,(resE_of1 (v:=.agg #[.func (.func 106) #[] #[]]) rfl (.cell (v:=.agg #[.func (.func 106) #[] #[]]) rfl (run_loadVar_ag (ds:=[.func (.func 106) #[] #[]]) Ag138 Sz138 aa rfl rfl)<|.nil)),⟨ab,rfl,(H.pk [])⟩⟩

def zcS (l:List Int):(Int × Nat)->M ((Int × Nat) ⊕ Int):=fun (first2,s) =>
  bif decide ((s:Int)<(l.length:Int)) then (
  M.grd (decide ((s:Int)<(l.length:Int))) <|
  M.pure (.inl (min first2 (l.getD s 0),s+1)))
  else (
  M.pure (.inr first2))
def zb3 (first:Int) (l:List Int):M Int :=
  M.bind (M.iter (zcS l) (first,0)) fun first3 =>
  M.pure first3
theorem zcB {R:List Chunk} {ag:Cells} {aa:Value} (first:Int) (l:List Int) (ak:Reads R ag) (ac:Sl ag aa l) {r:Int} (hM:(zb3 first l).Ends r) (w:World) (H:St w w [] R):Ret Tryz.prog 73 #[I first,aa] w fun v w'=>∃ (y0:Int),y0=r/\v=I y0/\St w w' [] R:=by
 refine ret_of_W Tryz.func73 rfl rfl rfl ?_
 refine W.seq ?_
 refine W.region rfl ?_
 refine zA (I 0) rfl ?_
 refine s_nil ?_
 refine W.seq ?_
 refine W.seq ?_
 refine W.region rfl ?_
 refine zM aa rfl ?_
 have ax:=(ac).len_le
 refine s_val (x_lenS T28.und rfl ac) ?_
 refine zM (I 0) rfl ?_
 refine s_nil ?_
 refine W.block ?_
 obtain ⟨am,ae,ao⟩:=M.e_bind hM
 obtain ⟨ay,ae⟩:=M.e_iter ae
 refine W.loop (fun m σ W=>∃ (first2:Int) (s:Nat) (ρ:Env),σ=upds ρ [(0,I first2),(7,aa),(8,I (l.length:Int)),(9,I (s:Int))]/\M.iterN (zcS l) m (first2,s)=some am/\St w W [] R) ?_ ?_
 ·exact ⟨_,first,0,_,upds_of _ _ ⟨rfl,rfl,rfl,rfl,trivial⟩,ae,H⟩
 rintro az σ aA ⟨first2,s,ρ,rfl,ai,H⟩
 obtain ⟨ap,aq,aB,hM,aj⟩:=M.e_iterN ai
 simp only [zcS] at hM
 clear ai
 refine W.seq ?_
 refine W.region rfl ?_
 refine zC (s:Int) (l.length:Int) (decide ((s:Int)<(l.length:Int))) rfl rfl rfl ?_
 refine s_nil ?_
 refine W.seq ?_
 refine W.cond (decide ((s:Int)<(l.length:Int))) rfl (fun ab=>?_) (fun ab=>?_)
 ·replace hM:=M.e_t hM ab
  simp only [qy1,qy2,qy3,qy4,qy5,qy6,ne_eq,qy7] at ab
  refine W.skip ?_
  refine W.seq ?_
  refine W.block ?_
  refine W.seq ?_
  refine W.region rfl ?_
  obtain ⟨au,hM⟩:=M.e_grd hM
  simp only [Bool.and_eq_true,decide_eq_true_eq] at au
  refine s_val (x_ix (a:=aa) (b:=I (s:Int)) (v:=vat aa 1 (Int.toNat (s:Int))) rfl rfl (Sl.ix (α:=Int) T28.und T28.size ac (by omega) (by omega))) ?_
  refine s_val (x_ld (p:=vat aa 1 (Int.toNat (s:Int))) (v:=I (l.getD s 0)) rfl (ld_sc Sc3 (At.mono (Int_at ac (i:=(s:Int)) (by omega) (by omega)) (ak.at H)))) ?_
  refine zA (I (l.getD s 0)) rfl ?_
  refine s_nil ?_
  refine W.region rfl ?_
  refine zM (I first2) rfl ?_
  refine zM (I (l.getD s 0)) rfl ?_
  refine s_val (x_min (kd:=.i64) (a:=first2) (b:=l.getD s 0) rfl rfl) ?_
  refine zA (I (min first2 (l.getD s 0))) rfl ?_
  refine s_nil ?_
  refine W.region rfl ?_
  refine zR (s:Int) 1 ((s:Int)+1) rfl rfl rfl (by omega) ?_
  refine zM (I ((s:Int)+1)) rfl ?_
  refine s_nil ?_
  exact ⟨ap,aq,min first2 (l.getD s 0),s+1,_,upds_of _ _ ⟨rfl,rfl,rfl,rfl,trivial⟩,M.e_inl hM aj,H⟩
 replace hM:=M.e_f hM ab
 simp only [qy1,qy2,qy3,qy4,qy5,qy6,ne_eq,qy7] at ab
 refine W.exit ?_
 have av:=M.e_inr hM aj
 subst av
 replace hM:=ao
 try dsimp only at hM
 refine W.seq ?_
 refine W.region rfl ?_
 refine zM (I first2) rfl ?_
 refine zA (I first2) rfl ?_
 refine s_nil ?_
 refine W.ret ?_
 have aw:=M.e_pure hM
 exact ⟨_,resE_tmp rfl,⟨first2,aw,rfl,H⟩⟩

def zcN (ac:List Sect) (aa:List Mrk) (marks:List Int) (ab:Int):(Int × Int × Nat)->M ((Int × Int × Nat) ⊕ (Int × Int)):=fun (s2,s3,s4) =>
  bif decide ((s4:Int)<(marks.length:Int)) then (
  M.grd (decide ((s4:Int)<(marks.length:Int))) <|
  M.grd (decide ((0:Int)<=(marks.getD s4 0))&&decide ((marks.getD s4 0)<(aa.length:Int))) <|
  M.grd (decide ((0:Int)<=ab)&&decide (ab<(ac.length:Int))) <|
  bif decide (((aa.getD (Int.toNat (marks.getD s4 0)) default).place)<=((ac.getD (Int.toNat ab) default).place)) then (
  M.bind (zb3 s3 ([((aa.getD (Int.toNat (marks.getD s4 0)) default).hi:Int)])) fun r2 =>
  bif decide (((ac.getD (Int.toNat ab) default).place)<=((aa.getD (Int.toNat (marks.getD s4 0)) default).place)) then (
  M.pure (.inl (max s2 ((aa.getD (Int.toNat (marks.getD s4 0)) default).lo),r2,s4+1)))
  else (
  M.pure (.inl (s2,r2,s4+1))))
  else (
  bif decide (((ac.getD (Int.toNat ab) default).place)<=((aa.getD (Int.toNat (marks.getD s4 0)) default).place)) then (
  M.pure (.inl (max s2 ((aa.getD (Int.toNat (marks.getD s4 0)) default).lo),s3,s4+1)))
  else (
  M.pure (.inl (s2,s3,s4+1)))))
  else (
  M.pure (.inr (s2,s3)))
def zaL (aa:List Sect) (ab:List Mrk) (ae:List Rch) (marks:List Int) (ac:Int):M (Int × Int) :=
  M.bind (M.iter (zcN aa ab marks ac) (0,2000,0)) fun (s5,s6) =>
  M.pure (s5,s6)
theorem za4 {R:List Chunk} {ac:Nat} {aF:Cells} {ai:Value} {aG:Cells} {ap:Value} {aH:Cells} {aI:Value} {aP:Nat} {aJ:Cells} {ao:Value} (aj:List Sect) (aa:List Mrk) (aK:List Rch) (marks:List Int) (ab:Int) (aD:Reads R aF) (ak:Sl aF ai aj) (aQ:Reads R aG) (aL:Sl aG ap aa) (a8:Reads R aH) (ba:Sl aH aI aK) (az:Has R (cBlk ac [ai,ap,aI,.map (some aP)] 177)) (aR:Reads R aJ) (aA:Sl aJ ao marks) {r:(Int × Int)} (hM:(zaL aj aa aK marks ab).Ends r) (w:World) (H:St w w [] R):Ret Tryz.prog 59 #[Pq ac,ao,I ab] w fun v w'=>∃ (y0:Int) (y1:Int),(y0,y1)=r/\v = .agg #[I y0,I y1]/\St w w' [] R:=by
 refine ret_of_W Tryz.func59 rfl rfl rfl ?_
 refine W.seq ?_
 refine W.region rfl ?_
 refine t_alloc (cs:=[I 0,I 0]) H Al54 rfl ?_
 intro aq bb H
 refine s_nil ?_
 refine W.seq ?_
 refine W.region rfl ?_
 refine s_val (x_bld (ps:=[(1,I 2000)]) (zs:=[I 0,I 0]) (L':=[I 0,I 2000]) rfl Tryz.underlying54 Al54 rfl (Bd54 Tryz.underlying54) (.cons (cs:=[I 2000]) rfl rfl rfl rfl rfl<|.nil)) ?_
 refine t_alloc (cs:=[I 0,I 0]) H Al54 rfl ?_
 intro ag bc H
 refine t_sw 0 0 [I 0,I 2000] (.agg #[I 0,I 2000]) H rfl rfl Sz54 rfl rfl rfl rfl ?_
 intro bf H
 refine s_nil ?_
 refine W.seq ?_
 refine W.seq ?_
 refine W.region rfl ?_
 refine zM ao rfl ?_
 have bh:=(aA).len_le
 refine s_val (x_lenS T28.und rfl aA) ?_
 refine zM (I 0) rfl ?_
 refine s_nil ?_
 refine W.block ?_
 obtain ⟨aS,aE,aT⟩:=M.e_bind hM
 obtain ⟨bi,aE⟩:=M.e_iter aE
 refine W.loop (fun m σ W=>∃ (s2:Int) (s3:Int) (s4:Nat) (ρ:Env),σ=upds ρ [(0,Pq ac),(2,I ab),(6,Pq aq),(7,Pq ag),(12,ao),(13,I (marks.length:Int)),(14,I (s4:Int))]/\M.iterN (zcN aj aa marks ab) m (s2,s3,s4)=some aS/\St w W [cBlk ag [I s2,I s3] 54,cBlk aq [I 0,I 0] 54] R) ?_ ?_
 ·exact ⟨_,0,2000,0,_,upds_of _ _ ⟨rfl,rfl,rfl,rfl,rfl,rfl,rfl,trivial⟩,aE,H⟩
 rintro bj σ bm ⟨s2,s3,s4,ρ,rfl,aM,H⟩
 obtain ⟨aB,aC,bn,hM,au⟩:=M.e_iterN aM
 simp only [zcN] at hM
 clear aM
 refine W.seq ?_
 refine W.region rfl ?_
 refine zC (s4:Int) (marks.length:Int) (decide ((s4:Int)<(marks.length:Int))) rfl rfl rfl ?_
 refine s_nil ?_
 refine W.seq ?_
 refine W.cond (decide ((s4:Int)<(marks.length:Int))) rfl (fun av=>?_) (fun av=>?_)
 ·replace hM:=M.e_t hM av
  simp only [qy1,qy2,qy3,qy4,qy5,qy6,ne_eq,qy7] at av
  refine W.skip ?_
  refine W.seq ?_
  refine W.block ?_
  refine W.seq ?_
  refine W.region rfl ?_
  obtain ⟨aU,hM⟩:=M.e_grd hM
  simp only [Bool.and_eq_true,decide_eq_true_eq] at aU
  refine s_val (x_ix (a:=ao) (b:=I (s4:Int)) (v:=vat ao 1 (Int.toNat (s4:Int))) rfl rfl (Sl.ix (α:=Int) T28.und T28.size aA (by omega) (by omega))) ?_
  refine s_val (x_ld (p:=vat ao 1 (Int.toNat (s4:Int))) (v:=I (marks.getD s4 0)) rfl (ld_sc Sc3 (At.mono (Int_at aA (i:=(s4:Int)) (by omega) (by omega)) (aR.at H)))) ?_
  refine zA (I (marks.getD s4 0)) rfl ?_
  refine s_nil ?_
  refine W.seq ?_
  refine W.region rfl ?_
  refine zM (Pq ac) rfl ?_
  refine s_val (x_nc (a:=⟨ac,0,none⟩) rfl) ?_
  refine s_val (x_fa (a:=Pq ac) (v:=Pq ac) rfl (fa_blk (o:=0) Fd177_0 Sz27)) ?_
  refine s_val (x_fa (a:=Pq ac) (v:=Oq ac 1) rfl (fa_blk (o:=0) Fd27_1 Sz24)) ?_
  refine s_val (x_ld (p:=Oq ac 1) (v:=ap) rfl (ldb_sc Sc24 (az.blk H) rfl)) ?_
  refine zM (I (marks.getD s4 0)) rfl ?_
  obtain ⟨aV,hM⟩:=M.e_grd hM
  simp only [Bool.and_eq_true,decide_eq_true_eq] at aV
  refine s_val (x_ix (a:=ap) (b:=I (marks.getD s4 0)) (v:=vat ap 3 (Int.toNat (marks.getD s4 0))) rfl rfl (Sl.ix (α:=Mrk) T24.und T24.size aL (by omega) (by omega))) ?_
  refine s_val (x_ld (p:=vat ap 3 (Int.toNat (marks.getD s4 0))) (v:=.agg #[I ((aa.getD (Int.toNat (marks.getD s4 0)) default).place),I ((aa.getD (Int.toNat (marks.getD s4 0)) default).lo),I ((aa.getD (Int.toNat (marks.getD s4 0)) default).hi)]) rfl (ld_ag Ag70 Sz70 (At.mono (Mrk_atA aL (i:=marks.getD s4 0) (by omega) (by omega)) (aQ.at H)))) ?_
  refine t_alloc (cs:=[I 0,I 0,I 0]) H Al70 rfl ?_
  intro ae bo H
  refine t_sw 0 0 [I ((aa.getD (Int.toNat (marks.getD s4 0)) default).place),I ((aa.getD (Int.toNat (marks.getD s4 0)) default).lo),I ((aa.getD (Int.toNat (marks.getD s4 0)) default).hi)] (.agg #[I ((aa.getD (Int.toNat (marks.getD s4 0)) default).place),I ((aa.getD (Int.toNat (marks.getD s4 0)) default).lo),I ((aa.getD (Int.toNat (marks.getD s4 0)) default).hi)]) H rfl rfl Sz70 rfl rfl rfl rfl ?_
  intro bp H
  refine s_nil ?_
  refine W.seq ?_
  refine W.seq ?_
  refine W.draw (fun W=>St w W [cBlk ae [I ((aa.getD (Int.toNat (marks.getD s4 0)) default).place),I ((aa.getD (Int.toNat (marks.getD s4 0)) default).lo),I ((aa.getD (Int.toNat (marks.getD s4 0)) default).hi)] 70,cBlk ag [I s2,I s3] 54,cBlk aq [I 0,I 0] 54] R) [(0,true),(1,true),(2,true),(3,true),(4,true),(5,true),(6,true),(7,true),(8,true),(9,true),(10,true),(11,true)] mixed (by decide +kernel) rfl ?_
  intro bq am
  replace H:=H.ext am
  clear am
  refine ⟨(H.pk [0,1,2]),?_⟩
  refine d_q rfl (fun w' H=>x_fa (a:=Pq ae) (v:=Pq ae) rfl (fa_blk (o:=0) Fd70_0 Sz3)) ?_
  refine d_q rfl (fun w' H=>x_ld (p:=Pq ae) (v:=I ((aa.getD (Int.toNat (marks.getD s4 0)) default).place)) rfl (ldb_sc Sc3 (H.bl 0) rfl)) ?_
  refine d_q rfl (fun w' H=>x_mv (v:=Pq ac) rfl) ?_
  refine d_q rfl (fun w' H=>x_nc (a:=⟨ac,0,none⟩) rfl) ?_
  refine d_q rfl (fun w' H=>x_fa (a:=Pq ac) (v:=Pq ac) rfl (fa_blk (o:=0) Fd177_0 Sz27)) ?_
  refine d_q rfl (fun w' H=>x_fa (a:=Pq ac) (v:=Pq ac) rfl (fa_blk (o:=0) Fd27_0 Sz23)) ?_
  refine d_q rfl (fun w' H=>x_ld (p:=Pq ac) (v:=ai) rfl (ldb_sc Sc23 (az.blk H) rfl)) ?_
  refine d_q rfl (fun w' H=>x_mv (v:=I ab) rfl) ?_
  obtain ⟨aW,hM⟩:=M.e_grd hM
  simp only [Bool.and_eq_true,decide_eq_true_eq] at aW
  refine d_q rfl (fun w' H=>x_ix (a:=ai) (b:=I ab) (v:=vat ai 2 (Int.toNat ab)) rfl rfl (Sl.ix (α:=Sect) T23.und T23.size ak (by omega) (by omega))) ?_
  refine d_q rfl (fun w' H=>x_fa (a:=vat ai 2 (Int.toNat ab)) (v:=fat (vat ai 2 (Int.toNat ab)) 0) rfl (fa_pl Fd68_0 Sz3 (Sl.pl (i:=ab) ak (by omega) (by omega)))) ?_
  refine d_q rfl (fun w' H=>x_ld (p:=fat (vat ai 2 (Int.toNat ab)) 0) (v:=I ((aj.getD (Int.toNat ab) default).place)) rfl (ld_sc Sc3 (At.mono (Sect_at0 ak (i:=ab) (by omega) (by omega)) (aD.at H)))) ?_
  refine d_q rfl (fun w' H=>x_cmp (kd:=.i64) (a:=(aa.getD (Int.toNat (marks.getD s4 0)) default).place) (b:=(aj.getD (Int.toNat ab) default).place) (r:=decide (((aa.getD (Int.toNat (marks.getD s4 0)) default).place)<=((aj.getD (Int.toNat ab) default).place))) rfl rfl rfl) ?_
  refine d_nil ?_
  refine W.cond (decide (((aa.getD (Int.toNat (marks.getD s4 0)) default).place)<=((aj.getD (Int.toNat ab) default).place))) rfl (fun aw=>?_) (fun aw=>?_)
  ·replace hM:=M.e_t hM aw
   simp only [qy1,qy2,qy3,qy4,qy5,qy6,ne_eq,qy7] at aw
   refine W.region rfl ?_
   refine s_val (x_fa (a:=Pq ag) (v:=Oq ag 1) rfl (fa_blk (o:=0) Fd54_1 Sz3)) ?_
   refine s_val (x_ld (p:=Oq ag 1) (v:=I s3) rfl (ldb_sc Sc3 (H.bl 1) rfl)) ?_
   refine s_val (x_fa (a:=Pq ae) (v:=Oq ae 1) rfl (fa_blk (o:=0) Fd70_1 Sz54)) ?_
   refine s_val (x_fa (a:=Oq ae 1) (v:=Oq ae 2) rfl (fa_blk (o:=1) Fd54_1 Sz3)) ?_
   refine s_val (x_ld (p:=Oq ae 2) (v:=I ((aa.getD (Int.toNat (marks.getD s4 0)) default).hi)) rfl (ldb_sc Sc3 (H.bl 0) rfl)) ?_
   refine t_bs (α:=Int) T28 [I ((aa.getD (Int.toNat (marks.getD s4 0)) default).hi)] [((aa.getD (Int.toNat (marks.getD s4 0)) default).hi:Int)] H rfl (.cons rfl (Flat.rep_enc _ ((aa.getD (Int.toNat (marks.getD s4 0)) default).hi:Int))<|.nil) rfl rfl rfl ?_
   intro aN br H
   obtain ⟨bt,aX,hM⟩:=M.e_bind hM
   refine s_call cf73 [I s3,aN] rfl (zcB s3 ([((aa.getD (Int.toNat (marks.getD s4 0)) default).hi:Int)]) (rdo 0) (H.os 0) aX _ (H.gt 4)) ?_
   rintro vq bu ⟨r2,aY,hvq,aO⟩
   subst aY
   subst vq
   try dsimp only at hM
   replace H:=H.bk aO
   clear aO
   refine s_val (x_fa (a:=Pq ag) (v:=Oq ag 1) rfl (fa_blk (o:=0) Fd54_1 Sz3)) ?_
   refine t_sw 2 1 [I r2] (I r2) H rfl rfl Sz3 rfl rfl rfl rfl ?_
   intro bv H
   refine s_nil ?_
   refine W.seq ?_
   refine W.draw (fun W=>St w W [cOwn (α:=Int) 3 aN ([((aa.getD (Int.toNat (marks.getD s4 0)) default).hi:Int)]),cBlk ae [I ((aa.getD (Int.toNat (marks.getD s4 0)) default).place),I ((aa.getD (Int.toNat (marks.getD s4 0)) default).lo),I ((aa.getD (Int.toNat (marks.getD s4 0)) default).hi)] 70,cBlk ag [I s2,I r2] 54,cBlk aq [I 0,I 0] 54] R) [(0,true),(1,true),(2,true),(3,true),(4,true),(5,true),(6,true),(7,true),(8,true),(9,true),(10,true),(11,true)] mixed (by decide +kernel) rfl ?_
   intro bw am
   replace H:=H.ext am
   clear am
   refine ⟨(H.pk [0,1,2,3]),?_⟩
   refine d_q rfl (fun w' H=>x_fa (a:=Pq ae) (v:=Pq ae) rfl (fa_blk (o:=0) Fd70_0 Sz3)) ?_
   refine d_q rfl (fun w' H=>x_ld (p:=Pq ae) (v:=I ((aa.getD (Int.toNat (marks.getD s4 0)) default).place)) rfl (ldb_sc Sc3 (H.bl 1) rfl)) ?_
   refine d_q rfl (fun w' H=>x_mv (v:=Pq ac) rfl) ?_
   refine d_q rfl (fun w' H=>x_nc (a:=⟨ac,0,none⟩) rfl) ?_
   refine d_q rfl (fun w' H=>x_fa (a:=Pq ac) (v:=Pq ac) rfl (fa_blk (o:=0) Fd177_0 Sz27)) ?_
   refine d_q rfl (fun w' H=>x_fa (a:=Pq ac) (v:=Pq ac) rfl (fa_blk (o:=0) Fd27_0 Sz23)) ?_
   refine d_q rfl (fun w' H=>x_ld (p:=Pq ac) (v:=ai) rfl (ldb_sc Sc23 (az.blk H) rfl)) ?_
   refine d_q rfl (fun w' H=>x_mv (v:=I ab) rfl) ?_
   refine d_q rfl (fun w' H=>x_ix (a:=ai) (b:=I ab) (v:=vat ai 2 (Int.toNat ab)) rfl rfl (Sl.ix (α:=Sect) T23.und T23.size ak (by omega) (by omega))) ?_
   refine d_q rfl (fun w' H=>x_fa (a:=vat ai 2 (Int.toNat ab)) (v:=fat (vat ai 2 (Int.toNat ab)) 0) rfl (fa_pl Fd68_0 Sz3 (Sl.pl (i:=ab) ak (by omega) (by omega)))) ?_
   refine d_q rfl (fun w' H=>x_ld (p:=fat (vat ai 2 (Int.toNat ab)) 0) (v:=I ((aj.getD (Int.toNat ab) default).place)) rfl (ld_sc Sc3 (At.mono (Sect_at0 ak (i:=ab) (by omega) (by omega)) (aD.at H)))) ?_
   refine d_q rfl (fun w' H=>x_cmp (kd:=.i64) (a:=(aa.getD (Int.toNat (marks.getD s4 0)) default).place) (b:=(aj.getD (Int.toNat ab) default).place) (r:=decide (((aj.getD (Int.toNat ab) default).place)<=((aa.getD (Int.toNat (marks.getD s4 0)) default).place))) rfl rfl rfl) ?_
   refine d_nil ?_
   refine W.cond (decide (((aj.getD (Int.toNat ab) default).place)<=((aa.getD (Int.toNat (marks.getD s4 0)) default).place))) rfl (fun ax=>?_) (fun ax=>?_)
   ·replace hM:=M.e_t hM ax
    simp only [qy1,qy2,qy3,qy4,qy5,qy6,ne_eq,qy7] at ax
    refine W.region rfl ?_
    refine s_val (x_fa (a:=Pq ag) (v:=Pq ag) rfl (fa_blk (o:=0) Fd54_0 Sz3)) ?_
    refine s_val (x_ld (p:=Pq ag) (v:=I s2) rfl (ldb_sc Sc3 (H.bl 2) rfl)) ?_
    refine s_val (x_fa (a:=Pq ae) (v:=Oq ae 1) rfl (fa_blk (o:=0) Fd70_1 Sz54)) ?_
    refine s_val (x_fa (a:=Oq ae 1) (v:=Oq ae 1) rfl (fa_blk (o:=1) Fd54_0 Sz3)) ?_
    refine s_val (x_ld (p:=Oq ae 1) (v:=I ((aa.getD (Int.toNat (marks.getD s4 0)) default).lo)) rfl (ldb_sc Sc3 (H.bl 1) rfl)) ?_
    refine s_val (x_max (kd:=.i64) (a:=s2) (b:=(aa.getD (Int.toNat (marks.getD s4 0)) default).lo) rfl rfl) ?_
    refine s_val (x_fa (a:=Pq ag) (v:=Pq ag) rfl (fa_blk (o:=0) Fd54_0 Sz3)) ?_
    refine t_sw 2 0 [I (max s2 ((aa.getD (Int.toNat (marks.getD s4 0)) default).lo))] (I (max s2 ((aa.getD (Int.toNat (marks.getD s4 0)) default).lo))) H rfl rfl Sz3 rfl rfl rfl rfl ?_
    intro bx H
    refine s_nil ?_
    replace H:=H.pk [2,3]
    refine W.region rfl ?_
    refine zR (s4:Int) 1 ((s4:Int)+1) rfl rfl rfl (by omega) ?_
    refine zM (I ((s4:Int)+1)) rfl ?_
    refine s_nil ?_
    exact ⟨aB,aC,max s2 ((aa.getD (Int.toNat (marks.getD s4 0)) default).lo),r2,s4+1,_,upds_of _ _ ⟨rfl,rfl,rfl,rfl,rfl,rfl,rfl,trivial⟩,M.e_inl hM au,H⟩
   replace hM:=M.e_f hM ax
   simp only [qy1,qy2,qy3,qy4,qy5,qy6,ne_eq,qy7] at ax
   refine W.skip ?_
   replace H:=H.pk [2,3]
   refine W.region rfl ?_
   refine zR (s4:Int) 1 ((s4:Int)+1) rfl rfl rfl (by omega) ?_
   refine zM (I ((s4:Int)+1)) rfl ?_
   refine s_nil ?_
   exact ⟨aB,aC,s2,r2,s4+1,_,upds_of _ _ ⟨rfl,rfl,rfl,rfl,rfl,rfl,rfl,trivial⟩,M.e_inl hM au,H⟩
  replace hM:=M.e_f hM aw
  simp only [qy1,qy2,qy3,qy4,qy5,qy6,ne_eq,qy7] at aw
  refine W.skip ?_
  refine W.seq ?_
  refine W.draw (fun W=>St w W [cBlk ae [I ((aa.getD (Int.toNat (marks.getD s4 0)) default).place),I ((aa.getD (Int.toNat (marks.getD s4 0)) default).lo),I ((aa.getD (Int.toNat (marks.getD s4 0)) default).hi)] 70,cBlk ag [I s2,I s3] 54,cBlk aq [I 0,I 0] 54] R) [(0,true),(1,true),(2,true),(3,true),(4,true),(5,true),(6,true),(7,true),(8,true),(9,true),(10,true),(11,true)] mixed (by decide +kernel) rfl ?_
  intro bz am
  replace H:=H.ext am
  clear am
  refine ⟨(H.pk [0,1,2]),?_⟩
  refine d_q rfl (fun w' H=>x_fa (a:=Pq ae) (v:=Pq ae) rfl (fa_blk (o:=0) Fd70_0 Sz3)) ?_
  refine d_q rfl (fun w' H=>x_ld (p:=Pq ae) (v:=I ((aa.getD (Int.toNat (marks.getD s4 0)) default).place)) rfl (ldb_sc Sc3 (H.bl 0) rfl)) ?_
  refine d_q rfl (fun w' H=>x_mv (v:=Pq ac) rfl) ?_
  refine d_q rfl (fun w' H=>x_nc (a:=⟨ac,0,none⟩) rfl) ?_
  refine d_q rfl (fun w' H=>x_fa (a:=Pq ac) (v:=Pq ac) rfl (fa_blk (o:=0) Fd177_0 Sz27)) ?_
  refine d_q rfl (fun w' H=>x_fa (a:=Pq ac) (v:=Pq ac) rfl (fa_blk (o:=0) Fd27_0 Sz23)) ?_
  refine d_q rfl (fun w' H=>x_ld (p:=Pq ac) (v:=ai) rfl (ldb_sc Sc23 (az.blk H) rfl)) ?_
  refine d_q rfl (fun w' H=>x_mv (v:=I ab) rfl) ?_
  refine d_q rfl (fun w' H=>x_ix (a:=ai) (b:=I ab) (v:=vat ai 2 (Int.toNat ab)) rfl rfl (Sl.ix (α:=Sect) T23.und T23.size ak (by omega) (by omega))) ?_
  refine d_q rfl (fun w' H=>x_fa (a:=vat ai 2 (Int.toNat ab)) (v:=fat (vat ai 2 (Int.toNat ab)) 0) rfl (fa_pl Fd68_0 Sz3 (Sl.pl (i:=ab) ak (by omega) (by omega)))) ?_
  refine d_q rfl (fun w' H=>x_ld (p:=fat (vat ai 2 (Int.toNat ab)) 0) (v:=I ((aj.getD (Int.toNat ab) default).place)) rfl (ld_sc Sc3 (At.mono (Sect_at0 ak (i:=ab) (by omega) (by omega)) (aD.at H)))) ?_
  refine d_q rfl (fun w' H=>x_cmp (kd:=.i64) (a:=(aa.getD (Int.toNat (marks.getD s4 0)) default).place) (b:=(aj.getD (Int.toNat ab) default).place) (r:=decide (((aj.getD (Int.toNat ab) default).place)<=((aa.getD (Int.toNat (marks.getD s4 0)) default).place))) rfl rfl rfl) ?_
  refine d_nil ?_
  refine W.cond (decide (((aj.getD (Int.toNat ab) default).place)<=((aa.getD (Int.toNat (marks.getD s4 0)) default).place))) rfl (fun ay=>?_) (fun ay=>?_)
  ·replace hM:=M.e_t hM ay
   simp only [qy1,qy2,qy3,qy4,qy5,qy6,ne_eq,qy7] at ay
   refine W.region rfl ?_
   refine s_val (x_fa (a:=Pq ag) (v:=Pq ag) rfl (fa_blk (o:=0) Fd54_0 Sz3)) ?_
   refine s_val (x_ld (p:=Pq ag) (v:=I s2) rfl (ldb_sc Sc3 (H.bl 1) rfl)) ?_
   refine s_val (x_fa (a:=Pq ae) (v:=Oq ae 1) rfl (fa_blk (o:=0) Fd70_1 Sz54)) ?_
   refine s_val (x_fa (a:=Oq ae 1) (v:=Oq ae 1) rfl (fa_blk (o:=1) Fd54_0 Sz3)) ?_
   refine s_val (x_ld (p:=Oq ae 1) (v:=I ((aa.getD (Int.toNat (marks.getD s4 0)) default).lo)) rfl (ldb_sc Sc3 (H.bl 0) rfl)) ?_
   refine s_val (x_max (kd:=.i64) (a:=s2) (b:=(aa.getD (Int.toNat (marks.getD s4 0)) default).lo) rfl rfl) ?_
   refine s_val (x_fa (a:=Pq ag) (v:=Pq ag) rfl (fa_blk (o:=0) Fd54_0 Sz3)) ?_
   refine t_sw 1 0 [I (max s2 ((aa.getD (Int.toNat (marks.getD s4 0)) default).lo))] (I (max s2 ((aa.getD (Int.toNat (marks.getD s4 0)) default).lo))) H rfl rfl Sz3 rfl rfl rfl rfl ?_
   intro bA H
   refine s_nil ?_
   refine W.region rfl ?_
   refine zR (s4:Int) 1 ((s4:Int)+1) rfl rfl rfl (by omega) ?_
   refine zM (I ((s4:Int)+1)) rfl ?_
   refine s_nil ?_
   exact ⟨aB,aC,max s2 ((aa.getD (Int.toNat (marks.getD s4 0)) default).lo),s3,s4+1,_,upds_of _ _ ⟨rfl,rfl,rfl,rfl,rfl,rfl,rfl,trivial⟩,M.e_inl hM au,(H.pk [1,2])⟩
  replace hM:=M.e_f hM ay
  simp only [qy1,qy2,qy3,qy4,qy5,qy6,ne_eq,qy7] at ay
  refine W.skip ?_
  refine W.region rfl ?_
  refine zR (s4:Int) 1 ((s4:Int)+1) rfl rfl rfl (by omega) ?_
  refine zM (I ((s4:Int)+1)) rfl ?_
  refine s_nil ?_
  exact ⟨aB,aC,s2,s3,s4+1,_,upds_of _ _ ⟨rfl,rfl,rfl,rfl,rfl,rfl,rfl,trivial⟩,M.e_inl hM au,(H.pk [1,2])⟩
 replace hM:=M.e_f hM av
 simp only [qy1,qy2,qy3,qy4,qy5,qy6,ne_eq,qy7] at av
 refine W.exit ?_
 have aZ:=M.e_inr hM au
 subst aZ
 replace hM:=aT
 try dsimp only at hM
 refine W.seq ?_
 refine W.region rfl ?_
 refine s_val (x_ld (p:=Pq ag) (v:=.agg #[I s2,I s3]) rfl (ldb_ag (ds:=[I s2,I s3]) Ag54 Sz54 (H.bl 0) rfl rfl)) ?_
 refine t_sw 1 0 [I s2,I s3] (.agg #[I s2,I s3]) H rfl rfl Sz54 rfl rfl rfl rfl ?_
 intro bB H
 refine s_nil ?_
 refine W.ret ?_
 have a6:=(H.bl 1)
 have a7:=M.e_pure hM
 exact ⟨_,(resE_of1 (v:=.agg #[I s2,I s3]) rfl (.cell (v:=.agg #[I s2,I s3]) rfl (run_loadVar_ag (ds:=[I s2,I s3]) Ag54 Sz54 a6 rfl rfl)<|.nil)),⟨s2,s3,a7,rfl,(H.pk [])⟩⟩

def zcu (a:Int) (b:Int):M Bool :=
  M.pure (decide (a<b))
theorem zc8 {R:List Chunk}  (a:Int) (b:Int)  {r:Bool} (hM:(zcu a b).Ends r) (w:World) (H:St w w [] R):Ret Tryz.prog 106 #[I a,I b] w fun v w'=>∃ (y0:Bool),y0=r/\v=B y0/\St w w' [] R:=by
 refine ret_of_W Tryz.func106 rfl rfl rfl ?_
 refine W.seq ?_
 refine W.region rfl ?_
 refine zA (B false) rfl ?_
 refine s_nil ?_
 refine W.seq ?_
 refine W.region rfl ?_
 refine zM (I a) rfl ?_
 refine zM (I b) rfl ?_
 refine zC a b (decide (a<b)) rfl rfl rfl ?_
 refine zA (B (decide (a<b))) rfl ?_
 refine s_nil ?_
 refine W.ret ?_
 have aa:=M.e_pure hM
 exact ⟨_,resE_tmp rfl,⟨(decide (a<b)),aa,rfl,H⟩⟩

def zcp (s:Span):M (Int × Int) :=
  M.pure (s.lo,s.hi)
theorem zdj {R:List Chunk}  (s:Span)  {r:(Int × Int)} (hM:(zcp s).Ends r) (w:World) (H:St w w [] R):Ret Tryz.prog 95 #[.agg #[I s.lo,I s.hi]] w fun v w'=>∃ (y0:Int) (y1:Int) (ab:Nat),(y0,y1)=r/\v = .func (.func 119) #[] #[Pq ab]/\St w w' [cBlk ab [I y0,I y1] 54] R:=by
 refine ret_of_W Tryz.func95 rfl rfl rfl ?_
 refine W.seq ?_
 refine W.region rfl ?_
 refine t_box (v:=.agg #[I s.lo,I s.hi]) (cs:=[I s.lo,I s.hi]) H rfl rfl ?_
 intro aa ae H
 refine zA .nilFunc rfl ?_
 refine s_nil ?_
 refine W.seq ?_
 refine W.region rfl ?_
 refine s_val (x_mf (fs:=[]) (cs:=[Pq aa]) rfl rfl) ?_
 refine zA (.func (.func 119) #[] #[Pq aa]) rfl ?_
 refine s_nil ?_
 refine W.ret ?_
 have ac:=M.e_pure hM
 exact ⟨_,resE_tmp rfl,⟨s.lo,s.hi,aa,ac,rfl,H⟩⟩

def zcn {T_:Type} (aa:T_->Int->M (Bool × T_)) (ab:Int):(Int × T_)->M ((Int × T_) ⊕ (T_ ⊕ T_)):=fun (n,t2) =>
  bif decide (n<=ab) then (
  M.bind (aa t2 n) fun (go,t) =>
  bif !go then (
  M.pure (.inr (.inl t)))
  else (
  M.grd (decide ((-9223372036854775808:Int)<=(n+1))&&decide ((n+1)<=(9223372036854775807:Int))) <|
  M.pure (.inl (n+1,t))))
  else (
  M.pure (.inr (.inr t2)))
def zaK {T_:Type} (aa:T_->Int->M (Bool × T_)) (t_:T_) (ab:Int) (ac:Int):M T_ :=
  M.bind (M.iter (zcn aa ac) (ab,t_)) fun x_=>match x_ with
  | (.inl t3)=>(
  M.pure t3)
  | (.inr t4)=>(
  M.pure t4)
theorem zc3 {R:List Chunk} {T_:Type} {Y_:T_->List Chunk->Prop} {ag:Value} {ai:List Chunk} {aa:Nat} (aj:T_->Int->M (Bool × T_)) (t_:T_) (ac:Int) (ab:Int) (ay:YieldC Tryz.prog R arI Y_ ag aj) (az:Y_ t_ ai) (aq:Has R (cBlk aa [I ac,I ab] 54)) {r:T_} (hM:(zaK aj t_ ac ab).Ends r) (w:World) (H:St w w [cAll ai] R):Ret Tryz.prog 119 #[ag,Pq aa] w fun v w'=>∃ (y0:T_) (Ls0:List Chunk),y0=r/\v = .tuple #[]/\St w w' [cAll Ls0] R/\Y_ y0 Ls0:=by
 refine ret_of_W Tryz.func119 rfl rfl rfl ?_
 refine W.seq ?_
 refine W.region rfl ?_
 refine s_val (x_fa (a:=Pq aa) (v:=Pq aa) rfl (fa_blk (o:=0) Fd54_0 Sz3)) ?_
 refine s_val (x_ld (p:=Pq aa) (v:=I ac) rfl (ldb_sc Sc3 (aq.blk H) rfl)) ?_
 refine zA (I ac) rfl ?_
 refine s_nil ?_
 refine W.block ?_
 obtain ⟨aA,ak,au⟩:=M.e_bind hM
 obtain ⟨aH,ak⟩:=M.e_iter ak
 refine W.loop (fun m σ W=>∃ (n:Int) (t2:T_) (Ls_t2:List Chunk) (ρ:Env),σ=upds ρ [(0,ag),(1,Pq aa),(3,I n)]/\M.iterN (zcn aj ab) m (n,t2)=some aA/\St w W [cAll Ls_t2] R/\Y_ t2 Ls_t2) ?_ ?_
 ·exact ⟨_,ac,t_,ai,_,upds_of _ _ ⟨rfl,rfl,rfl,trivial⟩,ak,H,az⟩
 rintro aI σ aJ ⟨n,t2,Ls_t2,ρ,rfl,av,H,hY_t2⟩
 obtain ⟨aB,aC,aK,hM,am⟩:=M.e_iterN av
 simp only [zcn] at hM
 clear av
 refine W.seq ?_
 refine W.seq ?_
 refine W.region rfl ?_
 refine zM (I n) rfl ?_
 refine s_val (x_fa (a:=Pq aa) (v:=Oq aa 1) rfl (fa_blk (o:=0) Fd54_1 Sz3)) ?_
 refine s_val (x_ld (p:=Oq aa 1) (v:=I ab) rfl (ldb_sc Sc3 (aq.blk H) rfl)) ?_
 refine zC n ab (decide (n<=ab)) rfl rfl rfl ?_
 refine s_nil ?_
 refine W.cond (decide (n<=ab)) rfl (fun ae=>?_) (fun ae=>?_)
 ·replace hM:=M.e_t hM ae
  simp only [qy1,qy2,qy3,qy4,qy5,qy6,ne_eq,qy7] at ae
  refine W.skip ?_
  refine W.seq ?_
  refine W.block ?_
  refine W.seq ?_
  refine W.region rfl ?_
  refine zM ag rfl ?_
  refine zM (I n) rfl ?_
  obtain ⟨⟨go,t⟩,aD,hM⟩:=M.e_bind hM
  try dsimp only at hM
  refine t_yield (L:=[]) H ay hY_t2 rfl [I n] rfl n Reads.none rfl aD ?_
  intro aw aL ax H
  replace H:=H.nf
  refine s_val (x_not (b:=go) rfl) ?_
  refine s_nil ?_
  refine W.cond (!go) rfl (fun ao=>?_) (fun ao=>?_)
  ·replace hM:=M.e_t hM ao
   refine W.ret ?_
   have aE:=M.e_inr hM am
   subst aE
   replace hM:=au
   try dsimp only at hM
   have ap:=M.e_pure hM
   exact ⟨_,resE_tmp0 rfl,⟨t,aw,ap,rfl,H,ax⟩⟩
  replace hM:=M.e_f hM ao
  refine W.skip ?_
  refine W.region rfl ?_
  refine zM (I n) rfl ?_
  obtain ⟨aF,hM⟩:=M.e_grd hM
  simp only [Bool.and_eq_true,decide_eq_true_eq] at aF
  refine zR n 1 (n+1) rfl rfl rfl (by omega) ?_
  refine zA (I (n+1)) rfl ?_
  refine s_nil ?_
  exact ⟨aB,aC,n+1,t,aw,_,upds_of _ _ ⟨rfl,rfl,rfl,trivial⟩,M.e_inl hM am,H,ax⟩
 replace hM:=M.e_f hM ae
 simp only [qy1,qy2,qy3,qy4,qy5,qy6,ne_eq,qy7] at ae
 refine W.exit ?_
 have aG:=M.e_inr hM am
 subst aG
 replace hM:=au
 try dsimp only at hM
 have ap:=M.e_pure hM
 exact ⟨_,resE_tmp0 rfl,⟨t2,Ls_t2,ap,rfl,H,hY_t2⟩⟩
theorem zdB {T_:Type} {n_:Nat} {y y':T_->Int->M (Bool × T_)} (h:∀ s a,M.LeN n_ (y s a) (y' s a)) (t_:T_) (aa:Int) (ab:Int):M.LeN n_ (zaK y t_ aa ab) (zaK y' t_ aa ab):=by
  simp only [zaK,zcn]
  repeat' (first | exact M.le_same _ _ | exact h _ _ | refine M.le_grd ?_ | refine M.le_if ?_ ?_ | refine M.le_bind ?_ (fun x=>?_) | refine M.le_opt ?_ | refine M.le_iter (fun x=>?_) _ | (rename_i x; cases x) | (rename_i x; obtain ⟨_,_⟩:=x))

end Go.Proofs.YtlemgioaakecpaaGreat
end
section
set_option maxRecDepth 100000
set_option maxHeartbeats 16000000
namespace Go.Proofs.YtlemgioaakecpaaGreat
open Go Go.Nm
def zaD (aa:List Sect) (ab:List Mrk) (ac:List Rch) (r_:Rch) (r0:Int) (r2:Bool):(Int × Int × Int × Int × Int)->Int->M ((Int × Int × Int × Int × Int) ⊕ Unit):=fun (s,s2,s3,s4,s5) x =>
  bif r2 then (
  M.fail)
  else (
  M.bind (zcj aa ab ac r_ (⟨(max r0 x:Int),(x:Int),(r_.hi:Int),(r_.hi:Int)⟩:Cas)) fun r4 =>
  M.bind (M.opt (!(decide ((⟨(s2:Int),(s3:Int),(s4:Int),(s5:Int)⟩:Cas)=(⟨(0:Int),(0:Int),(0:Int),(0:Int)⟩:Cas)))) (zcu r4 s) false) fun r5 =>
  bif ((decide ((⟨(s2:Int),(s3:Int),(s4:Int),(s5:Int)⟩:Cas)=(⟨(0:Int),(0:Int),(0:Int),(0:Int)⟩:Cas)))||r5) then (
  M.pure (.inl (r4,max r0 x,x,r_.hi,r_.hi)))
  else (
  M.pure (.inl (s,s2,s3,s4,s5))))
def zcQ (aa:List Sect) (ab:List Mrk) (ac:List Rch) (marks:List Int) (r_:Rch):M (Int × Int × Int × Int × Int) :=
  M.bind (zaL aa ab ac marks r_.up) fun (r0,r1) =>
  M.bind (zaL aa ab ac marks r_.down) fun (ae,ag) =>
  M.bind (zcu 1 0) fun r2 =>
  bif !r2 then (
  M.bind (zb3 ag ([(r1:Int)])) fun r3 =>
  M.bind (zcp (⟨(ae:Int),(r3:Int)⟩:Span)) fun (ai,aj) =>
  M.bind (zaK (M.yl (zaD aa ab ac r_ r0 r2)) (.inl (0,0,0,0,0)) ai aj) fun x_=>match x_ with
  | .inl (s,s2,s3,s4,s5)=>(
  M.pure (s2,s3,s4,s5,s))
  | .inr _=>M.fail)
  else (
  M.fail)
theorem zcL {R:List Chunk} {ag:Nat} {aZ:Cells} {a6:Value} {a7:Cells} {a8:Value} {ba:Cells} {bb:Value} {ai:Nat} {bc:Cells} {aB:Value} (ab:List Sect) (ac:List Mrk) (ae:List Rch) (marks:List Int) (r_:Rch) (aF:Reads R aZ) (aL:Sl aZ a6 ab) (aG:Reads R a7) (aM:Sl a7 a8 ac) (aH:Reads R ba) (aN:Sl ba bb ae) (aI:Has R (cBlk ag [a6,a8,bb,.map (some ai)] 177)) (aO:Reads R bc) (aS:Sl bc aB marks) {r:(Int × Int × Int × Int × Int)} (hM:(zcQ ab ac ae marks r_).Ends r) (w:World) (H:St w w [cMemI encSpt ai (zaa ab ac ae)] R):Ret Tryz.prog 69 #[Pq ag,aB,.agg #[I r_.up,I r_.down,I r_.lo,I r_.hi,B r_.narrow],.agg #[.func (.func 106) #[] #[]]] w fun v w'=>∃ (y0:Int) (y1:Int) (y2:Int) (y3:Int) (y4:Int),(y0,y1,y2,y3,y4)=r/\v = .tuple #[.agg #[I y0,I y1,I y2,I y3],I y4]/\St w w' [cMemI encSpt ai (zaa ab ac ae)] R:=by
 refine ret_of_WD Tryz.func69 rfl rfl rfl ?_
 replace H:St w w [cMk ([]),cMemI encSpt ai (zaa ab ac ae)] R:=H.mk0
 have bQ:=aL.len_le
 have bR:=aM.len_le
 have bS:=aN.len_le
 have bT:=aS.len_le
 unfold zcQ at hM
 refine WD.seq ?_
 refine WD.of ?_
 refine W.region rfl ?_
 refine t_box (v:=Pq ag) (cs:=[Pq ag]) H rfl rfl ?_
 intro am bU H
 refine t_box (v:=.agg #[I r_.up,I r_.down,I r_.lo,I r_.hi,B r_.narrow]) (cs:=[I r_.up,I r_.down,I r_.lo,I r_.hi,B r_.narrow]) H rfl rfl ?_
 intro aa bV H
 refine t_box (v:=.agg #[.func (.func 106) #[] #[]]) (cs:=[.func (.func 106) #[] #[]]) H rfl rfl ?_
 intro aj bW H
 refine t_alloc (cs:=[I 0,I 0,I 0,I 0]) H Al61 rfl ?_
 intro ao bX H
 refine zA (I 0) rfl ?_
 refine s_nil ?_
 refine WD.seq ?_
 refine WD.of ?_
 refine W.drawA (fun W=>St w W [cBlk ao [I 0,I 0,I 0,I 0] 61,cBlk aj [.func (.func 106) #[] #[]] 138,cBlk aa [I r_.up,I r_.down,I r_.lo,I r_.hi,B r_.narrow] 58,cBlk am [Pq ag] 112,cMk ([]),cMemI encSpt ai (zaa ab ac ae)] R) [(0,true),(1,true),(2,true),(3,true),(5,true),(6,true),(7,true),(8,true),(4,false),(9,false)] [(10,10,54,[I 0,I 0]),(11,11,54,[I 0,I 0])] (.l 12 (.l 13 .nil)) 2 mixed (by decide +kernel) rfl (by intro x hx; simp only [List.mem_cons,List.not_mem_nil,or_false] at hx; rcases hx with rfl | rfl <;> first | exact ⟨_,_,_,rfl,_,Al54,rfl⟩) (by decide) (by decide) H ?_
 refine sa_q (fun ak w_ H=>(St.pick H [0,1,2,3,4,5] (by decide) rfl)) rfl rfl (fun g_ w' H=>x_ld (p:=Pq am) (v:=Pq ag) rfl (ldb_sc Sc112 (H.bl 3) rfl)) ?_
 refine sa_q (fun ak w_ H=>(St.pick H [0,1,2,3,4,5] (by decide) rfl)) rfl rfl (fun g_ w' H=>x_mv (v:=aB) rfl) ?_
 refine sa_q (fun ak w_ H=>(St.pick H [0,1,2,3,4,5] (by decide) rfl)) rfl rfl (fun g_ w' H=>x_fa (a:=Pq aa) (v:=Pq aa) rfl (fa_blk (o:=0) Fd58_0 Sz3)) ?_
 refine sa_q (fun ak w_ H=>(St.pick H [0,1,2,3,4,5] (by decide) rfl)) rfl rfl (fun g_ w' H=>x_ld (p:=Pq aa) (v:=I r_.up) rfl (ldb_sc Sc3 (H.bl 2) rfl)) ?_
 refine sa_q (fun ak w_ H=>(St.pick H [0,1,2,3,4,5] (by decide) rfl)) rfl rfl (fun g_ w' H=>x_ld (p:=Pq am) (v:=Pq ag) rfl (ldb_sc Sc112 (H.bl 3) rfl)) ?_
 refine sa_q (fun ak w_ H=>(St.pick H [0,1,2,3,4,5] (by decide) rfl)) rfl rfl (fun g_ w' H=>x_mv (v:=aB) rfl) ?_
 refine sa_q (fun ak w_ H=>(St.pick H [0,1,2,3,4,5] (by decide) rfl)) rfl rfl (fun g_ w' H=>x_fa (a:=Pq aa) (v:=Oq aa 1) rfl (fa_blk (o:=0) Fd58_1 Sz3)) ?_
 refine sa_q (fun ak w_ H=>(St.pick H [0,1,2,3,4,5] (by decide) rfl)) rfl rfl (fun g_ w' H=>x_ld (p:=Oq aa 1) (v:=I r_.down) rfl (ldb_sc Sc3 (H.bl 2) rfl)) ?_
 refine sa_l (fun ak w_ H=>(St.pick H [0,1,2,3,4,5] (by decide) rfl)) rfl ?_
 intro g_ ak bi H
 replace H:St w bi (cBlk ao [I 0,I 0,I 0,I 0] 61 :: cBlk aj [.func (.func 106) #[] #[]] 138 :: cBlk aa [I r_.up,I r_.down,I r_.lo,I r_.hi,B r_.narrow] 58 :: cBlk am [Pq ag] 112 :: cMk ([]) :: cMemI encSpt ai (zaa ab ac ae) :: ak) R:=H
 obtain ⟨bY,bj,hM⟩:=M.e_bind hM
 refine s_call cf59 [Pq ag,aB,I r_.up] rfl (za4 ab ac ae marks r_.up (aF.app _) aL (aG.app _) aM (aH.app _) aN (aI.app _) (aO.app _) aS bj _ (St.give (T:=(cBlk ao [I 0,I 0,I 0,I 0] 61 :: cBlk aj [.func (.func 106) #[] #[]] 138 :: cBlk aa [I r_.up,I r_.down,I r_.lo,I r_.hi,B r_.narrow] 58 :: cBlk am [Pq ag] 112 :: cMk ([]) :: cMemI encSpt ai (zaa ab ac ae) :: ak)) H rfl)) ?_
 rintro vq bm ⟨r0,r1,bn,hvq,ap⟩
 subst bn
 subst vq
 try dsimp only at hM
 replace H:St w bm (cBlk ao [I 0,I 0,I 0,I 0] 61 :: cBlk aj [.func (.func 106) #[] #[]] 138 :: cBlk aa [I r_.up,I r_.down,I r_.lo,I r_.hi,B r_.narrow] 58 :: cBlk am [Pq ag] 112 :: cMk ([]) :: cMemI encSpt ai (zaa ab ac ae) :: ak) R:=H.back ap rfl
 clear ap
 refine s_nil ⟨(St.pick H [0,1,2,3,4,5] (by decide) rfl),_,[cBlk ao [I 0,I 0,I 0,I 0] 61,cBlk aj [.func (.func 106) #[] #[]] 138,cBlk aa [I r_.up,I r_.down,I r_.lo,I r_.hi,B r_.narrow] 58,cBlk am [Pq ag] 112,cMk ([]),cMemI encSpt ai (zaa ab ac ae)],mix_upd rfl,H,?_⟩
 refine sa_l (fun ak w_ H=>(St.pick H [0,1,2,3,4,5] (by decide) rfl)) rfl ?_
 intro g_ ak bo H
 replace H:St w bo (cBlk ao [I 0,I 0,I 0,I 0] 61 :: cBlk aj [.func (.func 106) #[] #[]] 138 :: cBlk aa [I r_.up,I r_.down,I r_.lo,I r_.hi,B r_.narrow] 58 :: cBlk am [Pq ag] 112 :: cMk ([]) :: cMemI encSpt ai (zaa ab ac ae) :: ak) R:=H
 obtain ⟨bZ,bp,hM⟩:=M.e_bind hM
 refine s_call cf59 [Pq ag,aB,I r_.down] rfl (za4 ab ac ae marks r_.down (aF.app _) aL (aG.app _) aM (aH.app _) aN (aI.app _) (aO.app _) aS bp _ (St.give (T:=(cBlk ao [I 0,I 0,I 0,I 0] 61 :: cBlk aj [.func (.func 106) #[] #[]] 138 :: cBlk aa [I r_.up,I r_.down,I r_.lo,I r_.hi,B r_.narrow] 58 :: cBlk am [Pq ag] 112 :: cMk ([]) :: cMemI encSpt ai (zaa ab ac ae) :: ak)) H rfl)) ?_
 rintro vq bq ⟨au,aw,br,hvq,ap⟩
 subst br
 subst vq
 try dsimp only at hM
 replace H:St w bq (cBlk ao [I 0,I 0,I 0,I 0] 61 :: cBlk aj [.func (.func 106) #[] #[]] 138 :: cBlk aa [I r_.up,I r_.down,I r_.lo,I r_.hi,B r_.narrow] 58 :: cBlk am [Pq ag] 112 :: cMk ([]) :: cMemI encSpt ai (zaa ab ac ae) :: ak) R:=H.back ap rfl
 clear ap
 refine s_nil ⟨(St.pick H [0,1,2,3,4,5] (by decide) rfl),_,[cBlk ao [I 0,I 0,I 0,I 0] 61,cBlk aj [.func (.func 106) #[] #[]] 138,cBlk aa [I r_.up,I r_.down,I r_.lo,I r_.hi,B r_.narrow] 58,cBlk am [Pq ag] 112,cMk ([]),cMemI encSpt ai (zaa ab ac ae)],mix_upd rfl,H,?_⟩
 refine sa_nil (fun ak w_ H=>(St.pick H [0,1,2,3,4,5] (by decide) rfl)) ?_
 intro aq av bt H
 replace H:St w bt [cBlk ao [I 0,I 0,I 0,I 0] 61,cBlk aj [.func (.func 106) #[] #[]] 138,cBlk aa [I r_.up,I r_.down,I r_.lo,I r_.hi,B r_.narrow] 58,cBlk am [Pq ag] 112,cMk ([]),cMemI encSpt ai (zaa ab ac ae),cBlk aq [I 0,I 0] 54,cBlk av [I 0,I 0] 54] R:=(H)
 refine t_l rfl ?_
 refine t_sw 6 0 [I r0,I r1] (.agg #[I r0,I r1]) H rfl rfl Sz54 rfl rfl rfl rfl ?_
 intro b4 H
 refine s_nil ⟨(St.pick H [0,1,2,3,4,5] (by decide) rfl),?_⟩
 refine t_l rfl ?_
 refine t_sw 7 0 [I au,I aw] (.agg #[I au,I aw]) H rfl rfl Sz54 rfl rfl rfl rfl ?_
 intro b5 H
 refine s_nil ⟨(St.pick H [0,1,2,3,4,5] (by decide) rfl),?_⟩
 refine t_nil ?_
 refine WD.seq ?_
 refine WD.of ?_
 refine W.drawA (fun W=>St w W [cBlk ao [I 0,I 0,I 0,I 0] 61,cBlk aj [.func (.func 106) #[] #[]] 138,cBlk aa [I r_.up,I r_.down,I r_.lo,I r_.hi,B r_.narrow] 58,cBlk am [Pq ag] 112,cMk ([]),cMemI encSpt ai (zaa ab ac ae),cBlk aq [I r0,I r1] 54,cBlk av [I au,I aw] 54] R) [(0,true),(1,true),(2,true),(3,true),(4,true),(5,false)] [(6,12,3,[I 0]),(7,13,4,[B false])] (.l 8 (.l 9 .nil)) 2 mixed (by decide +kernel) rfl (by intro x hx; simp only [List.mem_cons,List.not_mem_nil,or_false] at hx; rcases hx with rfl | rfl <;> first | exact ⟨_,_,_,rfl,_,Al3,rfl⟩ | exact ⟨_,_,_,rfl,_,Al4,rfl⟩) (by decide) (by decide) H ?_
 refine sa_q (fun ak w_ H=>(St.pick H [0,1,2,3,4,5,6,7] (by decide) rfl)) rfl rfl (fun g_ w' H=>x_fa (a:=Pq aa) (v:=Oq aa 2) rfl (fa_blk (o:=0) Fd58_2 Sz54)) ?_
 refine sa_q (fun ak w_ H=>(St.pick H [0,1,2,3,4,5,6,7] (by decide) rfl)) rfl rfl (fun g_ w' H=>x_fa (a:=Oq aa 2) (v:=Oq aa 2) rfl (fa_blk (o:=2) Fd54_0 Sz3)) ?_
 refine sa_q (fun ak w_ H=>(St.pick H [0,1,2,3,4,5,6,7] (by decide) rfl)) rfl rfl (fun g_ w' H=>x_ld (p:=Oq aa 2) (v:=I r_.lo) rfl (ldb_sc Sc3 (H.bl 2) rfl)) ?_
 refine sa_q (fun ak w_ H=>(St.pick H [0,1,2,3,4,5,6,7] (by decide) rfl)) rfl rfl (fun g_ w' H=>x_fa (a:=Pq aj) (v:=Pq aj) rfl (fa_blk (o:=0) Fd138_0 Sz116)) ?_
 refine sa_q (fun ak w_ H=>(St.pick H [0,1,2,3,4,5,6,7] (by decide) rfl)) rfl rfl (fun g_ w' H=>x_ld (p:=Pq aj) (v:=.func (.func 106) #[] #[]) rfl (ldb_sc Sc116 (H.bl 1) rfl)) ?_
 refine sa_l (fun ak w_ H=>(St.pick H [0,1,2,3,4,5,6,7] (by decide) rfl)) rfl ?_
 intro g_ ak bu H
 replace H:St w bu (cBlk ao [I 0,I 0,I 0,I 0] 61 :: cBlk aj [.func (.func 106) #[] #[]] 138 :: cBlk aa [I r_.up,I r_.down,I r_.lo,I r_.hi,B r_.narrow] 58 :: cBlk am [Pq ag] 112 :: cMk ([]) :: cMemI encSpt ai (zaa ab ac ae) :: cBlk aq [I r0,I r1] 54 :: cBlk av [I au,I aw] 54 :: ak) R:=H
 obtain ⟨b6,bv,hM⟩:=M.e_bind hM
 refine s_callv (f:=106) rfl cf106 [I 1,I 0] rfl (zc8 1 0 bv _ (St.give (T:=(cBlk ao [I 0,I 0,I 0,I 0] 61 :: cBlk aj [.func (.func 106) #[] #[]] 138 :: cBlk aa [I r_.up,I r_.down,I r_.lo,I r_.hi,B r_.narrow] 58 :: cBlk am [Pq ag] 112 :: cMk ([]) :: cMemI encSpt ai (zaa ab ac ae) :: cBlk aq [I r0,I r1] 54 :: cBlk av [I au,I aw] 54 :: ak)) H rfl)) ?_
 rintro vq bw ⟨r2,bx,hvq,ap⟩
 subst bx
 subst vq
 try dsimp only at hM
 replace H:St w bw (cBlk ao [I 0,I 0,I 0,I 0] 61 :: cBlk aj [.func (.func 106) #[] #[]] 138 :: cBlk aa [I r_.up,I r_.down,I r_.lo,I r_.hi,B r_.narrow] 58 :: cBlk am [Pq ag] 112 :: cMk ([]) :: cMemI encSpt ai (zaa ab ac ae) :: cBlk aq [I r0,I r1] 54 :: cBlk av [I au,I aw] 54 :: ak) R:=H.back ap rfl
 clear ap
 refine s_nil ⟨(St.pick H [0,1,2,3,4,5,6,7] (by decide) rfl),_,[cBlk ao [I 0,I 0,I 0,I 0] 61,cBlk aj [.func (.func 106) #[] #[]] 138,cBlk aa [I r_.up,I r_.down,I r_.lo,I r_.hi,B r_.narrow] 58,cBlk am [Pq ag] 112,cMk ([]),cMemI encSpt ai (zaa ab ac ae),cBlk aq [I r0,I r1] 54,cBlk av [I au,I aw] 54],mix_upd rfl,H,?_⟩
 refine sa_nil (fun ak w_ H=>(St.pick H [0,1,2,3,4,5,6,7] (by decide) rfl)) ?_
 intro az aA bz H
 replace H:St w bz [cBlk ao [I 0,I 0,I 0,I 0] 61,cBlk aj [.func (.func 106) #[] #[]] 138,cBlk aa [I r_.up,I r_.down,I r_.lo,I r_.hi,B r_.narrow] 58,cBlk am [Pq ag] 112,cMk ([]),cMemI encSpt ai (zaa ab ac ae),cBlk aq [I r0,I r1] 54,cBlk av [I au,I aw] 54,cBlk az [I 0] 3,cBlk aA [B false] 4] R:=(H)
 refine t_l rfl ?_
 refine t_sw 8 0 [I r_.lo] (I r_.lo) H rfl rfl Sz3 rfl rfl rfl rfl ?_
 intro b7 H
 refine s_nil ⟨(St.pick H [0,1,2,3,4,5,6,7] (by decide) rfl),?_⟩
 refine t_l rfl ?_
 refine t_sw 9 0 [B r2] (B r2) H rfl rfl Sz4 rfl rfl rfl rfl ?_
 intro b8 H
 refine s_nil ⟨(St.pick H [0,1,2,3,4,5,6,7] (by decide) rfl),?_⟩
 refine t_nil ?_
 refine WD.seq ?_
 refine WD.seq ?_
 refine WD.of ?_
 refine W.region rfl ?_
 refine s_val (x_ld (p:=Pq aA) (v:=B r2) rfl (ldb_sc Sc4 (H.bl 9) rfl)) ?_
 refine s_val (x_not (b:=r2) rfl) ?_
 refine s_nil ?_
 refine WD.cond (!r2) rfl (fun aT=>?_) (fun aT=>?_)
 ·replace hM:=M.e_t hM aT
  refine WD.of ?_
  refine W.region rfl ?_
  refine s_val (x_fa (a:=Pq aa) (v:=Oq aa 2) rfl (fa_blk (o:=0) Fd58_2 Sz54)) ?_
  refine s_val (x_fa (a:=Oq aa 2) (v:=Oq aa 3) rfl (fa_blk (o:=2) Fd54_1 Sz3)) ?_
  refine s_val (x_ld (p:=Oq aa 3) (v:=I r_.hi) rfl (ldb_sc Sc3 (H.bl 2) rfl)) ?_
  refine t_sw 8 0 [I r_.hi] (I r_.hi) H rfl rfl Sz3 rfl rfl rfl rfl ?_
  intro b9 H
  refine s_nil ?_
  refine WD.seq ?_
  refine WD.of ?_
  refine W.region rfl ?_
  refine t_alloc (cs:=[I 0,I 0,I 0,I 0]) H Al61 rfl ?_
  intro ax cb H
  refine s_nil ?_
  refine WD.seq ?_
  refine WD.of ?_
  refine W.region rfl ?_
  refine t_alloc (cs:=[I 0]) H Al3 rfl ?_
  intro ay cc H
  refine t_sw 0 0 [I 0] (I 0) H rfl rfl Sz3 rfl rfl rfl rfl ?_
  intro cd H
  refine s_nil ?_
  refine WD.seq ?_
  refine WD.seq ?_
  refine WD.of ?_
  refine W.draw (fun W=>St w W [cBlk ay [I 0] 3,cBlk ax [I 0,I 0,I 0,I 0] 61,cBlk ao [I 0,I 0,I 0,I 0] 61,cBlk aj [.func (.func 106) #[] #[]] 138,cBlk aa [I r_.up,I r_.down,I r_.lo,I r_.hi,B r_.narrow] 58,cBlk am [Pq ag] 112,cMk ([]),cMemI encSpt ai (zaa ab ac ae),cBlk aq [I r0,I r1] 54,cBlk av [I au,I aw] 54,cBlk az [I r_.hi] 3,cBlk aA [B r2] 4] R) [(0,true),(1,true),(2,true),(3,true),(4,true),(5,true),(6,false),(7,false),(8,true),(9,false)] mixed (by decide +kernel) rfl ?_
  intro ce aJ
  replace H:=H.ext aJ
  clear aJ
  refine ⟨(H.pk [0,1,2,3,4,5,6,7,8,9,10,11]),?_⟩
  refine d_q rfl (fun w' H=>x_fa (a:=Pq av) (v:=Pq av) rfl (fa_blk (o:=0) Fd54_0 Sz3)) ?_
  refine d_q rfl (fun w' H=>x_ld (p:=Pq av) (v:=I au) rfl (ldb_sc Sc3 (H.bl 9) rfl)) ?_
  refine d_q rfl (fun w' H=>x_fa (a:=Pq av) (v:=Oq av 1) rfl (fa_blk (o:=0) Fd54_1 Sz3)) ?_
  refine d_q rfl (fun w' H=>x_ld (p:=Oq av 1) (v:=I aw) rfl (ldb_sc Sc3 (H.bl 9) rfl)) ?_
  refine d_q rfl (fun w' H=>x_fa (a:=Pq aq) (v:=Oq aq 1) rfl (fa_blk (o:=0) Fd54_1 Sz3)) ?_
  refine d_q rfl (fun w' H=>x_ld (p:=Oq aq 1) (v:=I r1) rfl (ldb_sc Sc3 (H.bl 8) rfl)) ?_
  refine d_l rfl ?_
  refine t_bs (α:=Int) T28 [I r1] [(r1:Int)] H rfl (.cons rfl (Flat.rep_enc _ (r1:Int))<|.nil) rfl rfl rfl ?_
  intro bA cf H
  have cg:=Sl.cells (H.os 0)
  have cj:=Sl.oc (H.os 0)
  refine s_nil ⟨(H.pk [1,2,3,4,5,6,7,8,9,10,11,12]),?_⟩
  refine d_l rfl ?_
  obtain ⟨ck,bB,hM⟩:=M.e_bind hM
  refine s_call cf73 [I aw,bA] rfl (zcB aw ([(r1:Int)]) (rdo 0) (H.os 0) bB _ (H.gt 13)) ?_
  rintro vq co ⟨r3,bC,hvq,ap⟩
  subst bC
  subst vq
  try dsimp only at hM
  replace H:=H.bk ap
  clear ap
  refine s_nil ⟨(H.pk [1,2,3,4,5,6,7,8,9,10,11,12]),?_⟩
  refine d_q rfl (fun w' H=>x_bld (ps:=[(0,I au),(1,I r3)]) (zs:=[I 0,I 0]) (L':=[I au,I r3]) rfl Tryz.underlying54 Al54 rfl (Bd54 Tryz.underlying54) (.cons (cs:=[I au]) rfl rfl rfl rfl rfl<|.cons (cs:=[I r3]) rfl rfl rfl rfl rfl<|.nil)) ?_
  refine d_l rfl ?_
  obtain ⟨cp,bD,hM⟩:=M.e_bind hM
  refine s_call cf95 [.agg #[I au,I r3]] rfl (zdj (⟨(au:Int),(r3:Int)⟩:Span) bD _ (H.gt 13)) ?_
  rintro vq cq ⟨aC,aD,aE,bE,hvq,ap⟩
  subst bE
  subst vq
  try dsimp only at hM
  replace H:=H.bk ap
  clear ap
  refine s_nil ⟨(H.pk [2,3,4,5,6,7,8,9,10,11,12,13]),?_⟩
  refine d_nil ?_
  replace H:=H.pk [0,2,3,4,5,6,7,8,9,10,12,13]
  refine WD.block ?_
  obtain ⟨cr,bF,hM⟩:=M.e_bind hM
  refine WD.range (L:=[cBlk ay [I 0] 3,cBlk ax [I 0,I 0,I 0,I 0] 61,cMemI encSpt ai (zaa ab ac ae),cBlk aE [I aC,I aD] 54,cBlk ao [I 0,I 0,I 0,I 0] 61,cBlk aj [.func (.func 106) #[] #[]] 138,cBlk aa [I r_.up,I r_.down,I r_.lo,I r_.hi,B r_.narrow] 58,cBlk am [Pq ag] 112,cBlk aq [I r0,I r1] 54,cBlk az [I r_.hi] 3,cBlk aA [B r2] 4]) [Pq aE] (H.pk [7,1,2,8,0,3,4,5,6,9,10,11]) rfl cf119 ?_
  intro aP aQ aU bG aV H
  have hYC:YieldC Tryz.prog ([cMk (aQ :: ([])),cBlk aE [I aC,I aD] 54,cBlk ao [I 0,I 0,I 0,I 0] 61,cBlk aj [.func (.func 106) #[] #[]] 138,cBlk aa [I r_.up,I r_.down,I r_.lo,I r_.hi,B r_.narrow] 58,cBlk am [Pq ag] 112,cBlk aq [I r0,I r1] 54,cBlk az [I r_.hi] 3,cBlk aA [B r2] 4]++R) arI (yJ aP aU (fun (s,s2,s3,s4,s5) aR=>aR=[cBlk ay [I s] 3,cBlk ax [I s2,I s3,I s4,I s5] 61,cMemI encSpt ai (zaa ab ac ae)]) (fun (_:Unit) _=>False) (fun _=>.ret)) (.func (.yield aP) #[] #[]) (M.yl (zaD ab ac ae r_ r0 r2)):=by
   refine YieldC.mk aV (fun (s,s2,s3,s4,s5) aR=>aR=[cBlk ay [I s] 3,cBlk ax [I s2,I s3,I s4,I s5] 61,cMemI encSpt ai (zaa ab ac ae)]) (fun (_:Unit) _=>False) (fun _=>.ret) (zaD ab ac ae r_ r0 r2) (by rintro ⟨s,s2,s3,s4,s5⟩ _ h_; obtain ⟨rfl⟩:=h_; rfl) (fun _ _ h_=>h_.elim) rfl (arI_len rfl) ?_
   intro C_ ct x W_ bH
   obtain rfl:=bH
   refine W.region rfl ?_
   refine zA (I x) rfl ?_
   refine s_nil ?_
   refine ⟨rfl,rfl,?_⟩
   intro w R aK aR s_ r bI hM H
   obtain ⟨s,s2,s3,s4,s5⟩:=s_
   obtain ⟨rfl⟩:=bI
   replace aF:=aF.sub aK
   replace aG:=aG.sub aK
   replace aH:=aH.sub aK
   replace aI:=aI.sub aK
   replace aO:=aO.sub aK
   replace hM:(zaD ab ac ae r_ r0 r2 (s,s2,s3,s4,s5) x).Ends r:=hM
   simp only [zaD] at hM
   replace H:=H.pk [0,1,2,4,5,6,7,8,9,10,11,3]
   refine W.block ?_
   refine W.seq ?_
   refine W.region rfl ?_
   refine s_val (x_fa (a:=Pq aq) (v:=Pq aq) rfl (fa_blk (o:=0) Fd54_0 Sz3)) ?_
   refine s_val (x_ld (p:=Pq aq) (v:=I r0) rfl (ldb_sc Sc3 (H.bl 8) rfl)) ?_
   refine zM (I x) rfl ?_
   refine s_val (x_max (kd:=.i64) (a:=r0) (b:=x) rfl rfl) ?_
   refine zM (I x) rfl ?_
   refine s_val (x_ld (p:=Pq az) (v:=I r_.hi) rfl (ldb_sc Sc3 (H.bl 9) rfl)) ?_
   refine s_val (x_ld (p:=Pq az) (v:=I r_.hi) rfl (ldb_sc Sc3 (H.bl 9) rfl)) ?_
   refine s_val (x_bld (ps:=[(0,I (max r0 x)),(1,I x),(2,I r_.hi),(3,I r_.hi)]) (zs:=[I 0,I 0,I 0,I 0]) (L':=[I (max r0 x),I x,I r_.hi,I r_.hi]) rfl Tryz.underlying61 Al61 rfl (Bd61 Tryz.underlying61) (.cons (cs:=[I (max r0 x)]) rfl rfl rfl rfl rfl<|.cons (cs:=[I x]) rfl rfl rfl rfl rfl<|.cons (cs:=[I r_.hi]) rfl rfl rfl rfl rfl<|.cons (cs:=[I r_.hi]) rfl rfl rfl rfl rfl<|.nil)) ?_
   refine t_alloc (cs:=[I 0,I 0,I 0,I 0]) H Al61 rfl ?_
   intro bf cu H
   refine t_sw 0 0 [I (max r0 x),I x,I r_.hi,I r_.hi] (.agg #[I (max r0 x),I x,I r_.hi,I r_.hi]) H rfl rfl Sz61 rfl rfl rfl rfl ?_
   intro cw H
   refine s_nil ?_
   refine W.seq ?_
   refine W.seq ?_
   refine W.region rfl ?_
   refine s_val (x_ld (p:=Pq aA) (v:=B r2) rfl (ldb_sc Sc4 (H.bl 11) rfl)) ?_
   refine s_nil ?_
   refine W.cond r2 rfl (fun aW=>?_) (fun aW=>?_)
   ·replace hM:=M.e_t hM aW
    exact (M.e_fail hM).elim
   replace hM:=M.e_f hM aW
   refine W.skip ?_
   refine W.seq ?_
   refine W.region rfl ?_
   refine s_val (x_ld (p:=Pq am) (v:=Pq ag) rfl (ldb_sc Sc112 (H.bl 8) rfl)) ?_
   refine s_val (x_ld (p:=Pq aa) (v:=.agg #[I r_.up,I r_.down,I r_.lo,I r_.hi,B r_.narrow]) rfl (ldb_ag (ds:=[I r_.up,I r_.down,I r_.lo,I r_.hi,B r_.narrow]) Ag58 Sz58 (H.bl 7) rfl rfl)) ?_
   refine s_val (x_ld (p:=Pq bf) (v:=.agg #[I (max r0 x),I x,I r_.hi,I r_.hi]) rfl (ldb_ag (ds:=[I (max r0 x),I x,I r_.hi,I r_.hi]) Ag61 Sz61 (H.bl 0) rfl rfl)) ?_
   obtain ⟨cx,bJ,hM⟩:=M.e_bind hM
   refine s_call cf72 [Pq ag,.agg #[I r_.up,I r_.down,I r_.lo,I r_.hi,B r_.narrow],.agg #[I (max r0 x),I x,I r_.hi,I r_.hi]] rfl (zcG ab ac ae r_ (⟨(max r0 x:Int),(x:Int),(r_.hi:Int),(r_.hi:Int)⟩:Cas) (aF.app _) aL (aG.app _) aM (aH.app _) aN (aI.app _) bJ _ ((H.pk [3,0,1,2,4,5,6,7,8,9,10,11,12]).gt 12)) ?_
   rintro vq cy ⟨r4,bK,hvq,ap⟩
   subst bK
   subst vq
   try dsimp only at hM
   replace H:=H.pk [3,0,1,2,4,5,6,7,8,9,10,11,12] |>.bk ap
   clear ap
   refine zA (I r4) rfl ?_
   refine s_nil ?_
   refine W.seq ?_
   refine W.region rfl ?_
   refine s_val (x_ld (p:=Pq ax) (v:=.agg #[I s2,I s3,I s4,I s5]) rfl (ldb_ag (ds:=[I s2,I s3,I s4,I s5]) Ag61 Sz61 (H.bl 3) rfl rfl)) ?_
   refine s_val (x_bld (ps:=[]) (zs:=[I 0,I 0,I 0,I 0]) (L':=[I 0,I 0,I 0,I 0]) rfl Tryz.underlying61 Al61 rfl (Bd61 Tryz.underlying61) (.nil)) ?_
   refine s_val (x_eqS (eqT61 (⟨(s2:Int),(s3:Int),(s4:Int),(s5:Int)⟩:Cas) (⟨(0:Int),(0:Int),(0:Int),(0:Int)⟩:Cas) _) gdT61 rfl rfl) ?_
   refine zM (B (decide ((⟨(s2:Int),(s3:Int),(s4:Int),(s5:Int)⟩:Cas)=(⟨(0:Int),(0:Int),(0:Int),(0:Int)⟩:Cas)))) rfl ?_
   refine g_val (!(decide ((⟨(s2:Int),(s3:Int),(s4:Int),(s5:Int)⟩:Cas)=(⟨(0:Int),(0:Int),(0:Int),(0:Int)⟩:Cas)))) (gy_f rfl) (fun hg=>x_fa (a:=Pq aj) (v:=Pq aj) rfl (fa_blk (o:=0) Fd138_0 Sz116)) ?_
   refine g_val (!(decide ((⟨(s2:Int),(s3:Int),(s4:Int),(s5:Int)⟩:Cas)=(⟨(0:Int),(0:Int),(0:Int),(0:Int)⟩:Cas)))) (gy_f rfl) (fun hg=>x_ld (p:=Pq aj) (v:=.func (.func 106) #[] #[]) (gd_of (c:=!(decide ((⟨(s2:Int),(s3:Int),(s4:Int),(s5:Int)⟩:Cas)=(⟨(0:Int),(0:Int),(0:Int),(0:Int)⟩:Cas)))) hg (Pq aj)) (ldb_sc Sc116 (H.bl 6) rfl)) ?_
   refine g_val (!(decide ((⟨(s2:Int),(s3:Int),(s4:Int),(s5:Int)⟩:Cas)=(⟨(0:Int),(0:Int),(0:Int),(0:Int)⟩:Cas)))) (gy_f rfl) (fun hg=>x_mv (v:=I r4) rfl) ?_
   refine g_val (!(decide ((⟨(s2:Int),(s3:Int),(s4:Int),(s5:Int)⟩:Cas)=(⟨(0:Int),(0:Int),(0:Int),(0:Int)⟩:Cas)))) (gy_f rfl) (fun hg=>x_ld (p:=Pq ay) (v:=I s) rfl (ldb_sc Sc3 (H.bl 2) rfl)) ?_
   obtain ⟨r5,bL,hM⟩:=M.e_bind hM
   refine t_gcallv (cap:=[]) (!(decide ((⟨(s2:Int),(s3:Int),(s4:Int),(s5:Int)⟩:Cas)=(⟨(0:Int),(0:Int),(0:Int),(0:Int)⟩:Cas)))) (gy_f rfl) cf106 (fun hg=>(gd_of (c:=!(decide ((⟨(s2:Int),(s3:Int),(s4:Int),(s5:Int)⟩:Cas)=(⟨(0:Int),(0:Int),(0:Int),(0:Int)⟩:Cas)))) hg (.func (.func 106) #[] #[]))) (B r5) (fun _=>[I r4,I s]) (fun hg=>lst2 (gd_of (c:=!(decide ((⟨(s2:Int),(s3:Int),(s4:Int),(s5:Int)⟩:Cas)=(⟨(0:Int),(0:Int),(0:Int),(0:Int)⟩:Cas)))) hg (I r4)) (gd_of (c:=!(decide ((⟨(s2:Int),(s3:Int),(s4:Int),(s5:Int)⟩:Cas)=(⟨(0:Int),(0:Int),(0:Int),(0:Int)⟩:Cas)))) hg (I s))) H (fun hg=>(zc8 r4 s (M.e_opt bL hg) _ (H.give (A:=[]) rfl)).mono fun v_ w_ ⟨y_,aX,bM,H_⟩=>by subst aX; exact ⟨bM,H.via H_⟩) ?_
   intro cz H
   refine s_val (x_por (b:=decide ((⟨(s2:Int),(s3:Int),(s4:Int),(s5:Int)⟩:Cas)=(⟨(0:Int),(0:Int),(0:Int),(0:Int)⟩:Cas))) (r:=r5) rfl rfl (fun hb=>gd_of (c:=!(decide ((⟨(s2:Int),(s3:Int),(s4:Int),(s5:Int)⟩:Cas)=(⟨(0:Int),(0:Int),(0:Int),(0:Int)⟩:Cas)))) (by first | exact hb | (rw [hb]; rfl) | simp_all) (B r5))) ?_
   refine s_nil ?_
   refine W.cond ((decide ((⟨(s2:Int),(s3:Int),(s4:Int),(s5:Int)⟩:Cas)=(⟨(0:Int),(0:Int),(0:Int),(0:Int)⟩:Cas)))||r5) rfl (fun aY=>?_) (fun aY=>?_)
   ·replace hM:=M.e_t hM aY
    refine W.region rfl ?_
    refine s_val (x_ld (p:=Pq bf) (v:=.agg #[I (max r0 x),I x,I r_.hi,I r_.hi]) rfl (ldb_ag (ds:=[I (max r0 x),I x,I r_.hi,I r_.hi]) Ag61 Sz61 (H.bl 1) rfl rfl)) ?_
    refine zM (I r4) rfl ?_
    refine t_sw 3 0 [I (max r0 x),I x,I r_.hi,I r_.hi] (.agg #[I (max r0 x),I x,I r_.hi,I r_.hi]) H rfl rfl Sz61 rfl rfl rfl rfl ?_
    intro cA H
    refine t_sw 2 0 [I r4] (I r4) H rfl rfl Sz3 rfl rfl rfl rfl ?_
    intro cB H
    refine s_nil ?_
    exact ⟨(r4,max r0 x,x,r_.hi,r_.hi),[cBlk ay [I r4] 3,cBlk ax [I (max r0 x),I x,I r_.hi,I r_.hi] 61,cMemI encSpt ai (zaa ab ac ae)],(M.e_pure hM).symm,rfl,H.pick [2,3,0,12,4,5,6,7,8,9,10,11] (by decide) rfl⟩
   replace hM:=M.e_f hM aY
   refine W.skip ?_
   exact ⟨(s,s2,s3,s4,s5),[cBlk ay [I s] 3,cBlk ax [I s2,I s3,I s4,I s5] 61,cMemI encSpt ai (zaa ab ac ae)],(M.e_pure hM).symm,rfl,H.pick [2,3,0,12,4,5,6,7,8,9,10,11] (by decide) rfl⟩
  replace H:St w bG (cAll (cObj aP (.loop aU) :: [cBlk ay [I 0] 3,cBlk ax [I 0,I 0,I 0,I 0] 61,cMemI encSpt ai (zaa ab ac ae)]) :: [cMk (aQ :: ([])),cBlk aE [I aC,I aD] 54,cBlk ao [I 0,I 0,I 0,I 0] 61,cBlk aj [.func (.func 106) #[] #[]] 138,cBlk aa [I r_.up,I r_.down,I r_.lo,I r_.hi,B r_.narrow] 58,cBlk am [Pq ag] 112,cBlk aq [I r0,I r1] 54,cBlk az [I r_.hi] 3,cBlk aA [B r2] 4]) R:=St.bundleB (A:=cObj aP (.loop aU) :: [cBlk ay [I 0] 3,cBlk ax [I 0,I 0,I 0,I 0] 61,cMemI encSpt ai (zaa ab ac ae)]) (T:=[cMk (aQ :: ([])),cBlk aE [I aC,I aD] 54,cBlk ao [I 0,I 0,I 0,I 0] 61,cBlk aj [.func (.func 106) #[] #[]] 138,cBlk aa [I r_.up,I r_.down,I r_.lo,I r_.hi,B r_.narrow] 58,cBlk am [Pq ag] 112,cBlk aq [I r0,I r1] 54,cBlk az [I r_.hi] 3,cBlk aA [B r2] 4]) rfl (H.pk [0,2,3,4,1,5,6,7,8,9,10,11,12])
  refine (zc3 (M.yl (zaD ab ac ae r_ r0 r2)) (.inl (0,0,0,0,0)) aC aD hYC ⟨_,rfl,rfl⟩ (Has.here (k:=1) rfl) bF _ (H.gt 9)).mono ?_
  rintro vq cC ⟨bN,cD,bO,hvq,ap,bh⟩
  subst bO
  replace H:=H.back ap rfl
  clear ap hYC
  rcases bN with ⟨s,s2,s3,s4,s5⟩ | _
  ·try dsimp only at hM
   obtain ⟨_,rfl,rfl⟩:=bh
   refine ⟨_,[cBlk ay [I s] 3,cBlk ax [I s2,I s3,I s4,I s5] 61,cMemI encSpt ai (zaa ab ac ae),cBlk aE [I aC,I aD] 54,cBlk ao [I 0,I 0,I 0,I 0] 61,cBlk aj [.func (.func 106) #[] #[]] 138,cBlk aa [I r_.up,I r_.down,I r_.lo,I r_.hi,B r_.narrow] 58,cBlk am [Pq ag] 112,cBlk aq [I r0,I r1] 54,cBlk az [I r_.hi] 3,cBlk aA [B r2] 4],H.unbundle.pick [0,4,1,2,3,5,6,7,8,9,10,11,12] (by decide) rfl,aV.nb,?_⟩
   intro cE H
   rw [aV.pd]
   replace H:=H.nf
   try simp only []
   replace H:=H.pk [0,1,2,3,5]
   refine WD.seq ?_
   refine WD.of ?_
   refine W.draw (fun W=>St w W [cMk (aQ :: ([])),cBlk ay [I s] 3,cBlk ax [I s2,I s3,I s4,I s5] 61,cMemI encSpt ai (zaa ab ac ae)] R) [(0,true),(1,true),(2,false),(3,true)] mixed (by decide +kernel) rfl ?_
   intro cF aJ
   replace H:=H.ext aJ
   clear aJ
   refine ⟨(H.pk [0,1,2,3]),?_⟩
   refine d_q rfl (fun w' H=>x_ld (p:=Pq ax) (v:=.agg #[I s2,I s3,I s4,I s5]) rfl (ldb_ag (ds:=[I s2,I s3,I s4,I s5]) Ag61 Sz61 (H.bl 2) rfl rfl)) ?_
   refine d_q rfl (fun w' H=>x_ld (p:=Pq ay) (v:=I s) rfl (ldb_sc Sc3 (H.bl 1) rfl)) ?_
   refine d_l rfl ?_
   refine t_sw 4 0 [I s2,I s3,I s4,I s5] (.agg #[I s2,I s3,I s4,I s5]) H rfl rfl Sz61 rfl rfl rfl rfl ?_
   intro cG H
   refine s_nil ⟨(H.pk [0,1,2,3]),?_⟩
   refine d_q rfl (fun w' H=>x_as (v:=I s) rfl) ?_
   refine d_nil ?_
   replace H:=H.pk [0,3,4]
   refine WD.of ?_
   refine W.ret ?_
   refine bodyD_r (H.pk [0,1,2]) ?_
   intro cH H
   replace H:=H.nf
   have bP:=(H.bl 1)
   have aX:=M.e_pure hM
   exact ⟨_,(resE_ofn (vs:=[.agg #[I s2,I s3,I s4,I s5],I s]) rfl rfl (.cell (v:=.agg #[I s2,I s3,I s4,I s5]) rfl (run_loadVar_ag (ds:=[I s2,I s3,I s4,I s5]) Ag61 Sz61 bP rfl rfl)<|.tmp (v:=I s) rfl<|.nil)),⟨s2,s3,s4,s5,s,aX,rfl,(H.pk [0])⟩⟩
  obtain ⟨_,_,h_⟩:=bh; exact h_.elim
 replace hM:=M.e_f hM aT
 exact (M.e_fail hM).elim

def zda:M Unit :=
  M.pure ()
theorem zaI {R:List Chunk}    {r:Unit} (hM:(zda).Ends r) (w:World) (H:St w w [] R):Ret Tryz.prog 68 #[] w fun v w'=>()=r/\v = .agg #[.func (.func 107) #[] #[]]/\St w w' [] R:=by
 refine ret_of_W Tryz.func68 rfl rfl rfl ?_
 refine W.seq ?_
 refine W.region rfl ?_
 refine t_alloc (cs:=[.nilFunc]) H Al138 rfl ?_
 intro ac ae H
 refine s_nil ?_
 refine W.seq ?_
 refine W.region rfl ?_
 refine s_val (x_bld (ps:=[(0,.func (.func 107) #[] #[])]) (zs:=[.nilFunc]) (L':=[.func (.func 107) #[] #[]]) rfl Tryz.underlying138 Al138 rfl (Bd138 Tryz.underlying138) (.cons (cs:=[.func (.func 107) #[] #[]]) rfl rfl rfl rfl rfl<|.nil)) ?_
 refine t_sw 0 0 [.func (.func 107) #[] #[]] (.agg #[.func (.func 107) #[] #[]]) H rfl rfl Sz138 rfl rfl rfl rfl ?_
 intro ag H
 refine s_nil ?_
 refine W.ret ?_
 have aa:=(H.bl 0)
 have ab:=M.e_pure hM
 exact ⟨_,(resE_of1 (v:=.agg #[.func (.func 107) #[] #[]]) rfl (.cell (v:=.agg #[.func (.func 107) #[] #[]]) rfl (run_loadVar_ag (ds:=[.func (.func 107) #[] #[]]) Ag138 Sz138 aa rfl rfl)<|.nil)),⟨ab,rfl,(H.pk [])⟩⟩

def zcE (a:Int) (b:Int):M Bool :=
  M.pure (decide (b<a))
theorem zdi {R:List Chunk}  (a:Int) (b:Int)  {r:Bool} (hM:(zcE a b).Ends r) (w:World) (H:St w w [] R):Ret Tryz.prog 107 #[I a,I b] w fun v w'=>∃ (y0:Bool),y0=r/\v=B y0/\St w w' [] R:=by
 refine ret_of_W Tryz.func107 rfl rfl rfl ?_
 refine W.seq ?_
 refine W.region rfl ?_
 refine zA (B false) rfl ?_
 refine s_nil ?_
 refine W.seq ?_
 refine W.region rfl ?_
 refine zM (I a) rfl ?_
 refine zM (I b) rfl ?_
 refine zC a b (decide (b<a)) rfl rfl rfl ?_
 refine zA (B (decide (b<a))) rfl ?_
 refine s_nil ?_
 refine W.ret ?_
 have aa:=M.e_pure hM
 exact ⟨_,resE_tmp rfl,⟨(decide (b<a)),aa,rfl,H⟩⟩

def zaM (aa:List Sect) (ab:List Mrk) (ac:List Rch) (r_:Rch) (r1:Int) (r2:Bool):(Int × Int × Int × Int × Int)->Int->M ((Int × Int × Int × Int × Int) ⊕ Unit):=fun (s,s2,s3,s4,s5) x =>
  bif r2 then (
  M.bind (zcj aa ab ac r_ (⟨(r1:Int),(x:Int),(r_.lo:Int),(r_.lo:Int)⟩:Cas)) fun r4 =>
  M.bind (M.opt (!(decide ((⟨(s2:Int),(s3:Int),(s4:Int),(s5:Int)⟩:Cas)=(⟨(0:Int),(0:Int),(0:Int),(0:Int)⟩:Cas)))) (zcE r4 s) false) fun r5 =>
  bif ((decide ((⟨(s2:Int),(s3:Int),(s4:Int),(s5:Int)⟩:Cas)=(⟨(0:Int),(0:Int),(0:Int),(0:Int)⟩:Cas)))||r5) then (
  M.pure (.inl (r4,r1,x,r_.lo,r_.lo)))
  else (
  M.pure (.inl (s,s2,s3,s4,s5))))
  else (
  M.fail)
def zcK (aa:List Sect) (ab:List Mrk) (ac:List Rch) (marks:List Int) (r_:Rch):M (Int × Int × Int × Int × Int) :=
  M.bind (zaL aa ab ac marks r_.up) fun (r0,r1) =>
  M.bind (zaL aa ab ac marks r_.down) fun (ae,ag) =>
  M.bind (zcE 1 0) fun r2 =>
  bif !r2 then (
  M.fail)
  else (
  M.bind (zb3 ag ([(r1:Int)])) fun r3 =>
  M.bind (zcp (⟨(ae:Int),(r3:Int)⟩:Span)) fun (ai,aj) =>
  M.bind (zaK (M.yl (zaM aa ab ac r_ r1 r2)) (.inl (0,0,0,0,0)) ai aj) fun x_=>match x_ with
  | .inl (s,s2,s3,s4,s5)=>(
  M.pure (s2,s3,s4,s5,s))
  | .inr _=>M.fail)
theorem zak {R:List Chunk} {ag:Nat} {a6:Cells} {a7:Value} {a8:Cells} {ba:Value} {bb:Cells} {bc:Value} {ai:Nat} {bf:Cells} {aB:Value} (aa:List Sect) (ab:List Mrk) (ac:List Rch) (marks:List Int) (r_:Rch) (aF:Reads R a6) (aL:Sl a6 a7 aa) (aG:Reads R a8) (aM:Sl a8 ba ab) (aH:Reads R bb) (aN:Sl bb bc ac) (aI:Has R (cBlk ag [a7,ba,bc,.map (some ai)] 177)) (aO:Reads R bf) (aT:Sl bf aB marks) {r:(Int × Int × Int × Int × Int)} (hM:(zcK aa ab ac marks r_).Ends r) (w:World) (H:St w w [cMemI encSpt ai (zaa aa ab ac)] R):Ret Tryz.prog 69 #[Pq ag,aB,.agg #[I r_.up,I r_.down,I r_.lo,I r_.hi,B r_.narrow],.agg #[.func (.func 107) #[] #[]]] w fun v w'=>∃ (y0:Int) (y1:Int) (y2:Int) (y3:Int) (y4:Int),(y0,y1,y2,y3,y4)=r/\v = .tuple #[.agg #[I y0,I y1,I y2,I y3],I y4]/\St w w' [cMemI encSpt ai (zaa aa ab ac)] R:=by
 refine ret_of_WD Tryz.func69 rfl rfl rfl ?_
 replace H:St w w [cMk ([]),cMemI encSpt ai (zaa aa ab ac)] R:=H.mk0
 have bQ:=aL.len_le
 have bR:=aM.len_le
 have bS:=aN.len_le
 have bT:=aT.len_le
 unfold zcK at hM
 refine WD.seq ?_
 refine WD.of ?_
 refine W.region rfl ?_
 refine t_box (v:=Pq ag) (cs:=[Pq ag]) H rfl rfl ?_
 intro am bU H
 refine t_box (v:=.agg #[I r_.up,I r_.down,I r_.lo,I r_.hi,B r_.narrow]) (cs:=[I r_.up,I r_.down,I r_.lo,I r_.hi,B r_.narrow]) H rfl rfl ?_
 intro ae bV H
 refine t_box (v:=.agg #[.func (.func 107) #[] #[]]) (cs:=[.func (.func 107) #[] #[]]) H rfl rfl ?_
 intro aj bW H
 refine t_alloc (cs:=[I 0,I 0,I 0,I 0]) H Al61 rfl ?_
 intro ao bX H
 refine zA (I 0) rfl ?_
 refine s_nil ?_
 refine WD.seq ?_
 refine WD.of ?_
 refine W.drawA (fun W=>St w W [cBlk ao [I 0,I 0,I 0,I 0] 61,cBlk aj [.func (.func 107) #[] #[]] 138,cBlk ae [I r_.up,I r_.down,I r_.lo,I r_.hi,B r_.narrow] 58,cBlk am [Pq ag] 112,cMk ([]),cMemI encSpt ai (zaa aa ab ac)] R) [(0,true),(1,true),(2,true),(3,true),(5,true),(6,true),(7,true),(8,true),(4,false),(9,false)] [(10,10,54,[I 0,I 0]),(11,11,54,[I 0,I 0])] (.l 12 (.l 13 .nil)) 2 mixed (by decide +kernel) rfl (by intro x hx; simp only [List.mem_cons,List.not_mem_nil,or_false] at hx; rcases hx with rfl | rfl <;> first | exact ⟨_,_,_,rfl,_,Al54,rfl⟩) (by decide) (by decide) H ?_
 refine sa_q (fun ak w_ H=>(St.pick H [0,1,2,3,4,5] (by decide) rfl)) rfl rfl (fun g_ w' H=>x_ld (p:=Pq am) (v:=Pq ag) rfl (ldb_sc Sc112 (H.bl 3) rfl)) ?_
 refine sa_q (fun ak w_ H=>(St.pick H [0,1,2,3,4,5] (by decide) rfl)) rfl rfl (fun g_ w' H=>x_mv (v:=aB) rfl) ?_
 refine sa_q (fun ak w_ H=>(St.pick H [0,1,2,3,4,5] (by decide) rfl)) rfl rfl (fun g_ w' H=>x_fa (a:=Pq ae) (v:=Pq ae) rfl (fa_blk (o:=0) Fd58_0 Sz3)) ?_
 refine sa_q (fun ak w_ H=>(St.pick H [0,1,2,3,4,5] (by decide) rfl)) rfl rfl (fun g_ w' H=>x_ld (p:=Pq ae) (v:=I r_.up) rfl (ldb_sc Sc3 (H.bl 2) rfl)) ?_
 refine sa_q (fun ak w_ H=>(St.pick H [0,1,2,3,4,5] (by decide) rfl)) rfl rfl (fun g_ w' H=>x_ld (p:=Pq am) (v:=Pq ag) rfl (ldb_sc Sc112 (H.bl 3) rfl)) ?_
 refine sa_q (fun ak w_ H=>(St.pick H [0,1,2,3,4,5] (by decide) rfl)) rfl rfl (fun g_ w' H=>x_mv (v:=aB) rfl) ?_
 refine sa_q (fun ak w_ H=>(St.pick H [0,1,2,3,4,5] (by decide) rfl)) rfl rfl (fun g_ w' H=>x_fa (a:=Pq ae) (v:=Oq ae 1) rfl (fa_blk (o:=0) Fd58_1 Sz3)) ?_
 refine sa_q (fun ak w_ H=>(St.pick H [0,1,2,3,4,5] (by decide) rfl)) rfl rfl (fun g_ w' H=>x_ld (p:=Oq ae 1) (v:=I r_.down) rfl (ldb_sc Sc3 (H.bl 2) rfl)) ?_
 refine sa_l (fun ak w_ H=>(St.pick H [0,1,2,3,4,5] (by decide) rfl)) rfl ?_
 intro g_ ak bi H
 replace H:St w bi (cBlk ao [I 0,I 0,I 0,I 0] 61 :: cBlk aj [.func (.func 107) #[] #[]] 138 :: cBlk ae [I r_.up,I r_.down,I r_.lo,I r_.hi,B r_.narrow] 58 :: cBlk am [Pq ag] 112 :: cMk ([]) :: cMemI encSpt ai (zaa aa ab ac) :: ak) R:=H
 obtain ⟨bY,bj,hM⟩:=M.e_bind hM
 refine s_call cf59 [Pq ag,aB,I r_.up] rfl (za4 aa ab ac marks r_.up (aF.app _) aL (aG.app _) aM (aH.app _) aN (aI.app _) (aO.app _) aT bj _ (St.give (T:=(cBlk ao [I 0,I 0,I 0,I 0] 61 :: cBlk aj [.func (.func 107) #[] #[]] 138 :: cBlk ae [I r_.up,I r_.down,I r_.lo,I r_.hi,B r_.narrow] 58 :: cBlk am [Pq ag] 112 :: cMk ([]) :: cMemI encSpt ai (zaa aa ab ac) :: ak)) H rfl)) ?_
 rintro vq bm ⟨r0,r1,bn,hvq,aq⟩
 subst bn
 subst vq
 try dsimp only at hM
 replace H:St w bm (cBlk ao [I 0,I 0,I 0,I 0] 61 :: cBlk aj [.func (.func 107) #[] #[]] 138 :: cBlk ae [I r_.up,I r_.down,I r_.lo,I r_.hi,B r_.narrow] 58 :: cBlk am [Pq ag] 112 :: cMk ([]) :: cMemI encSpt ai (zaa aa ab ac) :: ak) R:=H.back aq rfl
 clear aq
 refine s_nil ⟨(St.pick H [0,1,2,3,4,5] (by decide) rfl),_,[cBlk ao [I 0,I 0,I 0,I 0] 61,cBlk aj [.func (.func 107) #[] #[]] 138,cBlk ae [I r_.up,I r_.down,I r_.lo,I r_.hi,B r_.narrow] 58,cBlk am [Pq ag] 112,cMk ([]),cMemI encSpt ai (zaa aa ab ac)],mix_upd rfl,H,?_⟩
 refine sa_l (fun ak w_ H=>(St.pick H [0,1,2,3,4,5] (by decide) rfl)) rfl ?_
 intro g_ ak bo H
 replace H:St w bo (cBlk ao [I 0,I 0,I 0,I 0] 61 :: cBlk aj [.func (.func 107) #[] #[]] 138 :: cBlk ae [I r_.up,I r_.down,I r_.lo,I r_.hi,B r_.narrow] 58 :: cBlk am [Pq ag] 112 :: cMk ([]) :: cMemI encSpt ai (zaa aa ab ac) :: ak) R:=H
 obtain ⟨bZ,bp,hM⟩:=M.e_bind hM
 refine s_call cf59 [Pq ag,aB,I r_.down] rfl (za4 aa ab ac marks r_.down (aF.app _) aL (aG.app _) aM (aH.app _) aN (aI.app _) (aO.app _) aT bp _ (St.give (T:=(cBlk ao [I 0,I 0,I 0,I 0] 61 :: cBlk aj [.func (.func 107) #[] #[]] 138 :: cBlk ae [I r_.up,I r_.down,I r_.lo,I r_.hi,B r_.narrow] 58 :: cBlk am [Pq ag] 112 :: cMk ([]) :: cMemI encSpt ai (zaa aa ab ac) :: ak)) H rfl)) ?_
 rintro vq bq ⟨au,aw,br,hvq,aq⟩
 subst br
 subst vq
 try dsimp only at hM
 replace H:St w bq (cBlk ao [I 0,I 0,I 0,I 0] 61 :: cBlk aj [.func (.func 107) #[] #[]] 138 :: cBlk ae [I r_.up,I r_.down,I r_.lo,I r_.hi,B r_.narrow] 58 :: cBlk am [Pq ag] 112 :: cMk ([]) :: cMemI encSpt ai (zaa aa ab ac) :: ak) R:=H.back aq rfl
 clear aq
 refine s_nil ⟨(St.pick H [0,1,2,3,4,5] (by decide) rfl),_,[cBlk ao [I 0,I 0,I 0,I 0] 61,cBlk aj [.func (.func 107) #[] #[]] 138,cBlk ae [I r_.up,I r_.down,I r_.lo,I r_.hi,B r_.narrow] 58,cBlk am [Pq ag] 112,cMk ([]),cMemI encSpt ai (zaa aa ab ac)],mix_upd rfl,H,?_⟩
 refine sa_nil (fun ak w_ H=>(St.pick H [0,1,2,3,4,5] (by decide) rfl)) ?_
 intro ap av bt H
 replace H:St w bt [cBlk ao [I 0,I 0,I 0,I 0] 61,cBlk aj [.func (.func 107) #[] #[]] 138,cBlk ae [I r_.up,I r_.down,I r_.lo,I r_.hi,B r_.narrow] 58,cBlk am [Pq ag] 112,cMk ([]),cMemI encSpt ai (zaa aa ab ac),cBlk ap [I 0,I 0] 54,cBlk av [I 0,I 0] 54] R:=(H)
 refine t_l rfl ?_
 refine t_sw 6 0 [I r0,I r1] (.agg #[I r0,I r1]) H rfl rfl Sz54 rfl rfl rfl rfl ?_
 intro b4 H
 refine s_nil ⟨(St.pick H [0,1,2,3,4,5] (by decide) rfl),?_⟩
 refine t_l rfl ?_
 refine t_sw 7 0 [I au,I aw] (.agg #[I au,I aw]) H rfl rfl Sz54 rfl rfl rfl rfl ?_
 intro b5 H
 refine s_nil ⟨(St.pick H [0,1,2,3,4,5] (by decide) rfl),?_⟩
 refine t_nil ?_
 refine WD.seq ?_
 refine WD.of ?_
 refine W.drawA (fun W=>St w W [cBlk ao [I 0,I 0,I 0,I 0] 61,cBlk aj [.func (.func 107) #[] #[]] 138,cBlk ae [I r_.up,I r_.down,I r_.lo,I r_.hi,B r_.narrow] 58,cBlk am [Pq ag] 112,cMk ([]),cMemI encSpt ai (zaa aa ab ac),cBlk ap [I r0,I r1] 54,cBlk av [I au,I aw] 54] R) [(0,true),(1,true),(2,true),(3,true),(4,true),(5,false)] [(6,12,3,[I 0]),(7,13,4,[B false])] (.l 8 (.l 9 .nil)) 2 mixed (by decide +kernel) rfl (by intro x hx; simp only [List.mem_cons,List.not_mem_nil,or_false] at hx; rcases hx with rfl | rfl <;> first | exact ⟨_,_,_,rfl,_,Al3,rfl⟩ | exact ⟨_,_,_,rfl,_,Al4,rfl⟩) (by decide) (by decide) H ?_
 refine sa_q (fun ak w_ H=>(St.pick H [0,1,2,3,4,5,6,7] (by decide) rfl)) rfl rfl (fun g_ w' H=>x_fa (a:=Pq ae) (v:=Oq ae 2) rfl (fa_blk (o:=0) Fd58_2 Sz54)) ?_
 refine sa_q (fun ak w_ H=>(St.pick H [0,1,2,3,4,5,6,7] (by decide) rfl)) rfl rfl (fun g_ w' H=>x_fa (a:=Oq ae 2) (v:=Oq ae 2) rfl (fa_blk (o:=2) Fd54_0 Sz3)) ?_
 refine sa_q (fun ak w_ H=>(St.pick H [0,1,2,3,4,5,6,7] (by decide) rfl)) rfl rfl (fun g_ w' H=>x_ld (p:=Oq ae 2) (v:=I r_.lo) rfl (ldb_sc Sc3 (H.bl 2) rfl)) ?_
 refine sa_q (fun ak w_ H=>(St.pick H [0,1,2,3,4,5,6,7] (by decide) rfl)) rfl rfl (fun g_ w' H=>x_fa (a:=Pq aj) (v:=Pq aj) rfl (fa_blk (o:=0) Fd138_0 Sz116)) ?_
 refine sa_q (fun ak w_ H=>(St.pick H [0,1,2,3,4,5,6,7] (by decide) rfl)) rfl rfl (fun g_ w' H=>x_ld (p:=Pq aj) (v:=.func (.func 107) #[] #[]) rfl (ldb_sc Sc116 (H.bl 1) rfl)) ?_
 refine sa_l (fun ak w_ H=>(St.pick H [0,1,2,3,4,5,6,7] (by decide) rfl)) rfl ?_
 intro g_ ak bu H
 replace H:St w bu (cBlk ao [I 0,I 0,I 0,I 0] 61 :: cBlk aj [.func (.func 107) #[] #[]] 138 :: cBlk ae [I r_.up,I r_.down,I r_.lo,I r_.hi,B r_.narrow] 58 :: cBlk am [Pq ag] 112 :: cMk ([]) :: cMemI encSpt ai (zaa aa ab ac) :: cBlk ap [I r0,I r1] 54 :: cBlk av [I au,I aw] 54 :: ak) R:=H
 obtain ⟨b6,bv,hM⟩:=M.e_bind hM
 refine s_callv (f:=107) rfl cf107 [I 1,I 0] rfl (zdi 1 0 bv _ (St.give (T:=(cBlk ao [I 0,I 0,I 0,I 0] 61 :: cBlk aj [.func (.func 107) #[] #[]] 138 :: cBlk ae [I r_.up,I r_.down,I r_.lo,I r_.hi,B r_.narrow] 58 :: cBlk am [Pq ag] 112 :: cMk ([]) :: cMemI encSpt ai (zaa aa ab ac) :: cBlk ap [I r0,I r1] 54 :: cBlk av [I au,I aw] 54 :: ak)) H rfl)) ?_
 rintro vq bw ⟨r2,bx,hvq,aq⟩
 subst bx
 subst vq
 try dsimp only at hM
 replace H:St w bw (cBlk ao [I 0,I 0,I 0,I 0] 61 :: cBlk aj [.func (.func 107) #[] #[]] 138 :: cBlk ae [I r_.up,I r_.down,I r_.lo,I r_.hi,B r_.narrow] 58 :: cBlk am [Pq ag] 112 :: cMk ([]) :: cMemI encSpt ai (zaa aa ab ac) :: cBlk ap [I r0,I r1] 54 :: cBlk av [I au,I aw] 54 :: ak) R:=H.back aq rfl
 clear aq
 refine s_nil ⟨(St.pick H [0,1,2,3,4,5,6,7] (by decide) rfl),_,[cBlk ao [I 0,I 0,I 0,I 0] 61,cBlk aj [.func (.func 107) #[] #[]] 138,cBlk ae [I r_.up,I r_.down,I r_.lo,I r_.hi,B r_.narrow] 58,cBlk am [Pq ag] 112,cMk ([]),cMemI encSpt ai (zaa aa ab ac),cBlk ap [I r0,I r1] 54,cBlk av [I au,I aw] 54],mix_upd rfl,H,?_⟩
 refine sa_nil (fun ak w_ H=>(St.pick H [0,1,2,3,4,5,6,7] (by decide) rfl)) ?_
 intro az aA bz H
 replace H:St w bz [cBlk ao [I 0,I 0,I 0,I 0] 61,cBlk aj [.func (.func 107) #[] #[]] 138,cBlk ae [I r_.up,I r_.down,I r_.lo,I r_.hi,B r_.narrow] 58,cBlk am [Pq ag] 112,cMk ([]),cMemI encSpt ai (zaa aa ab ac),cBlk ap [I r0,I r1] 54,cBlk av [I au,I aw] 54,cBlk az [I 0] 3,cBlk aA [B false] 4] R:=(H)
 refine t_l rfl ?_
 refine t_sw 8 0 [I r_.lo] (I r_.lo) H rfl rfl Sz3 rfl rfl rfl rfl ?_
 intro b7 H
 refine s_nil ⟨(St.pick H [0,1,2,3,4,5,6,7] (by decide) rfl),?_⟩
 refine t_l rfl ?_
 refine t_sw 9 0 [B r2] (B r2) H rfl rfl Sz4 rfl rfl rfl rfl ?_
 intro b8 H
 refine s_nil ⟨(St.pick H [0,1,2,3,4,5,6,7] (by decide) rfl),?_⟩
 refine t_nil ?_
 refine WD.seq ?_
 refine WD.seq ?_
 refine WD.of ?_
 refine W.region rfl ?_
 refine s_val (x_ld (p:=Pq aA) (v:=B r2) rfl (ldb_sc Sc4 (H.bl 9) rfl)) ?_
 refine s_val (x_not (b:=r2) rfl) ?_
 refine s_nil ?_
 refine WD.cond (!r2) rfl (fun aU=>?_) (fun aU=>?_)
 ·replace hM:=M.e_t hM aU
  exact (M.e_fail hM).elim
 replace hM:=M.e_f hM aU
 refine WD.of ?_
 refine W.skip ?_
 refine WD.seq ?_
 refine WD.of ?_
 refine W.region rfl ?_
 refine t_alloc (cs:=[I 0,I 0,I 0,I 0]) H Al61 rfl ?_
 intro ax b9 H
 refine s_nil ?_
 refine WD.seq ?_
 refine WD.of ?_
 refine W.region rfl ?_
 refine t_alloc (cs:=[I 0]) H Al3 rfl ?_
 intro ay cb H
 refine t_sw 0 0 [I 0] (I 0) H rfl rfl Sz3 rfl rfl rfl rfl ?_
 intro cc H
 refine s_nil ?_
 refine WD.seq ?_
 refine WD.seq ?_
 refine WD.of ?_
 refine W.draw (fun W=>St w W [cBlk ay [I 0] 3,cBlk ax [I 0,I 0,I 0,I 0] 61,cBlk ao [I 0,I 0,I 0,I 0] 61,cBlk aj [.func (.func 107) #[] #[]] 138,cBlk ae [I r_.up,I r_.down,I r_.lo,I r_.hi,B r_.narrow] 58,cBlk am [Pq ag] 112,cMk ([]),cMemI encSpt ai (zaa aa ab ac),cBlk ap [I r0,I r1] 54,cBlk av [I au,I aw] 54,cBlk az [I r_.lo] 3,cBlk aA [B r2] 4] R) [(0,true),(1,true),(2,true),(3,true),(4,true),(5,true),(6,false),(7,false),(8,true),(9,false)] mixed (by decide +kernel) rfl ?_
 intro cd aJ
 replace H:=H.ext aJ
 clear aJ
 refine ⟨(H.pk [0,1,2,3,4,5,6,7,8,9,10,11]),?_⟩
 refine d_q rfl (fun w' H=>x_fa (a:=Pq av) (v:=Pq av) rfl (fa_blk (o:=0) Fd54_0 Sz3)) ?_
 refine d_q rfl (fun w' H=>x_ld (p:=Pq av) (v:=I au) rfl (ldb_sc Sc3 (H.bl 9) rfl)) ?_
 refine d_q rfl (fun w' H=>x_fa (a:=Pq av) (v:=Oq av 1) rfl (fa_blk (o:=0) Fd54_1 Sz3)) ?_
 refine d_q rfl (fun w' H=>x_ld (p:=Oq av 1) (v:=I aw) rfl (ldb_sc Sc3 (H.bl 9) rfl)) ?_
 refine d_q rfl (fun w' H=>x_fa (a:=Pq ap) (v:=Oq ap 1) rfl (fa_blk (o:=0) Fd54_1 Sz3)) ?_
 refine d_q rfl (fun w' H=>x_ld (p:=Oq ap 1) (v:=I r1) rfl (ldb_sc Sc3 (H.bl 8) rfl)) ?_
 refine d_l rfl ?_
 refine t_bs (α:=Int) T28 [I r1] [(r1:Int)] H rfl (.cons rfl (Flat.rep_enc _ (r1:Int))<|.nil) rfl rfl rfl ?_
 intro bA ce H
 have cf:=Sl.cells (H.os 0)
 have cg:=Sl.oc (H.os 0)
 refine s_nil ⟨(H.pk [1,2,3,4,5,6,7,8,9,10,11,12]),?_⟩
 refine d_l rfl ?_
 obtain ⟨cj,bB,hM⟩:=M.e_bind hM
 refine s_call cf73 [I aw,bA] rfl (zcB aw ([(r1:Int)]) (rdo 0) (H.os 0) bB _ (H.gt 13)) ?_
 rintro vq ck ⟨r3,bC,hvq,aq⟩
 subst bC
 subst vq
 try dsimp only at hM
 replace H:=H.bk aq
 clear aq
 refine s_nil ⟨(H.pk [1,2,3,4,5,6,7,8,9,10,11,12]),?_⟩
 refine d_q rfl (fun w' H=>x_bld (ps:=[(0,I au),(1,I r3)]) (zs:=[I 0,I 0]) (L':=[I au,I r3]) rfl Tryz.underlying54 Al54 rfl (Bd54 Tryz.underlying54) (.cons (cs:=[I au]) rfl rfl rfl rfl rfl<|.cons (cs:=[I r3]) rfl rfl rfl rfl rfl<|.nil)) ?_
 refine d_l rfl ?_
 obtain ⟨co,bD,hM⟩:=M.e_bind hM
 refine s_call cf95 [.agg #[I au,I r3]] rfl (zdj (⟨(au:Int),(r3:Int)⟩:Span) bD _ (H.gt 13)) ?_
 rintro vq cp ⟨aC,aD,aE,bE,hvq,aq⟩
 subst bE
 subst vq
 try dsimp only at hM
 replace H:=H.bk aq
 clear aq
 refine s_nil ⟨(H.pk [2,3,4,5,6,7,8,9,10,11,12,13]),?_⟩
 refine d_nil ?_
 replace H:=H.pk [0,2,3,4,5,6,7,8,9,10,12,13]
 refine WD.block ?_
 obtain ⟨cq,bF,hM⟩:=M.e_bind hM
 refine WD.range (L:=[cBlk ay [I 0] 3,cBlk ax [I 0,I 0,I 0,I 0] 61,cMemI encSpt ai (zaa aa ab ac),cBlk aE [I aC,I aD] 54,cBlk ao [I 0,I 0,I 0,I 0] 61,cBlk aj [.func (.func 107) #[] #[]] 138,cBlk ae [I r_.up,I r_.down,I r_.lo,I r_.hi,B r_.narrow] 58,cBlk am [Pq ag] 112,cBlk ap [I r0,I r1] 54,cBlk az [I r_.lo] 3,cBlk aA [B r2] 4]) [Pq aE] (H.pk [7,1,2,8,0,3,4,5,6,9,10,11]) rfl cf119 ?_
 intro aP aQ aV bG aW H
 have hYC:YieldC Tryz.prog ([cMk (aQ :: ([])),cBlk aE [I aC,I aD] 54,cBlk ao [I 0,I 0,I 0,I 0] 61,cBlk aj [.func (.func 107) #[] #[]] 138,cBlk ae [I r_.up,I r_.down,I r_.lo,I r_.hi,B r_.narrow] 58,cBlk am [Pq ag] 112,cBlk ap [I r0,I r1] 54,cBlk az [I r_.lo] 3,cBlk aA [B r2] 4]++R) arI (yJ aP aV (fun (s,s2,s3,s4,s5) aR=>aR=[cBlk ay [I s] 3,cBlk ax [I s2,I s3,I s4,I s5] 61,cMemI encSpt ai (zaa aa ab ac)]) (fun (_:Unit) _=>False) (fun _=>.ret)) (.func (.yield aP) #[] #[]) (M.yl (zaM aa ab ac r_ r1 r2)):=by
  refine YieldC.mk aW (fun (s,s2,s3,s4,s5) aR=>aR=[cBlk ay [I s] 3,cBlk ax [I s2,I s3,I s4,I s5] 61,cMemI encSpt ai (zaa aa ab ac)]) (fun (_:Unit) _=>False) (fun _=>.ret) (zaM aa ab ac r_ r1 r2) (by rintro ⟨s,s2,s3,s4,s5⟩ _ h_; obtain ⟨rfl⟩:=h_; rfl) (fun _ _ h_=>h_.elim) rfl (arI_len rfl) ?_
  intro C_ cr x W_ bH
  obtain rfl:=bH
  refine W.region rfl ?_
  refine zA (I x) rfl ?_
  refine s_nil ?_
  refine ⟨rfl,rfl,?_⟩
  intro w R aK aR s_ r bI hM H
  obtain ⟨s,s2,s3,s4,s5⟩:=s_
  obtain ⟨rfl⟩:=bI
  replace aF:=aF.sub aK
  replace aG:=aG.sub aK
  replace aH:=aH.sub aK
  replace aI:=aI.sub aK
  replace aO:=aO.sub aK
  replace hM:(zaM aa ab ac r_ r1 r2 (s,s2,s3,s4,s5) x).Ends r:=hM
  simp only [zaM] at hM
  replace H:=H.pk [0,1,2,4,5,6,7,8,9,10,11,3]
  refine W.block ?_
  refine W.seq ?_
  refine W.region rfl ?_
  refine s_val (x_fa (a:=Pq ap) (v:=Pq ap) rfl (fa_blk (o:=0) Fd54_0 Sz3)) ?_
  refine s_val (x_ld (p:=Pq ap) (v:=I r0) rfl (ldb_sc Sc3 (H.bl 8) rfl)) ?_
  refine zM (I x) rfl ?_
  refine s_val (x_max (kd:=.i64) (a:=r0) (b:=x) rfl rfl) ?_
  refine zM (I x) rfl ?_
  refine s_val (x_ld (p:=Pq az) (v:=I r_.lo) rfl (ldb_sc Sc3 (H.bl 9) rfl)) ?_
  refine s_val (x_ld (p:=Pq az) (v:=I r_.lo) rfl (ldb_sc Sc3 (H.bl 9) rfl)) ?_
  refine s_val (x_bld (ps:=[(0,I (max r0 x)),(1,I x),(2,I r_.lo),(3,I r_.lo)]) (zs:=[I 0,I 0,I 0,I 0]) (L':=[I (max r0 x),I x,I r_.lo,I r_.lo]) rfl Tryz.underlying61 Al61 rfl (Bd61 Tryz.underlying61) (.cons (cs:=[I (max r0 x)]) rfl rfl rfl rfl rfl<|.cons (cs:=[I x]) rfl rfl rfl rfl rfl<|.cons (cs:=[I r_.lo]) rfl rfl rfl rfl rfl<|.cons (cs:=[I r_.lo]) rfl rfl rfl rfl rfl<|.nil)) ?_
  refine t_alloc (cs:=[I 0,I 0,I 0,I 0]) H Al61 rfl ?_
  intro aS ct H
  refine t_sw 0 0 [I (max r0 x),I x,I r_.lo,I r_.lo] (.agg #[I (max r0 x),I x,I r_.lo,I r_.lo]) H rfl rfl Sz61 rfl rfl rfl rfl ?_
  intro cu H
  refine s_nil ?_
  refine W.seq ?_
  refine W.seq ?_
  refine W.region rfl ?_
  refine s_val (x_ld (p:=Pq aA) (v:=B r2) rfl (ldb_sc Sc4 (H.bl 11) rfl)) ?_
  refine s_nil ?_
  refine W.cond r2 rfl (fun aX=>?_) (fun aX=>?_)
  ·replace hM:=M.e_t hM aX
   refine W.region rfl ?_
   refine s_val (x_fa (a:=Pq ap) (v:=Oq ap 1) rfl (fa_blk (o:=0) Fd54_1 Sz3)) ?_
   refine s_val (x_ld (p:=Oq ap 1) (v:=I r1) rfl (ldb_sc Sc3 (H.bl 9) rfl)) ?_
   refine s_val (x_fa (a:=Pq aS) (v:=Pq aS) rfl (fa_blk (o:=0) Fd61_0 Sz3)) ?_
   refine t_sw 0 0 [I r1] (I r1) H rfl rfl Sz3 rfl rfl rfl rfl ?_
   intro cw H
   refine s_nil ?_
   refine W.seq ?_
   refine W.region rfl ?_
   refine s_val (x_ld (p:=Pq am) (v:=Pq ag) rfl (ldb_sc Sc112 (H.bl 8) rfl)) ?_
   refine s_val (x_ld (p:=Pq ae) (v:=.agg #[I r_.up,I r_.down,I r_.lo,I r_.hi,B r_.narrow]) rfl (ldb_ag (ds:=[I r_.up,I r_.down,I r_.lo,I r_.hi,B r_.narrow]) Ag58 Sz58 (H.bl 7) rfl rfl)) ?_
   refine s_val (x_ld (p:=Pq aS) (v:=.agg #[I r1,I x,I r_.lo,I r_.lo]) rfl (ldb_ag (ds:=[I r1,I x,I r_.lo,I r_.lo]) Ag61 Sz61 (H.bl 0) rfl rfl)) ?_
   obtain ⟨cx,bJ,hM⟩:=M.e_bind hM
   refine s_call cf72 [Pq ag,.agg #[I r_.up,I r_.down,I r_.lo,I r_.hi,B r_.narrow],.agg #[I r1,I x,I r_.lo,I r_.lo]] rfl (zcG aa ab ac r_ (⟨(r1:Int),(x:Int),(r_.lo:Int),(r_.lo:Int)⟩:Cas) (aF.app _) aL (aG.app _) aM (aH.app _) aN (aI.app _) bJ _ ((H.pk [3,0,1,2,4,5,6,7,8,9,10,11,12]).gt 12)) ?_
   rintro vq cy ⟨r4,bK,hvq,aq⟩
   subst bK
   subst vq
   try dsimp only at hM
   replace H:=H.pk [3,0,1,2,4,5,6,7,8,9,10,11,12] |>.bk aq
   clear aq
   refine zA (I r4) rfl ?_
   refine s_nil ?_
   refine W.seq ?_
   refine W.region rfl ?_
   refine s_val (x_ld (p:=Pq ax) (v:=.agg #[I s2,I s3,I s4,I s5]) rfl (ldb_ag (ds:=[I s2,I s3,I s4,I s5]) Ag61 Sz61 (H.bl 3) rfl rfl)) ?_
   refine s_val (x_bld (ps:=[]) (zs:=[I 0,I 0,I 0,I 0]) (L':=[I 0,I 0,I 0,I 0]) rfl Tryz.underlying61 Al61 rfl (Bd61 Tryz.underlying61) (.nil)) ?_
   refine s_val (x_eqS (eqT61 (⟨(s2:Int),(s3:Int),(s4:Int),(s5:Int)⟩:Cas) (⟨(0:Int),(0:Int),(0:Int),(0:Int)⟩:Cas) _) gdT61 rfl rfl) ?_
   refine zM (B (decide ((⟨(s2:Int),(s3:Int),(s4:Int),(s5:Int)⟩:Cas)=(⟨(0:Int),(0:Int),(0:Int),(0:Int)⟩:Cas)))) rfl ?_
   refine g_val (!(decide ((⟨(s2:Int),(s3:Int),(s4:Int),(s5:Int)⟩:Cas)=(⟨(0:Int),(0:Int),(0:Int),(0:Int)⟩:Cas)))) (gy_f rfl) (fun hg=>x_fa (a:=Pq aj) (v:=Pq aj) rfl (fa_blk (o:=0) Fd138_0 Sz116)) ?_
   refine g_val (!(decide ((⟨(s2:Int),(s3:Int),(s4:Int),(s5:Int)⟩:Cas)=(⟨(0:Int),(0:Int),(0:Int),(0:Int)⟩:Cas)))) (gy_f rfl) (fun hg=>x_ld (p:=Pq aj) (v:=.func (.func 107) #[] #[]) (gd_of (c:=!(decide ((⟨(s2:Int),(s3:Int),(s4:Int),(s5:Int)⟩:Cas)=(⟨(0:Int),(0:Int),(0:Int),(0:Int)⟩:Cas)))) hg (Pq aj)) (ldb_sc Sc116 (H.bl 6) rfl)) ?_
   refine g_val (!(decide ((⟨(s2:Int),(s3:Int),(s4:Int),(s5:Int)⟩:Cas)=(⟨(0:Int),(0:Int),(0:Int),(0:Int)⟩:Cas)))) (gy_f rfl) (fun hg=>x_mv (v:=I r4) rfl) ?_
   refine g_val (!(decide ((⟨(s2:Int),(s3:Int),(s4:Int),(s5:Int)⟩:Cas)=(⟨(0:Int),(0:Int),(0:Int),(0:Int)⟩:Cas)))) (gy_f rfl) (fun hg=>x_ld (p:=Pq ay) (v:=I s) rfl (ldb_sc Sc3 (H.bl 2) rfl)) ?_
   obtain ⟨r5,bL,hM⟩:=M.e_bind hM
   refine t_gcallv (cap:=[]) (!(decide ((⟨(s2:Int),(s3:Int),(s4:Int),(s5:Int)⟩:Cas)=(⟨(0:Int),(0:Int),(0:Int),(0:Int)⟩:Cas)))) (gy_f rfl) cf107 (fun hg=>(gd_of (c:=!(decide ((⟨(s2:Int),(s3:Int),(s4:Int),(s5:Int)⟩:Cas)=(⟨(0:Int),(0:Int),(0:Int),(0:Int)⟩:Cas)))) hg (.func (.func 107) #[] #[]))) (B r5) (fun _=>[I r4,I s]) (fun hg=>lst2 (gd_of (c:=!(decide ((⟨(s2:Int),(s3:Int),(s4:Int),(s5:Int)⟩:Cas)=(⟨(0:Int),(0:Int),(0:Int),(0:Int)⟩:Cas)))) hg (I r4)) (gd_of (c:=!(decide ((⟨(s2:Int),(s3:Int),(s4:Int),(s5:Int)⟩:Cas)=(⟨(0:Int),(0:Int),(0:Int),(0:Int)⟩:Cas)))) hg (I s))) H (fun hg=>(zdi r4 s (M.e_opt bL hg) _ (H.give (A:=[]) rfl)).mono fun v_ w_ ⟨y_,aY,bM,H_⟩=>by subst aY; exact ⟨bM,H.via H_⟩) ?_
   intro cz H
   refine s_val (x_por (b:=decide ((⟨(s2:Int),(s3:Int),(s4:Int),(s5:Int)⟩:Cas)=(⟨(0:Int),(0:Int),(0:Int),(0:Int)⟩:Cas))) (r:=r5) rfl rfl (fun hb=>gd_of (c:=!(decide ((⟨(s2:Int),(s3:Int),(s4:Int),(s5:Int)⟩:Cas)=(⟨(0:Int),(0:Int),(0:Int),(0:Int)⟩:Cas)))) (by first | exact hb | (rw [hb]; rfl) | simp_all) (B r5))) ?_
   refine s_nil ?_
   refine W.cond ((decide ((⟨(s2:Int),(s3:Int),(s4:Int),(s5:Int)⟩:Cas)=(⟨(0:Int),(0:Int),(0:Int),(0:Int)⟩:Cas)))||r5) rfl (fun aZ=>?_) (fun aZ=>?_)
   ·replace hM:=M.e_t hM aZ
    refine W.region rfl ?_
    refine s_val (x_ld (p:=Pq aS) (v:=.agg #[I r1,I x,I r_.lo,I r_.lo]) rfl (ldb_ag (ds:=[I r1,I x,I r_.lo,I r_.lo]) Ag61 Sz61 (H.bl 1) rfl rfl)) ?_
    refine zM (I r4) rfl ?_
    refine t_sw 3 0 [I r1,I x,I r_.lo,I r_.lo] (.agg #[I r1,I x,I r_.lo,I r_.lo]) H rfl rfl Sz61 rfl rfl rfl rfl ?_
    intro cA H
    refine t_sw 2 0 [I r4] (I r4) H rfl rfl Sz3 rfl rfl rfl rfl ?_
    intro cB H
    refine s_nil ?_
    exact ⟨(r4,r1,x,r_.lo,r_.lo),[cBlk ay [I r4] 3,cBlk ax [I r1,I x,I r_.lo,I r_.lo] 61,cMemI encSpt ai (zaa aa ab ac)],(M.e_pure hM).symm,rfl,H.pick [2,3,0,12,4,5,6,7,8,9,10,11] (by decide) rfl⟩
   replace hM:=M.e_f hM aZ
   refine W.skip ?_
   exact ⟨(s,s2,s3,s4,s5),[cBlk ay [I s] 3,cBlk ax [I s2,I s3,I s4,I s5] 61,cMemI encSpt ai (zaa aa ab ac)],(M.e_pure hM).symm,rfl,H.pick [2,3,0,12,4,5,6,7,8,9,10,11] (by decide) rfl⟩
  replace hM:=M.e_f hM aX
  exact (M.e_fail hM).elim
 replace H:St w bG (cAll (cObj aP (.loop aV) :: [cBlk ay [I 0] 3,cBlk ax [I 0,I 0,I 0,I 0] 61,cMemI encSpt ai (zaa aa ab ac)]) :: [cMk (aQ :: ([])),cBlk aE [I aC,I aD] 54,cBlk ao [I 0,I 0,I 0,I 0] 61,cBlk aj [.func (.func 107) #[] #[]] 138,cBlk ae [I r_.up,I r_.down,I r_.lo,I r_.hi,B r_.narrow] 58,cBlk am [Pq ag] 112,cBlk ap [I r0,I r1] 54,cBlk az [I r_.lo] 3,cBlk aA [B r2] 4]) R:=St.bundleB (A:=cObj aP (.loop aV) :: [cBlk ay [I 0] 3,cBlk ax [I 0,I 0,I 0,I 0] 61,cMemI encSpt ai (zaa aa ab ac)]) (T:=[cMk (aQ :: ([])),cBlk aE [I aC,I aD] 54,cBlk ao [I 0,I 0,I 0,I 0] 61,cBlk aj [.func (.func 107) #[] #[]] 138,cBlk ae [I r_.up,I r_.down,I r_.lo,I r_.hi,B r_.narrow] 58,cBlk am [Pq ag] 112,cBlk ap [I r0,I r1] 54,cBlk az [I r_.lo] 3,cBlk aA [B r2] 4]) rfl (H.pk [0,2,3,4,1,5,6,7,8,9,10,11,12])
 refine (zc3 (M.yl (zaM aa ab ac r_ r1 r2)) (.inl (0,0,0,0,0)) aC aD hYC ⟨_,rfl,rfl⟩ (Has.here (k:=1) rfl) bF _ (H.gt 9)).mono ?_
 rintro vq cC ⟨bN,cD,bO,hvq,aq,bh⟩
 subst bO
 replace H:=H.back aq rfl
 clear aq hYC
 rcases bN with ⟨s,s2,s3,s4,s5⟩ | _
 ·try dsimp only at hM
  obtain ⟨_,rfl,rfl⟩:=bh
  refine ⟨_,[cBlk ay [I s] 3,cBlk ax [I s2,I s3,I s4,I s5] 61,cMemI encSpt ai (zaa aa ab ac),cBlk aE [I aC,I aD] 54,cBlk ao [I 0,I 0,I 0,I 0] 61,cBlk aj [.func (.func 107) #[] #[]] 138,cBlk ae [I r_.up,I r_.down,I r_.lo,I r_.hi,B r_.narrow] 58,cBlk am [Pq ag] 112,cBlk ap [I r0,I r1] 54,cBlk az [I r_.lo] 3,cBlk aA [B r2] 4],H.unbundle.pick [0,4,1,2,3,5,6,7,8,9,10,11,12] (by decide) rfl,aW.nb,?_⟩
  intro cE H
  rw [aW.pd]
  replace H:=H.nf
  try simp only []
  replace H:=H.pk [0,1,2,3,5]
  refine WD.seq ?_
  refine WD.of ?_
  refine W.draw (fun W=>St w W [cMk (aQ :: ([])),cBlk ay [I s] 3,cBlk ax [I s2,I s3,I s4,I s5] 61,cMemI encSpt ai (zaa aa ab ac)] R) [(0,true),(1,true),(2,false),(3,true)] mixed (by decide +kernel) rfl ?_
  intro cF aJ
  replace H:=H.ext aJ
  clear aJ
  refine ⟨(H.pk [0,1,2,3]),?_⟩
  refine d_q rfl (fun w' H=>x_ld (p:=Pq ax) (v:=.agg #[I s2,I s3,I s4,I s5]) rfl (ldb_ag (ds:=[I s2,I s3,I s4,I s5]) Ag61 Sz61 (H.bl 2) rfl rfl)) ?_
  refine d_q rfl (fun w' H=>x_ld (p:=Pq ay) (v:=I s) rfl (ldb_sc Sc3 (H.bl 1) rfl)) ?_
  refine d_l rfl ?_
  refine t_sw 4 0 [I s2,I s3,I s4,I s5] (.agg #[I s2,I s3,I s4,I s5]) H rfl rfl Sz61 rfl rfl rfl rfl ?_
  intro cG H
  refine s_nil ⟨(H.pk [0,1,2,3]),?_⟩
  refine d_q rfl (fun w' H=>x_as (v:=I s) rfl) ?_
  refine d_nil ?_
  replace H:=H.pk [0,3,4]
  refine WD.of ?_
  refine W.ret ?_
  refine bodyD_r (H.pk [0,1,2]) ?_
  intro cH H
  replace H:=H.nf
  have bP:=(H.bl 1)
  have aY:=M.e_pure hM
  exact ⟨_,(resE_ofn (vs:=[.agg #[I s2,I s3,I s4,I s5],I s]) rfl rfl (.cell (v:=.agg #[I s2,I s3,I s4,I s5]) rfl (run_loadVar_ag (ds:=[I s2,I s3,I s4,I s5]) Ag61 Sz61 bP rfl rfl)<|.tmp (v:=I s) rfl<|.nil)),⟨s2,s3,s4,s5,s,aY,rfl,(H.pk [0])⟩⟩
 obtain ⟨_,_,h_⟩:=bh; exact h_.elim

def zc5 (aa:List Sect) (ab:List Mrk) (ac:List Rch) (marks:List Int) (r_:Rch):M (Int × Int) :=
  M.bind (zc0) fun (_:Unit) =>
  M.bind (zcQ aa ab ac marks r_) fun (ag,ai,aj,ak,r1) =>
  M.bind (zda) fun (_:Unit) =>
  M.bind (zcK aa ab ac marks r_) fun (am,ao,ap,aq,ae) =>
  M.pure (r1,ae)
theorem zdV {R:List Chunk} {ap:Nat} {aN:Cells} {aO:Value} {aP:Cells} {aQ:Value} {aR:Cells} {aS:Value} {aM:Nat} {aT:Cells} {aq:Value} (av:List Sect) (aw:List Mrk) (ax:List Rch) (marks:List Int) (r_:Rch) (ay:Reads R aN) (az:Sl aN aO av) (aA:Reads R aP) (aB:Sl aP aQ aw) (aC:Reads R aR) (aD:Sl aR aS ax) (aE:Has R (cBlk ap [aO,aQ,aS,.map (some aM)] 177)) (aF:Reads R aT) (aG:Sl aT aq marks) {r:(Int × Int)} (hM:(zc5 av aw ax marks r_).Ends r) (w:World) (H:St w w [cMemI encSpt aM (zaa av aw ax)] R):Ret Tryz.prog 66 #[Pq ap,aq,.agg #[I r_.up,I r_.down,I r_.lo,I r_.hi,B r_.narrow]] w fun v w'=>∃ (y0:Int) (y1:Int),(y0,y1)=r/\v = .agg #[I y0,I y1]/\St w w' [cMemI encSpt aM (zaa av aw ax)] R:=by
 refine ret_of_W Tryz.func66 rfl rfl rfl ?_
 refine W.seq ?_
 refine W.region rfl ?_
 refine t_box (v:=.agg #[I r_.up,I r_.down,I r_.lo,I r_.hi,B r_.narrow]) (cs:=[I r_.up,I r_.down,I r_.lo,I r_.hi,B r_.narrow]) H rfl rfl ?_
 intro aI bV H
 refine t_alloc (cs:=[I 0,I 0]) H Al54 rfl ?_
 intro aL bW H
 refine s_nil ?_
 refine W.seq ?_
 refine W.drawT (fun W=>St w W [cBlk aL [I 0,I 0] 54,cBlk aI [I r_.up,I r_.down,I r_.lo,I r_.hi,B r_.narrow] 58] R) (.q 0 (.q 1 (.q 2 (.l2 3 (.l2 4 (.q 5 (.q 6 (.q 7 (.l 8 (.l 9 (.q 10 .nil)))))) 8 (.l 4 (.q 5 (.q 6 (.q 7 (.l 9 (.q 10 .nil))))))) 8 (.l 3 (.l 4 (.q 5 (.q 6 (.q 7 (.l 9 (.q 10 .nil))))))))))) mixed (by decide +kernel) rfl ?_
 intro bX aH
 replace H:=H.ext aH
 clear aH
 refine ⟨(H.pk [0,1]),?_⟩
 refine t_q rfl (fun w' H=>x_mv (v:=Pq ap) rfl) ?_
 refine t_q rfl (fun w' H=>x_mv (v:=aq) rfl) ?_
 refine t_q rfl (fun w' H=>x_ld (p:=Pq aI) (v:=.agg #[I r_.up,I r_.down,I r_.lo,I r_.hi,B r_.narrow]) rfl (ldb_ag (ds:=[I r_.up,I r_.down,I r_.lo,I r_.hi,B r_.narrow]) Ag58 Sz58 (H.bl 1) rfl rfl)) ?_
 refine t_l2 rfl rfl ?_ ?_
 ·skip
  obtain ⟨bY,aU,hM⟩:=M.e_bind hM
  refine s_call cf67 [] rfl (zde aU _ (H.gt 3)) ?_
  rintro vq bZ ⟨aV,hvq,ai⟩
  subst aV
  subst vq
  try dsimp only at hM
  replace H:=H.bk ai
  clear ai
  refine s_nil ⟨(H.pk [0,1]),?_⟩
  refine t_l2 rfl rfl ?_ ?_
  ·skip
   obtain ⟨b4,aW,hM⟩:=M.e_bind hM
   refine s_call cf69 [Pq ap,aq,.agg #[I r_.up,I r_.down,I r_.lo,I r_.hi,B r_.narrow],.agg #[.func (.func 106) #[] #[]]] rfl (zcL av aw ax marks r_ (ay.app _) az (aA.app _) aB (aC.app _) aD (aE.app _) (aF.app _) aG aW _ ((H.pk [2,0,1]).gt 2)) ?_
   rintro vq b5 ⟨aj,ak,am,ao,r1,aX,hvq,ai⟩
   subst aX
   subst vq
   try dsimp only at hM
   replace H:=H.pk [2,0,1] |>.bk ai
   clear ai
   refine s_nil ⟨(H.pk [1,2]),?_⟩
   refine t_q rfl (fun w' H=>x_mv (v:=.tuple #[.agg #[I aj,I ak,I am,I ao],I r1]) rfl) ?_
   refine t_q rfl (fun w' H=>x_ext (vs:=[.agg #[I aj,I ak,I am,I ao],I r1]) (v:=.agg #[I aj,I ak,I am,I ao]) rfl rfl) ?_
   refine t_q rfl (fun w' H=>x_ext (vs:=[.agg #[I aj,I ak,I am,I ao],I r1]) (v:=I r1) rfl rfl) ?_
   refine t_l rfl ?_
   refine t_alloc (cs:=[I 0,I 0,I 0,I 0]) H Al61 rfl ?_
   intro aK b6 H
   refine s_nil ⟨(H.pk [2,3]),?_⟩
   refine t_l rfl ?_
   refine t_sw 0 0 [I aj,I ak,I am,I ao] (.agg #[I aj,I ak,I am,I ao]) H rfl rfl Sz61 rfl rfl rfl rfl ?_
   intro b7 H
   refine s_nil ⟨(H.pk [2,3]),?_⟩
   refine t_q rfl (fun w' H=>x_as (v:=I r1) rfl) ?_
   refine t_nil ?_
   refine W.seq ?_
   refine W.drawT (fun W=>St w W [cBlk aK [I aj,I ak,I am,I ao] 61,cBlk aL [I 0,I 0] 54,cBlk aI [I r_.up,I r_.down,I r_.lo,I r_.hi,B r_.narrow] 58] R) (.q 0 (.q 1 (.q 2 (.l2 3 (.l2 4 (.q 5 (.q 6 (.q 7 (.l 8 (.l 9 (.q 10 .nil)))))) 8 (.l 4 (.q 5 (.q 6 (.q 7 (.l 9 (.q 10 .nil))))))) 8 (.l 3 (.l 4 (.q 5 (.q 6 (.q 7 (.l 9 (.q 10 .nil))))))))))) mixed (by decide +kernel) rfl ?_
   intro b8 aH
   replace H:=H.ext aH
   clear aH
   refine ⟨(H.pk [0,2,3]),?_⟩
   refine t_q rfl (fun w' H=>x_mv (v:=Pq ap) rfl) ?_
   refine t_q rfl (fun w' H=>x_mv (v:=aq) rfl) ?_
   refine t_q rfl (fun w' H=>x_ld (p:=Pq aI) (v:=.agg #[I r_.up,I r_.down,I r_.lo,I r_.hi,B r_.narrow]) rfl (ldb_ag (ds:=[I r_.up,I r_.down,I r_.lo,I r_.hi,B r_.narrow]) Ag58 Sz58 (H.bl 2) rfl rfl)) ?_
   refine t_l2 rfl rfl ?_ ?_
   ·skip
    obtain ⟨b9,aY,hM⟩:=M.e_bind hM
    refine s_call cf68 [] rfl (zaI aY _ (H.gt 4)) ?_
    rintro vq cb ⟨aZ,hvq,ai⟩
    subst aZ
    subst vq
    try dsimp only at hM
    replace H:=H.bk ai
    clear ai
    refine s_nil ⟨(H.pk [0,2,3]),?_⟩
    refine t_l2 rfl rfl ?_ ?_
    ·skip
     obtain ⟨cc,a6,hM⟩:=M.e_bind hM
     refine s_call cf69 [Pq ap,aq,.agg #[I r_.up,I r_.down,I r_.lo,I r_.hi,B r_.narrow],.agg #[.func (.func 107) #[] #[]]] rfl (zak av aw ax marks r_ (ay.app _) az (aA.app _) aB (aC.app _) aD (aE.app _) (aF.app _) aG a6 _ ((H.pk [1,0,2,3]).gt 3)) ?_
     rintro vq cd ⟨ab,ac,ae,ag,aa,a7,hvq,ai⟩
     subst a7
     subst vq
     try dsimp only at hM
     replace H:=H.pk [1,0,2,3] |>.bk ai
     clear ai
     refine s_nil ⟨(H.pk [1,2,3]),?_⟩
     refine t_q rfl (fun w' H=>x_mv (v:=.tuple #[.agg #[I ab,I ac,I ae,I ag],I aa]) rfl) ?_
     refine t_q rfl (fun w' H=>x_ext (vs:=[.agg #[I ab,I ac,I ae,I ag],I aa]) (v:=.agg #[I ab,I ac,I ae,I ag]) rfl rfl) ?_
     refine t_q rfl (fun w' H=>x_ext (vs:=[.agg #[I ab,I ac,I ae,I ag],I aa]) (v:=I aa) rfl rfl) ?_
     refine t_l rfl ?_
     refine t_alloc (cs:=[I 0,I 0,I 0,I 0]) H Al61 rfl ?_
     intro aJ ce H
     refine s_nil ⟨(H.pk [2,3,4]),?_⟩
     refine t_l rfl ?_
     refine t_sw 0 0 [I ab,I ac,I ae,I ag] (.agg #[I ab,I ac,I ae,I ag]) H rfl rfl Sz61 rfl rfl rfl rfl ?_
     intro cf H
     refine s_nil ⟨(H.pk [2,3,4]),?_⟩
     refine t_q rfl (fun w' H=>x_as (v:=I aa) rfl) ?_
     refine t_nil ?_
     replace H:=H.pk [1,3]
     refine W.seq ?_
     refine W.region rfl ?_
     refine zM (I r1) rfl ?_
     refine zM (I aa) rfl ?_
     refine s_val (x_bld (ps:=[(0,I r1),(1,I aa)]) (zs:=[I 0,I 0]) (L':=[I r1,I aa]) rfl Tryz.underlying54 Al54 rfl (Bd54 Tryz.underlying54) (.cons (cs:=[I r1]) rfl rfl rfl rfl rfl<|.cons (cs:=[I aa]) rfl rfl rfl rfl rfl<|.nil)) ?_
     refine t_sw 1 0 [I r1,I aa] (.agg #[I r1,I aa]) H rfl rfl Sz54 rfl rfl rfl rfl ?_
     intro cg H
     refine s_nil ?_
     refine W.ret ?_
     have a8:=(H.bl 1)
     have au:=M.e_pure hM
     exact ⟨_,(resE_of1 (v:=.agg #[I r1,I aa]) rfl (.cell (v:=.agg #[I r1,I aa]) rfl (run_loadVar_ag (ds:=[I r1,I aa]) Ag54 Sz54 a8 rfl rfl)<|.nil)),⟨r1,aa,au,rfl,(H.pk [0])⟩⟩
    skip
    refine t_alloc (cs:=[I 0,I 0,I 0,I 0]) H Al61 rfl ?_
    intro aJ cj H
    refine s_nil ⟨(H.pk [1,3,4]),?_⟩
    refine t_l rfl ?_
    obtain ⟨ck,ba,hM⟩:=M.e_bind hM
    refine s_call cf69 [Pq ap,aq,.agg #[I r_.up,I r_.down,I r_.lo,I r_.hi,B r_.narrow],.agg #[.func (.func 107) #[] #[]]] rfl (zak av aw ax marks r_ (ay.app _) az (aA.app _) aB (aC.app _) aD (aE.app _) (aF.app _) aG ba _ ((H.pk [2,0,1,3,4]).gt 4)) ?_
    rintro vq co ⟨ab,ac,ae,ag,aa,bb,hvq,ai⟩
    subst bb
    subst vq
    try dsimp only at hM
    replace H:=H.pk [2,0,1,3,4] |>.bk ai
    clear ai
    refine s_nil ⟨(H.pk [2,3,4]),?_⟩
    refine t_q rfl (fun w' H=>x_mv (v:=.tuple #[.agg #[I ab,I ac,I ae,I ag],I aa]) rfl) ?_
    refine t_q rfl (fun w' H=>x_ext (vs:=[.agg #[I ab,I ac,I ae,I ag],I aa]) (v:=.agg #[I ab,I ac,I ae,I ag]) rfl rfl) ?_
    refine t_q rfl (fun w' H=>x_ext (vs:=[.agg #[I ab,I ac,I ae,I ag],I aa]) (v:=I aa) rfl rfl) ?_
    refine t_l rfl ?_
    refine t_sw 1 0 [I ab,I ac,I ae,I ag] (.agg #[I ab,I ac,I ae,I ag]) H rfl rfl Sz61 rfl rfl rfl rfl ?_
    intro cp H
    refine s_nil ⟨(H.pk [2,3,4]),?_⟩
    refine t_q rfl (fun w' H=>x_as (v:=I aa) rfl) ?_
    refine t_nil ?_
    replace H:=H.pk [0,3]
    refine W.seq ?_
    refine W.region rfl ?_
    refine zM (I r1) rfl ?_
    refine zM (I aa) rfl ?_
    refine s_val (x_bld (ps:=[(0,I r1),(1,I aa)]) (zs:=[I 0,I 0]) (L':=[I r1,I aa]) rfl Tryz.underlying54 Al54 rfl (Bd54 Tryz.underlying54) (.cons (cs:=[I r1]) rfl rfl rfl rfl rfl<|.cons (cs:=[I aa]) rfl rfl rfl rfl rfl<|.nil)) ?_
    refine t_sw 1 0 [I r1,I aa] (.agg #[I r1,I aa]) H rfl rfl Sz54 rfl rfl rfl rfl ?_
    intro cq H
    refine s_nil ?_
    refine W.ret ?_
    have bc:=(H.bl 1)
    have au:=M.e_pure hM
    exact ⟨_,(resE_of1 (v:=.agg #[I r1,I aa]) rfl (.cell (v:=.agg #[I r1,I aa]) rfl (run_loadVar_ag (ds:=[I r1,I aa]) Ag54 Sz54 bc rfl rfl)<|.nil)),⟨r1,aa,au,rfl,(H.pk [0])⟩⟩
   skip
   refine t_alloc (cs:=[I 0,I 0,I 0,I 0]) H Al61 rfl ?_
   intro aJ cr H
   refine s_nil ⟨(H.pk [1,3,4]),?_⟩
   refine t_l rfl ?_
   obtain ⟨ct,bf,hM⟩:=M.e_bind hM
   refine s_call cf68 [] rfl (zaI bf _ (H.gt 5)) ?_
   rintro vq cu ⟨bh,hvq,ai⟩
   subst bh
   subst vq
   try dsimp only at hM
   replace H:=H.bk ai
   clear ai
   refine s_nil ⟨(H.pk [1,3,4]),?_⟩
   refine t_l rfl ?_
   obtain ⟨cw,bi,hM⟩:=M.e_bind hM
   refine s_call cf69 [Pq ap,aq,.agg #[I r_.up,I r_.down,I r_.lo,I r_.hi,B r_.narrow],.agg #[.func (.func 107) #[] #[]]] rfl (zak av aw ax marks r_ (ay.app _) az (aA.app _) aB (aC.app _) aD (aE.app _) (aF.app _) aG bi _ ((H.pk [2,0,1,3,4]).gt 4)) ?_
   rintro vq cx ⟨ab,ac,ae,ag,aa,bj,hvq,ai⟩
   subst bj
   subst vq
   try dsimp only at hM
   replace H:=H.pk [2,0,1,3,4] |>.bk ai
   clear ai
   refine s_nil ⟨(H.pk [2,3,4]),?_⟩
   refine t_q rfl (fun w' H=>x_mv (v:=.tuple #[.agg #[I ab,I ac,I ae,I ag],I aa]) rfl) ?_
   refine t_q rfl (fun w' H=>x_ext (vs:=[.agg #[I ab,I ac,I ae,I ag],I aa]) (v:=.agg #[I ab,I ac,I ae,I ag]) rfl rfl) ?_
   refine t_q rfl (fun w' H=>x_ext (vs:=[.agg #[I ab,I ac,I ae,I ag],I aa]) (v:=I aa) rfl rfl) ?_
   refine t_l rfl ?_
   refine t_sw 1 0 [I ab,I ac,I ae,I ag] (.agg #[I ab,I ac,I ae,I ag]) H rfl rfl Sz61 rfl rfl rfl rfl ?_
   intro cy H
   refine s_nil ⟨(H.pk [2,3,4]),?_⟩
   refine t_q rfl (fun w' H=>x_as (v:=I aa) rfl) ?_
   refine t_nil ?_
   replace H:=H.pk [0,3]
   refine W.seq ?_
   refine W.region rfl ?_
   refine zM (I r1) rfl ?_
   refine zM (I aa) rfl ?_
   refine s_val (x_bld (ps:=[(0,I r1),(1,I aa)]) (zs:=[I 0,I 0]) (L':=[I r1,I aa]) rfl Tryz.underlying54 Al54 rfl (Bd54 Tryz.underlying54) (.cons (cs:=[I r1]) rfl rfl rfl rfl rfl<|.cons (cs:=[I aa]) rfl rfl rfl rfl rfl<|.nil)) ?_
   refine t_sw 1 0 [I r1,I aa] (.agg #[I r1,I aa]) H rfl rfl Sz54 rfl rfl rfl rfl ?_
   intro cz H
   refine s_nil ?_
   refine W.ret ?_
   have bm:=(H.bl 1)
   have au:=M.e_pure hM
   exact ⟨_,(resE_of1 (v:=.agg #[I r1,I aa]) rfl (.cell (v:=.agg #[I r1,I aa]) rfl (run_loadVar_ag (ds:=[I r1,I aa]) Ag54 Sz54 bm rfl rfl)<|.nil)),⟨r1,aa,au,rfl,(H.pk [0])⟩⟩
  skip
  refine t_alloc (cs:=[I 0,I 0,I 0,I 0]) H Al61 rfl ?_
  intro aK cA H
  refine s_nil ⟨(H.pk [1,2]),?_⟩
  refine t_l rfl ?_
  obtain ⟨cB,bn,hM⟩:=M.e_bind hM
  refine s_call cf69 [Pq ap,aq,.agg #[I r_.up,I r_.down,I r_.lo,I r_.hi,B r_.narrow],.agg #[.func (.func 106) #[] #[]]] rfl (zcL av aw ax marks r_ (ay.app _) az (aA.app _) aB (aC.app _) aD (aE.app _) (aF.app _) aG bn _ ((H.pk [3,0,1,2]).gt 3)) ?_
  rintro vq cC ⟨aj,ak,am,ao,r1,bo,hvq,ai⟩
  subst bo
  subst vq
  try dsimp only at hM
  replace H:=H.pk [3,0,1,2] |>.bk ai
  clear ai
  refine s_nil ⟨(H.pk [2,3]),?_⟩
  refine t_q rfl (fun w' H=>x_mv (v:=.tuple #[.agg #[I aj,I ak,I am,I ao],I r1]) rfl) ?_
  refine t_q rfl (fun w' H=>x_ext (vs:=[.agg #[I aj,I ak,I am,I ao],I r1]) (v:=.agg #[I aj,I ak,I am,I ao]) rfl rfl) ?_
  refine t_q rfl (fun w' H=>x_ext (vs:=[.agg #[I aj,I ak,I am,I ao],I r1]) (v:=I r1) rfl rfl) ?_
  refine t_l rfl ?_
  refine t_sw 1 0 [I aj,I ak,I am,I ao] (.agg #[I aj,I ak,I am,I ao]) H rfl rfl Sz61 rfl rfl rfl rfl ?_
  intro cD H
  refine s_nil ⟨(H.pk [2,3]),?_⟩
  refine t_q rfl (fun w' H=>x_as (v:=I r1) rfl) ?_
  refine t_nil ?_
  refine W.seq ?_
  refine W.drawT (fun W=>St w W [cBlk aK [I aj,I ak,I am,I ao] 61,cBlk aL [I 0,I 0] 54,cBlk aI [I r_.up,I r_.down,I r_.lo,I r_.hi,B r_.narrow] 58] R) (.q 0 (.q 1 (.q 2 (.l2 3 (.l2 4 (.q 5 (.q 6 (.q 7 (.l 8 (.l 9 (.q 10 .nil)))))) 8 (.l 4 (.q 5 (.q 6 (.q 7 (.l 9 (.q 10 .nil))))))) 8 (.l 3 (.l 4 (.q 5 (.q 6 (.q 7 (.l 9 (.q 10 .nil))))))))))) mixed (by decide +kernel) rfl ?_
  intro cE aH
  replace H:=H.ext aH
  clear aH
  refine ⟨(H.pk [1,2,3]),?_⟩
  refine t_q rfl (fun w' H=>x_mv (v:=Pq ap) rfl) ?_
  refine t_q rfl (fun w' H=>x_mv (v:=aq) rfl) ?_
  refine t_q rfl (fun w' H=>x_ld (p:=Pq aI) (v:=.agg #[I r_.up,I r_.down,I r_.lo,I r_.hi,B r_.narrow]) rfl (ldb_ag (ds:=[I r_.up,I r_.down,I r_.lo,I r_.hi,B r_.narrow]) Ag58 Sz58 (H.bl 2) rfl rfl)) ?_
  refine t_l2 rfl rfl ?_ ?_
  ·skip
   obtain ⟨cF,bp,hM⟩:=M.e_bind hM
   refine s_call cf68 [] rfl (zaI bp _ (H.gt 4)) ?_
   rintro vq cG ⟨bq,hvq,ai⟩
   subst bq
   subst vq
   try dsimp only at hM
   replace H:=H.bk ai
   clear ai
   refine s_nil ⟨(H.pk [1,2,3]),?_⟩
   refine t_l2 rfl rfl ?_ ?_
   ·skip
    obtain ⟨cH,br,hM⟩:=M.e_bind hM
    refine s_call cf69 [Pq ap,aq,.agg #[I r_.up,I r_.down,I r_.lo,I r_.hi,B r_.narrow],.agg #[.func (.func 107) #[] #[]]] rfl (zak av aw ax marks r_ (ay.app _) az (aA.app _) aB (aC.app _) aD (aE.app _) (aF.app _) aG br _ (H.gt 3)) ?_
    rintro vq cI ⟨ab,ac,ae,ag,aa,bt,hvq,ai⟩
    subst bt
    subst vq
    try dsimp only at hM
    replace H:=H.bk ai
    clear ai
    refine s_nil ⟨(H.pk [1,2,3]),?_⟩
    refine t_q rfl (fun w' H=>x_mv (v:=.tuple #[.agg #[I ab,I ac,I ae,I ag],I aa]) rfl) ?_
    refine t_q rfl (fun w' H=>x_ext (vs:=[.agg #[I ab,I ac,I ae,I ag],I aa]) (v:=.agg #[I ab,I ac,I ae,I ag]) rfl rfl) ?_
    refine t_q rfl (fun w' H=>x_ext (vs:=[.agg #[I ab,I ac,I ae,I ag],I aa]) (v:=I aa) rfl rfl) ?_
    refine t_l rfl ?_
    refine t_alloc (cs:=[I 0,I 0,I 0,I 0]) H Al61 rfl ?_
    intro aJ cJ H
    refine s_nil ⟨(H.pk [2,3,4]),?_⟩
    refine t_l rfl ?_
    refine t_sw 0 0 [I ab,I ac,I ae,I ag] (.agg #[I ab,I ac,I ae,I ag]) H rfl rfl Sz61 rfl rfl rfl rfl ?_
    intro cK H
    refine s_nil ⟨(H.pk [2,3,4]),?_⟩
    refine t_q rfl (fun w' H=>x_as (v:=I aa) rfl) ?_
    refine t_nil ?_
    replace H:=H.pk [1,3]
    refine W.seq ?_
    refine W.region rfl ?_
    refine zM (I r1) rfl ?_
    refine zM (I aa) rfl ?_
    refine s_val (x_bld (ps:=[(0,I r1),(1,I aa)]) (zs:=[I 0,I 0]) (L':=[I r1,I aa]) rfl Tryz.underlying54 Al54 rfl (Bd54 Tryz.underlying54) (.cons (cs:=[I r1]) rfl rfl rfl rfl rfl<|.cons (cs:=[I aa]) rfl rfl rfl rfl rfl<|.nil)) ?_
    refine t_sw 1 0 [I r1,I aa] (.agg #[I r1,I aa]) H rfl rfl Sz54 rfl rfl rfl rfl ?_
    intro cL H
    refine s_nil ?_
    refine W.ret ?_
    have bu:=(H.bl 1)
    have au:=M.e_pure hM
    exact ⟨_,(resE_of1 (v:=.agg #[I r1,I aa]) rfl (.cell (v:=.agg #[I r1,I aa]) rfl (run_loadVar_ag (ds:=[I r1,I aa]) Ag54 Sz54 bu rfl rfl)<|.nil)),⟨r1,aa,au,rfl,(H.pk [0])⟩⟩
   skip
   refine t_alloc (cs:=[I 0,I 0,I 0,I 0]) H Al61 rfl ?_
   intro aJ cM H
   refine s_nil ⟨(H.pk [2,3,4]),?_⟩
   refine t_l rfl ?_
   obtain ⟨cN,bv,hM⟩:=M.e_bind hM
   refine s_call cf69 [Pq ap,aq,.agg #[I r_.up,I r_.down,I r_.lo,I r_.hi,B r_.narrow],.agg #[.func (.func 107) #[] #[]]] rfl (zak av aw ax marks r_ (ay.app _) az (aA.app _) aB (aC.app _) aD (aE.app _) (aF.app _) aG bv _ ((H.pk [1,0,2,3,4]).gt 4)) ?_
   rintro vq cO ⟨ab,ac,ae,ag,aa,bw,hvq,ai⟩
   subst bw
   subst vq
   try dsimp only at hM
   replace H:=H.pk [1,0,2,3,4] |>.bk ai
   clear ai
   refine s_nil ⟨(H.pk [2,3,4]),?_⟩
   refine t_q rfl (fun w' H=>x_mv (v:=.tuple #[.agg #[I ab,I ac,I ae,I ag],I aa]) rfl) ?_
   refine t_q rfl (fun w' H=>x_ext (vs:=[.agg #[I ab,I ac,I ae,I ag],I aa]) (v:=.agg #[I ab,I ac,I ae,I ag]) rfl rfl) ?_
   refine t_q rfl (fun w' H=>x_ext (vs:=[.agg #[I ab,I ac,I ae,I ag],I aa]) (v:=I aa) rfl rfl) ?_
   refine t_l rfl ?_
   refine t_sw 1 0 [I ab,I ac,I ae,I ag] (.agg #[I ab,I ac,I ae,I ag]) H rfl rfl Sz61 rfl rfl rfl rfl ?_
   intro cP H
   refine s_nil ⟨(H.pk [2,3,4]),?_⟩
   refine t_q rfl (fun w' H=>x_as (v:=I aa) rfl) ?_
   refine t_nil ?_
   replace H:=H.pk [0,3]
   refine W.seq ?_
   refine W.region rfl ?_
   refine zM (I r1) rfl ?_
   refine zM (I aa) rfl ?_
   refine s_val (x_bld (ps:=[(0,I r1),(1,I aa)]) (zs:=[I 0,I 0]) (L':=[I r1,I aa]) rfl Tryz.underlying54 Al54 rfl (Bd54 Tryz.underlying54) (.cons (cs:=[I r1]) rfl rfl rfl rfl rfl<|.cons (cs:=[I aa]) rfl rfl rfl rfl rfl<|.nil)) ?_
   refine t_sw 1 0 [I r1,I aa] (.agg #[I r1,I aa]) H rfl rfl Sz54 rfl rfl rfl rfl ?_
   intro cQ H
   refine s_nil ?_
   refine W.ret ?_
   have bx:=(H.bl 1)
   have au:=M.e_pure hM
   exact ⟨_,(resE_of1 (v:=.agg #[I r1,I aa]) rfl (.cell (v:=.agg #[I r1,I aa]) rfl (run_loadVar_ag (ds:=[I r1,I aa]) Ag54 Sz54 bx rfl rfl)<|.nil)),⟨r1,aa,au,rfl,(H.pk [0])⟩⟩
  skip
  refine t_alloc (cs:=[I 0,I 0,I 0,I 0]) H Al61 rfl ?_
  intro aJ cR H
  refine s_nil ⟨(H.pk [2,3,4]),?_⟩
  refine t_l rfl ?_
  obtain ⟨cS,bz,hM⟩:=M.e_bind hM
  refine s_call cf68 [] rfl (zaI bz _ (H.gt 5)) ?_
  rintro vq cT ⟨bA,hvq,ai⟩
  subst bA
  subst vq
  try dsimp only at hM
  replace H:=H.bk ai
  clear ai
  refine s_nil ⟨(H.pk [2,3,4]),?_⟩
  refine t_l rfl ?_
  obtain ⟨cU,bB,hM⟩:=M.e_bind hM
  refine s_call cf69 [Pq ap,aq,.agg #[I r_.up,I r_.down,I r_.lo,I r_.hi,B r_.narrow],.agg #[.func (.func 107) #[] #[]]] rfl (zak av aw ax marks r_ (ay.app _) az (aA.app _) aB (aC.app _) aD (aE.app _) (aF.app _) aG bB _ ((H.pk [1,0,2,3,4]).gt 4)) ?_
  rintro vq cV ⟨ab,ac,ae,ag,aa,bC,hvq,ai⟩
  subst bC
  subst vq
  try dsimp only at hM
  replace H:=H.pk [1,0,2,3,4] |>.bk ai
  clear ai
  refine s_nil ⟨(H.pk [2,3,4]),?_⟩
  refine t_q rfl (fun w' H=>x_mv (v:=.tuple #[.agg #[I ab,I ac,I ae,I ag],I aa]) rfl) ?_
  refine t_q rfl (fun w' H=>x_ext (vs:=[.agg #[I ab,I ac,I ae,I ag],I aa]) (v:=.agg #[I ab,I ac,I ae,I ag]) rfl rfl) ?_
  refine t_q rfl (fun w' H=>x_ext (vs:=[.agg #[I ab,I ac,I ae,I ag],I aa]) (v:=I aa) rfl rfl) ?_
  refine t_l rfl ?_
  refine t_sw 1 0 [I ab,I ac,I ae,I ag] (.agg #[I ab,I ac,I ae,I ag]) H rfl rfl Sz61 rfl rfl rfl rfl ?_
  intro cW H
  refine s_nil ⟨(H.pk [2,3,4]),?_⟩
  refine t_q rfl (fun w' H=>x_as (v:=I aa) rfl) ?_
  refine t_nil ?_
  replace H:=H.pk [0,3]
  refine W.seq ?_
  refine W.region rfl ?_
  refine zM (I r1) rfl ?_
  refine zM (I aa) rfl ?_
  refine s_val (x_bld (ps:=[(0,I r1),(1,I aa)]) (zs:=[I 0,I 0]) (L':=[I r1,I aa]) rfl Tryz.underlying54 Al54 rfl (Bd54 Tryz.underlying54) (.cons (cs:=[I r1]) rfl rfl rfl rfl rfl<|.cons (cs:=[I aa]) rfl rfl rfl rfl rfl<|.nil)) ?_
  refine t_sw 1 0 [I r1,I aa] (.agg #[I r1,I aa]) H rfl rfl Sz54 rfl rfl rfl rfl ?_
  intro cX H
  refine s_nil ?_
  refine W.ret ?_
  have bD:=(H.bl 1)
  have au:=M.e_pure hM
  exact ⟨_,(resE_of1 (v:=.agg #[I r1,I aa]) rfl (.cell (v:=.agg #[I r1,I aa]) rfl (run_loadVar_ag (ds:=[I r1,I aa]) Ag54 Sz54 bD rfl rfl)<|.nil)),⟨r1,aa,au,rfl,(H.pk [0])⟩⟩
 skip
 refine t_alloc (cs:=[I 0,I 0,I 0,I 0]) H Al61 rfl ?_
 intro aK cY H
 refine s_nil ⟨(H.pk [1,2]),?_⟩
 refine t_l rfl ?_
 obtain ⟨cZ,bE,hM⟩:=M.e_bind hM
 refine s_call cf67 [] rfl (zde bE _ (H.gt 4)) ?_
 rintro vq c5 ⟨bF,hvq,ai⟩
 subst bF
 subst vq
 try dsimp only at hM
 replace H:=H.bk ai
 clear ai
 refine s_nil ⟨(H.pk [1,2]),?_⟩
 refine t_l rfl ?_
 obtain ⟨c6,bG,hM⟩:=M.e_bind hM
 refine s_call cf69 [Pq ap,aq,.agg #[I r_.up,I r_.down,I r_.lo,I r_.hi,B r_.narrow],.agg #[.func (.func 106) #[] #[]]] rfl (zcL av aw ax marks r_ (ay.app _) az (aA.app _) aB (aC.app _) aD (aE.app _) (aF.app _) aG bG _ ((H.pk [3,0,1,2]).gt 3)) ?_
 rintro vq c7 ⟨aj,ak,am,ao,r1,bH,hvq,ai⟩
 subst bH
 subst vq
 try dsimp only at hM
 replace H:=H.pk [3,0,1,2] |>.bk ai
 clear ai
 refine s_nil ⟨(H.pk [2,3]),?_⟩
 refine t_q rfl (fun w' H=>x_mv (v:=.tuple #[.agg #[I aj,I ak,I am,I ao],I r1]) rfl) ?_
 refine t_q rfl (fun w' H=>x_ext (vs:=[.agg #[I aj,I ak,I am,I ao],I r1]) (v:=.agg #[I aj,I ak,I am,I ao]) rfl rfl) ?_
 refine t_q rfl (fun w' H=>x_ext (vs:=[.agg #[I aj,I ak,I am,I ao],I r1]) (v:=I r1) rfl rfl) ?_
 refine t_l rfl ?_
 refine t_sw 1 0 [I aj,I ak,I am,I ao] (.agg #[I aj,I ak,I am,I ao]) H rfl rfl Sz61 rfl rfl rfl rfl ?_
 intro c8 H
 refine s_nil ⟨(H.pk [2,3]),?_⟩
 refine t_q rfl (fun w' H=>x_as (v:=I r1) rfl) ?_
 refine t_nil ?_
 refine W.seq ?_
 refine W.drawT (fun W=>St w W [cBlk aK [I aj,I ak,I am,I ao] 61,cBlk aL [I 0,I 0] 54,cBlk aI [I r_.up,I r_.down,I r_.lo,I r_.hi,B r_.narrow] 58] R) (.q 0 (.q 1 (.q 2 (.l2 3 (.l2 4 (.q 5 (.q 6 (.q 7 (.l 8 (.l 9 (.q 10 .nil)))))) 8 (.l 4 (.q 5 (.q 6 (.q 7 (.l 9 (.q 10 .nil))))))) 8 (.l 3 (.l 4 (.q 5 (.q 6 (.q 7 (.l 9 (.q 10 .nil))))))))))) mixed (by decide +kernel) rfl ?_
 intro c9 aH
 replace H:=H.ext aH
 clear aH
 refine ⟨(H.pk [1,2,3]),?_⟩
 refine t_q rfl (fun w' H=>x_mv (v:=Pq ap) rfl) ?_
 refine t_q rfl (fun w' H=>x_mv (v:=aq) rfl) ?_
 refine t_q rfl (fun w' H=>x_ld (p:=Pq aI) (v:=.agg #[I r_.up,I r_.down,I r_.lo,I r_.hi,B r_.narrow]) rfl (ldb_ag (ds:=[I r_.up,I r_.down,I r_.lo,I r_.hi,B r_.narrow]) Ag58 Sz58 (H.bl 2) rfl rfl)) ?_
 refine t_l2 rfl rfl ?_ ?_
 ·skip
  obtain ⟨da,bI,hM⟩:=M.e_bind hM
  refine s_call cf68 [] rfl (zaI bI _ (H.gt 4)) ?_
  rintro vq db ⟨bJ,hvq,ai⟩
  subst bJ
  subst vq
  try dsimp only at hM
  replace H:=H.bk ai
  clear ai
  refine s_nil ⟨(H.pk [1,2,3]),?_⟩
  refine t_l2 rfl rfl ?_ ?_
  ·skip
   obtain ⟨dc,bK,hM⟩:=M.e_bind hM
   refine s_call cf69 [Pq ap,aq,.agg #[I r_.up,I r_.down,I r_.lo,I r_.hi,B r_.narrow],.agg #[.func (.func 107) #[] #[]]] rfl (zak av aw ax marks r_ (ay.app _) az (aA.app _) aB (aC.app _) aD (aE.app _) (aF.app _) aG bK _ (H.gt 3)) ?_
   rintro vq dd ⟨ab,ac,ae,ag,aa,bL,hvq,ai⟩
   subst bL
   subst vq
   try dsimp only at hM
   replace H:=H.bk ai
   clear ai
   refine s_nil ⟨(H.pk [1,2,3]),?_⟩
   refine t_q rfl (fun w' H=>x_mv (v:=.tuple #[.agg #[I ab,I ac,I ae,I ag],I aa]) rfl) ?_
   refine t_q rfl (fun w' H=>x_ext (vs:=[.agg #[I ab,I ac,I ae,I ag],I aa]) (v:=.agg #[I ab,I ac,I ae,I ag]) rfl rfl) ?_
   refine t_q rfl (fun w' H=>x_ext (vs:=[.agg #[I ab,I ac,I ae,I ag],I aa]) (v:=I aa) rfl rfl) ?_
   refine t_l rfl ?_
   refine t_alloc (cs:=[I 0,I 0,I 0,I 0]) H Al61 rfl ?_
   intro aJ de H
   refine s_nil ⟨(H.pk [2,3,4]),?_⟩
   refine t_l rfl ?_
   refine t_sw 0 0 [I ab,I ac,I ae,I ag] (.agg #[I ab,I ac,I ae,I ag]) H rfl rfl Sz61 rfl rfl rfl rfl ?_
   intro dg H
   refine s_nil ⟨(H.pk [2,3,4]),?_⟩
   refine t_q rfl (fun w' H=>x_as (v:=I aa) rfl) ?_
   refine t_nil ?_
   replace H:=H.pk [1,3]
   refine W.seq ?_
   refine W.region rfl ?_
   refine zM (I r1) rfl ?_
   refine zM (I aa) rfl ?_
   refine s_val (x_bld (ps:=[(0,I r1),(1,I aa)]) (zs:=[I 0,I 0]) (L':=[I r1,I aa]) rfl Tryz.underlying54 Al54 rfl (Bd54 Tryz.underlying54) (.cons (cs:=[I r1]) rfl rfl rfl rfl rfl<|.cons (cs:=[I aa]) rfl rfl rfl rfl rfl<|.nil)) ?_
   refine t_sw 1 0 [I r1,I aa] (.agg #[I r1,I aa]) H rfl rfl Sz54 rfl rfl rfl rfl ?_
   intro dh H
   refine s_nil ?_
   refine W.ret ?_
   have bM:=(H.bl 1)
   have au:=M.e_pure hM
   exact ⟨_,(resE_of1 (v:=.agg #[I r1,I aa]) rfl (.cell (v:=.agg #[I r1,I aa]) rfl (run_loadVar_ag (ds:=[I r1,I aa]) Ag54 Sz54 bM rfl rfl)<|.nil)),⟨r1,aa,au,rfl,(H.pk [0])⟩⟩
  skip
  refine t_alloc (cs:=[I 0,I 0,I 0,I 0]) H Al61 rfl ?_
  intro aJ di H
  refine s_nil ⟨(H.pk [2,3,4]),?_⟩
  refine t_l rfl ?_
  obtain ⟨dj,bN,hM⟩:=M.e_bind hM
  refine s_call cf69 [Pq ap,aq,.agg #[I r_.up,I r_.down,I r_.lo,I r_.hi,B r_.narrow],.agg #[.func (.func 107) #[] #[]]] rfl (zak av aw ax marks r_ (ay.app _) az (aA.app _) aB (aC.app _) aD (aE.app _) (aF.app _) aG bN _ ((H.pk [1,0,2,3,4]).gt 4)) ?_
  rintro vq dk ⟨ab,ac,ae,ag,aa,bO,hvq,ai⟩
  subst bO
  subst vq
  try dsimp only at hM
  replace H:=H.pk [1,0,2,3,4] |>.bk ai
  clear ai
  refine s_nil ⟨(H.pk [2,3,4]),?_⟩
  refine t_q rfl (fun w' H=>x_mv (v:=.tuple #[.agg #[I ab,I ac,I ae,I ag],I aa]) rfl) ?_
  refine t_q rfl (fun w' H=>x_ext (vs:=[.agg #[I ab,I ac,I ae,I ag],I aa]) (v:=.agg #[I ab,I ac,I ae,I ag]) rfl rfl) ?_
  refine t_q rfl (fun w' H=>x_ext (vs:=[.agg #[I ab,I ac,I ae,I ag],I aa]) (v:=I aa) rfl rfl) ?_
  refine t_l rfl ?_
  refine t_sw 1 0 [I ab,I ac,I ae,I ag] (.agg #[I ab,I ac,I ae,I ag]) H rfl rfl Sz61 rfl rfl rfl rfl ?_
  intro dm H
  refine s_nil ⟨(H.pk [2,3,4]),?_⟩
  refine t_q rfl (fun w' H=>x_as (v:=I aa) rfl) ?_
  refine t_nil ?_
  replace H:=H.pk [0,3]
  refine W.seq ?_
  refine W.region rfl ?_
  refine zM (I r1) rfl ?_
  refine zM (I aa) rfl ?_
  refine s_val (x_bld (ps:=[(0,I r1),(1,I aa)]) (zs:=[I 0,I 0]) (L':=[I r1,I aa]) rfl Tryz.underlying54 Al54 rfl (Bd54 Tryz.underlying54) (.cons (cs:=[I r1]) rfl rfl rfl rfl rfl<|.cons (cs:=[I aa]) rfl rfl rfl rfl rfl<|.nil)) ?_
  refine t_sw 1 0 [I r1,I aa] (.agg #[I r1,I aa]) H rfl rfl Sz54 rfl rfl rfl rfl ?_
  intro dp H
  refine s_nil ?_
  refine W.ret ?_
  have bP:=(H.bl 1)
  have au:=M.e_pure hM
  exact ⟨_,(resE_of1 (v:=.agg #[I r1,I aa]) rfl (.cell (v:=.agg #[I r1,I aa]) rfl (run_loadVar_ag (ds:=[I r1,I aa]) Ag54 Sz54 bP rfl rfl)<|.nil)),⟨r1,aa,au,rfl,(H.pk [0])⟩⟩
 skip
 refine t_alloc (cs:=[I 0,I 0,I 0,I 0]) H Al61 rfl ?_
 intro aJ dq H
 refine s_nil ⟨(H.pk [2,3,4]),?_⟩
 refine t_l rfl ?_
 obtain ⟨dr,bQ,hM⟩:=M.e_bind hM
 refine s_call cf68 [] rfl (zaI bQ _ (H.gt 5)) ?_
 rintro vq dt ⟨bR,hvq,ai⟩
 subst bR
 subst vq
 try dsimp only at hM
 replace H:=H.bk ai
 clear ai
 refine s_nil ⟨(H.pk [2,3,4]),?_⟩
 refine t_l rfl ?_
 obtain ⟨dv,bS,hM⟩:=M.e_bind hM
 refine s_call cf69 [Pq ap,aq,.agg #[I r_.up,I r_.down,I r_.lo,I r_.hi,B r_.narrow],.agg #[.func (.func 107) #[] #[]]] rfl (zak av aw ax marks r_ (ay.app _) az (aA.app _) aB (aC.app _) aD (aE.app _) (aF.app _) aG bS _ ((H.pk [1,0,2,3,4]).gt 4)) ?_
 rintro vq dw ⟨ab,ac,ae,ag,aa,bT,hvq,ai⟩
 subst bT
 subst vq
 try dsimp only at hM
 replace H:=H.pk [1,0,2,3,4] |>.bk ai
 clear ai
 refine s_nil ⟨(H.pk [2,3,4]),?_⟩
 refine t_q rfl (fun w' H=>x_mv (v:=.tuple #[.agg #[I ab,I ac,I ae,I ag],I aa]) rfl) ?_
 refine t_q rfl (fun w' H=>x_ext (vs:=[.agg #[I ab,I ac,I ae,I ag],I aa]) (v:=.agg #[I ab,I ac,I ae,I ag]) rfl rfl) ?_
 refine t_q rfl (fun w' H=>x_ext (vs:=[.agg #[I ab,I ac,I ae,I ag],I aa]) (v:=I aa) rfl rfl) ?_
 refine t_l rfl ?_
 refine t_sw 1 0 [I ab,I ac,I ae,I ag] (.agg #[I ab,I ac,I ae,I ag]) H rfl rfl Sz61 rfl rfl rfl rfl ?_
 intro dx H
 refine s_nil ⟨(H.pk [2,3,4]),?_⟩
 refine t_q rfl (fun w' H=>x_as (v:=I aa) rfl) ?_
 refine t_nil ?_
 replace H:=H.pk [0,3]
 refine W.seq ?_
 refine W.region rfl ?_
 refine zM (I r1) rfl ?_
 refine zM (I aa) rfl ?_
 refine s_val (x_bld (ps:=[(0,I r1),(1,I aa)]) (zs:=[I 0,I 0]) (L':=[I r1,I aa]) rfl Tryz.underlying54 Al54 rfl (Bd54 Tryz.underlying54) (.cons (cs:=[I r1]) rfl rfl rfl rfl rfl<|.cons (cs:=[I aa]) rfl rfl rfl rfl rfl<|.nil)) ?_
 refine t_sw 1 0 [I r1,I aa] (.agg #[I r1,I aa]) H rfl rfl Sz54 rfl rfl rfl rfl ?_
 intro dy H
 refine s_nil ?_
 refine W.ret ?_
 have bU:=(H.bl 1)
 have au:=M.e_pure hM
 exact ⟨_,(resE_of1 (v:=.agg #[I r1,I aa]) rfl (.cell (v:=.agg #[I r1,I aa]) rfl (run_loadVar_ag (ds:=[I r1,I aa]) Ag54 Sz54 bU rfl rfl)<|.nil)),⟨r1,aa,au,rfl,(H.pk [0])⟩⟩

def zab (n:Int) (aa:Int) (greatest:Int):M Bool :=
  M.pure ((decide (aa<=n))&&(decide (n<=greatest)))
theorem zac {R:List Chunk}  (n:Int) (aa:Int) (greatest:Int)  {r:Bool} (hM:(zab n aa greatest).Ends r) (w:World) (H:St w w [] R):Ret Tryz.prog 70 #[I n,I aa,I greatest] w fun v w'=>∃ (y0:Bool),y0=r/\v=B y0/\St w w' [] R:=by
 refine ret_of_W Tryz.func70 rfl rfl rfl ?_
 refine W.seq ?_
 refine W.region rfl ?_
 refine zA (B false) rfl ?_
 refine s_nil ?_
 refine W.seq ?_
 refine W.region rfl ?_
 refine zM (I n) rfl ?_
 refine zM (I aa) rfl ?_
 refine zC n aa (decide (aa<=n)) rfl rfl rfl ?_
 refine zM (B (decide (aa<=n))) rfl ?_
 refine g_val (decide (aa<=n)) (gy_t rfl) (fun hg=>x_mv (v:=I n) rfl) ?_
 refine g_val (decide (aa<=n)) (gy_t rfl) (fun hg=>x_mv (v:=I greatest) rfl) ?_
 refine g_val (decide (aa<=n)) (gy_t rfl) (fun hg=>x_cmp (kd:=.i64) (a:=n) (b:=greatest) (r:=decide (n<=greatest)) (gd_of (c:=decide (aa<=n)) hg (I n)) (gd_of (c:=decide (aa<=n)) hg (I greatest)) rfl) ?_
 refine s_val (x_pand (b:=decide (aa<=n)) (r:=decide (n<=greatest)) rfl (fun hb=>gd_of (c:=decide (aa<=n)) (by first | exact hb | (rw [hb]; rfl) | simp_all) (B (decide (n<=greatest)))) rfl) ?_
 refine zA (B ((decide (aa<=n))&&(decide (n<=greatest)))) rfl ?_
 refine s_nil ?_
 refine W.ret ?_
 have ab:=M.e_pure hM
 exact ⟨_,resE_tmp rfl,⟨((decide (aa<=n))&&(decide (n<=greatest))),ab,rfl,H⟩⟩

def zaw (s:List Sect) (f:Sect->M Bool):Nat->M (Nat ⊕ (Int ⊕ Unit)):=fun s2 =>
  bif decide ((s2:Int)<(s.length:Int)) then (
  M.grd (decide ((s2:Int)<(s.length:Int))) <|
  M.bind (f (s.getD s2 default)) fun r2 =>
  bif r2 then (
  M.pure (.inr (.inl (s2:Int))))
  else (
  M.pure (.inl (s2+1))))
  else (
  M.pure (.inr (.inr ())))
def zce (s:List Sect) (f:Sect->M Bool):M Int :=
  M.bind (M.iter (zaw s f) 0) fun x_=>match x_ with
  | (.inl s3)=>(
  M.pure s3)
  | (.inr (_:Unit))=>(
  M.pure (-1))
theorem zdT {R:List Chunk} {ao:Cells} {aa:Value} {ac:Value} (s:List Sect) (f:Sect->M Bool) (ap:Reads R ao) (ae:Sl ao aa s) (aw:FnM Tryz.prog R ac f) {r:Int} (hM:(zce s f).Ends r) (w:World) (H:St w w [] R):Ret Tryz.prog 135 #[aa,ac] w fun v w'=>∃ (y0:Int),y0=r/\v=I y0/\St w w' [] R:=by
 refine ret_of_W Tryz.func135 rfl rfl rfl ?_
 refine W.seq ?_
 refine W.region rfl ?_
 refine zA (I 0) rfl ?_
 refine s_nil ?_
 refine W.seq ?_
 refine W.seq ?_
 refine W.region rfl ?_
 refine zM aa rfl ?_
 have aF:=(ae).len_le
 refine s_val (x_lenS T23.und rfl ae) ?_
 refine zM (I 0) rfl ?_
 refine s_nil ?_
 refine W.block ?_
 obtain ⟨ax,ai,aq⟩:=M.e_bind hM
 obtain ⟨aG,ai⟩:=M.e_iter ai
 refine W.loop (fun m σ W=>∃ (s2:Nat) (ρ:Env),σ=upds ρ [(0,aa),(1,ac),(7,I (s.length:Int)),(8,I (s2:Int))]/\M.iterN (zaw s f) m s2=some ax/\St w W [] R) ?_ ?_
 ·exact ⟨_,0,_,upds_of _ _ ⟨rfl,rfl,rfl,rfl,trivial⟩,ai,H⟩
 rintro aH σ aI ⟨s2,ρ,rfl,au,H⟩
 obtain ⟨ay,az,aJ,hM,aj⟩:=M.e_iterN au
 simp only [zaw] at hM
 clear au
 refine W.seq ?_
 refine W.region rfl ?_
 refine zC (s2:Int) (s.length:Int) (decide ((s2:Int)<(s.length:Int))) rfl rfl rfl ?_
 refine s_nil ?_
 refine W.seq ?_
 refine W.cond (decide ((s2:Int)<(s.length:Int))) rfl (fun ab=>?_) (fun ab=>?_)
 ·replace hM:=M.e_t hM ab
  simp only [qy1,qy2,qy3,qy4,qy5,qy6,ne_eq,qy7] at ab
  refine W.skip ?_
  refine W.seq ?_
  refine W.block ?_
  refine W.seq ?_
  refine W.region rfl ?_
  refine zM (I (s2:Int)) rfl ?_
  refine zA (I (s2:Int)) rfl ?_
  refine s_nil ?_
  refine W.seq ?_
  refine W.region rfl ?_
  refine zM ac rfl ?_
  refine zM aa rfl ?_
  refine zM (I (s2:Int)) rfl ?_
  obtain ⟨aA,hM⟩:=M.e_grd hM
  simp only [Bool.and_eq_true,decide_eq_true_eq] at aA
  refine s_val (x_ix (a:=aa) (b:=I (s2:Int)) (v:=vat aa 2 (Int.toNat (s2:Int))) rfl rfl (Sl.ix (α:=Sect) T23.und T23.size ae (by omega) (by omega))) ?_
  obtain ⟨av,aB,ag⟩:=Sect_atA ae (i:=(s2:Int)) (by omega) (by omega)
  replace ag:Sl _ av (s.getD s2 default).rows:=ag
  have aK:=ag.len_le
  refine s_val (x_ld (p:=vat aa 2 (Int.toNat (s2:Int))) (v:=.agg #[I ((s.getD s2 default).place),av]) rfl (ld_ag Ag68 Sz68 (At.mono aB (ap.at H)))) ?_
  obtain ⟨r2,aC,hM⟩:=M.e_bind hM
  refine t_callM H aw rfl rfl (s.getD s2 default) (ap.app _) ⟨_,Sect_mk ag,rfl⟩ aC ?_
  intro aL H
  refine s_nil ?_
  refine W.cond r2 rfl (fun ak=>?_) (fun ak=>?_)
  ·replace hM:=M.e_t hM ak
   refine W.seq ?_
   refine W.region rfl ?_
   refine zM (I (s2:Int)) rfl ?_
   refine zA (I (s2:Int)) rfl ?_
   refine s_nil ?_
   refine W.ret ?_
   have aD:=M.e_inr hM aj
   subst aD
   replace hM:=aq
   try dsimp only at hM
   have am:=M.e_pure hM
   exact ⟨_,resE_tmp rfl,⟨(s2:Int),am,rfl,H⟩⟩
  replace hM:=M.e_f hM ak
  refine W.skip ?_
  refine W.region rfl ?_
  refine zR (s2:Int) 1 ((s2:Int)+1) rfl rfl rfl (by omega) ?_
  refine zM (I ((s2:Int)+1)) rfl ?_
  refine s_nil ?_
  exact ⟨ay,az,s2+1,_,upds_of _ _ ⟨rfl,rfl,rfl,rfl,trivial⟩,M.e_inl hM aj,H⟩
 replace hM:=M.e_f hM ab
 simp only [qy1,qy2,qy3,qy4,qy5,qy6,ne_eq,qy7] at ab
 refine W.exit ?_
 have aE:=M.e_inr hM aj
 subst aE
 replace hM:=aq
 try dsimp only at hM
 refine W.seq ?_
 refine W.region rfl ?_
 refine zA (I (-1)) rfl ?_
 refine s_nil ?_
 refine W.ret ?_
 have am:=M.e_pure hM
 exact ⟨_,resE_tmp rfl,⟨(-1),am,rfl,H⟩⟩

def zb8 (s:List Sect) (f:Sect->M Bool):M Bool :=
  M.bind (zce s f) fun r2 =>
  M.pure (decide (0<=r2))
theorem zdp {R:List Chunk} {ac:Cells} {aa:Value} {ab:Value} (s:List Sect) (f:Sect->M Bool) (ag:Reads R ac) (ai:Sl ac aa s) (aj:FnM Tryz.prog R ab f) {r:Bool} (hM:(zb8 s f).Ends r) (w:World) (H:St w w [] R):Ret Tryz.prog 109 #[aa,ab] w fun v w'=>∃ (y0:Bool),y0=r/\v=B y0/\St w w' [] R:=by
 refine ret_of_W Tryz.func109 rfl rfl rfl ?_
 refine W.seq ?_
 refine W.region rfl ?_
 refine zA (B false) rfl ?_
 refine s_nil ?_
 refine W.seq ?_
 refine W.region rfl ?_
 refine zM aa rfl ?_
 refine zM ab rfl ?_
 obtain ⟨ap,ak,hM⟩:=M.e_bind hM
 refine s_call cf135 [aa,ab] rfl (zdT s f (ag.app _) ai (aj.app _) ak _ (H.gt 0)) ?_
 rintro vq aq ⟨r2,am,hvq,ae⟩
 subst am
 subst vq
 try dsimp only at hM
 replace H:=H.bk ae
 clear ae
 refine zC r2 0 (decide (0<=r2)) rfl rfl rfl ?_
 refine zA (B (decide (0<=r2))) rfl ?_
 refine s_nil ?_
 refine W.ret ?_
 have ao:=M.e_pure hM
 exact ⟨_,resE_tmp rfl,⟨(decide (0<=r2)),ao,rfl,H⟩⟩

def zbb (x:Sect) (aa:Sect->M Bool):M Bool :=
  M.bind (aa x) fun r2 =>
  M.pure (!r2)
theorem zdq {R:List Chunk} {ae:Cells} {aa:Value} {ab:Nat} {ac:Value} (x:Sect) (ag:Sect->M Bool) (ai:Reads R ae) (aj:Sl ae aa x.rows) (ak:FnM Tryz.prog R ac ag) (am:Has R (cBlk ab [ac] 152)) {r:Bool} (hM:(zbb x ag).Ends r) (w:World) (H:St w w [] R):Ret Tryz.prog 110 #[.agg #[I x.place,aa],Pq ab] w fun v w'=>∃ (y0:Bool),y0=r/\v=B y0/\St w w' [] R:=by
 refine ret_of_W Tryz.func110 rfl rfl rfl ?_
 refine W.seq ?_
 refine W.region rfl ?_
 refine t_box (v:=.agg #[I x.place,aa]) (cs:=[I x.place,aa]) H rfl rfl ?_
 intro ao au H
 refine zA (B false) rfl ?_
 refine s_nil ?_
 refine W.seq ?_
 refine W.region rfl ?_
 refine s_val (x_ld (p:=Pq ab) (v:=ac) rfl (ldb_sc Sc152 (am.blk H) rfl)) ?_
 refine s_val (x_ld (p:=Pq ao) (v:=.agg #[I x.place,aa]) rfl (ldb_ag (ds:=[I x.place,aa]) Ag68 Sz68 (H.bl 0) rfl rfl)) ?_
 obtain ⟨r2,ap,hM⟩:=M.e_bind hM
 refine t_callM H ak rfl rfl x (ai.app _) ⟨_,Sect_mk aj,rfl⟩ ap ?_
 intro av H
 refine s_val (x_not (b:=r2) rfl) ?_
 refine zA (B (!r2)) rfl ?_
 refine s_nil ?_
 refine W.ret ?_
 have aq:=M.e_pure hM
 exact ⟨_,resE_tmp rfl,⟨(!r2),aq,rfl,(H.pk [])⟩⟩

def zaG (l:List Sect) (so:Sect->M Bool):M Bool :=
  M.bind (zb8 l (fun aa=>zbb aa so)) fun r2 =>
  M.pure (!r2)
theorem zdt {R:List Chunk} {ag:Cells} {aa:Value} {ab:Value} (l:List Sect) (so:Sect->M Bool) (am:Reads R ag) (ao:Sl ag aa l) (ai:FnM Tryz.prog R ab so) {r:Bool} (hM:(zaG l so).Ends r) (w:World) (H:St w w [] R):Ret Tryz.prog 75 #[aa,ab] w fun v w'=>∃ (y0:Bool),y0=r/\v=B y0/\St w w' [] R:=by
 refine ret_of_W Tryz.func75 rfl rfl rfl ?_
 refine W.seq ?_
 refine W.region rfl ?_
 refine t_box (v:=ab) (cs:=[ab]) H rfl (FnM.cells ai) ?_
 intro ac aE H
 refine zA (B false) rfl ?_
 refine s_nil ?_
 refine W.seq ?_
 refine W.region rfl ?_
 refine zM aa rfl ?_
 refine s_val (x_mf (fs:=[]) (cs:=[Pq ac]) rfl rfl) ?_
 obtain ⟨aF,ap,hM⟩:=M.e_bind hM
 refine s_call cf109 [aa,.func (.func 110) #[] #[Pq ac]] rfl (zdp l (fun ae=>zbb ae so) (am.app _) ao ⟨110,[Pq ac],rfl,cf110,fun aj aG aH aq ae aI au av aw ax=>by obtain ⟨aJ,rfl,ay⟩:=Sect_arg aw; exact (zdq ae so av ay (FnM.app (ai.app _) _) (Has.app (Has.here (k:=0) rfl) _) ax aj (St.refl au)).mono fun aq aj ⟨aK,az,aA,aB⟩=>by subst az; exact ⟨aA,aB⟩⟩ ap _ (H.gt 1)) ?_
 rintro vq aL ⟨r2,aC,hvq,ak⟩
 subst aC
 subst vq
 try dsimp only at hM
 replace H:=H.bk ak
 clear ak
 refine s_val (x_not (b:=r2) rfl) ?_
 refine zA (B (!r2)) rfl ?_
 refine s_nil ?_
 refine W.ret ?_
 have aD:=M.e_pure hM
 exact ⟨_,resE_tmp rfl,⟨(!r2),aD,rfl,(H.pk [])⟩⟩

def zaR (x:Sect):M Bool :=
  M.bind (zab (x.rows.length:Int) 2 8) fun r2 =>
  M.pure r2
theorem zdN {R:List Chunk} {ac:Cells} {aa:Value} (x:Sect) (am:Reads R ac) (ae:Sl ac aa x.rows) {r:Bool} (hM:(zaR x).Ends r) (w:World) (H:St w w [] R):Ret Tryz.prog 74 #[.agg #[I x.place,aa]] w fun v w'=>∃ (y0:Bool),y0=r/\v=B y0/\St w w' [] R:=by
 refine ret_of_W Tryz.func74 rfl rfl rfl ?_
 refine W.seq ?_
 refine W.region rfl ?_
 refine t_box (v:=.agg #[I x.place,aa]) (cs:=[I x.place,aa]) H rfl rfl ?_
 intro ab ao H
 refine zA (B false) rfl ?_
 refine s_nil ?_
 refine W.seq ?_
 refine W.region rfl ?_
 refine s_val (x_fa (a:=Pq ab) (v:=Oq ab 1) rfl (fa_blk (o:=0) Fd68_1 Sz66)) ?_
 refine s_val (x_ld (p:=Oq ab 1) (v:=aa) rfl (ldb_sc Sc66 (H.bl 0) rfl)) ?_
 have ap:=(ae).len_le
 refine s_val (x_lenS T66.und rfl ae) ?_
 obtain ⟨aq,ai,hM⟩:=M.e_bind hM
 refine s_call cf70 [I (x.rows.length:Int),I 2,I 8] rfl (zac (x.rows.length:Int) 2 8 ai _ (H.gt 1)) ?_
 rintro vq au ⟨r2,aj,hvq,ag⟩
 subst aj
 subst vq
 try dsimp only at hM
 replace H:=H.bk ag
 clear ag
 refine zA (B r2) rfl ?_
 refine s_nil ?_
 refine W.ret ?_
 have ak:=M.e_pure hM
 exact ⟨_,resE_tmp rfl,⟨r2,ak,rfl,(H.pk [])⟩⟩

def zax (x:Sect):(Int × Int × Nat)->M ((Int × Int × Nat) ⊕ ((Int × Int) ⊕ (Int × Int))):=fun (s,s2,s3) =>
  bif decide ((s3:Int)<(x.rows.length:Int)) then (
  M.grd (decide ((s3:Int)<(x.rows.length:Int))) <|
  M.grd (decide ((-9223372036854775808:Int)<=(s+1))&&decide ((s+1)<=(9223372036854775807:Int))) <|
  M.bind (zab ((x.rows.getD s3 default).stage) (s+1) 2000) fun r2 =>
  M.bind (M.opt (!(!r2)) (zab ((x.rows.getD s3 default).carry) s2 100000) false) fun r3 =>
  bif ((!r2)||(!r3)) then (
  M.pure (.inr (.inl (s,s2))))
  else (
  M.pure (.inl ((x.rows.getD s3 default).stage,(x.rows.getD s3 default).carry,s3+1))))
  else (
  M.pure (.inr (.inr (s,s2))))
def zaJ (x:Sect):M Bool :=
  M.bind (M.iter (zax x) (-1,0,0)) fun x_=>match x_ with
  | (.inl (s4,s5))=>(
  M.pure false)
  | (.inr (s6,s7))=>(
  M.bind (zab x.place 0 10000) fun r4 =>
  M.pure r4)
theorem zds {R:List Chunk} {aq:Cells} {aa:Value} (x:Sect) (aw:Reads R aq) (ak:Sl aq aa x.rows) {r:Bool} (hM:(zaJ x).Ends r) (w:World) (H:St w w [] R):Ret Tryz.prog 76 #[.agg #[I x.place,aa]] w fun v w'=>∃ (y0:Bool),y0=r/\v=B y0/\St w w' [] R:=by
 refine ret_of_W Tryz.func76 rfl rfl rfl ?_
 refine W.seq ?_
 refine W.region rfl ?_
 refine t_box (v:=.agg #[I x.place,aa]) (cs:=[I x.place,aa]) H rfl rfl ?_
 intro ac aK H
 refine zA (B false) rfl ?_
 refine s_nil ?_
 refine W.seq ?_
 refine W.region rfl ?_
 refine s_val (x_bld (ps:=[(0,I (-1))]) (zs:=[I 0,I 0]) (L':=[I (-1),I 0]) rfl Tryz.underlying109 Al109 rfl (Bd109 Tryz.underlying109) (.cons (cs:=[I (-1)]) rfl rfl rfl rfl rfl<|.nil)) ?_
 refine t_alloc (cs:=[I 0,I 0]) H Al109 rfl ?_
 intro ab aL H
 refine t_sw 0 0 [I (-1),I 0] (.agg #[I (-1),I 0]) H rfl rfl Sz109 rfl rfl rfl rfl ?_
 intro aM H
 refine s_nil ?_
 refine W.seq ?_
 refine W.seq ?_
 refine W.region rfl ?_
 refine s_val (x_fa (a:=Pq ac) (v:=Oq ac 1) rfl (fa_blk (o:=0) Fd68_1 Sz66)) ?_
 refine s_val (x_ld (p:=Oq ac 1) (v:=aa) rfl (ldb_sc Sc66 (H.bl 1) rfl)) ?_
 have aN:=(ak).len_le
 refine s_val (x_lenS T66.und rfl ak) ?_
 refine zM (I 0) rfl ?_
 refine s_nil ?_
 refine W.block ?_
 obtain ⟨ax,am,au⟩:=M.e_bind hM
 obtain ⟨aO,am⟩:=M.e_iter am
 refine W.loop (fun m σ W=>∃ (s:Int) (s2:Int) (s3:Nat) (ρ:Env),σ=upds ρ [(1,Pq ac),(3,Pq ab),(8,aa),(9,I (x.rows.length:Int)),(10,I (s3:Int))]/\M.iterN (zax x) m (s,s2,s3)=some ax/\St w W [cBlk ab [I s,I s2] 109,cBlk ac [I x.place,aa] 68] R) ?_ ?_
 ·exact ⟨_,-1,0,0,_,upds_of _ _ ⟨rfl,rfl,rfl,rfl,rfl,trivial⟩,am,H⟩
 rintro aP σ aQ ⟨s,s2,s3,ρ,rfl,av,H⟩
 obtain ⟨ay,az,aR,hM,ao⟩:=M.e_iterN av
 simp only [zax] at hM
 clear av
 refine W.seq ?_
 refine W.region rfl ?_
 refine zC (s3:Int) (x.rows.length:Int) (decide ((s3:Int)<(x.rows.length:Int))) rfl rfl rfl ?_
 refine s_nil ?_
 refine W.seq ?_
 refine W.cond (decide ((s3:Int)<(x.rows.length:Int))) rfl (fun ag=>?_) (fun ag=>?_)
 ·replace hM:=M.e_t hM ag
  simp only [qy1,qy2,qy3,qy4,qy5,qy6,ne_eq,qy7] at ag
  refine W.skip ?_
  refine W.seq ?_
  refine W.block ?_
  refine W.seq ?_
  refine W.region rfl ?_
  obtain ⟨aA,hM⟩:=M.e_grd hM
  simp only [Bool.and_eq_true,decide_eq_true_eq] at aA
  refine s_val (x_ix (a:=aa) (b:=I (s3:Int)) (v:=vat aa 2 (Int.toNat (s3:Int))) rfl rfl (Sl.ix (α:=FRow) T66.und T66.size ak (by omega) (by omega))) ?_
  refine s_val (x_ld (p:=vat aa 2 (Int.toNat (s3:Int))) (v:=.agg #[I ((x.rows.getD s3 default).stage),I ((x.rows.getD s3 default).carry)]) rfl (ld_ag Ag109 Sz109 (At.mono (FRow_atA ak (i:=(s3:Int)) (by omega) (by omega)) (aw.at H)))) ?_
  refine t_alloc (cs:=[I 0,I 0]) H Al109 rfl ?_
  intro ae aS H
  refine t_sw 0 0 [I ((x.rows.getD s3 default).stage),I ((x.rows.getD s3 default).carry)] (.agg #[I ((x.rows.getD s3 default).stage),I ((x.rows.getD s3 default).carry)]) H rfl rfl Sz109 rfl rfl rfl rfl ?_
  intro aT H
  refine s_nil ?_
  refine W.seq ?_
  refine W.seq ?_
  refine W.region rfl ?_
  refine s_val (x_fa (a:=Pq ae) (v:=Pq ae) rfl (fa_blk (o:=0) Fd109_0 Sz3)) ?_
  refine s_val (x_ld (p:=Pq ae) (v:=I ((x.rows.getD s3 default).stage)) rfl (ldb_sc Sc3 (H.bl 0) rfl)) ?_
  refine s_val (x_fa (a:=Pq ab) (v:=Pq ab) rfl (fa_blk (o:=0) Fd109_0 Sz3)) ?_
  refine s_val (x_ld (p:=Pq ab) (v:=I s) rfl (ldb_sc Sc3 (H.bl 1) rfl)) ?_
  obtain ⟨aB,hM⟩:=M.e_grd hM
  simp only [Bool.and_eq_true,decide_eq_true_eq] at aB
  refine zR s 1 (s+1) rfl rfl rfl (by omega) ?_
  obtain ⟨aU,aC,hM⟩:=M.e_bind hM
  refine s_call cf70 [I ((x.rows.getD s3 default).stage),I (s+1),I 2000] rfl (zac ((x.rows.getD s3 default).stage) (s+1) 2000 aC _ (H.gt 3)) ?_
  rintro vq aV ⟨r2,aD,hvq,ai⟩
  subst aD
  subst vq
  try dsimp only at hM
  replace H:=H.bk ai
  clear ai
  refine s_val (x_not (b:=r2) rfl) ?_
  refine zM (B (!r2)) rfl ?_
  refine g_val (!(!r2)) (gy_f rfl) (fun hg=>x_fa (a:=Pq ae) (v:=Oq ae 1) rfl (fa_blk (o:=0) Fd109_1 Sz3)) ?_
  refine g_val (!(!r2)) (gy_f rfl) (fun hg=>x_ld (p:=Oq ae 1) (v:=I ((x.rows.getD s3 default).carry)) (gd_of (c:=!(!r2)) hg (Oq ae 1)) (ldb_sc Sc3 (H.bl 0) rfl)) ?_
  refine g_val (!(!r2)) (gy_f rfl) (fun hg=>x_fa (a:=Pq ab) (v:=Oq ab 1) rfl (fa_blk (o:=0) Fd109_1 Sz3)) ?_
  refine g_val (!(!r2)) (gy_f rfl) (fun hg=>x_ld (p:=Oq ab 1) (v:=I s2) (gd_of (c:=!(!r2)) hg (Oq ab 1)) (ldb_sc Sc3 (H.bl 1) rfl)) ?_
  obtain ⟨r3,aE,hM⟩:=M.e_bind hM
  refine t_gcall (!(!r2)) (gy_f rfl) cf70 (B r3) (fun _=>[I ((x.rows.getD s3 default).carry),I s2,I 100000]) (fun hg=>lst3 (gd_of (c:=!(!r2)) hg (I ((x.rows.getD s3 default).carry))) (gd_of (c:=!(!r2)) hg (I s2)) rfl) H (fun hg=>(zac ((x.rows.getD s3 default).carry) s2 100000 (M.e_opt aE hg) _ (H.give (A:=[]) rfl)).mono fun v_ w_ ⟨y_,aj,aF,H_⟩=>by subst aj; exact ⟨aF,H.via H_⟩) ?_
  intro aW H
  refine g_val (!(!r2)) (gy_f rfl) (fun hg=>x_not (b:=r3) (gd_of (c:=!(!r2)) hg (B r3))) ?_
  refine s_val (x_por (b:=!r2) (r:=!r3) rfl rfl (fun hb=>gd_of (c:=!(!r2)) (by first | exact hb | (rw [hb]; rfl) | simp_all) (B (!r3)))) ?_
  refine s_nil ?_
  refine W.cond ((!r2)||(!r3)) rfl (fun ap=>?_) (fun ap=>?_)
  ·replace hM:=M.e_t hM ap
   refine W.seq ?_
   refine W.region rfl ?_
   refine zA (B false) rfl ?_
   refine s_nil ?_
   refine W.ret ?_
   have aG:=M.e_inr hM ao
   subst aG
   replace hM:=au
   try dsimp only at hM
   have aj:=M.e_pure hM
   exact ⟨_,resE_tmp rfl,⟨false,aj,rfl,(H.pk [])⟩⟩
  replace hM:=M.e_f hM ap
  refine W.skip ?_
  refine W.region rfl ?_
  refine s_val (x_ld (p:=Pq ae) (v:=.agg #[I ((x.rows.getD s3 default).stage),I ((x.rows.getD s3 default).carry)]) rfl (ldb_ag (ds:=[I ((x.rows.getD s3 default).stage),I ((x.rows.getD s3 default).carry)]) Ag109 Sz109 (H.bl 0) rfl rfl)) ?_
  refine t_sw 1 0 [I ((x.rows.getD s3 default).stage),I ((x.rows.getD s3 default).carry)] (.agg #[I ((x.rows.getD s3 default).stage),I ((x.rows.getD s3 default).carry)]) H rfl rfl Sz109 rfl rfl rfl rfl ?_
  intro aX H
  refine s_nil ?_
  refine W.region rfl ?_
  refine zR (s3:Int) 1 ((s3:Int)+1) rfl rfl rfl (by omega) ?_
  refine zM (I ((s3:Int)+1)) rfl ?_
  refine s_nil ?_
  exact ⟨ay,az,(x.rows.getD s3 default).stage,(x.rows.getD s3 default).carry,s3+1,_,upds_of _ _ ⟨rfl,rfl,rfl,rfl,rfl,trivial⟩,M.e_inl hM ao,(H.pk [1,2])⟩
 replace hM:=M.e_f hM ag
 simp only [qy1,qy2,qy3,qy4,qy5,qy6,ne_eq,qy7] at ag
 refine W.exit ?_
 have aH:=M.e_inr hM ao
 subst aH
 replace hM:=au
 try dsimp only at hM
 refine W.seq ?_
 refine W.region rfl ?_
 refine s_val (x_fa (a:=Pq ac) (v:=Pq ac) rfl (fa_blk (o:=0) Fd68_0 Sz3)) ?_
 refine s_val (x_ld (p:=Pq ac) (v:=I x.place) rfl (ldb_sc Sc3 (H.bl 1) rfl)) ?_
 obtain ⟨aY,aI,hM⟩:=M.e_bind hM
 refine s_call cf70 [I x.place,I 0,I 10000] rfl (zac x.place 0 10000 aI _ (H.gt 2)) ?_
 rintro vq aZ ⟨r4,aJ,hvq,ai⟩
 subst aJ
 subst vq
 try dsimp only at hM
 replace H:=H.bk ai
 clear ai
 refine zA (B r4) rfl ?_
 refine s_nil ?_
 replace H:=H.pk []
 refine W.ret ?_
 have aj:=M.e_pure hM
 exact ⟨_,resE_tmp rfl,⟨r4,aj,rfl,H⟩⟩

def zas (s:List Mrk) (f:Mrk->M Bool):Nat->M (Nat ⊕ (Int ⊕ Unit)):=fun s2 =>
  bif decide ((s2:Int)<(s.length:Int)) then (
  M.grd (decide ((s2:Int)<(s.length:Int))) <|
  M.bind (f (s.getD s2 default)) fun r2 =>
  bif r2 then (
  M.pure (.inr (.inl (s2:Int))))
  else (
  M.pure (.inl (s2+1))))
  else (
  M.pure (.inr (.inr ())))
def zch (s:List Mrk) (f:Mrk->M Bool):M Int :=
  M.bind (M.iter (zas s f) 0) fun x_=>match x_ with
  | (.inl s3)=>(
  M.pure s3)
  | (.inr (_:Unit))=>(
  M.pure (-1))
theorem zee {R:List Chunk} {am:Cells} {aa:Value} {ac:Value} (s:List Mrk) (f:Mrk->M Bool) (aq:Reads R am) (ae:Sl am aa s) (au:FnM Tryz.prog R ac f) {r:Int} (hM:(zch s f).Ends r) (w:World) (H:St w w [] R):Ret Tryz.prog 136 #[aa,ac] w fun v w'=>∃ (y0:Int),y0=r/\v=I y0/\St w w' [] R:=by
 refine ret_of_W Tryz.func136 rfl rfl rfl ?_
 refine W.seq ?_
 refine W.region rfl ?_
 refine zA (I 0) rfl ?_
 refine s_nil ?_
 refine W.seq ?_
 refine W.seq ?_
 refine W.region rfl ?_
 refine zM aa rfl ?_
 have aC:=(ae).len_le
 refine s_val (x_lenS T24.und rfl ae) ?_
 refine zM (I 0) rfl ?_
 refine s_nil ?_
 refine W.block ?_
 obtain ⟨av,ag,ao⟩:=M.e_bind hM
 obtain ⟨aD,ag⟩:=M.e_iter ag
 refine W.loop (fun m σ W=>∃ (s2:Nat) (ρ:Env),σ=upds ρ [(0,aa),(1,ac),(7,I (s.length:Int)),(8,I (s2:Int))]/\M.iterN (zas s f) m s2=some av/\St w W [] R) ?_ ?_
 ·exact ⟨_,0,_,upds_of _ _ ⟨rfl,rfl,rfl,rfl,trivial⟩,ag,H⟩
 rintro aE σ aF ⟨s2,ρ,rfl,ap,H⟩
 obtain ⟨aw,ax,aG,hM,ai⟩:=M.e_iterN ap
 simp only [zas] at hM
 clear ap
 refine W.seq ?_
 refine W.region rfl ?_
 refine zC (s2:Int) (s.length:Int) (decide ((s2:Int)<(s.length:Int))) rfl rfl rfl ?_
 refine s_nil ?_
 refine W.seq ?_
 refine W.cond (decide ((s2:Int)<(s.length:Int))) rfl (fun ab=>?_) (fun ab=>?_)
 ·replace hM:=M.e_t hM ab
  simp only [qy1,qy2,qy3,qy4,qy5,qy6,ne_eq,qy7] at ab
  refine W.skip ?_
  refine W.seq ?_
  refine W.block ?_
  refine W.seq ?_
  refine W.region rfl ?_
  refine zM (I (s2:Int)) rfl ?_
  refine zA (I (s2:Int)) rfl ?_
  refine s_nil ?_
  refine W.seq ?_
  refine W.region rfl ?_
  refine zM ac rfl ?_
  refine zM aa rfl ?_
  refine zM (I (s2:Int)) rfl ?_
  obtain ⟨ay,hM⟩:=M.e_grd hM
  simp only [Bool.and_eq_true,decide_eq_true_eq] at ay
  refine s_val (x_ix (a:=aa) (b:=I (s2:Int)) (v:=vat aa 3 (Int.toNat (s2:Int))) rfl rfl (Sl.ix (α:=Mrk) T24.und T24.size ae (by omega) (by omega))) ?_
  refine s_val (x_ld (p:=vat aa 3 (Int.toNat (s2:Int))) (v:=.agg #[I ((s.getD s2 default).place),I ((s.getD s2 default).lo),I ((s.getD s2 default).hi)]) rfl (ld_ag Ag70 Sz70 (At.mono (Mrk_atA ae (i:=(s2:Int)) (by omega) (by omega)) (aq.at H)))) ?_
  obtain ⟨r2,az,hM⟩:=M.e_bind hM
  refine t_callM H au rfl rfl (s.getD s2 default) Reads.none ⟨_,rfl,rfl⟩ az ?_
  intro aH H
  refine s_nil ?_
  refine W.cond r2 rfl (fun aj=>?_) (fun aj=>?_)
  ·replace hM:=M.e_t hM aj
   refine W.seq ?_
   refine W.region rfl ?_
   refine zM (I (s2:Int)) rfl ?_
   refine zA (I (s2:Int)) rfl ?_
   refine s_nil ?_
   refine W.ret ?_
   have aA:=M.e_inr hM ai
   subst aA
   replace hM:=ao
   try dsimp only at hM
   have ak:=M.e_pure hM
   exact ⟨_,resE_tmp rfl,⟨(s2:Int),ak,rfl,H⟩⟩
  replace hM:=M.e_f hM aj
  refine W.skip ?_
  refine W.region rfl ?_
  refine zR (s2:Int) 1 ((s2:Int)+1) rfl rfl rfl (by omega) ?_
  refine zM (I ((s2:Int)+1)) rfl ?_
  refine s_nil ?_
  exact ⟨aw,ax,s2+1,_,upds_of _ _ ⟨rfl,rfl,rfl,rfl,trivial⟩,M.e_inl hM ai,H⟩
 replace hM:=M.e_f hM ab
 simp only [qy1,qy2,qy3,qy4,qy5,qy6,ne_eq,qy7] at ab
 refine W.exit ?_
 have aB:=M.e_inr hM ai
 subst aB
 replace hM:=ao
 try dsimp only at hM
 refine W.seq ?_
 refine W.region rfl ?_
 refine zA (I (-1)) rfl ?_
 refine s_nil ?_
 refine W.ret ?_
 have ak:=M.e_pure hM
 exact ⟨_,resE_tmp rfl,⟨(-1),ak,rfl,H⟩⟩

def zbU (s:List Mrk) (f:Mrk->M Bool):M Bool :=
  M.bind (zch s f) fun r2 =>
  M.pure (decide (0<=r2))
theorem zdr {R:List Chunk} {ac:Cells} {aa:Value} {ab:Value} (s:List Mrk) (f:Mrk->M Bool) (ag:Reads R ac) (ai:Sl ac aa s) (aj:FnM Tryz.prog R ab f) {r:Bool} (hM:(zbU s f).Ends r) (w:World) (H:St w w [] R):Ret Tryz.prog 111 #[aa,ab] w fun v w'=>∃ (y0:Bool),y0=r/\v=B y0/\St w w' [] R:=by
 refine ret_of_W Tryz.func111 rfl rfl rfl ?_
 refine W.seq ?_
 refine W.region rfl ?_
 refine zA (B false) rfl ?_
 refine s_nil ?_
 refine W.seq ?_
 refine W.region rfl ?_
 refine zM aa rfl ?_
 refine zM ab rfl ?_
 obtain ⟨ap,ak,hM⟩:=M.e_bind hM
 refine s_call cf136 [aa,ab] rfl (zee s f (ag.app _) ai (aj.app _) ak _ (H.gt 0)) ?_
 rintro vq aq ⟨r2,am,hvq,ae⟩
 subst am
 subst vq
 try dsimp only at hM
 replace H:=H.bk ae
 clear ae
 refine zC r2 0 (decide (0<=r2)) rfl rfl rfl ?_
 refine zA (B (decide (0<=r2))) rfl ?_
 refine s_nil ?_
 refine W.ret ?_
 have ao:=M.e_pure hM
 exact ⟨_,resE_tmp rfl,⟨(decide (0<=r2)),ao,rfl,H⟩⟩

end Go.Proofs.YtlemgioaakecpaaGreat
end
