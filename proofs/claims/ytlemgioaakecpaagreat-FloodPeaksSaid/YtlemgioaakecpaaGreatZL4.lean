/- Part 4 of the texts on which the proof rests. Conditions: none. -/
import Derived.Test.YtlemgioaakecpaaGreatZL3
set_option linter.unusedVariables false
set_option linter.unusedSimpArgs false
set_option linter.unusedSectionVars false
namespace Go.Nm
namespace Fl
theorem sub_len:∀ (a b:List Nat),a.Nodup->(∀ x∈a,x∈b)->a.length<=b.length
  | [],_,_,_=>Nat.zero_le _
  | x :: a,b,hn,hs=>by
    rw [List.nodup_cons] at hn
    have hx:=hs x (by simp)
    have h1:=sub_len a (b.erase x) hn.2 (fun y hy=>(List.mem_erase_of_ne (fun e:y=x=>hn.1 (by rw [← e]; exact hy))).2 (hs y (by simp [hy])))
    have h2:=List.length_erase_of_mem hx
    have h3:=List.length_pos_of_mem hx
    rw [List.length_cons]
    omega
def ci (l:List Nat):List Int:=l.map fun k:Nat=>(k:Int)
theorem ci_len (l:List Nat):(ci l).length=l.length:=by simp [ci]
section
variable {M:List Mrk} {K:Nat->Prop} {nx ls:List Int} {i j:Nat} {l l':List Nat}
/-- A row that begins with a mark. -/
structure IsRow (M:List Mrk) (nx:List Int) (i:Nat) (l:List Nat):Prop where
  hd:∃ t,l=i :: t
  pw:l.Pairwise (ah M)
  rg:∀ v∈l,v<M.length
  cl:∀ c∈l,nx.getD c 0 = -1∨∃ v∈l,nx.getD c 0=(v:Int)
  pr:∀ v∈l,v=i∨∃ c∈l,nx.getD c 0=(v:Int)
  en:∃ c∈l,nx.getD c 0 = -1
/-- A row that is begun. -/
structure Rs (M:List Mrk) (nx:List Int) (i:Nat) (s:Int) (l:List Nat):Prop where
  st:(l=[]/\s=(i:Int))∨∃ t,l=i :: t
  pw:l.Pairwise (ah M)
  rg:∀ v∈l,v<M.length
  sv:s = -1∨∃ k,k<M.length/\s=(k:Int)/\∀ u∈l,ah M u k
  cl:∀ c∈l,nx.getD c 0=s∨∃ v∈l,nx.getD c 0=(v:Int)
  pr:∀ v∈l,v=i∨∃ c∈l,nx.getD c 0=(v:Int)
  ls:l=[]∨∃ c∈l,nx.getD c 0=s
theorem Mtc.ah (h:Mtc M nx ls) {c b:Nat} (hc:c<M.length) (e:nx.getD c 0=(b:Int)):b<M.length/\ls.getD b 0=(c:Int)/\Fl.ah M c b:=by
  rcases h.n c hc with q | ⟨b',hb,q1,q2⟩
  · omega
  · obtain rfl:b=b':=by omega
    rcases h.l b hb with q | ⟨d,hd,q3,q4,q5⟩
    · omega
    · obtain rfl:c=d:=by omega
      exact ⟨hb,q2,q4⟩
theorem Rs.step {s:Int} (h:Rs M nx i s l) (hk:∀ x∈M,Mok x) (hM:Mtc M nx ls) {k:Nat} (hkl:k<M.length) (e:s=(k:Int)) (hu:∀ u∈l,ah M u k):Rs M nx i (nx.getD k 0) (l++[k]):=by
  refine ⟨.inr ?_,?_,fun v hv=>?_,?_,fun c hc=>?_,fun v hv=>?_,.inr ⟨k,by simp,rfl⟩⟩
  · rcases h.st with ⟨q,q'⟩ | ⟨t,q⟩
    · obtain rfl:k=i:=by omega
      exact ⟨[],by rw [q]; rfl⟩
    · exact ⟨t++[k],by rw [q]; rfl⟩
  · rw [List.pairwise_append]
    refine ⟨h.pw,by simp,fun a ha b hb=>?_⟩
    rw [List.mem_singleton] at hb
    subst hb
    exact hu a ha
  · rcases List.mem_append.1 hv with hv | hv
    · exact h.rg v hv
    · rw [List.mem_singleton] at hv; omega
  · rcases hM.n k hkl with q | ⟨b,hb,q1,q2⟩
    · exact .inl q
    · have hab:=(hM.ah hkl q1).2.2
      refine .inr ⟨b,hb,q1,fun u hu'=>?_⟩
      rcases List.mem_append.1 hu' with hu' | hu'
      · exact ah_trans hk hkl (hu u hu') hab
      · rw [List.mem_singleton] at hu'; rw [hu']; exact hab
  · rcases List.mem_append.1 hc with hc | hc
    · rcases h.cl c hc with q | ⟨v,hv,q⟩
      · exact .inr ⟨k,by simp,by omega⟩
      · exact .inr ⟨v,by simp [hv],q⟩
    · rw [List.mem_singleton] at hc
      rw [hc]
      exact .inl rfl
  · rcases List.mem_append.1 hv with hv | hv
    · rcases h.pr v hv with q | ⟨c,hc,q⟩
      · exact .inl q
      · exact .inr ⟨c,by simp [hc],q⟩
    · rw [List.mem_singleton] at hv
      subst hv
      rcases h.ls with q | ⟨c,hc,q⟩
      · rcases h.st with ⟨_,q'⟩ | ⟨t,q'⟩
        · exact .inl (by omega)
        · rw [q] at q'; cases q'
      · exact .inr ⟨c,by simp [hc],by omega⟩
theorem Rs.fin (h:Rs M nx i (-1) l):IsRow M nx i l:=by
  refine ⟨?_,h.pw,h.rg,h.cl,h.pr,?_⟩
  · rcases h.st with ⟨_,q⟩ | q
    · omega
    · exact q
  · rcases h.ls with q | q
    · rcases h.st with ⟨_,q'⟩ | ⟨t,q'⟩
      · omega
      · rw [q] at q'; cases q'
    · exact q
/-- How many marks contradict one from above. -/
def up (M:List Mrk) (v:Nat):Nat:=cnt (fun u=>decide (ah M u v)) M.length
theorem up_lt (hk:∀ x∈M,Mok x) {c v:Nat} (hc:c<M.length) (h:ah M c v):up M c<up M v:=by
  refine cnt_lt M.length (fun b hb q=>?_) c hc (decide_eq_false (ah_irr hk hc)) (decide_eq_true h)
  exact decide_eq_true (ah_trans hk hc (of_decide_eq_true q) h)
def dn (M:List Mrk) (v:Nat):Nat:=cnt (fun u=>decide (ah M v u)) M.length
theorem IsRow.same (hk:∀ x∈M,Mok x) (hM:Mtc M nx ls) (h:IsRow M nx i l) (h':IsRow M nx j l') (hi:ls.getD i 0 = -1) (hj:ls.getD j 0 = -1):∀ (m v:Nat),up M v<=m->v∈l->v∈l'->i=j:=by
  intro m
  induction m with
  | zero =>
    intro v hm hv hv'
    rcases h.pr v hv with rfl | ⟨c,hc,q⟩
    · rcases h'.pr v hv' with rfl | ⟨c,hc,q⟩
      · rfl
      · have:=(hM.ah (h'.rg c hc) q).2.1; omega
    · have:=up_lt hk (h.rg c hc) (hM.ah (h.rg c hc) q).2.2; omega
  | succ m ih =>
    intro v hm hv hv'
    rcases h.pr v hv with rfl | ⟨c,hc,q⟩
    · rcases h'.pr v hv' with rfl | ⟨c,hc,q⟩
      · rfl
      · have:=(hM.ah (h'.rg c hc) q).2.1; omega
    · have k1:=hM.ah (h.rg c hc) q
      rcases h'.pr v hv' with rfl | ⟨d,hd,q'⟩
      · omega
      · have k2:=hM.ah (h'.rg d hd) q'
        obtain rfl:c=d:=by omega
        have:=up_lt hk (h.rg c hc) k1.2.2
        exact ih c (by omega) hc hd
theorem has_row (hk:∀ x∈M,Mok x) (hM:Mtc M nx ls):∀ (m v:Nat),up M v<=m->v<M.length->∃ j,j<M.length/\ls.getD j 0 = -1/\∀ l,IsRow M nx j l->v∈l:=by
  intro m
  induction m with
  | zero =>
    intro v hm hv
    rcases hM.l v hv with q | ⟨c,hc,q1,q2,q3⟩
    · exact ⟨v,hv,q,fun l h=>by obtain ⟨t,e⟩:=h.hd; rw [e]; simp⟩
    · have:=up_lt hk hc q2; omega
  | succ m ih =>
    intro v hm hv
    rcases hM.l v hv with q | ⟨c,hc,q1,q2,q3⟩
    · exact ⟨v,hv,q,fun l h=>by obtain ⟨t,e⟩:=h.hd; rw [e]; simp⟩
    · have:=up_lt hk hc q2
      obtain ⟨j,hj,k1,k2⟩:=ih c (by omega) hc
      refine ⟨j,hj,k1,fun l h=>?_⟩
      rcases h.cl c (k2 l h) with k | ⟨w,hw,k⟩
      · omega
      · obtain rfl:v=w:=by omega
        exact hw
/-- Marks of which no row leads into those that are closed. -/
def Xs (K:Nat->Prop) (nx ls:List Int) (v:Nat):Prop:=(nx.getD v 0 = -1∨∃ b,K b/\ls.getD b 0=(v:Int))/\¬K v
theorem Xs.anti (h:Tp M K M.length nx ls) {u v:Nat} (hu:Xs K nx ls u) (hv:Xs K nx ls v) (ul:u<M.length) (vl:v<M.length):¬ah M u v:=fun ha=>by
  rcases hu.1 with q | ⟨b,kb,q⟩
  · exact hv.2 (h.k u ul q v vl ha)
  · obtain ⟨_,c,hc,e,k⟩:=h.cl b kb
    obtain rfl:c=u:=by omega
    exact hv.2 (k v vl ha)
theorem IsRow.pick (hk:∀ x∈M,Mok x) (h:Tp M K M.length nx ls) (hr:IsRow M nx i l) (hi:ls.getD i 0 = -1):∃ v∈l,Xs K nx ls v:=by
  refine Classical.byContradiction fun hc=>?_
  have no:∀ v∈l,¬Xs K nx ls v:=fun v hv q=>hc ⟨v,hv,q⟩
  have key:∀ (m v:Nat),up M v<=m->v∈l->¬K v:=by
    intro m
    induction m with
    | zero =>
      intro v hm hv kv
      rcases hr.pr v hv with rfl | ⟨c,hcl,q⟩
      · obtain ⟨_,d,hd,e,_⟩:=h.cl v kv; omega
      · have:=up_lt hk (hr.rg c hcl) (h.m.ah (hr.rg c hcl) q).2.2; omega
    | succ m ih =>
      intro v hm hv kv
      rcases hr.pr v hv with rfl | ⟨c,hcl,q⟩
      · obtain ⟨_,d,hd,e,_⟩:=h.cl v kv; omega
      · have k1:=h.m.ah (hr.rg c hcl) q
        have:=up_lt hk (hr.rg c hcl) k1.2.2
        exact no c hcl ⟨.inr ⟨v,kv,k1.2.1⟩,ih c (by omega) hcl⟩
  obtain ⟨c,hcl,q⟩:=hr.en
  exact no c hcl ⟨.inl q,key _ c (Nat.le_refl _) hcl⟩
/-- Rows that hold each mark once, as few as there are marks that are true together. -/
structure RowsOk (M:List Mrk) (L:List (List Nat)):Prop where
  ne:∀ l∈L,l ≠ []
  pw:∀ l∈L,l.Pairwise (ah M)
  rg:∀ l∈L,∀ v∈l,v<M.length
  cov:∀ v,v<M.length->∃ l∈L,v∈l
  dis:L.Pairwise fun a b=>∀ v∈a,v ∉ b
  len:L.length<=M.length
  pick:∃ X:Nat->Prop,(∀ u v,X u->X v->u<M.length->v<M.length->¬ah M u v)/\∀ l∈L,∃ v∈l,X v
/-- Rows that are made of the first marks. -/
structure Rw (M:List Mrk) (nx ls:List Int) (i:Nat) (L:List (List Nat)):Prop where
  ro:∀ l∈L,∃ j,j<i/\ls.getD j 0 = -1/\IsRow M nx j l
  al:∀ j,j<i->ls.getD j 0 = -1->∃ l∈L,IsRow M nx j l
  dis:L.Pairwise fun a b=>∀ v∈a,v ∉ b
  len:L.length<=i
theorem Rw.ok {L:List (List Nat)} (hk:∀ x∈M,Mok x) (h:Tp M K M.length nx ls) (hr:Rw M nx ls M.length L):RowsOk M L:=by
  refine ⟨fun l hl=>?_,fun l hl=>?_,fun l hl=>?_,fun v hv=>?_,hr.dis,hr.len,Xs K nx ls,fun u v hu hv ul vl=>Xs.anti h hu hv ul vl,fun l hl=>?_⟩
  · obtain ⟨j,_,_,q⟩:=hr.ro l hl
    obtain ⟨t,e⟩:=q.hd
    rw [e]; simp
  · obtain ⟨j,_,_,q⟩:=hr.ro l hl; exact q.pw
  · obtain ⟨j,_,_,q⟩:=hr.ro l hl; exact q.rg
  · obtain ⟨j,hj,e,q⟩:=has_row hk h.m _ v (Nat.le_refl _) hv
    obtain ⟨l,hl,k⟩:=hr.al j hj e
    exact ⟨l,hl,q l k⟩
  · obtain ⟨j,_,e,q⟩:=hr.ro l hl
    exact q.pick hk h e
theorem Rw.skip {L:List (List Nat)} (h:Rw M nx ls i L) (hi:ls.getD i 0 ≠ -1):Rw M nx ls (i+1) L :=
  ⟨fun l hl=>by obtain ⟨j,hj,q⟩:=h.ro l hl; exact ⟨j,by omega,q⟩,fun j hj e=>h.al j (by
    by_cases k:j=i
    · subst k; exact absurd e hi
    · omega) e,h.dis,by have:=h.len; omega⟩
theorem Rw.step {L:List (List Nat)} (hk:∀ x∈M,Mok x) (hM:Mtc M nx ls) (h:Rw M nx ls i L) (hi:ls.getD i 0 = -1) (hl:IsRow M nx i l):Rw M nx ls (i+1) (L++[l]):=by
  refine ⟨fun l' hl'=>?_,fun j hj e=>?_,?_,by have:=h.len; simp; omega⟩
  · rcases List.mem_append.1 hl' with hl' | hl'
    · obtain ⟨j,hj,q⟩:=h.ro l' hl'; exact ⟨j,by omega,q⟩
    · rw [List.mem_singleton] at hl'; rw [hl']; exact ⟨i,by omega,hi,hl⟩
  · by_cases k:j=i
    · subst k; exact ⟨l,by simp,hl⟩
    · obtain ⟨l',hl',q⟩:=h.al j (by omega) e
      exact ⟨l',by simp [hl'],q⟩
  · rw [List.pairwise_append]
    refine ⟨h.dis,by simp,fun a ha b hb v hv hv'=>?_⟩
    rw [List.mem_singleton] at hb
    subst hb
    obtain ⟨j,hj,e,q⟩:=h.ro a ha
    have:=q.same hk hM hl e hi _ v (Nat.le_refl _) hv hv'
    omega
end
end Fl
end Go.Nm
namespace Go.Proofs.YtlemgioaakecpaaGreat
open Go Go.Nm
section
variable {S:List Sect} {M':List Mrk} {R':List Rch}
end
end Go.Proofs.YtlemgioaakecpaaGreat
namespace Go.Nm
namespace Fl
/-- The sum of what numbers below n give. -/
def sm (g:Nat->Nat):Nat->Nat
  | 0=>0
  | n+1=>sm g n+g n
theorem sm_le {g h:Nat->Nat}:∀ n,(∀ i,i<n->g i<=h i)->sm g n<=sm h n
  | 0,_=>Nat.le_refl _
  | n+1,k=>by
    have:=sm_le n (fun i hi=>k i (by omega))
    have:=k n (by omega)
    unfold sm
    omega
theorem sm_lt {g h:Nat->Nat}:∀ n,(∀ i,i<n->g i<=h i)->∀ x,x<n->g x<h x->sm g n<sm h n
  | 0,_,_,hx,_=>by omega
  | n+1,k,x,hx,hl=>by
    have q:=k n (by omega)
    unfold sm
    by_cases e:x=n
    · subst e
      have:=sm_le x (fun i hi=>k i (by omega))
      omega
    · have:=sm_lt n (fun i hi=>k i (by omega)) x (by omega) hl
      omega
section
variable {M:List Mrk} {L:List (List Nat)}
/-- The mark of a row that is looked at. -/
def cur (L:List (List Nat)) (at_:List Int) (i:Nat):Nat:=(L.getD i []).getD (Int.toNat (at_.getD i 0)) 0
/-- Where the rows are looked at: no further on than where their marks stand that do not contradict one another. -/
structure At (L:List (List Nat)) (f:Nat->Nat) (at_:List Int):Prop where
  n:at_.length=L.length
  le:∀ i,i<L.length->∃ k:Nat,at_.getD i 0=(k:Int)/\k<=f i
theorem rowIn {i:Nat} (hi:i<L.length):L.getD i []∈L:=by
  rw [getD_el L hi]
  exact List.getElem_mem hi
theorem pw_le (hk:∀ x∈M,Mok x) {l:List Nat} (hp:l.Pairwise (ah M)) {a b:Nat} (hab:a<=b) (hb:b<l.length):l.getD a 0=l.getD b 0∨ah M (l.getD a 0) (l.getD b 0):=by
  rcases Nat.lt_or_eq_of_le hab with h | h
  · right
    rw [getD_el l (by omega:a<l.length),getD_el l hb]
    exact List.pairwise_iff_getElem.1 hp a b (by omega) hb h
  · left; rw [h]
theorem At.step {f:Nat->Nat} {X:Nat->Prop} {at_:List Int} (hk:∀ x∈M,Mok x) (h:RowsOk M L) (hX:∀ u v,X u->X v->u<M.length->v<M.length->¬ah M u v) (hf:∀ i,i<L.length->f i<(L.getD i []).length/\X ((L.getD i []).getD (f i) 0)) (ha:At L f at_) {i k:Nat} (hi:i<L.length) (hk':k<L.length) (hah:ah M (cur L at_ i) (cur L at_ k)) :
    At L f (at_.set i (at_.getD i 0+1))/\sm (fun j=>f j-Int.toNat ((at_.set i (at_.getD i 0+1)).getD j 0)) L.length<sm (fun j=>f j-Int.toNat (at_.getD j 0)) L.length:=by
  have n:=ha.n
  have g:∀ j,(at_.set i (at_.getD i 0+1)).getD j 0=if j=i then at_.getD i 0+1 else at_.getD j 0:=fun j=>gset at_ i j _ 0 (by omega)
  obtain ⟨a,ea,la⟩:=ha.le i hi
  obtain ⟨b,eb,lb⟩:=ha.le k hk'
  have fi:=hf i hi
  have fk:=hf k hk'
  have ri:=h.rg _ (rowIn hi)
  have rk:=h.rg _ (rowIn hk')
  have mem:∀ j (l:List Nat),j<l.length->l.getD j 0∈l:=fun j l hj=>by rw [getD_el l hj]; exact List.getElem_mem hj
  have lt:a<f i:=by
    refine Nat.lt_of_le_of_ne la (fun e=>?_)
    unfold cur at hah
    rw [ea,eb,Int.toNat_natCast,Int.toNat_natCast,e] at hah
    have m1:=ri _ (mem _ _ fi.1)
    have m2:=rk _ (mem _ _ fk.1)
    have m3:=rk _ (mem b (L.getD k []) (by omega))
    rcases pw_le hk (h.pw _ (rowIn hk')) lb fk.1 with q | q
    · rw [q] at hah
      exact hX _ _ fi.2 fk.2 m1 m2 hah
    · exact hX _ _ fi.2 fk.2 m1 m2 (ah_trans hk m3 hah q)
  refine ⟨⟨by rw [List.length_set]; exact n,fun j hj=>?_⟩,sm_lt L.length (fun j hj=>?_) i hi ?_⟩
  · rw [g]
    by_cases e:j=i
    · subst e
      rw [if_pos rfl]
      exact ⟨a+1,by omega,by omega⟩
    · rw [if_neg e]
      exact ha.le j hj
  · rw [g]
    by_cases e:j=i
    · subst e
      rw [if_pos rfl]
      omega
    · rw [if_neg e]
      exact Nat.le_refl _
  · rw [g,if_pos rfl,ea]
    have:Int.toNat ((a:Int)+1)=a+1:=by omega
    rw [this,Int.toNat_natCast]
    omega
/-- What is chosen: one mark of each row. -/
def chs (L:List (List Nat)) (at_:List Int):List Nat:=(List.range L.length).map (cur L at_)
theorem chs_len {at_:List Int}:(chs L at_).length=L.length:=by simp [chs]
theorem cur_in {f:Nat->Nat} {at_:List Int} (ha:At L f at_) (hf:∀ i,i<L.length->f i<(L.getD i []).length) {i:Nat} (hi:i<L.length):cur L at_ i∈L.getD i []:=by
  obtain ⟨a,ea,la⟩:=ha.le i hi
  have:=hf i hi
  unfold cur
  rw [ea,Int.toNat_natCast,getD_el _ (by omega:a<(L.getD i []).length)]
  exact List.getElem_mem _
theorem chs_nd {f:Nat->Nat} {at_:List Int} (h:RowsOk M L) (ha:At L f at_) (hf:∀ i,i<L.length->f i<(L.getD i []).length):(chs L at_).Nodup:=by
  unfold chs List.Nodup
  rw [List.pairwise_map]
  refine List.Pairwise.imp_of_mem ?_ List.pairwise_lt_range
  intro i j hi hj hij e
  have hi:=List.mem_range.1 hi
  have hj:=List.mem_range.1 hj
  have q:=List.pairwise_iff_getElem.1 h.dis i j hi hj hij
  have c1:=cur_in ha hf hi
  have c2:=cur_in ha hf hj
  rw [getD_el L hi] at c1
  rw [getD_el L hj] at c2
  exact q _ c1 (by rw [e]; exact c2)
/-- Marks of which none contradicts another one, as many as there are rows. -/
structure Best (M:List Mrk) (L:List (List Nat)) (l:List Int):Prop where
  n:l.length=L.length
  inc:Inc M l
  tog:Tog M l
theorem ah_iff {u v:Nat}:ah M u v↔((M.getD (Int.toNat (u:Int)) default).place<=(M.getD (Int.toNat (v:Int)) default).place/\(M.getD (Int.toNat (u:Int)) default).hi<(M.getD (Int.toNat (v:Int)) default).lo):=by
  rw [Int.toNat_natCast,Int.toNat_natCast]
  exact Iff.rfl
theorem Best.of {f:Nat->Nat} {at_:List Int} (hk:∀ x∈M,Mok x) (h:RowsOk M L) (ha:At L f at_) (hf:∀ i,i<L.length->f i<(L.getD i []).length) (no:∀ i k,i<L.length->k<L.length->i ≠ k->¬ah M (cur L at_ i) (cur L at_ k)):Best M L (isort (ci (chs L at_))):=by
  have p:=isort_perm (ci (chs L at_))
  have nd:(ci (chs L at_)).Nodup:=by
    unfold ci List.Nodup
    rw [List.pairwise_map]
    exact List.Pairwise.imp (fun q e=>q (by omega)) (chs_nd h ha hf)
  have mem:∀ x∈isort (ci (chs L at_)),∃ i,i<L.length/\x=((cur L at_ i:Nat):Int):=fun x hx=>by
    have hx:=p.mem_iff.1 hx
    unfold ci chs at hx
    rw [List.map_map,List.mem_map] at hx
    obtain ⟨i,hi,rfl⟩:=hx
    exact ⟨i,List.mem_range.1 hi,rfl⟩
  have rg:∀ i,i<L.length->cur L at_ i<M.length:=fun i hi=>h.rg _ (rowIn hi) _ (cur_in ha hf hi)
  refine ⟨by rw [p.length_eq,ci_len,chs_len],⟨?_,fun x hx=>?_⟩,fun a ha' b hb=>?_⟩
  · have s1:=isort_asc (ci (chs L at_))
    have s2:(isort (ci (chs L at_))).Nodup:=p.nodup_iff.2 nd
    exact List.Pairwise.imp₂ (fun a b (h1:a<=b) (h2:a ≠ b)=>by omega) s1 s2
  · obtain ⟨i,hi,rfl⟩:=mem x hx
    have:=rg i hi
    omega
  · obtain ⟨i,hi,rfl⟩:=mem a ha'
    obtain ⟨k,hkl,rfl⟩:=mem b hb
    rw [← ah_iff]
    by_cases e:i=k
    · subst e; exact ah_irr hk (rg i hi)
    · exact no i k hi hkl e
/-- Marks that are true together are no more than rows that hold all marks, each of which contradicts those ahead of it. -/
theorem few {X:List Nat} {L:List (List Nat)} (hX:X.Nodup) (hr:∀ v∈X,v<M.length) (hno:∀ u∈X,∀ v∈X,¬ah M u v) (cov:∀ v,v<M.length->∃ l∈L,v∈l) (ch:∀ l∈L,∀ u∈l,∀ v∈l,u ≠ v->ah M u v∨ah M v u):X.length<=L.length:=by
  classical
  have w:∀ v:Nat,∃ i,v<M.length->i<L.length/\v∈L.getD i []:=fun v=>by
    by_cases hv:v<M.length
    · obtain ⟨l,hl,q⟩:=cov v hv
      obtain ⟨i,hi,e⟩:=mem_getD hl []
      exact ⟨i,fun _=>⟨hi,by rw [e]; exact q⟩⟩
    · exact ⟨0,fun q=>absurd q hv⟩
  have hw:=fun v=>Classical.choose_spec (w v)
  generalize (fun v=>Classical.choose (w v))=g at hw
  have nd:(X.map fun v=>Classical.choose (w v)).Nodup:=by
    unfold List.Nodup
    rw [List.pairwise_map]
    refine List.Pairwise.imp_of_mem ?_ hX
    intro u v hu hv ne e
    have a:=hw u (hr u hu)
    have b:=hw v (hr v hv)
    rw [← e] at b
    rcases ch _ (rowIn a.1) u a.2 v b.2 ne with q | q
    · exact hno u hu v hv q
    · exact hno v hv u hu q
  have:=sub_len _ (List.range L.length) nd (fun x hx=>by
    obtain ⟨v,hv,rfl⟩:=List.mem_map.1 hx
    exact List.mem_range.2 (hw v (hr v hv)).1)
  rwa [List.length_map,List.length_range] at this
end
end Fl
end Go.Nm
namespace Go.Proofs.YtlemgioaakecpaaGreat
open Go Go.Nm
section
variable {S:List Sect} {M':List Mrk} {R':List Rch}
end
end Go.Proofs.YtlemgioaakecpaaGreat
namespace Go.Nm
namespace Fl
def surf (S:List Sect) (M:List Mrk) (ms:List Int):List Span:=(List.range S.length).map fun i=>⟨stLo M ms (S.getD i default).place,stHi M ms (S.getD i default).place⟩
theorem surf_len (S:List Sect) (M:List Mrk) (ms:List Int):(surf S M ms).length=S.length:=by simp [surf]
theorem surf_at {S:List Sect} {M:List Mrk} {ms:List Int} {i:Nat} (h:i<S.length):(surf S M ms).getD i default=⟨stLo M ms (S.getD i default).place,stHi M ms (S.getD i default).place⟩:=by
  rw [getD_el _ (by rw [surf_len]; exact h)]
  simp [surf]
end Fl
end Go.Nm
namespace Go.Proofs.YtlemgioaakecpaaGreat
open Go Go.Nm
section
variable {S:List Sect} {M':List Mrk} {R':List Rch} {ms:List Int} {r:Rch}
theorem Surface_ends (h:Fl.Site S M' R') (hc:Fl.Inc M' ms) (ht:Fl.Tog M' ms):(zaq S M' R' ms).Ends (Fl.surf S M' ms,0):=by
  have hn:=h.s.n
  unfold zaq
  refine M.i_bind (chosen_ends h hc) (M.i_f rfl (M.i_bind (together_ends hc.2 ht) (M.i_f rfl (M.i_bind (a:=(Fl.surf S M' ms,Fl.surf S M' ms)) ?_ M.i_pure))))
  refine M.i_for (fun i=>(i,(List.range i).map fun i=>(⟨Fl.stLo M' ms (S.getD i default).place,Fl.stHi M' ms (S.getD i default).place⟩:Span))) S.length (fun i hi=>?_) ?_
  · simp only [zbG]
    refine M.i_t (decide_eq_true (by omega)) (M.i_bind (stages_ends hc.2 (by omega) (by omega)) (M.i_grd (decide_eq_true ?_) ?_))
    · simp; omega
    · rw [List.range_succ,List.map_append,Int.toNat_natCast]
      exact M.i_pure
  · simp only [zbG]
    exact M.i_f (decide_eq_false (by omega)) M.i_pure
end
end Go.Proofs.YtlemgioaakecpaaGreat
namespace Go.Nm
namespace Fl
instance (M:List Mrk) (a b:Nat):Decidable (ah M a b∨ah M b a):=inferInstance
/-- Rows that may be asked of. -/
structure Rws (n:Nat) (T:List (List Int)):Prop where
  len:T.length<=16
  row:∀ r∈T,r ≠ []/\∀ k∈r,0<=k/\k<n
end Fl
end Go.Nm
namespace Go.Proofs.YtlemgioaakecpaaGreat
open Go Go.Nm
section
variable {S:List Sect} {M':List Mrk} {R':List Rch} {ms:List Int}
theorem every_all (l:List Int) (so:Int->M Bool) (f:Int->Bool) (h:∀ t∈l,(so t).Ends (f t)):(zal l so).Out (fun b=>b=true↔∀ t∈l,f t=true):=by
  unfold zal zcF zcr
  refine M.o_bind (P:=fun b=>b=false↔∀ t∈l,f t=true) (M.o_bind (P:=fun i=>i<0↔∀ t∈l,f t=true) (M.o_bind (P:=fun z=>match z with | .inl i=>0<=i/\∃ t∈l,f t=false | .inr _=>∀ t∈l,f t=true) ?_ ?_) ?_) ?_
  · refine M.o_for l.length (fun i (s:Nat)=>s=i/\∀ j,j<i->f (l.getD j 0)=true) ?_ ?_ ⟨rfl,fun j hj=>by omega⟩
    · rintro _ i hi ⟨rfl,hj⟩
      simp only [zaJ]
      have hm:l.getD i 0∈l:=by rw [getD_el l hi]; exact List.getElem_mem hi
      refine M.o_t (decide_eq_true (by omega)) (M.o_grd (decide_eq_true (by omega)) (M.o_bindE (a:=!f (l.getD i 0)) ?_ (M.o_if (fun hb=>?_) (fun hb=>?_))))
      · unfold zbw
        exact M.i_bind (h _ hm) M.i_pure
      · exact M.o_pure ⟨by omega,_,hm,by simpa using hb⟩
      · refine M.o_pure ⟨rfl,fun j hj'=>?_⟩
        by_cases e:j=i
        · subst e; simpa using hb
        · exact hj j (by omega)
    · rintro _ ⟨rfl,hj⟩
      simp only [zaJ]
      refine M.o_f (decide_eq_false (by omega)) (M.o_pure fun t ht=>?_)
      obtain ⟨i,hi,rfl⟩:=mem_getD ht 0
      exact hj i hi
  · intro z hz
    match z,hz with
    | .inl i,hz =>
      refine M.o_pure ⟨fun q=>by have:=hz.1; omega,fun q=>?_⟩
      obtain ⟨_,t,ht,e⟩:=hz
      rw [q t ht] at e; cases e
    | .inr _,hz=>exact M.o_pure ⟨fun _=>hz,fun _=>by decide⟩
  · intro i hi
    refine M.o_pure ?_
    rw [decide_eq_false_iff_not,← hi]
    omega
  · intro b hb
    refine M.o_pure ?_
    rw [Bool.not_eq_true']
    exact hb
theorem ahI_ends {a b:Int} (ha:0<=a/\a<M'.length) (hb:0<=b/\b<M'.length):(zaf S M' R' a b).Ends (decide (Fl.ah M' (Int.toNat a) (Int.toNat b))):=by
  have:=ahN_ends (S:=S) (R':=R') (M':=M') (a:=Int.toNat a) (b:=Int.toNat b) (by omega) (by omega)
  rwa [show ((Int.toNat a:Nat):Int)=a by omega,show ((Int.toNat b:Nat):Int)=b by omega] at this
theorem together_out (hx:Fl.Ixs M' ms):(zai S M' R' ms).Out (fun b=>b=true↔Fl.Tog M' ms):=by
  have inner:∀ a∈ms,(zaB a ms S M' R').Ends (decide (∀ b∈ms,¬Fl.ah M' (Int.toNat a) (Int.toNat b))):=fun a ha=>by
    unfold zaB
    obtain ⟨r,h1,h2⟩:=every_all ms (fun xqz=>zaR xqz S M' R' a) (fun b=>!decide (Fl.ah M' (Int.toNat a) (Int.toNat b))) (fun b hb=>by
      unfold zaR
      exact M.i_bind (ahI_ends (hx a ha) (hx b hb)) M.i_pure)
    refine M.i_bind h1 ?_
    have e:r=decide (∀ b∈ms,¬Fl.ah M' (Int.toNat a) (Int.toNat b)):=by
      rw [Bool.eq_iff_iff,h2,decide_eq_true_iff]
      constructor
      · intro q b hb; simpa using q b hb
      · intro q b hb; simpa using q b hb
    rw [e]
    exact M.i_pure
  unfold zai
  refine M.o_bind (every_all ms (fun xqz=>zaB xqz ms S M' R') (fun a=>decide (∀ b∈ms,¬Fl.ah M' (Int.toNat a) (Int.toNat b))) inner) (fun b hb=>M.o_pure ?_)
  rw [hb]
  constructor
  · intro q a ha b hb'
    exact (of_decide_eq_true (q a ha)) b hb'
  · intro q a ha
    exact decide_eq_true fun b hb'=>q a ha b hb'
end
end Go.Proofs.YtlemgioaakecpaaGreat
section
set_option maxRecDepth 100000
set_option maxHeartbeats 16000000
namespace Go.Proofs.YtlemgioaakecpaaGreat
open Go Go.Nm
end Go.Proofs.YtlemgioaakecpaaGreat
end
section
set_option maxRecDepth 100000
set_option maxHeartbeats 16000000
namespace Go.Proofs.YtlemgioaakecpaaGreat
open Go Go.Nm
end Go.Proofs.YtlemgioaakecpaaGreat
end
section
set_option maxRecDepth 100000
set_option maxHeartbeats 16000000
namespace Go.Proofs.YtlemgioaakecpaaGreat
open Go Go.Nm
def zcf (place lo hi:Int):M (Int × Int × Int) :=
  M.pure (place,lo,hi)
theorem zc5 {R:List Chunk}  (place:Int) (lo:Int) (hi:Int)  {r:(Int × Int × Int)} (hM:(zcf place lo hi).Ends r) (w:World) (H:St w w [] R):Ret Tryz.prog 61 #[I place,I lo,I hi] w fun v w'=>∃ (y0:Int) (y1:Int) (y2:Int),(y0,y1,y2)=r/\v = .agg #[I y0,I y1,I y2]/\St w w' [] R:=by
 refine ret_of_W Tryz.func61 rfl rfl rfl<|W.seq<|W.region rfl ?_;refine t_alloc (cs:=[I 0,I 0,I 0]) H Al70 rfl ?_;intro ae ag H;refine s_nil<|W.seq<|W.region rfl<|zM (I place) rfl<|zM (I lo) rfl<|zM (I hi) rfl<|s_val (x_bld (ps:=[(0,I lo),(1,I hi)]) (zs:=[I 0,I 0]) (L':=[I lo,I hi]) rfl Tryz.underlying54 Al54 rfl (Bd54 Tryz.underlying54) (.cons (cs:=[I lo]) rfl rfl rfl rfl rfl<|.cons (cs:=[I hi]) rfl rfl rfl rfl rfl<|.nil))<|s_val (x_bld (ps:=[(0,I place),(1,.agg #[I lo,I hi])]) (zs:=[I 0,I 0,I 0]) (L':=[I place,I lo,I hi]) rfl Tryz.underlying70 Al70 rfl (Bd70 Tryz.underlying70) (.cons (cs:=[I place]) rfl rfl rfl rfl rfl<|.cons (cs:=[I lo,I hi]) rfl rfl rfl rfl rfl<|.nil)) ?_;refine t_sw 0 0 [I place,I lo,I hi] (.agg #[I place,I lo,I hi]) H rfl rfl Sz70 rfl rfl rfl rfl ?_;intro ai H;refine s_nil ?_;refine W.ret ?_
 have ab:=(H.bl 0)
 have ac:=M.e_pure hM
 exact ⟨_,(resE_of1 (v:=.agg #[I place,I lo,I hi]) rfl (.cell (v:=.agg #[I place,I lo,I hi]) rfl (run_loadVar_ag (ds:=[I place,I lo,I hi]) Ag70 Sz70 ab rfl rfl)<|.nil)),⟨place,lo,hi,ac,rfl,(H.pk [])⟩⟩

def zbl (marks:List Mrk):M ((List Sect) × (List Mrk) × (List Rch)) :=
  M.bind (zcf 0 150 160) fun (r0,r1,r2) =>
  M.bind (zcf 100 100 110) fun (ab,ac,ae) =>
  M.grd (decide ((([(⟨(r0:Int),(r1:Int),(r2:Int)⟩:Mrk),(⟨(ab:Int),(ac:Int),(ae:Int)⟩:Mrk)]).length+marks.length)*24<=140737488355328)) <|
  M.pure (([(⟨(0:Int),([(⟨(0:Int),(0:Int)⟩:FRow),(⟨(200:Int),(2000:Int)⟩:FRow)])⟩:Sect),(⟨(100:Int),([(⟨(0:Int),(0:Int)⟩:FRow),(⟨(200:Int),(2000:Int)⟩:FRow)])⟩:Sect)]),(([(⟨(r0:Int),(r1:Int),(r2:Int)⟩:Mrk),(⟨(ab:Int),(ac:Int),(ae:Int)⟩:Mrk)])++marks),([(⟨(0:Int),(1:Int),(50:Int),(100:Int),false⟩:Rch)]))
theorem zb7 {R:List Chunk} {aw:Cells} {au:Value} (marks:List Mrk) (aB:Reads R aw) (aC:Sl aw au marks) {r:((List Sect) × (List Mrk) × (List Rch))} (hM:(zbl marks).Ends r) (w:World) (H:St w w [] R):Ret Tryz.prog 60 #[au] w fun v w'=>∃ (y0:List Sect) (y1:List Mrk) (y2:List Rch) (u0:Value) (rr1:List (Raw 1)) (ax:Base) (u3:Value) (u4:Value),(y0,y1,y2)=r/\v = .agg #[u0,u3,u4]/\St w w' [cOwn (α:=Raw 1) 68 u0 rr1,cRo ax,cOwn (α:=Mrk) 70 u3 y1,cOwn (α:=Rch) 58 u4 y2] R/\RepR (α:=Sect) ax.cells rr1 y0:=by
 refine ret_of_W Tryz.func60 rfl rfl rfl<|W.seq<|W.region rfl ?_;refine t_alloc (cs:=[.slice none 0 0,.slice none 0 0,.slice none 0 0]) H Al27 rfl ?_;intro aJ aK H;refine s_nil<|W.seq<|W.region rfl<|s_val (x_bld (ps:=[]) (zs:=[I 0,I 0]) (L':=[I 0,I 0]) rfl Tryz.underlying109 Al109 rfl (Bd109 Tryz.underlying109) (.nil))<|s_val (x_bld (ps:=[(0,I 200),(1,I 2000)]) (zs:=[I 0,I 0]) (L':=[I 200,I 2000]) rfl Tryz.underlying109 Al109 rfl (Bd109 Tryz.underlying109) (.cons (cs:=[I 200]) rfl rfl rfl rfl rfl<|.cons (cs:=[I 2000]) rfl rfl rfl rfl rfl<|.nil)) ?_;refine t_bs (α:=FRow) T66 [.agg #[I 0,I 0],.agg #[I 200,I 2000]] [(⟨(0:Int),(0:Int)⟩:FRow),(⟨(200:Int),(2000:Int)⟩:FRow)] H rfl (.cons rfl (Flat.rep_enc _ (⟨(0:Int),(0:Int)⟩:FRow))<|.cons rfl (Flat.rep_enc _ (⟨(200:Int),(2000:Int)⟩:FRow))<|.nil) rfl rfl rfl ?_;intro ab aL H;refine zA ab rfl<|s_nil<|W.seq<|W.region rfl<|zM ab rfl<|s_val (x_bld (ps:=[(1,ab)]) (zs:=[I 0,.slice none 0 0]) (L':=[I 0,ab]) rfl Tryz.underlying68 Al68 rfl (Bd68 Tryz.underlying68) (.cons (cs:=[ab]) (Sl.cells (H.os 0)) rfl rfl rfl rfl<|.nil))<|zM ab rfl<|s_val (x_bld (ps:=[(0,I 100),(1,ab)]) (zs:=[I 0,.slice none 0 0]) (L':=[I 100,ab]) rfl Tryz.underlying68 Al68 rfl (Bd68 Tryz.underlying68) (.cons (cs:=[I 100]) rfl rfl rfl rfl rfl<|.cons (cs:=[ab]) (Sl.cells (H.os 0)) rfl rfl rfl rfl<|.nil)) ?_
 obtain ⟨aM,H⟩:=H.emptyE
 obtain ⟨aN,H,aD⟩:=H.freezeE (k:=1) rfl
 replace H:=H.nf
 have ai:=aD
 obtain ⟨ay,H,aO,aE⟩:=H.joinE (i:=0) (j:=1) rfl rfl
 replace ai:=ai.mono aE
 obtain ⟨ao,az⟩:∃ r:Raw 1,r.cs=[I 0,ab]:=⟨Raw.of [I 0,ab] rfl (by simp only [List.all_cons,List.all_nil,Bool.true_and,Bool.and_true,Sl.oc ai]; try rfl),rfl⟩
 obtain ⟨ap,aA⟩:∃ r:Raw 1,r.cs=[I 100,ab]:=⟨Raw.of [I 100,ab] rfl (by simp only [List.all_cons,List.all_nil,Bool.true_and,Bool.and_true,Sl.oc ai]; try rfl),rfl⟩
 have av:RepR (α:=Sect) ay.cells [ao,ap] [(⟨(0:Int),([(⟨(0:Int),(0:Int)⟩:FRow),(⟨(200:Int),(2000:Int)⟩:FRow)])⟩:Sect),(⟨(100:Int),([(⟨(0:Int),(0:Int)⟩:FRow),(⟨(200:Int),(2000:Int)⟩:FRow)])⟩:Sect)]:=.cons (by rw [az]; exact ⟨_,rfl,ai⟩)<|.cons (by rw [aA]; exact ⟨_,rfl,ai⟩)<|.nil
 refine t_bs (α:=Raw 1) T23 [.agg #[I 0,ab],.agg #[I 100,ab]] [ao,ap] H rfl (.cons (by rw [show (Flat.enc ao:List Value)=ao.cs from rfl,az]; rfl) (Flat.rep_enc _ _)<|.cons (by rw [show (Flat.enc ap:List Value)=ap.cs from rfl,aA]; rfl) (Flat.rep_enc _ _)<|.nil) rfl rfl rfl ?_;intro ac aP H;replace H:=H.nf;obtain ⟨aQ,aF,hM⟩:=M.e_bind hM;refine s_call cf61 [I 0,I 150,I 160] rfl (zc5 0 150 160 aF _ (H.gt 5)) ?_
 rintro vq aR ⟨r0,r1,r2,rfl,hvq,aq⟩
 subst vq;(try dsimp only at hM);replace H:=H.bk aq;clear aq;obtain ⟨aS,aG,hM⟩:=M.e_bind hM;refine s_call cf61 [I 100,I 100,I 110] rfl (zc5 100 100 110 aG _ (H.gt 5)) ?_
 rintro vq aT ⟨aj,ak,am,rfl,hvq,aq⟩
 subst vq;(try dsimp only at hM);replace H:=H.bk aq;clear aq;refine t_bs (α:=Mrk) T24 [.agg #[I r0,I r1,I r2],.agg #[I aj,I ak,I am]] [(⟨(r0:Int),(r1:Int),(r2:Int)⟩:Mrk),(⟨(aj:Int),(ak:Int),(am:Int)⟩:Mrk)] H rfl (.cons rfl (Flat.rep_enc _ (⟨(r0:Int),(r1:Int),(r2:Int)⟩:Mrk))<|.cons rfl (Flat.rep_enc _ (⟨(aj:Int),(ak:Int),(am:Int)⟩:Mrk))<|.nil) rfl rfl rfl ?_;intro aU aV H;refine zM au rfl ?_;obtain ⟨aW,hM⟩:=M.e_gd hM;refine t_app (α:=Mrk) (k:=0) (l:=[(⟨(r0:Int),(r1:Int),(r2:Int)⟩:Mrk),(⟨(aj:Int),(ak:Int),(am:Int)⟩:Mrk)]) (l2:=marks) (l':=([(⟨(r0:Int),(r1:Int),(r2:Int)⟩:Mrk),(⟨(aj:Int),(ak:Int),(am:Int)⟩:Mrk)])++marks) (vy:=au) T24 rfl H rfl rfl rfl aC (aB.at H) (rfl) (by first | omega | (simp only [List.length_nil] at *; omega)) ?_;intro ae aX H;replace H:=H.nf;refine s_val (x_bld (ps:=[(0,I 50),(1,I 100)]) (zs:=[I 0,I 0]) (L':=[I 50,I 100]) rfl Tryz.underlying54 Al54 rfl (Bd54 Tryz.underlying54) (.cons (cs:=[I 50]) rfl rfl rfl rfl rfl<|.cons (cs:=[I 100]) rfl rfl rfl rfl rfl<|.nil))<|s_val (x_bld (ps:=[(1,I 1),(2,.agg #[I 50,I 100])]) (zs:=[I 0,I 0,I 0,I 0,B false]) (L':=[I 0,I 1,I 50,I 100,B false]) rfl Tryz.underlying58 Al58 rfl (Bd58 Tryz.underlying58) (.cons (cs:=[I 1]) rfl rfl rfl rfl rfl<|.cons (cs:=[I 50,I 100]) rfl rfl rfl rfl rfl<|.nil)) ?_;refine t_bs (α:=Rch) T25 [.agg #[I 0,I 1,I 50,I 100,B false]] [(⟨(0:Int),(1:Int),(50:Int),(100:Int),false⟩:Rch)] H rfl (.cons rfl (Flat.rep_enc _ (⟨(0:Int),(1:Int),(50:Int),(100:Int),false⟩:Rch))<|.nil) rfl rfl rfl ?_;intro ag aY H;refine s_val (x_bld (ps:=[(0,ac),(1,ae),(2,ag)]) (zs:=[.slice none 0 0,.slice none 0 0,.slice none 0 0]) (L':=[ac,ae,ag]) rfl Tryz.underlying27 Al27 rfl (Bd27 Tryz.underlying27) (.cons (cs:=[ac]) (Sl.cells (rowSl rfl (H.get (k:=2) rfl) (roLe _ (H.get (k:=3) rfl)) av)) rfl rfl rfl rfl<|.cons (cs:=[ae]) (Sl.cells (H.os 1)) rfl rfl rfl rfl<|.cons (cs:=[ag]) (Sl.cells (H.os 0)) rfl rfl rfl rfl<|.nil)) ?_;refine t_sw 6 0 [ac,ae,ag] (.agg #[ac,ae,ag]) H rfl rfl Sz27 rfl rfl rfl (by simp only [List.all_cons,List.all_nil,Bool.true_and,Bool.and_true,Sl.oc (rowSl rfl (H.get (k:=2) rfl) (roLe _ (H.get (k:=3) rfl)) av),Sl.oc (H.os 1),Sl.oc (H.os 0)]; try rfl) ?_;intro aZ H;refine s_nil ?_;replace H:=H.pk [0,1,2,3,6];refine W.ret ?_
 have aH:=(H.bl 4)
 have aI:=M.e_pure hM
 exact ⟨_,(resE_of1 (v:=.agg #[ac,ae,ag]) rfl (.cell (v:=.agg #[ac,ae,ag]) rfl (run_loadVar_ag (ds:=[ac,ae,ag]) Ag27 Sz27 aH rfl rfl)<|.nil)),⟨([(⟨(0:Int),([(⟨(0:Int),(0:Int)⟩:FRow),(⟨(200:Int),(2000:Int)⟩:FRow)])⟩:Sect),(⟨(100:Int),([(⟨(0:Int),(0:Int)⟩:FRow),(⟨(200:Int),(2000:Int)⟩:FRow)])⟩:Sect)]),(([(⟨(r0:Int),(r1:Int),(r2:Int)⟩:Mrk),(⟨(aj:Int),(ak:Int),(am:Int)⟩:Mrk)])++marks),([(⟨(0:Int),(1:Int),(50:Int),(100:Int),false⟩:Rch)]),ac,[ao,ap],ay,ae,ag,aI,rfl,(H.pk [2,3,1,0]),av⟩⟩

def zaO  : M Bool :=
  M.bind (zbl ([]:List Mrk)) fun (r0,r1,r2) =>
  M.bind (za0 r0 r1 r2 ([(0:Int),(1:Int)]) 0) fun (aj,ak,am) =>
  M.bind (zbl ([]:List Mrk)) fun (aC,aD,aE) =>
  M.bind (zbL aC aD aE 0 (⟨(160:Int),(110:Int),(50:Int),(50:Int)⟩:Cas)) fun (ao,ap) =>
  M.bind (zbl ([]:List Mrk)) fun (aF,aG,ai) =>
  M.grd (decide (0<(ai.length:Int))) <|
  M.bind (za0 aF aG (ai.set 0 ({ (ai.getD 0 default) with narrow:=true })) ([(0:Int),(1:Int)]) 0) fun (aK,aq,au) =>
  M.bind (zcf 50 170 180) fun (aH,aI,aJ) =>
  M.bind (zbl ([(⟨(aH:Int),(aI:Int),(aJ:Int)⟩:Mrk)])) fun (ab,ac,ae) =>
  M.bind (zdB ab ac ae 0 2) fun (av,aw) =>
  M.bind (zdl ab ac ae) fun (ax,ay) =>
  M.bind (zds ab ac ae 2 ([[(0:Int),(2:Int)],[(1:Int)]])) fun (az,aA) =>
  M.bind (zaq ab ac ae ([(1:Int),(2:Int)])) fun (ag,aB) =>
  M.grd ((!((((((((((((((am==0)&&(ap==0))&&(au==0))&&(aw==0))&&(ay==0))&&(aA==0))&&(aB==0))&&(decide ((⟨(aj:Int),(ak:Int)⟩:Span)=(⟨(812:Int),(1959:Int)⟩:Span))))&&(ao==1876))&&(aq==1557))&&av)&&((ax.length:Int)==2))&&az)&&((ag.length:Int)==2))||(decide (0<(ag.length:Int))))) <|
  M.pure (((((((((((((((am==0)&&(ap==0))&&(au==0))&&(aw==0))&&(ay==0))&&(aA==0))&&(aB==0))&&(decide ((⟨(aj:Int),(ak:Int)⟩:Span)=(⟨(812:Int),(1959:Int)⟩:Span))))&&(ao==1876))&&(aq==1557))&&av)&&((ax.length:Int)==2))&&az)&&((ag.length:Int)==2))&&(decide ((ag.getD 0 default)=(⟨(170:Int),(2000:Int)⟩:Span))))
theorem zco {R:List Chunk}    {r:Bool} (hM:(zaO).Ends r) (w:World) (H:St w w [] R):Ret Tryz.prog 16 #[] w fun v w'=>∃ (y0:Bool),y0=r/\v=B y0/\St w w' [] R:=by
 refine ret_of_W Tryz.func16 rfl rfl rfl<|W.seq<|W.region rfl<|zA (B false) rfl<|s_nil<|W.seq<|W.region rfl ?_;refine t_bs (α:=Int) T28 [I 0,I 1] [(0:Int),(1:Int)] H rfl (.cons rfl (Flat.rep_enc _ (0:Int))<|.cons rfl (Flat.rep_enc _ (1:Int))<|.nil) rfl rfl rfl ?_;intro aM bV H;refine zA aM rfl<|s_nil<|W.seq<|W.region rfl ?_;obtain ⟨bW,bf,hM⟩:=M.e_bind hM;refine s_call cf60 [.slice none 0 0] rfl (zb7 ([]:List Mrk) Reads.none (Sl.nil (fun _=>none)) bf _ (H.gt 1)) ?_
 rintro vq bX ⟨r0,r1,r2,bg,bY,bZ,bh,bi,rfl,hvq,au,bj⟩
 subst vq;(try dsimp only at hM);replace H:=H.bk au;clear au;refine zM aM rfl ?_;obtain ⟨b4,bm,hM⟩:=M.e_bind hM;refine s_call cf20 [.agg #[bg,bh,bi],aM,I 0] rfl (zcJ r0 r1 r2 ([(0:Int),(1:Int)]) 0 (Reads.sup (rdo 0) (Reads.of (k:=1) rfl roLe)) (rowSl rfl (H.get (k:=0) rfl) (roLe _ (H.get (k:=1) rfl)) bj) (rdo 2) (H.os 2) (rdo 3) (H.os 3) (rdo 4) (H.os 4) bm _ (H.gt 5)) ?_
 rintro vq b5 ⟨am,ao,ab,rfl,hvq,au⟩
 subst vq;(try dsimp only at hM);replace H:=H.bk au;clear au;refine zM (.tuple #[.agg #[I am,I ao],I ab]) rfl<|zX [.agg #[I am,I ao],I ab] (.agg #[I am,I ao]) rfl rfl<|zX [.agg #[I am,I ao],I ab] (I ab) rfl rfl ?_;refine t_alloc (cs:=[I 0,I 0]) H Al54 rfl ?_;intro bn b6 H;refine t_sw 0 0 [I am,I ao] (.agg #[I am,I ao]) H rfl rfl Sz54 rfl rfl rfl rfl ?_;intro b7 H;refine zA (I ab) rfl<|s_nil ?_;replace H:=H.pk [0,5];refine W.seq<|W.region rfl ?_;obtain ⟨b8,bo,hM⟩:=M.e_bind hM;refine s_call cf60 [.slice none 0 0] rfl (zb7 ([]:List Mrk) Reads.none (Sl.nil (fun _=>none)) bo _ (H.gt 2)) ?_
 rintro vq b9 ⟨bp,bq,br,bt,cb,cc,bu,bv,rfl,hvq,au,bw⟩
 subst vq;(try dsimp only at hM);replace H:=H.bk au;clear au;refine s_val (x_bld (ps:=[(0,I 160),(1,I 110),(2,I 50),(3,I 50)]) (zs:=[I 0,I 0,I 0,I 0]) (L':=[I 160,I 110,I 50,I 50]) rfl Tryz.underlying61 Al61 rfl (Bd61 Tryz.underlying61) (.cons (cs:=[I 160]) rfl rfl rfl rfl rfl<|.cons (cs:=[I 110]) rfl rfl rfl rfl rfl<|.cons (cs:=[I 50]) rfl rfl rfl rfl rfl<|.cons (cs:=[I 50]) rfl rfl rfl rfl rfl<|.nil)) ?_;obtain ⟨cd,bx,hM⟩:=M.e_bind hM;refine s_call cf22 [.agg #[bt,bu,bv],I 0,.agg #[I 160,I 110,I 50,I 50]] rfl (zdr bp bq br 0 (⟨(160:Int),(110:Int),(50:Int),(50:Int)⟩:Cas) (Reads.sup (rdo 0) (Reads.of (k:=1) rfl roLe)) (rowSl rfl (H.get (k:=0) rfl) (roLe _ (H.get (k:=1) rfl)) bw) (rdo 2) (H.os 2) (rdo 3) (H.os 3) bx _ (H.gt 6)) ?_
 rintro vq ce ⟨ap,ac,rfl,hvq,au⟩
 subst vq;(try dsimp only at hM);replace H:=H.bk au;clear au;refine zM (.tuple #[I ap,I ac]) rfl<|zX [I ap,I ac] (I ap) rfl rfl<|zX [I ap,I ac] (I ac) rfl rfl<|zA (I ap) rfl<|zA (I ac) rfl<|s_nil ?_;replace H:=H.pk [4,5];refine W.seq<|W.region rfl ?_;obtain ⟨cf,bz,hM⟩:=M.e_bind hM;refine s_call cf60 [.slice none 0 0] rfl (zb7 ([]:List Mrk) Reads.none (Sl.nil (fun _=>none)) bz _ (H.gt 2)) ?_
 rintro vq cg ⟨bA,a6,aD,aG,bB,bC,aH,aF,rfl,hvq,au,a7⟩
 subst vq;(try dsimp only at hM);replace H:=H.bk au;clear au;refine t_alloc (cs:=[.slice none 0 0,.slice none 0 0,.slice none 0 0]) H Al27 rfl ?_;intro a8 cj H;refine t_sw 0 0 [aG,aH,aF] (.agg #[aG,aH,aF]) H rfl rfl Sz27 rfl rfl rfl (by simp only [List.all_cons,List.all_nil,Bool.true_and,Bool.and_true,Sl.oc (rowSl rfl (H.get (k:=1) rfl) (roLe _ (H.get (k:=2) rfl)) a7),Sl.oc (H.os 3),Sl.oc (H.os 4)]; try rfl) ?_;intro co H;refine s_nil<|W.seq<|W.region rfl<|s_val (x_fa (v:=Oq a8 2) rfl (fa_blk (o:=0) Fd27_2 Sz25))<|s_val (x_ld (v:=aF) rfl (ldb_sc Sc25 (H.bl 0) rfl)) ?_;obtain ⟨cp,hM⟩:=M.e_gd hM;refine s_val (x_ix (v:=vat aF 5 (Int.toNat 0)) rfl rfl (Sl.ix (α:=Rch) T25.und T25.size (H.os 4) (by omega) (by omega)))<|s_val (x_fa (v:=fat (vat aF 5 (Int.toNat 0)) 4) rfl (fa_pl Fd58_3 Sz4 (Sl.pl (i:=0) (H.os 4) (by omega) (by omega)))) ?_;refine t_fst (α:=Rch) (k:=4) (i:=0) (off:=4) (l:=aD) (l':=aD.set 0 ({ (aD.getD 0 default) with narrow:=true })) (val:=B true) (L':=[cBlk a8 [aG,aH,aF] 27,cOwn (α:=Raw 1) 68 aG bB,cRo bC,cOwn (α:=Mrk) 70 aH a6,cOwn (α:=Rch) 58 aF (aD.set 0 ({ (aD.getD 0 default) with narrow:=true })),cBlk bn [I am,I ao] 54,cOwn (α:=Int) 3 aM ([(0:Int),(1:Int)])]) H rfl Sz4 (by omega) (by omega) (aD.getD 0 default) ({ (aD.getD 0 default) with narrow:=true }) (getD_some _ (by omega) _) rfl rfl [B true] rfl rfl rfl rfl rfl rfl rfl ?_;intro cq H
 have cr:(aD.set 0 ({ (aD.getD 0 default) with narrow:=true })).length=(aD).length:=List.length_set
 refine s_nil<|W.seq<|W.region rfl<|s_val (x_ld (v:=.agg #[aG,aH,aF]) rfl (ldb_ag (ds:=[aG,aH,aF]) Ag27 Sz27 (H.bl 0) rfl rfl))<|zM aM rfl ?_;obtain ⟨ct,bD,hM⟩:=M.e_bind hM;refine s_call cf20 [.agg #[aG,aH,aF],aM,I 0] rfl (zcJ bA a6 (aD.set 0 ({ (aD.getD 0 default) with narrow:=true })) ([(0:Int),(1:Int)]) 0 (Reads.sup (rdo 1) (Reads.of (k:=2) rfl roLe)) (rowSl rfl (H.get (k:=1) rfl) (roLe _ (H.get (k:=2) rfl)) a7) (rdo 3) (H.os 3) (rdo 4) (H.os 4) (rdo 6) (H.os 6) bD _ (H.gt 7)) ?_
 rintro vq cu ⟨aN,aq,ae,rfl,hvq,au⟩
 subst vq;(try dsimp only at hM);replace H:=H.bk au;clear au;refine zM (.tuple #[.agg #[I aN,I aq],I ae]) rfl<|zX [.agg #[I aN,I aq],I ae] (.agg #[I aN,I aq]) rfl rfl<|zX [.agg #[I aN,I aq],I ae] (I ae) rfl rfl ?_;refine t_alloc (cs:=[I 0,I 0]) H Al54 rfl ?_;intro ba cv H;refine t_sw 0 0 [I aN,I aq] (.agg #[I aN,I aq]) H rfl rfl Sz54 rfl rfl rfl rfl ?_;intro cw H;refine zA (I ae) rfl<|s_nil ?_;replace H:=H.pk [0,6];refine W.seq<|W.region rfl ?_;obtain ⟨cx,bE,hM⟩:=M.e_bind hM;refine s_call cf61 [I 50,I 170,I 180] rfl (zc5 50 170 180 bE _ (H.gt 2)) ?_
 rintro vq cy ⟨aQ,aR,aS,rfl,hvq,au⟩
 subst vq;(try dsimp only at hM);replace H:=H.bk au;clear au;refine t_bs (α:=Mrk) T24 [.agg #[I aQ,I aR,I aS]] [(⟨(aQ:Int),(aR:Int),(aS:Int)⟩:Mrk)] H rfl (.cons rfl (Flat.rep_enc _ (⟨(aQ:Int),(aR:Int),(aS:Int)⟩:Mrk))<|.nil) rfl rfl rfl ?_;intro bF cz H;obtain ⟨cA,bG,hM⟩:=M.e_bind hM;refine s_call cf60 [bF] rfl (zb7 ([(⟨(aQ:Int),(aR:Int),(aS:Int)⟩:Mrk)]) (rdo 0) (H.os 0) bG _ (H.gt 3)) ?_
 rintro vq cB ⟨aT,aU,aV,aA,cC,cD,aB,aC,rfl,hvq,au,aO⟩
 subst vq;(try dsimp only at hM);replace H:=H.bk au;clear au;refine t_alloc (cs:=[.slice none 0 0,.slice none 0 0,.slice none 0 0]) H Al27 rfl ?_;intro cE cF H;refine t_sw 0 0 [aA,aB,aC] (.agg #[aA,aB,aC]) H rfl rfl Sz27 rfl rfl rfl (by simp only [List.all_cons,List.all_nil,Bool.true_and,Bool.and_true,Sl.oc (rowSl rfl (H.get (k:=1) rfl) (roLe _ (H.get (k:=2) rfl)) aO),Sl.oc (H.os 3),Sl.oc (H.os 4)]; try rfl) ?_;intro cG H;refine s_nil<|W.seq<|W.region rfl<|s_val (x_ld (v:=.agg #[aA,aB,aC]) rfl (ldb_ag (ds:=[aA,aB,aC]) Ag27 Sz27 (H.bl 0) rfl rfl)) ?_;obtain ⟨cH,bH,hM⟩:=M.e_bind hM;refine s_call cf30 [.agg #[aA,aB,aC],I 0,I 2] rfl (zed aT aU aV 0 2 (Reads.sup (rdo 1) (Reads.of (k:=2) rfl roLe)) (rowSl rfl (H.get (k:=1) rfl) (roLe _ (H.get (k:=2) rfl)) aO) (rdo 3) (H.os 3) (rdo 4) (H.os 4) bH _ (H.gt 8)) ?_
 rintro vq cI ⟨av,ag,rfl,hvq,au⟩
 subst vq;(try dsimp only at hM);replace H:=H.bk au;clear au;refine zM (.tuple #[B av,I ag]) rfl<|zX [B av,I ag] (B av) rfl rfl<|zX [B av,I ag] (I ag) rfl rfl<|zA (B av) rfl<|zA (I ag) rfl<|s_nil<|W.seq<|W.region rfl<|s_val (x_ld (v:=.agg #[aA,aB,aC]) rfl (ldb_ag (ds:=[aA,aB,aC]) Ag27 Sz27 (H.bl 0) rfl rfl)) ?_;obtain ⟨cJ,bI,hM⟩:=M.e_bind hM;refine s_call cf10 [.agg #[aA,aB,aC]] rfl (zd1 aT aU aV (Reads.sup (rdo 1) (Reads.of (k:=2) rfl roLe)) (rowSl rfl (H.get (k:=1) rfl) (roLe _ (H.get (k:=2) rfl)) aO) (rdo 3) (H.os 3) (rdo 4) (H.os 4) bI _ (H.gt 8)) ?_
 rintro vq cK ⟨aw,ai,aI,rfl,hvq,au⟩
 subst vq;(try dsimp only at hM);replace H:=H.bk au;clear au;refine zM (.tuple #[aI,I ai]) rfl<|zX [aI,I ai] aI rfl rfl<|zX [aI,I ai] (I ai) rfl rfl<|zA aI rfl<|zA (I ai) rfl<|s_nil<|W.seq<|W.region rfl<|s_val (x_ld (v:=.agg #[aA,aB,aC]) rfl (ldb_ag (ds:=[aA,aB,aC]) Ag27 Sz27 (H.bl 1) rfl rfl)) ?_;refine t_bs (α:=Int) T28 [I 0,I 2] [(0:Int),(2:Int)] H rfl (.cons rfl (Flat.rep_enc _ (0:Int))<|.cons rfl (Flat.rep_enc _ (2:Int))<|.nil) rfl rfl rfl ?_;intro aY cL H;refine t_bs (α:=Int) T28 [I 1] [(1:Int)] H rfl (.cons rfl (Flat.rep_enc _ (1:Int))<|.nil) rfl rfl rfl ?_;intro aZ cM H
 obtain ⟨cN,H⟩:=H.emptyE
 obtain ⟨cO,H,bJ⟩:=H.freezeE (k:=2) rfl
 replace H:=H.nf
 have aJ:=bJ
 obtain ⟨cP,H,cQ,bK⟩:=H.joinE (i:=0) (j:=2) rfl rfl
 replace aJ:=aJ.mono bK
 obtain ⟨cR,H,bL⟩:=H.freezeE (k:=2) rfl
 replace H:=H.nf
 have aP:=bL
 obtain ⟨bM,H,bN,bO⟩:=H.joinE (i:=0) (j:=2) rfl rfl
 replace aJ:=aJ.mono bN
 replace aP:=aP.mono bO
 obtain ⟨aW,bb⟩:∃ r:Raw 0,r.cs=[aY]:=⟨Raw.of [aY] rfl (by simp only [List.all_cons,List.all_nil,Bool.true_and,Bool.and_true,Sl.oc aJ]; try rfl),rfl⟩
 obtain ⟨aX,bc⟩:∃ r:Raw 0,r.cs=[aZ]:=⟨Raw.of [aZ] rfl (by simp only [List.all_cons,List.all_nil,Bool.true_and,Bool.and_true,Sl.oc aP]; try rfl),rfl⟩
 have bP:RepR (α:=List Int) bM.cells [aW,aX] [[(0:Int),(2:Int)],[(1:Int)]]:=.cons (by rw [bb]; exact ⟨_,rfl,aJ⟩)<|.cons (by rw [bc]; exact ⟨_,rfl,aP⟩)<|.nil
 refine t_bs (α:=Raw 0) T38 [aY,aZ] [aW,aX] H rfl (.cons (by rw [show (Flat.enc aW:List Value)=aW.cs from rfl,bb]; exact Sl.cells aJ) (Flat.rep_enc _ _)<|.cons (by rw [show (Flat.enc aX:List Value)=aX.cs from rfl,bc]; exact Sl.cells aP) (Flat.rep_enc _ _)<|.nil) rfl rfl rfl ?_;intro bQ cS H;replace H:=H.nf;obtain ⟨cT,bR,hM⟩:=M.e_bind hM;refine s_call cf12 [.agg #[aA,aB,aC],I 2,bQ] rfl (zeA aT aU aV 2 ([[(0:Int),(2:Int)],[(1:Int)]]) (Reads.sup (rdo 8) (Reads.of (k:=9) rfl roLe)) (rowSl rfl (H.get (k:=8) rfl) (roLe _ (H.get (k:=9) rfl)) aO) (rdo 10) (H.os 10) (rdo 11) (H.os 11) (Reads.sup (rdo 0) (Reads.of (k:=1) rfl roLe)) (rowSl rfl (H.get (k:=0) rfl) (roLe _ (H.get (k:=1) rfl)) bP) bR _ (H.gt 15)) ?_
 rintro vq cU ⟨ax,aj,rfl,hvq,au⟩
 subst vq;(try dsimp only at hM);replace H:=H.bk au;clear au;refine zM (.tuple #[B ax,I aj]) rfl<|zX [B ax,I aj] (B ax) rfl rfl<|zX [B ax,I aj] (I aj) rfl rfl<|zA (B ax) rfl<|zA (I aj) rfl<|s_nil ?_;replace H:=H.pk [6,7,8,9,10,11,13,14];refine W.seq<|W.region rfl<|s_val (x_ld (v:=.agg #[aA,aB,aC]) rfl (ldb_ag (ds:=[aA,aB,aC]) Ag27 Sz27 (H.bl 1) rfl rfl)) ?_;refine t_bs (α:=Int) T28 [I 1,I 2] [(1:Int),(2:Int)] H rfl (.cons rfl (Flat.rep_enc _ (1:Int))<|.cons rfl (Flat.rep_enc _ (2:Int))<|.nil) rfl rfl rfl ?_;intro bS cV H;obtain ⟨cW,bT,hM⟩:=M.e_bind hM;refine s_call cf13 [.agg #[aA,aB,aC],bS] rfl (zdi aT aU aV ([(1:Int),(2:Int)]) (Reads.sup (rdo 3) (Reads.of (k:=4) rfl roLe)) (rowSl rfl (H.get (k:=3) rfl) (roLe _ (H.get (k:=4) rfl)) aO) (rdo 5) (H.os 5) (rdo 6) (H.os 6) (rdo 0) (H.os 0) bT _ (H.gt 9)) ?_
 rintro vq cX ⟨ay,ak,aE,rfl,hvq,au⟩
 subst vq;(try dsimp only at hM);replace H:=H.bk au;clear au;refine zM (.tuple #[aE,I ak]) rfl<|zX [aE,I ak] aE rfl rfl<|zX [aE,I ak] (I ak) rfl rfl<|zA aE rfl<|zA (I ak) rfl<|s_nil ?_;replace H:=H.pk [0,2,8,9];refine W.seq<|W.region rfl<|zM (I ab) rfl<|zC ab 0 (ab==0) rfl rfl rfl<|zM (B (ab==0)) rfl<|g_val (ab==0) (gy_t rfl) (fun hg=>x_mv (v:=I ac) rfl)<|g_val (ab==0) (gy_t rfl) (fun hg=>x_cmp (kd:=.i64) (r:=ac==0) (gd_of hg (I ac)) rfl rfl)<|s_val (x_pand (b:=ab==0) (r:=ac==0) rfl (fun hb=>gd_of (c:=ab==0) (by first | exact hb | (rw [hb]; rfl) | simp_all) (B (ac==0))) rfl)<|zM (B ((ab==0)&&(ac==0))) rfl<|g_val ((ab==0)&&(ac==0)) (gy_t rfl) (fun hg=>x_mv (v:=I ae) rfl) ?_;refine g_val ((ab==0)&&(ac==0)) (gy_t rfl) (fun hg=>x_cmp (kd:=.i64) (r:=ae==0) (gd_of hg (I ae)) rfl rfl)<|s_val (x_pand (b:=((ab==0)&&(ac==0))) (r:=ae==0) rfl (fun hb=>gd_of (c:=((ab==0)&&(ac==0))) (by first | exact hb | (rw [hb]; rfl) | simp_all) (B (ae==0))) rfl)<|zM (B (((ab==0)&&(ac==0))&&(ae==0))) rfl<|g_val (((ab==0)&&(ac==0))&&(ae==0)) (gy_t rfl) (fun hg=>x_mv (v:=I ag) rfl)<|g_val (((ab==0)&&(ac==0))&&(ae==0)) (gy_t rfl) (fun hg=>x_cmp (kd:=.i64) (r:=ag==0) (gd_of hg (I ag)) rfl rfl)<|s_val (x_pand (b:=(((ab==0)&&(ac==0))&&(ae==0))) (r:=ag==0) rfl (fun hb=>gd_of (c:=(((ab==0)&&(ac==0))&&(ae==0))) (by first | exact hb | (rw [hb]; rfl) | simp_all) (B (ag==0))) rfl)<|zM (B ((((ab==0)&&(ac==0))&&(ae==0))&&(ag==0))) rfl<|g_val ((((ab==0)&&(ac==0))&&(ae==0))&&(ag==0)) (gy_t rfl) (fun hg=>x_mv (v:=I ai) rfl)<|g_val ((((ab==0)&&(ac==0))&&(ae==0))&&(ag==0)) (gy_t rfl) (fun hg=>x_cmp (kd:=.i64) (r:=ai==0) (gd_of hg (I ai)) rfl rfl)<|s_val (x_pand (b:=((((ab==0)&&(ac==0))&&(ae==0))&&(ag==0))) (r:=ai==0) rfl (fun hb=>gd_of (c:=((((ab==0)&&(ac==0))&&(ae==0))&&(ag==0))) (by first | exact hb | (rw [hb]; rfl) | simp_all) (B (ai==0))) rfl) ?_;refine zM (B (((((ab==0)&&(ac==0))&&(ae==0))&&(ag==0))&&(ai==0))) rfl<|g_val (((((ab==0)&&(ac==0))&&(ae==0))&&(ag==0))&&(ai==0)) (gy_t rfl) (fun hg=>x_mv (v:=I aj) rfl)<|g_val (((((ab==0)&&(ac==0))&&(ae==0))&&(ag==0))&&(ai==0)) (gy_t rfl) (fun hg=>x_cmp (kd:=.i64) (r:=aj==0) (gd_of hg (I aj)) rfl rfl)<|s_val (x_pand (b:=(((((ab==0)&&(ac==0))&&(ae==0))&&(ag==0))&&(ai==0))) (r:=aj==0) rfl (fun hb=>gd_of (c:=(((((ab==0)&&(ac==0))&&(ae==0))&&(ag==0))&&(ai==0))) (by first | exact hb | (rw [hb]; rfl) | simp_all) (B (aj==0))) rfl)<|zM (B ((((((ab==0)&&(ac==0))&&(ae==0))&&(ag==0))&&(ai==0))&&(aj==0))) rfl<|g_val ((((((ab==0)&&(ac==0))&&(ae==0))&&(ag==0))&&(ai==0))&&(aj==0)) (gy_t rfl) (fun hg=>x_mv (v:=I ak) rfl)<|g_val ((((((ab==0)&&(ac==0))&&(ae==0))&&(ag==0))&&(ai==0))&&(aj==0)) (gy_t rfl) (fun hg=>x_cmp (kd:=.i64) (r:=ak==0) (gd_of hg (I ak)) rfl rfl)<|s_val (x_pand (b:=((((((ab==0)&&(ac==0))&&(ae==0))&&(ag==0))&&(ai==0))&&(aj==0))) (r:=ak==0) rfl (fun hb=>gd_of (c:=((((((ab==0)&&(ac==0))&&(ae==0))&&(ag==0))&&(ai==0))&&(aj==0))) (by first | exact hb | (rw [hb]; rfl) | simp_all) (B (ak==0))) rfl)<|zM (B (((((((ab==0)&&(ac==0))&&(ae==0))&&(ag==0))&&(ai==0))&&(aj==0))&&(ak==0))) rfl<|g_val (((((((ab==0)&&(ac==0))&&(ae==0))&&(ag==0))&&(ai==0))&&(aj==0))&&(ak==0)) (gy_t rfl) (fun hg=>x_ld (v:=.agg #[I am,I ao]) rfl (ldb_ag (ds:=[I am,I ao]) Ag54 Sz54 (H.bl 3) rfl rfl)) ?_;refine g_val (((((((ab==0)&&(ac==0))&&(ae==0))&&(ag==0))&&(ai==0))&&(aj==0))&&(ak==0)) (gy_t rfl) (fun hg=>x_bld (ps:=[(0,I 812),(1,I 1959)]) (zs:=[I 0,I 0]) (L':=[I 812,I 1959]) rfl Tryz.underlying54 Al54 rfl (Bd54 Tryz.underlying54) (.cons (cs:=[I 812]) rfl rfl rfl rfl rfl<|.cons (cs:=[I 1959]) rfl rfl rfl rfl rfl<|.nil))<|g_val (((((((ab==0)&&(ac==0))&&(ae==0))&&(ag==0))&&(ai==0))&&(aj==0))&&(ak==0)) (gy_t rfl) (fun hg=>x_eqS (eqT54 (⟨(am:Int),(ao:Int)⟩:Span) (⟨(812:Int),(1959:Int)⟩:Span) _) gdT54 (gd_of hg (.agg #[I am,I ao])) (gd_of hg (.agg #[I 812,I 1959])))<|s_val (x_pand (b:=(((((((ab==0)&&(ac==0))&&(ae==0))&&(ag==0))&&(ai==0))&&(aj==0))&&(ak==0))) (r:=decide ((⟨(am:Int),(ao:Int)⟩:Span)=(⟨(812:Int),(1959:Int)⟩:Span))) rfl (fun hb=>gd_of (c:=(((((((ab==0)&&(ac==0))&&(ae==0))&&(ag==0))&&(ai==0))&&(aj==0))&&(ak==0))) (by first | exact hb | (rw [hb]; rfl) | simp_all) (B (decide ((⟨(am:Int),(ao:Int)⟩:Span)=(⟨(812:Int),(1959:Int)⟩:Span))))) rfl)<|zM (B ((((((((ab==0)&&(ac==0))&&(ae==0))&&(ag==0))&&(ai==0))&&(aj==0))&&(ak==0))&&(decide ((⟨(am:Int),(ao:Int)⟩:Span)=(⟨(812:Int),(1959:Int)⟩:Span))))) rfl<|g_val ((((((((ab==0)&&(ac==0))&&(ae==0))&&(ag==0))&&(ai==0))&&(aj==0))&&(ak==0))&&(decide ((⟨(am:Int),(ao:Int)⟩:Span)=(⟨(812:Int),(1959:Int)⟩:Span)))) (gy_t rfl) (fun hg=>x_mv (v:=I ap) rfl)<|g_val ((((((((ab==0)&&(ac==0))&&(ae==0))&&(ag==0))&&(ai==0))&&(aj==0))&&(ak==0))&&(decide ((⟨(am:Int),(ao:Int)⟩:Span)=(⟨(812:Int),(1959:Int)⟩:Span)))) (gy_t rfl) (fun hg=>x_cmp (kd:=.i64) (r:=ap==1876) (gd_of hg (I ap)) rfl rfl)<|s_val (x_pand (b:=((((((((ab==0)&&(ac==0))&&(ae==0))&&(ag==0))&&(ai==0))&&(aj==0))&&(ak==0))&&(decide ((⟨(am:Int),(ao:Int)⟩:Span)=(⟨(812:Int),(1959:Int)⟩:Span))))) (r:=ap==1876) rfl (fun hb=>gd_of (c:=((((((((ab==0)&&(ac==0))&&(ae==0))&&(ag==0))&&(ai==0))&&(aj==0))&&(ak==0))&&(decide ((⟨(am:Int),(ao:Int)⟩:Span)=(⟨(812:Int),(1959:Int)⟩:Span))))) (by first | exact hb | (rw [hb]; rfl) | simp_all) (B (ap==1876))) rfl)<|zM (B (((((((((ab==0)&&(ac==0))&&(ae==0))&&(ag==0))&&(ai==0))&&(aj==0))&&(ak==0))&&(decide ((⟨(am:Int),(ao:Int)⟩:Span)=(⟨(812:Int),(1959:Int)⟩:Span))))&&(ap==1876))) rfl<|g_val (((((((((ab==0)&&(ac==0))&&(ae==0))&&(ag==0))&&(ai==0))&&(aj==0))&&(ak==0))&&(decide ((⟨(am:Int),(ao:Int)⟩:Span)=(⟨(812:Int),(1959:Int)⟩:Span))))&&(ap==1876)) (gy_t rfl) (fun hg=>x_fa (v:=Oq ba 1) rfl (fa_blk (o:=0) Fd54_1 Sz3))<|g_val (((((((((ab==0)&&(ac==0))&&(ae==0))&&(ag==0))&&(ai==0))&&(aj==0))&&(ak==0))&&(decide ((⟨(am:Int),(ao:Int)⟩:Span)=(⟨(812:Int),(1959:Int)⟩:Span))))&&(ap==1876)) (gy_t rfl) (fun hg=>x_ld (v:=I aq) (gd_of hg (Oq ba 1)) (ldb_sc Sc3 (H.bl 2) rfl)) ?_;refine g_val (((((((((ab==0)&&(ac==0))&&(ae==0))&&(ag==0))&&(ai==0))&&(aj==0))&&(ak==0))&&(decide ((⟨(am:Int),(ao:Int)⟩:Span)=(⟨(812:Int),(1959:Int)⟩:Span))))&&(ap==1876)) (gy_t rfl) (fun hg=>x_cmp (kd:=.i64) (r:=aq==1557) (gd_of hg (I aq)) rfl rfl)<|s_val (x_pand (b:=(((((((((ab==0)&&(ac==0))&&(ae==0))&&(ag==0))&&(ai==0))&&(aj==0))&&(ak==0))&&(decide ((⟨(am:Int),(ao:Int)⟩:Span)=(⟨(812:Int),(1959:Int)⟩:Span))))&&(ap==1876))) (r:=aq==1557) rfl (fun hb=>gd_of (c:=(((((((((ab==0)&&(ac==0))&&(ae==0))&&(ag==0))&&(ai==0))&&(aj==0))&&(ak==0))&&(decide ((⟨(am:Int),(ao:Int)⟩:Span)=(⟨(812:Int),(1959:Int)⟩:Span))))&&(ap==1876))) (by first | exact hb | (rw [hb]; rfl) | simp_all) (B (aq==1557))) rfl)<|zM (B ((((((((((ab==0)&&(ac==0))&&(ae==0))&&(ag==0))&&(ai==0))&&(aj==0))&&(ak==0))&&(decide ((⟨(am:Int),(ao:Int)⟩:Span)=(⟨(812:Int),(1959:Int)⟩:Span))))&&(ap==1876))&&(aq==1557))) rfl<|g_val ((((((((((ab==0)&&(ac==0))&&(ae==0))&&(ag==0))&&(ai==0))&&(aj==0))&&(ak==0))&&(decide ((⟨(am:Int),(ao:Int)⟩:Span)=(⟨(812:Int),(1959:Int)⟩:Span))))&&(ap==1876))&&(aq==1557)) (gy_t rfl) (fun hg=>x_mv (v:=B av) rfl)<|s_val (x_pand (b:=((((((((((ab==0)&&(ac==0))&&(ae==0))&&(ag==0))&&(ai==0))&&(aj==0))&&(ak==0))&&(decide ((⟨(am:Int),(ao:Int)⟩:Span)=(⟨(812:Int),(1959:Int)⟩:Span))))&&(ap==1876))&&(aq==1557))) (r:=av) rfl (fun hb=>gd_of (c:=((((((((((ab==0)&&(ac==0))&&(ae==0))&&(ag==0))&&(ai==0))&&(aj==0))&&(ak==0))&&(decide ((⟨(am:Int),(ao:Int)⟩:Span)=(⟨(812:Int),(1959:Int)⟩:Span))))&&(ap==1876))&&(aq==1557))) (by first | exact hb | (rw [hb]; rfl) | simp_all) (B av)) rfl)<|zM (B (((((((((((ab==0)&&(ac==0))&&(ae==0))&&(ag==0))&&(ai==0))&&(aj==0))&&(ak==0))&&(decide ((⟨(am:Int),(ao:Int)⟩:Span)=(⟨(812:Int),(1959:Int)⟩:Span))))&&(ap==1876))&&(aq==1557))&&av)) rfl<|g_val (((((((((((ab==0)&&(ac==0))&&(ae==0))&&(ag==0))&&(ai==0))&&(aj==0))&&(ak==0))&&(decide ((⟨(am:Int),(ao:Int)⟩:Span)=(⟨(812:Int),(1959:Int)⟩:Span))))&&(ap==1876))&&(aq==1557))&&av) (gy_t rfl) (fun hg=>x_mv (v:=aI) rfl)<|g_val (((((((((((ab==0)&&(ac==0))&&(ae==0))&&(ag==0))&&(ai==0))&&(aj==0))&&(ak==0))&&(decide ((⟨(am:Int),(ao:Int)⟩:Span)=(⟨(812:Int),(1959:Int)⟩:Span))))&&(ap==1876))&&(aq==1557))&&av) (gy_t rfl) (fun hg=>x_lenS T28.und (gd_of hg (aI)) (H.os 1))<|g_val (((((((((((ab==0)&&(ac==0))&&(ae==0))&&(ag==0))&&(ai==0))&&(aj==0))&&(ak==0))&&(decide ((⟨(am:Int),(ao:Int)⟩:Span)=(⟨(812:Int),(1959:Int)⟩:Span))))&&(ap==1876))&&(aq==1557))&&av) (gy_t rfl) (fun hg=>x_cmp (kd:=.i64) (r:=(aw.length:Int)==2) (gd_of hg (I (aw.length:Int))) rfl rfl)<|s_val (x_pand (b:=(((((((((((ab==0)&&(ac==0))&&(ae==0))&&(ag==0))&&(ai==0))&&(aj==0))&&(ak==0))&&(decide ((⟨(am:Int),(ao:Int)⟩:Span)=(⟨(812:Int),(1959:Int)⟩:Span))))&&(ap==1876))&&(aq==1557))&&av)) (r:=(aw.length:Int)==2) rfl (fun hb=>gd_of (c:=(((((((((((ab==0)&&(ac==0))&&(ae==0))&&(ag==0))&&(ai==0))&&(aj==0))&&(ak==0))&&(decide ((⟨(am:Int),(ao:Int)⟩:Span)=(⟨(812:Int),(1959:Int)⟩:Span))))&&(ap==1876))&&(aq==1557))&&av)) (by first | exact hb | (rw [hb]; rfl) | simp_all) (B ((aw.length:Int)==2))) rfl) ?_;refine zM (B ((((((((((((ab==0)&&(ac==0))&&(ae==0))&&(ag==0))&&(ai==0))&&(aj==0))&&(ak==0))&&(decide ((⟨(am:Int),(ao:Int)⟩:Span)=(⟨(812:Int),(1959:Int)⟩:Span))))&&(ap==1876))&&(aq==1557))&&av)&&((aw.length:Int)==2))) rfl<|g_val ((((((((((((ab==0)&&(ac==0))&&(ae==0))&&(ag==0))&&(ai==0))&&(aj==0))&&(ak==0))&&(decide ((⟨(am:Int),(ao:Int)⟩:Span)=(⟨(812:Int),(1959:Int)⟩:Span))))&&(ap==1876))&&(aq==1557))&&av)&&((aw.length:Int)==2)) (gy_t rfl) (fun hg=>x_mv (v:=B ax) rfl)<|s_val (x_pand (b:=((((((((((((ab==0)&&(ac==0))&&(ae==0))&&(ag==0))&&(ai==0))&&(aj==0))&&(ak==0))&&(decide ((⟨(am:Int),(ao:Int)⟩:Span)=(⟨(812:Int),(1959:Int)⟩:Span))))&&(ap==1876))&&(aq==1557))&&av)&&((aw.length:Int)==2))) (r:=ax) rfl (fun hb=>gd_of (c:=((((((((((((ab==0)&&(ac==0))&&(ae==0))&&(ag==0))&&(ai==0))&&(aj==0))&&(ak==0))&&(decide ((⟨(am:Int),(ao:Int)⟩:Span)=(⟨(812:Int),(1959:Int)⟩:Span))))&&(ap==1876))&&(aq==1557))&&av)&&((aw.length:Int)==2))) (by first | exact hb | (rw [hb]; rfl) | simp_all) (B ax)) rfl)<|zM (B (((((((((((((ab==0)&&(ac==0))&&(ae==0))&&(ag==0))&&(ai==0))&&(aj==0))&&(ak==0))&&(decide ((⟨(am:Int),(ao:Int)⟩:Span)=(⟨(812:Int),(1959:Int)⟩:Span))))&&(ap==1876))&&(aq==1557))&&av)&&((aw.length:Int)==2))&&ax)) rfl<|g_val (((((((((((((ab==0)&&(ac==0))&&(ae==0))&&(ag==0))&&(ai==0))&&(aj==0))&&(ak==0))&&(decide ((⟨(am:Int),(ao:Int)⟩:Span)=(⟨(812:Int),(1959:Int)⟩:Span))))&&(ap==1876))&&(aq==1557))&&av)&&((aw.length:Int)==2))&&ax) (gy_t rfl) (fun hg=>x_mv (v:=aE) rfl)<|g_val (((((((((((((ab==0)&&(ac==0))&&(ae==0))&&(ag==0))&&(ai==0))&&(aj==0))&&(ak==0))&&(decide ((⟨(am:Int),(ao:Int)⟩:Span)=(⟨(812:Int),(1959:Int)⟩:Span))))&&(ap==1876))&&(aq==1557))&&av)&&((aw.length:Int)==2))&&ax) (gy_t rfl) (fun hg=>x_lenS T43.und (gd_of hg (aE)) (H.os 0))<|g_val (((((((((((((ab==0)&&(ac==0))&&(ae==0))&&(ag==0))&&(ai==0))&&(aj==0))&&(ak==0))&&(decide ((⟨(am:Int),(ao:Int)⟩:Span)=(⟨(812:Int),(1959:Int)⟩:Span))))&&(ap==1876))&&(aq==1557))&&av)&&((aw.length:Int)==2))&&ax) (gy_t rfl) (fun hg=>x_cmp (kd:=.i64) (r:=(ay.length:Int)==2) (gd_of hg (I (ay.length:Int))) rfl rfl)<|s_val (x_pand (b:=(((((((((((((ab==0)&&(ac==0))&&(ae==0))&&(ag==0))&&(ai==0))&&(aj==0))&&(ak==0))&&(decide ((⟨(am:Int),(ao:Int)⟩:Span)=(⟨(812:Int),(1959:Int)⟩:Span))))&&(ap==1876))&&(aq==1557))&&av)&&((aw.length:Int)==2))&&ax)) (r:=(ay.length:Int)==2) rfl (fun hb=>gd_of (c:=(((((((((((((ab==0)&&(ac==0))&&(ae==0))&&(ag==0))&&(ai==0))&&(aj==0))&&(ak==0))&&(decide ((⟨(am:Int),(ao:Int)⟩:Span)=(⟨(812:Int),(1959:Int)⟩:Span))))&&(ap==1876))&&(aq==1557))&&av)&&((aw.length:Int)==2))&&ax)) (by first | exact hb | (rw [hb]; rfl) | simp_all) (B ((ay.length:Int)==2))) rfl)<|zM (B ((((((((((((((ab==0)&&(ac==0))&&(ae==0))&&(ag==0))&&(ai==0))&&(aj==0))&&(ak==0))&&(decide ((⟨(am:Int),(ao:Int)⟩:Span)=(⟨(812:Int),(1959:Int)⟩:Span))))&&(ap==1876))&&(aq==1557))&&av)&&((aw.length:Int)==2))&&ax)&&((ay.length:Int)==2))) rfl<|g_val ((((((((((((((ab==0)&&(ac==0))&&(ae==0))&&(ag==0))&&(ai==0))&&(aj==0))&&(ak==0))&&(decide ((⟨(am:Int),(ao:Int)⟩:Span)=(⟨(812:Int),(1959:Int)⟩:Span))))&&(ap==1876))&&(aq==1557))&&av)&&((aw.length:Int)==2))&&ax)&&((ay.length:Int)==2)) (gy_t rfl) (fun hg=>x_mv (v:=aE) rfl) ?_;obtain ⟨aK,hM⟩:=M.e_grd hM
 replace aK:=M.imp_of aK
 simp only [Bool.and_eq_true,decide_eq_true_eq] at aK
 refine g_val ((((((((((((((ab==0)&&(ac==0))&&(ae==0))&&(ag==0))&&(ai==0))&&(aj==0))&&(ak==0))&&(decide ((⟨(am:Int),(ao:Int)⟩:Span)=(⟨(812:Int),(1959:Int)⟩:Span))))&&(ap==1876))&&(aq==1557))&&av)&&((aw.length:Int)==2))&&ax)&&((ay.length:Int)==2)) (gy_t rfl) (fun hg=>x_ix (v:=vat aE 2 (Int.toNat 0)) (gd_of hg (aE)) rfl (Sl.ix (α:=Span) T43.und T43.size (H.os 0) (by have az:=aK.resolve_left (by rw [hg]; decide); first | exact az | exact az.1 | exact az.2 | omega | (have aL:=hg; simp at aL; omega)) (by have az:=aK.resolve_left (by rw [hg]; decide); first | exact az | exact az.1 | exact az.2 | omega | (have aL:=hg; simp at aL; omega))))<|g_val ((((((((((((((ab==0)&&(ac==0))&&(ae==0))&&(ag==0))&&(ai==0))&&(aj==0))&&(ak==0))&&(decide ((⟨(am:Int),(ao:Int)⟩:Span)=(⟨(812:Int),(1959:Int)⟩:Span))))&&(ap==1876))&&(aq==1557))&&av)&&((aw.length:Int)==2))&&ax)&&((ay.length:Int)==2)) (gy_t rfl) (fun hg=>x_ld (v:=.agg #[I ((ay.getD 0 default).lo),I ((ay.getD 0 default).hi)]) (gd_of hg (vat aE 2 (Int.toNat 0))) (ld_ag Ag54 Sz54 (At.mono (Span_atA (H.os 0) (i:=0) (by have az:=aK.resolve_left (by rw [hg]; decide); first | exact az | exact az.1 | exact az.2 | omega | (have aL:=hg; simp at aL; omega)) (by have az:=aK.resolve_left (by rw [hg]; decide); first | exact az | exact az.1 | exact az.2 | omega | (have aL:=hg; simp at aL; omega))) (H.ol 0))))<|g_val ((((((((((((((ab==0)&&(ac==0))&&(ae==0))&&(ag==0))&&(ai==0))&&(aj==0))&&(ak==0))&&(decide ((⟨(am:Int),(ao:Int)⟩:Span)=(⟨(812:Int),(1959:Int)⟩:Span))))&&(ap==1876))&&(aq==1557))&&av)&&((aw.length:Int)==2))&&ax)&&((ay.length:Int)==2)) (gy_t rfl) (fun hg=>x_bld (ps:=[(0,I 170),(1,I 2000)]) (zs:=[I 0,I 0]) (L':=[I 170,I 2000]) rfl Tryz.underlying54 Al54 rfl (Bd54 Tryz.underlying54) (.cons (cs:=[I 170]) rfl rfl rfl rfl rfl<|.cons (cs:=[I 2000]) rfl rfl rfl rfl rfl<|.nil))<|g_val ((((((((((((((ab==0)&&(ac==0))&&(ae==0))&&(ag==0))&&(ai==0))&&(aj==0))&&(ak==0))&&(decide ((⟨(am:Int),(ao:Int)⟩:Span)=(⟨(812:Int),(1959:Int)⟩:Span))))&&(ap==1876))&&(aq==1557))&&av)&&((aw.length:Int)==2))&&ax)&&((ay.length:Int)==2)) (gy_t rfl) (fun hg=>x_eqS (eqT54 (ay.getD 0 default) (⟨(170:Int),(2000:Int)⟩:Span) _) gdT54 (gd_of hg (.agg #[I ((ay.getD 0 default).lo),I ((ay.getD 0 default).hi)])) (gd_of hg (.agg #[I 170,I 2000])))<|s_val (x_pand (b:=((((((((((((((ab==0)&&(ac==0))&&(ae==0))&&(ag==0))&&(ai==0))&&(aj==0))&&(ak==0))&&(decide ((⟨(am:Int),(ao:Int)⟩:Span)=(⟨(812:Int),(1959:Int)⟩:Span))))&&(ap==1876))&&(aq==1557))&&av)&&((aw.length:Int)==2))&&ax)&&((ay.length:Int)==2))) (r:=decide ((ay.getD 0 default)=(⟨(170:Int),(2000:Int)⟩:Span))) rfl (fun hb=>gd_of (c:=((((((((((((((ab==0)&&(ac==0))&&(ae==0))&&(ag==0))&&(ai==0))&&(aj==0))&&(ak==0))&&(decide ((⟨(am:Int),(ao:Int)⟩:Span)=(⟨(812:Int),(1959:Int)⟩:Span))))&&(ap==1876))&&(aq==1557))&&av)&&((aw.length:Int)==2))&&ax)&&((ay.length:Int)==2))) (by first | exact hb | (rw [hb]; rfl) | simp_all) (B (decide ((ay.getD 0 default)=(⟨(170:Int),(2000:Int)⟩:Span))))) rfl)<|zA (B (((((((((((((((ab==0)&&(ac==0))&&(ae==0))&&(ag==0))&&(ai==0))&&(aj==0))&&(ak==0))&&(decide ((⟨(am:Int),(ao:Int)⟩:Span)=(⟨(812:Int),(1959:Int)⟩:Span))))&&(ap==1876))&&(aq==1557))&&av)&&((aw.length:Int)==2))&&ax)&&((ay.length:Int)==2))&&(decide ((ay.getD 0 default)=(⟨(170:Int),(2000:Int)⟩:Span))))) rfl<|s_nil ?_;replace H:=H.pk [];refine W.ret ?_
 have bU:=M.e_pure hM
 exact ⟨_,resE_tmp rfl,⟨(((((((((((((((ab==0)&&(ac==0))&&(ae==0))&&(ag==0))&&(ai==0))&&(aj==0))&&(ak==0))&&(decide ((⟨(am:Int),(ao:Int)⟩:Span)=(⟨(812:Int),(1959:Int)⟩:Span))))&&(ap==1876))&&(aq==1557))&&av)&&((aw.length:Int)==2))&&ax)&&((ay.length:Int)==2))&&(decide ((ay.getD 0 default)=(⟨(170:Int),(2000:Int)⟩:Span)))),bU,rfl,H⟩⟩

end Go.Proofs.YtlemgioaakecpaaGreat
end
section
set_option maxRecDepth 100000
set_option maxHeartbeats 16000000
namespace Go.Proofs.YtlemgioaakecpaaGreat
open Go Go.Nm
def zbe (s_Sections:List Sect):Nat->M (Nat ⊕ (Unit ⊕ Unit)):=fun i =>
  bif decide ((i:Int)<(s_Sections.length:Int)) then (
  M.grd (decide ((i:Int)<(s_Sections.length:Int))) <|
  bif decide (10<(((s_Sections.getD i default).rows).length:Int)) then (
  M.pure (.inr (.inl ())))
  else (
  M.pure (.inl (i+1))))
  else (
  M.pure (.inr (.inr ())))
def zcl (s_Sections:List Sect) (s_Marks:List Mrk) (s_Reaches:List Rch):M Bool :=
  bif ((((decide (8<(s_Sections.length:Int)))||((decide (9<(s_Marks.length:Int)))&&(decide ((s_Marks.length:Int)<17))))||(decide (18<(s_Marks.length:Int))))||(decide (8<(s_Reaches.length:Int)))) then (
  M.pure true)
  else (
  M.bind (M.iter (zbe s_Sections) 0) fun x_=>match x_ with
  | (.inl (_:Unit))=>(
  M.pure true)
  | (.inr (_:Unit))=>(
  M.pure false))
theorem zdY {R:List Chunk} {aw:Cells} {ae:Value} {ax:Cells} {ac:Value} {ay:Cells} {ak:Value} (s_Sections:List Sect) (s_Marks:List Mrk) (s_Reaches:List Rch) (aD:Reads R aw) (ag:Sl aw ae s_Sections) (aK:Reads R ax) (am:Sl ax ac s_Marks) (aL:Reads R ay) (az:Sl ay ak s_Reaches) {r:Bool} (hM:(zcl s_Sections s_Marks s_Reaches).Ends r) (w:World) (H:St w w [] R):Ret Tryz.prog 24 #[.agg #[ae,ac,ak]] w fun v w'=>∃ (y0:Bool),y0=r/\v=B y0/\St w w' [] R:=by
 refine ret_of_W Tryz.func24 rfl rfl rfl<|W.seq<|W.region rfl ?_;refine t_bx [ae,ac,ak] H rfl ?_;intro ab aM H;refine zA (B false) rfl<|s_nil<|W.seq<|W.seq<|W.region rfl<|s_val (x_fa (v:=Pq ab) rfl (fa_blk (o:=0) Fd27_0 Sz23))<|s_val (x_ld (v:=ae) rfl (ldb_sc Sc23 (H.bl 0) rfl)) ?_
 have aN:=(ag).len_le
 refine s_val (x_lenS T23.und rfl ag)<|zC (s_Sections.length:Int) 8 (decide (8<(s_Sections.length:Int))) rfl rfl rfl<|zM (B (decide (8<(s_Sections.length:Int)))) rfl<|g_val (!(decide (8<(s_Sections.length:Int)))) (gy_f rfl) (fun hg=>x_fa (v:=Oq ab 1) rfl (fa_blk (o:=0) Fd27_1 Sz24))<|g_val (!(decide (8<(s_Sections.length:Int)))) (gy_f rfl) (fun hg=>x_ld (v:=ac) (gd_of hg (Oq ab 1)) (ldb_sc Sc24 (H.bl 0) rfl)) ?_
 have aO:=(am).len_le
 refine g_val (!(decide (8<(s_Sections.length:Int)))) (gy_f rfl) (fun hg=>x_lenS T24.und (gd_of hg (ac)) am)<|g_val (!(decide (8<(s_Sections.length:Int)))) (gy_f rfl) (fun hg=>x_cmp (kd:=.i64) (r:=decide (9<(s_Marks.length:Int))) (gd_of hg (I (s_Marks.length:Int))) rfl rfl)<|g_val (!(decide (8<(s_Sections.length:Int)))) (gy_f rfl) (fun hg=>x_mv (v:=B (decide (9<(s_Marks.length:Int)))) (gd_of hg (B (decide (9<(s_Marks.length:Int))))))<|g_val ((!(decide (8<(s_Sections.length:Int))))&&(decide (9<(s_Marks.length:Int)))) (gy_gt rfl rfl) (fun hg=>x_fa (v:=Oq ab 1) rfl (fa_blk (o:=0) Fd27_1 Sz24))<|g_val ((!(decide (8<(s_Sections.length:Int))))&&(decide (9<(s_Marks.length:Int)))) (gy_gt rfl rfl) (fun hg=>x_ld (v:=ac) (gd_of hg (Oq ab 1)) (ldb_sc Sc24 (H.bl 0) rfl)) ?_
 have aP:=(am).len_le
 refine g_val ((!(decide (8<(s_Sections.length:Int))))&&(decide (9<(s_Marks.length:Int)))) (gy_gt rfl rfl) (fun hg=>x_lenS T24.und (gd_of hg (ac)) am)<|g_val ((!(decide (8<(s_Sections.length:Int))))&&(decide (9<(s_Marks.length:Int)))) (gy_gt rfl rfl) (fun hg=>x_cmp (kd:=.i64) (r:=decide ((s_Marks.length:Int)<17)) (gd_of hg (I (s_Marks.length:Int))) rfl rfl)<|g_val (!(decide (8<(s_Sections.length:Int)))) (gy_f rfl) (fun hg=>x_pand (b:=decide (9<(s_Marks.length:Int))) (r:=decide ((s_Marks.length:Int)<17)) (gd_of hg (B (decide (9<(s_Marks.length:Int))))) (fun hb=>gd_of (c:=((!(decide (8<(s_Sections.length:Int))))&&(decide (9<(s_Marks.length:Int))))) (by first | exact hb | (rw [hb]; rfl) | simp_all) (B (decide ((s_Marks.length:Int)<17)))) rfl)<|s_val (x_por (b:=decide (8<(s_Sections.length:Int))) (r:=((decide (9<(s_Marks.length:Int)))&&(decide ((s_Marks.length:Int)<17)))) rfl rfl (fun hb=>gd_of (c:=!(decide (8<(s_Sections.length:Int)))) (by first | exact hb | (rw [hb]; rfl) | simp_all) (B ((decide (9<(s_Marks.length:Int)))&&(decide ((s_Marks.length:Int)<17))))))<|zM (B ((decide (8<(s_Sections.length:Int)))||((decide (9<(s_Marks.length:Int)))&&(decide ((s_Marks.length:Int)<17))))) rfl<|g_val (!((decide (8<(s_Sections.length:Int)))||((decide (9<(s_Marks.length:Int)))&&(decide ((s_Marks.length:Int)<17))))) (gy_f rfl) (fun hg=>x_fa (v:=Oq ab 1) rfl (fa_blk (o:=0) Fd27_1 Sz24))<|g_val (!((decide (8<(s_Sections.length:Int)))||((decide (9<(s_Marks.length:Int)))&&(decide ((s_Marks.length:Int)<17))))) (gy_f rfl) (fun hg=>x_ld (v:=ac) (gd_of hg (Oq ab 1)) (ldb_sc Sc24 (H.bl 0) rfl)) ?_
 have aQ:=(am).len_le
 refine g_val (!((decide (8<(s_Sections.length:Int)))||((decide (9<(s_Marks.length:Int)))&&(decide ((s_Marks.length:Int)<17))))) (gy_f rfl) (fun hg=>x_lenS T24.und (gd_of hg (ac)) am)<|g_val (!((decide (8<(s_Sections.length:Int)))||((decide (9<(s_Marks.length:Int)))&&(decide ((s_Marks.length:Int)<17))))) (gy_f rfl) (fun hg=>x_cmp (kd:=.i64) (r:=decide (18<(s_Marks.length:Int))) (gd_of hg (I (s_Marks.length:Int))) rfl rfl)<|s_val (x_por (b:=((decide (8<(s_Sections.length:Int)))||((decide (9<(s_Marks.length:Int)))&&(decide ((s_Marks.length:Int)<17))))) (r:=decide (18<(s_Marks.length:Int))) rfl rfl (fun hb=>gd_of (c:=!((decide (8<(s_Sections.length:Int)))||((decide (9<(s_Marks.length:Int)))&&(decide ((s_Marks.length:Int)<17))))) (by first | exact hb | (rw [hb]; rfl) | simp_all) (B (decide (18<(s_Marks.length:Int))))))<|zM (B (((decide (8<(s_Sections.length:Int)))||((decide (9<(s_Marks.length:Int)))&&(decide ((s_Marks.length:Int)<17))))||(decide (18<(s_Marks.length:Int))))) rfl<|g_val (!(((decide (8<(s_Sections.length:Int)))||((decide (9<(s_Marks.length:Int)))&&(decide ((s_Marks.length:Int)<17))))||(decide (18<(s_Marks.length:Int))))) (gy_f rfl) (fun hg=>x_fa (v:=Oq ab 2) rfl (fa_blk (o:=0) Fd27_2 Sz25))<|g_val (!(((decide (8<(s_Sections.length:Int)))||((decide (9<(s_Marks.length:Int)))&&(decide ((s_Marks.length:Int)<17))))||(decide (18<(s_Marks.length:Int))))) (gy_f rfl) (fun hg=>x_ld (v:=ak) (gd_of hg (Oq ab 2)) (ldb_sc Sc25 (H.bl 0) rfl)) ?_
 have aR:=(az).len_le
 refine g_val (!(((decide (8<(s_Sections.length:Int)))||((decide (9<(s_Marks.length:Int)))&&(decide ((s_Marks.length:Int)<17))))||(decide (18<(s_Marks.length:Int))))) (gy_f rfl) (fun hg=>x_lenS T25.und (gd_of hg (ak)) az)<|g_val (!(((decide (8<(s_Sections.length:Int)))||((decide (9<(s_Marks.length:Int)))&&(decide ((s_Marks.length:Int)<17))))||(decide (18<(s_Marks.length:Int))))) (gy_f rfl) (fun hg=>x_cmp (kd:=.i64) (r:=decide (8<(s_Reaches.length:Int))) (gd_of hg (I (s_Reaches.length:Int))) rfl rfl)<|s_val (x_por (b:=(((decide (8<(s_Sections.length:Int)))||((decide (9<(s_Marks.length:Int)))&&(decide ((s_Marks.length:Int)<17))))||(decide (18<(s_Marks.length:Int))))) (r:=decide (8<(s_Reaches.length:Int))) rfl rfl (fun hb=>gd_of (c:=!(((decide (8<(s_Sections.length:Int)))||((decide (9<(s_Marks.length:Int)))&&(decide ((s_Marks.length:Int)<17))))||(decide (18<(s_Marks.length:Int))))) (by first | exact hb | (rw [hb]; rfl) | simp_all) (B (decide (8<(s_Reaches.length:Int))))))<|s_nil ?_
 refine W.cond ((((decide (8<(s_Sections.length:Int)))||((decide (9<(s_Marks.length:Int)))&&(decide ((s_Marks.length:Int)<17))))||(decide (18<(s_Marks.length:Int))))||(decide (8<(s_Reaches.length:Int)))) rfl (fun aq=>?_) (fun aq=>?_)
 ·replace hM:=M.e_t hM aq;refine W.seq<|W.region rfl<|zA (B true) rfl<|s_nil ?_;refine W.ret ?_
  have ao:=M.e_pure hM
  exact ⟨_,resE_tmp rfl,⟨true,ao,rfl,(H.pk [])⟩⟩
 replace hM:=M.e_f hM aq;refine W.skip<|W.seq<|W.seq<|W.region rfl<|zA (I 0) rfl<|s_nil<|W.block ?_;obtain ⟨aE,au,aA⟩:=M.e_bind hM
 obtain ⟨aS,au⟩:=M.e_iter au
 refine W.loop (fun m σ W=>∃ (i:Nat) (ρ:Env),σ=upds ρ [(1,Pq ab),(3,I (i:Int))]/\M.iterN (zbe s_Sections) m i=some aE/\St w W [cBlk ab [ae,ac,ak] 27] R) ?_ ?_
 ·exact ⟨_,0,_,upds_of _ _ ⟨rfl,rfl,trivial⟩,au,H⟩
 rintro aT σ aU ⟨i,ρ,rfl,aB,H⟩
 obtain ⟨aF,aG,aV,hM,av⟩:=M.e_iterN aB
 simp only [zbe] at hM
 clear aB;refine W.seq<|W.seq<|W.region rfl<|zM (I (i:Int)) rfl<|s_val (x_fa (v:=Pq ab) rfl (fa_blk (o:=0) Fd27_0 Sz23))<|s_val (x_ld (v:=ae) rfl (ldb_sc Sc23 (H.bl 0) rfl)) ?_
 have aW:=(ag).len_le
 refine s_val (x_lenS T23.und rfl ag)<|zC (i:Int) (s_Sections.length:Int) (decide ((i:Int)<(s_Sections.length:Int))) rfl rfl rfl<|s_nil ?_
 refine W.cond (decide ((i:Int)<(s_Sections.length:Int))) rfl (fun ai=>?_) (fun ai=>?_)
 ·replace hM:=M.e_t hM ai
  replace ai:=dI ai
  refine W.skip<|W.seq<|W.block<|W.seq<|W.region rfl<|s_val (x_fa (v:=Pq ab) rfl (fa_blk (o:=0) Fd27_0 Sz23))<|s_val (x_ld (v:=ae) rfl (ldb_sc Sc23 (H.bl 0) rfl))<|zM (I (i:Int)) rfl ?_;obtain ⟨aX,hM⟩:=M.e_gd hM;refine s_val (x_ix (v:=vat ae 2 (Int.toNat (i:Int))) rfl rfl (Sl.ix (α:=Sect) T23.und T23.size ag (by omega) (by omega)))<|s_val (x_fa (v:=fat (vat ae 2 (Int.toNat (i:Int))) 1) rfl (fa_pl Fd68_1 Sz66 (Sl.pl (i:=(i:Int)) ag (by omega) (by omega)))) ?_
  obtain ⟨aC,aH,ap⟩:=Sect_at1 ag (i:=(i:Int)) (by omega) (by omega)
  replace ap:Sl _ aC (s_Sections.getD i default).rows:=ap
  have aY:=ap.len_le
  refine s_val (x_ld (v:=aC) rfl (ld_sc Sc66 (At.mono (aH) (aD.at H)))) ?_
  have aZ:=(ap).len_le
  refine s_val (x_lenS T66.und rfl ap)<|zC (((s_Sections.getD i default).rows).length:Int) 10 (decide (10<(((s_Sections.getD i default).rows).length:Int))) rfl rfl rfl<|s_nil ?_
  refine W.cond (decide (10<(((s_Sections.getD i default).rows).length:Int))) rfl (fun aj=>?_) (fun aj=>?_)
  ·replace hM:=M.e_t hM aj
   replace aj:=dI aj
   refine W.seq<|W.region rfl<|zA (B true) rfl<|s_nil ?_;refine W.ret ?_
   have aI:=M.e_inr hM av
   subst aI;replace hM:=aA;(try dsimp only at hM)
   have ao:=M.e_pure hM
   exact ⟨_,resE_tmp rfl,⟨true,ao,rfl,(H.pk [])⟩⟩
  replace hM:=M.e_f hM aj
  replace aj:=dI aj
  refine W.skip<|W.region rfl<|zM (I (i:Int)) rfl<|zR (i:Int) 1 ((i:Int)+1) rfl rfl rfl (by omega)<|zA (I ((i:Int)+1)) rfl<|s_nil ?_
  exact ⟨aF,aG,i+1,_,upds_of _ _ ⟨rfl,rfl,trivial⟩,M.e_inl hM av,H⟩
 replace hM:=M.e_f hM ai
 replace ai:=dI ai
 refine W.exit ?_
 have aJ:=M.e_inr hM av
 subst aJ;replace hM:=aA;(try dsimp only at hM);refine W.seq<|W.region rfl<|zA (B false) rfl<|s_nil ?_;refine W.ret ?_
 have ao:=M.e_pure hM
 exact ⟨_,resE_tmp rfl,⟨false,ao,rfl,(H.pk [])⟩⟩

def zc2 (l:List Mrk):M (List Mrk) :=
  M.grd (decide ((([]:List Mrk).length+l.length)*24<=140737488355328)) <|
  M.pure l
theorem zdf {R:List Chunk} {ac:Cells} {ab:Value} (l:List Mrk) (ag:Reads R ac) (ai:Sl ac ab l) {r:(List Mrk)} (hM:(zc2 l).Ends r) (w:World) (H:St w w [] R):Ret Tryz.prog 62 #[ab] w fun v w'=>∃ (y0:List Mrk) (u0:Value),y0=r/\v=u0/\St w w' [cOwn (α:=Mrk) 70 u0 y0] R:=by
 refine ret_of_W Tryz.func62 rfl rfl rfl<|W.seq<|W.region rfl<|zA (.slice none 0 0) rfl<|s_nil<|W.seq<|W.region rfl<|zA (.slice none 0 0) rfl<|s_nil<|W.seq<|W.region rfl ?_;refine zM (.slice none 0 0) rfl<|zM ab rfl ?_
 replace H:=H.nilOwn (α:=Mrk) 70
 obtain ⟨ak,hM⟩:=M.e_gd hM;refine t_app (α:=Mrk) (k:=0) (l:=[]) (l2:=l) (l':=l) (vy:=ab) T24 rfl H rfl rfl rfl ai (ag.at H) (List.nil_append _) (by first | omega | (simp only [List.length_nil] at *; omega)) ?_;intro ae am H;replace H:=H.nf;refine zA ae rfl<|s_nil ?_;refine W.ret ?_
 have aj:=M.e_pure hM
 exact ⟨_,resE_tmp rfl,⟨l,ae,aj,rfl,H⟩⟩

def zcS (l:List Rch):M (List Rch) :=
  M.grd (decide ((([]:List Rch).length+l.length)*40<=140737488355328)) <|
  M.pure l
theorem zcX {R:List Chunk} {ac:Cells} {ab:Value} (l:List Rch) (ag:Reads R ac) (ai:Sl ac ab l) {r:(List Rch)} (hM:(zcS l).Ends r) (w:World) (H:St w w [] R):Ret Tryz.prog 63 #[ab] w fun v w'=>∃ (y0:List Rch) (u0:Value),y0=r/\v=u0/\St w w' [cOwn (α:=Rch) 58 u0 y0] R:=by
 refine ret_of_W Tryz.func63 rfl rfl rfl<|W.seq<|W.region rfl<|zA (.slice none 0 0) rfl<|s_nil<|W.seq<|W.region rfl<|zA (.slice none 0 0) rfl<|s_nil<|W.seq<|W.region rfl ?_;refine zM (.slice none 0 0) rfl<|zM ab rfl ?_
 replace H:=H.nilOwn (α:=Rch) 58
 obtain ⟨ak,hM⟩:=M.e_gd hM;refine t_app (α:=Rch) (k:=0) (l:=[]) (l2:=l) (l':=l) (vy:=ab) T25 rfl H rfl rfl rfl ai (ag.at H) (List.nil_append _) (by first | omega | (simp only [List.length_nil] at *; omega)) ?_;intro ae am H;replace H:=H.nf;refine zA ae rfl<|s_nil ?_;refine W.ret ?_
 have aj:=M.e_pure hM
 exact ⟨_,resE_tmp rfl,⟨l,ae,aj,rfl,H⟩⟩

def zcy (l:List FRow):M (List FRow) :=
  M.grd (decide ((([]:List FRow).length+l.length)*16<=140737488355328)) <|
  M.pure l
theorem zdx {R:List Chunk} {ac:Cells} {ab:Value} (l:List FRow) (ag:Reads R ac) (ai:Sl ac ab l) {r:(List FRow)} (hM:(zcy l).Ends r) (w:World) (H:St w w [] R):Ret Tryz.prog 64 #[ab] w fun v w'=>∃ (y0:List FRow) (u0:Value),y0=r/\v=u0/\St w w' [cOwn (α:=FRow) 109 u0 y0] R:=by
 refine ret_of_W Tryz.func64 rfl rfl rfl<|W.seq<|W.region rfl<|zA (.slice none 0 0) rfl<|s_nil<|W.seq<|W.region rfl<|zA (.slice none 0 0) rfl<|s_nil<|W.seq<|W.region rfl ?_;refine zM (.slice none 0 0) rfl<|zM ab rfl ?_
 replace H:=H.nilOwn (α:=FRow) 109
 obtain ⟨ak,hM⟩:=M.e_gd hM;refine t_app (α:=FRow) (k:=0) (l:=[]) (l2:=l) (l':=l) (vy:=ab) T66 rfl H rfl rfl rfl ai (ag.at H) (List.nil_append _) (by first | omega | (simp only [List.length_nil] at *; omega)) ?_;intro ae am H;replace H:=H.nf;refine zA ae rfl<|s_nil ?_;refine W.ret ?_
 have aj:=M.e_pure hM
 exact ⟨_,resE_tmp rfl,⟨l,ae,aj,rfl,H⟩⟩

def zbz (s_Sections:List Sect):(Nat × (List Sect))->M ((Nat × (List Sect)) ⊕ ((List Sect) × (List Sect))):=fun (i,l) =>
  bif decide ((i:Int)<(s_Sections.length:Int)) then (
  M.grd (decide ((i:Int)<(s_Sections.length:Int))) <|
  M.bind (zcy ((s_Sections.getD i default).rows)) fun r4 =>
  M.grd (decide ((l.length+([(⟨((s_Sections.getD i default).place:Int),r4⟩:Sect)]).length)*32<=140737488355328)) <|
  M.pure (.inl (i+1,l++([(⟨((s_Sections.getD i default).place:Int),r4⟩:Sect)]))))
  else (
  M.pure (.inr (l,l)))
def zc3 (s_Sections:List Sect) (r2:List Mrk) (r3:List Rch):M ((List Sect) × (List Mrk) × (List Rch)) :=
  M.bind (M.iter (zbz s_Sections) (0,[])) fun (l2,l3) =>
  M.pure (l3,r2,r3)
def zcj (s_Sections:List Sect) (s_Marks:List Mrk) (s_Reaches:List Rch):M ((List Sect) × (List Mrk) × (List Rch)) :=
  M.bind (zc2 s_Marks) fun r2 =>
  M.bind (zcS s_Reaches) fun r3 =>
  zc3 s_Sections r2 r3
theorem zen {R:List Chunk} {bf:Cells} {ao:Value} {bg:Cells} {au:Value} {bh:Cells} {ap:Value} (s_Sections:List Sect) (s_Marks:List Mrk) (s_Reaches:List Rch) (aH:Reads R bf) (av:Sl bf ao s_Sections) (bi:Reads R bg) (bj:Sl bg au s_Marks) (aT:Reads R bh) (aU:Sl bh ap s_Reaches) {r:((List Sect) × (List Mrk) × (List Rch))} (hM:(zcj s_Sections s_Marks s_Reaches).Ends r) (w:World) (H:St w w [] R):Ret Tryz.prog 17 #[.agg #[ao,au,ap]] w fun v w'=>∃ (y0:List Sect) (y1:List Mrk) (y2:List Rch) (u0:Value) (rr1:List (Raw 1)) (bm:Base) (u3:Value) (u4:Value),(y0,y1,y2)=r/\v = .agg #[u0,u3,u4]/\St w w' [cOwn (α:=Raw 1) 68 u0 rr1,cRo bm,cOwn (α:=Mrk) 70 u3 y1,cOwn (α:=Rch) 58 u4 y2] R/\RepR (α:=Sect) bm.cells rr1 y0:=by
 refine ret_of_W Tryz.func17 rfl rfl rfl<|W.seq<|W.region rfl ?_;refine t_bx [ao,au,ap] H rfl ?_;intro aq cj H;refine t_alloc (cs:=[.slice none 0 0,.slice none 0 0,.slice none 0 0]) H Al27 rfl ?_;intro aD co H;refine s_nil ?_;refine W.seqJ (fun σ W=>∃ (aj:Nat) (r2:List Mrk) (r3:List Rch) (ac:Value) (ab:Value) (ρ:Env),σ=upds ρ [(1,Pq aq),(2,Pq aD),(3,Pq aj)]/\(zc3 s_Sections r2 r3).Ends r/\St w W [cBlk aj [.slice none 0 0,ac,ab] 27,cOwn (α:=Rch) 58 ab r3,cOwn (α:=Mrk) 70 ac r2,cBlk aD [.slice none 0 0,.slice none 0 0,.slice none 0 0] 27,cBlk aq [ao,au,ap] 27] R) ?_ ?_
 ·skip
  refine W.drawT (fun W=>St w W [cBlk aD [.slice none 0 0,.slice none 0 0,.slice none 0 0] 27,cBlk aq [ao,au,ap] 27] R) (.q 0 (.q 1 (.q 3 (.q 4 (.l2 2 (.l2 5 (.q 6 (.l 7 (.l 8 .nil))) 7 (.l 5 (.q 6 (.l 8 .nil)))) 7 (.l 2 (.l 5 (.q 6 (.l 8 .nil))))))))) mixed (by decide +kernel) rfl ?_;intro cp aE;replace H:=H.ext aE;clear aE
  refine ⟨(H.pk [0,1]),?_⟩
  refine t_q rfl (fun w' H=>x_fa (v:=Oq aq 1) rfl (fa_blk (o:=0) Fd27_1 Sz24))<|t_q rfl (fun w' H=>x_ld (v:=au) rfl (ldb_sc Sc24 (H.bl 1) rfl))<|t_q rfl (fun w' H=>x_fa (v:=Oq aq 2) rfl (fa_blk (o:=0) Fd27_2 Sz25))<|t_q rfl (fun w' H=>x_ld (v:=ap) rfl (ldb_sc Sc25 (H.bl 1) rfl)) ?_;refine t_l2 rfl rfl ?_ ?_
  ·skip
   obtain ⟨cq,bv,hM⟩:=M.e_bind hM;refine s_call cf62 [au] rfl (zdf s_Marks (bi.app _) bj bv _ (H.gt 2)) ?_
   rintro vq cr ⟨r2,ac,rfl,hvq,ag⟩
   subst vq;(try dsimp only at hM);replace H:=H.bk ag;clear ag
   have bn:=Sl.cells (H.os 0)
   have ct:=Sl.oc (H.os 0)
   refine s_nil ⟨(H.pk [1,2]),?_⟩
   refine t_l2 rfl rfl ?_ ?_
   ·skip
    obtain ⟨cu,bw,hM⟩:=M.e_bind hM;refine s_call cf63 [ap] rfl (zcX s_Reaches (aT.app _) aU bw _ (H.gt 3)) ?_
    rintro vq cv ⟨r3,ab,rfl,hvq,ag⟩
    subst vq;(try dsimp only at hM);replace H:=H.bk ag;clear ag
    have bx:=Sl.cells (H.os 0)
    have cw:=Sl.oc (H.os 0)
    refine s_nil ⟨(H.pk [2,3]),?_⟩
    refine t_q rfl (fun w' H=>x_bld (ps:=[(1,ac),(2,ab)]) (zs:=[.slice none 0 0,.slice none 0 0,.slice none 0 0]) (L':=[.slice none 0 0,ac,ab]) rfl Tryz.underlying27 Al27 rfl (Bd27 Tryz.underlying27) (.cons (cs:=[ac]) bn rfl rfl rfl rfl<|.cons (cs:=[ab]) bx rfl rfl rfl rfl<|.nil))<|t_l rfl ?_;refine t_alloc (cs:=[.slice none 0 0,.slice none 0 0,.slice none 0 0]) H Al27 rfl ?_;intro aj cx H
    refine s_nil ⟨(H.pk [3,4]),?_⟩
    refine t_l rfl ?_;refine t_sw 0 0 [.slice none 0 0,ac,ab] (.agg #[.slice none 0 0,ac,ab]) H rfl rfl Sz27 rfl rfl rfl (by simp only [List.all_cons,List.all_nil,Bool.true_and,Bool.and_true,Sl.oc (H.os 2),Sl.oc (H.os 1)]; try rfl) ?_;intro cy H
    refine s_nil ⟨(H.pk [3,4]),?_⟩
    refine t_nil ?_
    exact ⟨aj,r2,r3,ac,ab,_,upds_of _ _ ⟨rfl,rfl,rfl,trivial⟩,hM,H⟩
   skip
   refine t_alloc (cs:=[.slice none 0 0,.slice none 0 0,.slice none 0 0]) H Al27 rfl ?_;intro aj cz H
   refine s_nil ⟨(H.pk [2,3]),?_⟩
   refine t_l rfl ?_;obtain ⟨cA,bz,hM⟩:=M.e_bind hM;refine s_call cf63 [ap] rfl (zcX s_Reaches (aT.app _) aU bz _ (H.gt 4)) ?_
   rintro vq cB ⟨r3,ab,rfl,hvq,ag⟩
   subst vq;(try dsimp only at hM);replace H:=H.bk ag;clear ag
   have bA:=Sl.cells (H.os 0)
   have cC:=Sl.oc (H.os 0)
   refine s_nil ⟨(H.pk [3,4]),?_⟩
   refine t_q rfl (fun w' H=>x_bld (ps:=[(1,ac),(2,ab)]) (zs:=[.slice none 0 0,.slice none 0 0,.slice none 0 0]) (L':=[.slice none 0 0,ac,ab]) rfl Tryz.underlying27 Al27 rfl (Bd27 Tryz.underlying27) (.cons (cs:=[ac]) bn rfl rfl rfl rfl<|.cons (cs:=[ab]) bA rfl rfl rfl rfl<|.nil))<|t_l rfl ?_;refine t_sw 1 0 [.slice none 0 0,ac,ab] (.agg #[.slice none 0 0,ac,ab]) H rfl rfl Sz27 rfl rfl rfl (by simp only [List.all_cons,List.all_nil,Bool.true_and,Bool.and_true,Sl.oc (H.os 2),Sl.oc (H.os 0)]; try rfl) ?_;intro cD H
   refine s_nil ⟨(H.pk [3,4]),?_⟩
   refine t_nil ?_
   exact ⟨aj,r2,r3,ac,ab,_,upds_of _ _ ⟨rfl,rfl,rfl,trivial⟩,hM,(H.pk [1,0,2,3,4])⟩
  skip
  refine t_alloc (cs:=[.slice none 0 0,.slice none 0 0,.slice none 0 0]) H Al27 rfl ?_;intro aj cE H
  refine s_nil ⟨(H.pk [1,2]),?_⟩
  refine t_l rfl ?_;obtain ⟨cF,bB,hM⟩:=M.e_bind hM;refine s_call cf62 [au] rfl (zdf s_Marks (bi.app _) bj bB _ (H.gt 3)) ?_
  rintro vq cG ⟨r2,ac,rfl,hvq,ag⟩
  subst vq;(try dsimp only at hM);replace H:=H.bk ag;clear ag
  have bC:=Sl.cells (H.os 0)
  have cH:=Sl.oc (H.os 0)
  refine s_nil ⟨(H.pk [2,3]),?_⟩
  refine t_l rfl ?_;obtain ⟨cI,bD,hM⟩:=M.e_bind hM;refine s_call cf63 [ap] rfl (zcX s_Reaches (aT.app _) aU bD _ (H.gt 4)) ?_
  rintro vq cJ ⟨r3,ab,rfl,hvq,ag⟩
  subst vq;(try dsimp only at hM);replace H:=H.bk ag;clear ag
  have bE:=Sl.cells (H.os 0)
  have cK:=Sl.oc (H.os 0)
  refine s_nil ⟨(H.pk [3,4]),?_⟩
  refine t_q rfl (fun w' H=>x_bld (ps:=[(1,ac),(2,ab)]) (zs:=[.slice none 0 0,.slice none 0 0,.slice none 0 0]) (L':=[.slice none 0 0,ac,ab]) rfl Tryz.underlying27 Al27 rfl (Bd27 Tryz.underlying27) (.cons (cs:=[ac]) bC rfl rfl rfl rfl<|.cons (cs:=[ab]) bE rfl rfl rfl rfl<|.nil))<|t_l rfl ?_;refine t_sw 2 0 [.slice none 0 0,ac,ab] (.agg #[.slice none 0 0,ac,ab]) H rfl rfl Sz27 rfl rfl rfl (by simp only [List.all_cons,List.all_nil,Bool.true_and,Bool.and_true,Sl.oc (H.os 1),Sl.oc (H.os 0)]; try rfl) ?_;intro cL H
  refine s_nil ⟨(H.pk [3,4]),?_⟩
  refine t_nil ?_
  exact ⟨aj,r2,r3,ac,ab,_,upds_of _ _ ⟨rfl,rfl,rfl,trivial⟩,hM,(H.pk [2,0,1,3,4])⟩
 rintro _ cM ⟨aj,r2,r3,ac,ab,ρ,rfl,hM,H⟩
 unfold zc3 at hM
 refine W.seq<|W.seq<|W.region rfl<|zA (I 0) rfl<|s_nil<|W.block ?_
 obtain ⟨bo,H⟩:=H.emptyE
 replace H:=H.nilOwn (α:=Raw 1) 68
 have bF:RepR (α:=Sect) (n:=1) bo.cells [] []:=.nil
 obtain ⟨bG,aV,bH⟩:=M.e_bind hM
 obtain ⟨cN,aV⟩:=M.e_iter aV
 refine W.loop (fun m σ W=>∃ (i:Nat) (l:List Sect) (am:Value) (ak:List (Raw 1)) (B_l:Base) (ρ:Env),σ=upds ρ [(1,Pq aq),(2,Pq aD),(3,Pq aj),(4,I (i:Int))]/\M.iterN (zbz s_Sections) m (i,l)=some bG/\St w W [cOwn (α:=Raw 1) 68 am ak,cRo B_l,cBlk aj [am,ac,ab] 27,cOwn (α:=Rch) 58 ab r3,cOwn (α:=Mrk) 70 ac r2,cBlk aD [.slice none 0 0,.slice none 0 0,.slice none 0 0] 27,cBlk aq [ao,au,ap] 27] R/\RepR (α:=Sect) B_l.cells ak l) ?_ ?_
 ·exact ⟨_,0,[],(.slice none 0 0),[],bo,_,upds_of _ _ ⟨rfl,rfl,rfl,rfl,trivial⟩,aV,H,bF⟩
 rintro cO σ cP ⟨i,l,am,ak,B_l,ρ,rfl,bp,H,ai⟩
 obtain ⟨aI,aJ,cQ,hM,aF⟩:=M.e_iterN bp
 simp only [zbz] at hM
 clear bp;refine W.seq<|W.seq<|W.region rfl<|zM (I (i:Int)) rfl<|s_val (x_fa (v:=Pq aq) rfl (fa_blk (o:=0) Fd27_0 Sz23))<|s_val (x_ld (v:=ao) rfl (ldb_sc Sc23 (H.bl 6) rfl)) ?_
 have cR:=(av).len_le
 refine s_val (x_lenS T23.und rfl av)<|zC (i:Int) (s_Sections.length:Int) (decide ((i:Int)<(s_Sections.length:Int))) rfl rfl rfl<|s_nil ?_
 refine W.cond (decide ((i:Int)<(s_Sections.length:Int))) rfl (fun aw=>?_) (fun aw=>?_)
 ·replace hM:=M.e_t hM aw
  replace aw:=dI aw
  refine W.skip<|W.seq<|W.block ?_;refine W.drawT (fun W=>St w W [cRo B_l,cOwn (α:=Rch) 58 ab r3,cOwn (α:=Mrk) 70 ac r2,cBlk aD [.slice none 0 0,.slice none 0 0,.slice none 0 0] 27,cBlk aq [ao,au,ap] 27] R) (.q 0 (.q 2 (.q 3 (.q 4 (.q 5 (.q 6 (.q 7 (.q 8 (.q 9 (.q 10 (.q 11 (.q 12 (.q 13 (.l2 1 (.l 14 (.l 15 (.l 16 (.l 17 (.q 18 (.l 19 .nil)))))) 14 (.l2 1 (.l 15 (.l 16 (.l 17 (.q 18 (.l 19 .nil))))) 15 (.l2 1 (.l 16 (.l 17 (.q 18 (.l 19 .nil)))) 16 (.l 1 (.l 17 (.q 18 (.l 19 .nil)))))))))))))))))))) mixed (by decide +kernel) rfl ?_;intro cS aE;replace H:=H.ext aE;clear aE
  refine ⟨(H.pk [1,3,4,5,6]),?_⟩
  refine t_q rfl (fun w' H=>x_fa (v:=Pq aj) rfl (fa_blk (o:=0) Fd27_0 Sz23))<|t_q rfl (fun w' H=>x_fa (v:=Pq aq) rfl (fa_blk (o:=0) Fd27_0 Sz23))<|t_q rfl (fun w' H=>x_ld (v:=ao) rfl (ldb_sc Sc23 (H.bl 4) rfl))<|t_q rfl (fun w' H=>x_mv (v:=I (i:Int)) rfl) ?_;obtain ⟨cT,hM⟩:=M.e_gd hM;refine t_q rfl (fun w' H=>x_ix (v:=vat ao 2 (Int.toNat (i:Int))) rfl rfl (Sl.ix (α:=Sect) T23.und T23.size av (by omega) (by omega)))<|t_q rfl (fun w' H=>x_fa (v:=fat (vat ao 2 (Int.toNat (i:Int))) 0) rfl (fa_pl Fd68_0 Sz3 (Sl.pl (i:=(i:Int)) av (by omega) (by omega))))<|t_q rfl (fun w' H=>x_ld (v:=I ((s_Sections.getD i default).place)) rfl (ld_sc Sc3 (At.mono (Sect_at0 av (i:=(i:Int)) (by omega) (by omega)) (aH.at H))))<|t_q rfl (fun w' H=>x_fa (v:=Pq aq) rfl (fa_blk (o:=0) Fd27_0 Sz23))<|t_q rfl (fun w' H=>x_ld (v:=ao) rfl (ldb_sc Sc23 (H.bl 4) rfl))<|t_q rfl (fun w' H=>x_mv (v:=I (i:Int)) rfl)<|t_q rfl (fun w' H=>x_ix (v:=vat ao 2 (Int.toNat (i:Int))) rfl rfl (Sl.ix (α:=Sect) T23.und T23.size av (by omega) (by omega)))<|t_q rfl (fun w' H=>x_fa (v:=fat (vat ao 2 (Int.toNat (i:Int))) 1) rfl (fa_pl Fd68_1 Sz66 (Sl.pl (i:=(i:Int)) av (by omega) (by omega)))) ?_
  obtain ⟨aK,bI,aG⟩:=Sect_at1 av (i:=(i:Int)) (by omega) (by omega)
  replace aG:Sl _ aK (s_Sections.getD i default).rows:=aG
  have cU:=aG.len_le
  refine t_q rfl (fun w' H=>x_ld (v:=aK) rfl (ld_sc Sc66 (At.mono (bI) (aH.at H)))) ?_;refine t_l2 rfl rfl ?_ ?_
  ·skip
   refine s_val (x_ld (v:=am) rfl (ldb_sc Sc23 (H.bl 2) rfl)) ?_
   have cV:=Sl.cells (H.os 0)
   have cW:=Sl.oc (H.os 0)
   refine s_nil ⟨(H.pk [1,3,4,5,6]),?_⟩
   refine t_l rfl ?_;obtain ⟨cX,bJ,hM⟩:=M.e_bind hM;refine s_call cf64 [aK] rfl (zdx ((s_Sections.getD i default).rows) (aH.app _) aG bJ _ (H.gt 7)) ?_
   rintro vq cY ⟨r4,ae,rfl,hvq,ag⟩
   subst vq;(try dsimp only at hM);replace H:=H.bk ag;clear ag
   have cZ:=Sl.cells (H.os 0)
   have c8:=Sl.oc (H.os 0)
   refine s_nil ⟨(H.pk [2,4,5,6,7]),?_⟩
   refine t_l rfl<|s_val (x_bld (ps:=[(0,I ((s_Sections.getD i default).place)),(1,ae)]) (zs:=[I 0,.slice none 0 0]) (L':=[I ((s_Sections.getD i default).place),ae]) rfl Tryz.underlying68 Al68 rfl (Bd68 Tryz.underlying68) (.cons (cs:=[I ((s_Sections.getD i default).place)]) rfl rfl rfl rfl rfl<|.cons (cs:=[ae]) (Sl.cells (H.os 0)) rfl rfl rfl rfl<|.nil)) ?_
   refine s_nil ⟨(H.pk [2,4,5,6,7]),?_⟩
   refine t_l rfl ?_
   obtain ⟨aW,H⟩:=H.emptyE
   obtain ⟨aX,H,bK⟩:=H.freezeE (k:=1) rfl
   replace H:=H.nf
   have aL:=bK
   obtain ⟨ax,H,c9,bL⟩:=H.joinE (i:=0) (j:=1) rfl rfl
   replace aL:=aL.mono bL
   obtain ⟨ay,bq⟩:∃ r:Raw 1,r.cs=[I ((s_Sections.getD i default).place),ae]:=⟨Raw.of [I ((s_Sections.getD i default).place),ae] rfl (by simp only [List.all_cons,List.all_nil,Bool.true_and,Bool.and_true,Sl.oc aL]; try rfl),rfl⟩
   have bM:RepR (α:=Sect) ax.cells [ay] [(⟨((s_Sections.getD i default).place:Int),r4⟩:Sect)]:=.cons (by rw [bq]; exact ⟨_,rfl,aL⟩)<|.nil
   refine t_bs (α:=Raw 1) T23 [.agg #[I ((s_Sections.getD i default).place),ae]] [ay] H rfl (.cons (by rw [show (Flat.enc ay:List Value)=ay.cs from rfl,bq]; rfl) (Flat.rep_enc _ _)<|.nil) rfl rfl rfl ?_;intro bN da H;replace H:=H.nf
   have db:=Sl.cells (H.os 0)
   have dc:=Sl.oc (H.os 0)
   refine s_nil ⟨(H.pk [5,7,8,9,10]),?_⟩
   refine t_l rfl ?_;obtain ⟨dd,hM⟩:=M.e_gd hM
   have aM:=bM
   obtain ⟨az,H,bO,bP⟩:=H.joinE (i:=5) (j:=1) rfl rfl
   replace ai:=ai.mono bO
   replace aM:=aM.mono bP
   have aY:=ai.app aM
   refine t_app (α:=Raw 1) (k:=5) (l:=ak) (l2:=[ay]) (l':=ak++([ay])) (vy:=bN) T23 rfl H rfl rfl rfl (H.os 1) (H.ol 1) (rfl) (by have a_:=ai.len; have b_:=aM.len; (try simp only [List.length_nil] at *); first | omega | (rw [a_,b_]; omega)) ?_;intro aZ de H;replace H:=H.nf
   have dg:=Sl.cells (H.os 5)
   have dh:=Sl.oc (H.os 5)
   refine s_nil ⟨(H.pk [6,8,9,10,11]),?_⟩
   refine t_q rfl (fun w' H=>x_fa (v:=Pq aj) rfl (fa_blk (o:=0) Fd27_0 Sz23))<|t_l rfl ?_;refine t_sw 7 0 [aZ] aZ H rfl rfl Sz23 (Sl.cells (rowSl rfl (H.get (k:=5) rfl) (roLe _ (H.get (k:=0) rfl)) aY)) rfl rfl (by simp only [List.all_cons,List.all_nil,Bool.true_and,Bool.and_true,Sl.oc (rowSl rfl (H.get (k:=5) rfl) (roLe _ (H.get (k:=0) rfl)) aY)]; try rfl) ?_;intro di H
   refine s_nil ⟨(H.pk [6,8,9,10,11]),?_⟩
   refine t_nil ?_;replace H:=H.pk [0,5,6,7,8,9,10,11];refine W.region rfl<|zM (I (i:Int)) rfl<|zR (i:Int) 1 ((i:Int)+1) rfl rfl rfl (by omega)<|zA (I ((i:Int)+1)) rfl<|s_nil ?_
   exact ⟨aI,aJ,i+1,l++([(⟨((s_Sections.getD i default).place:Int),r4⟩:Sect)]),aZ,ak++([ay]),az,_,upds_of _ _ ⟨rfl,rfl,rfl,rfl,trivial⟩,M.e_inl hM aF,(H.pk [1,0,3,4,5,6,7]),aY⟩
  skip
  obtain ⟨dj,bQ,hM⟩:=M.e_bind hM;refine s_call cf64 [aK] rfl (zdx ((s_Sections.getD i default).rows) (aH.app _) aG bQ _ (H.gt 7)) ?_
  rintro vq dk ⟨r4,ae,rfl,hvq,ag⟩
  subst vq;(try dsimp only at hM);replace H:=H.bk ag;clear ag
  have dm:=Sl.cells (H.os 0)
  have dp:=Sl.oc (H.os 0)
  have dq:=Sl.cells (H.os 1)
  have dr:=Sl.oc (H.os 1)
  refine s_nil ⟨(H.pk [2,4,5,6,7]),?_⟩
  obtain ⟨dt,hM⟩:=M.e_gd hM;refine t_l2 rfl rfl ?_ ?_
  ·skip
   refine s_val (x_ld (v:=am) rfl (ldb_sc Sc23 (H.bl 3) rfl)) ?_
   refine s_nil ⟨(H.pk [2,4,5,6,7]),?_⟩
   refine t_l rfl<|s_val (x_bld (ps:=[(0,I ((s_Sections.getD i default).place)),(1,ae)]) (zs:=[I 0,.slice none 0 0]) (L':=[I ((s_Sections.getD i default).place),ae]) rfl Tryz.underlying68 Al68 rfl (Bd68 Tryz.underlying68) (.cons (cs:=[I ((s_Sections.getD i default).place)]) rfl rfl rfl rfl rfl<|.cons (cs:=[ae]) (Sl.cells (H.os 0)) rfl rfl rfl rfl<|.nil)) ?_
   refine s_nil ⟨(H.pk [2,4,5,6,7]),?_⟩
   refine t_l rfl ?_
   obtain ⟨aW,H⟩:=H.emptyE
   obtain ⟨aX,H,bR⟩:=H.freezeE (k:=1) rfl
   replace H:=H.nf
   have aN:=bR
   obtain ⟨ax,H,dv,bS⟩:=H.joinE (i:=0) (j:=1) rfl rfl
   replace aN:=aN.mono bS
   obtain ⟨aA,br⟩:∃ r:Raw 1,r.cs=[I ((s_Sections.getD i default).place),ae]:=⟨Raw.of [I ((s_Sections.getD i default).place),ae] rfl (by simp only [List.all_cons,List.all_nil,Bool.true_and,Bool.and_true,Sl.oc aN]; try rfl),rfl⟩
   have bT:RepR (α:=Sect) ax.cells [aA] [(⟨((s_Sections.getD i default).place:Int),r4⟩:Sect)]:=.cons (by rw [br]; exact ⟨_,rfl,aN⟩)<|.nil
   refine t_bs (α:=Raw 1) T23 [.agg #[I ((s_Sections.getD i default).place),ae]] [aA] H rfl (.cons (by rw [show (Flat.enc aA:List Value)=aA.cs from rfl,br]; rfl) (Flat.rep_enc _ _)<|.nil) rfl rfl rfl ?_;intro bU dw H;replace H:=H.nf
   have dx:=Sl.cells (H.os 0)
   have dy:=Sl.oc (H.os 0)
   refine s_nil ⟨(H.pk [5,7,8,9,10]),?_⟩
   refine t_l rfl ?_
   have aO:=bT
   obtain ⟨az,H,bV,bW⟩:=H.joinE (i:=5) (j:=1) rfl rfl
   replace ai:=ai.mono bV
   replace aO:=aO.mono bW
   have a6:=ai.app aO
   refine t_app (α:=Raw 1) (k:=5) (l:=ak) (l2:=[aA]) (l':=ak++([aA])) (vy:=bU) T23 rfl H rfl rfl rfl (H.os 1) (H.ol 1) (rfl) (by have a_:=ai.len; have b_:=aO.len; (try simp only [List.length_nil] at *); first | omega | (rw [a_,b_]; omega)) ?_;intro a7 dz H;replace H:=H.nf
   have dA:=Sl.cells (H.os 5)
   have dB:=Sl.oc (H.os 5)
   refine s_nil ⟨(H.pk [6,8,9,10,11]),?_⟩
   refine t_q rfl (fun w' H=>x_fa (v:=Pq aj) rfl (fa_blk (o:=0) Fd27_0 Sz23))<|t_l rfl ?_;refine t_sw 7 0 [a7] a7 H rfl rfl Sz23 (Sl.cells (rowSl rfl (H.get (k:=5) rfl) (roLe _ (H.get (k:=0) rfl)) a6)) rfl rfl (by simp only [List.all_cons,List.all_nil,Bool.true_and,Bool.and_true,Sl.oc (rowSl rfl (H.get (k:=5) rfl) (roLe _ (H.get (k:=0) rfl)) a6)]; try rfl) ?_;intro dC H
   refine s_nil ⟨(H.pk [6,8,9,10,11]),?_⟩
   refine t_nil ?_;replace H:=H.pk [0,5,6,7,8,9,10,11];refine W.region rfl<|zM (I (i:Int)) rfl<|zR (i:Int) 1 ((i:Int)+1) rfl rfl rfl (by omega)<|zA (I ((i:Int)+1)) rfl<|s_nil ?_
   exact ⟨aI,aJ,i+1,l++([(⟨((s_Sections.getD i default).place:Int),r4⟩:Sect)]),a7,ak++([aA]),az,_,upds_of _ _ ⟨rfl,rfl,rfl,rfl,trivial⟩,M.e_inl hM aF,(H.pk [1,0,3,4,5,6,7]),a6⟩
  skip
  refine s_val (x_bld (ps:=[(0,I ((s_Sections.getD i default).place)),(1,ae)]) (zs:=[I 0,.slice none 0 0]) (L':=[I ((s_Sections.getD i default).place),ae]) rfl Tryz.underlying68 Al68 rfl (Bd68 Tryz.underlying68) (.cons (cs:=[I ((s_Sections.getD i default).place)]) rfl rfl rfl rfl rfl<|.cons (cs:=[ae]) (Sl.cells (H.os 0)) rfl rfl rfl rfl<|.nil)) ?_
  refine s_nil ⟨(H.pk [2,4,5,6,7]),?_⟩
  refine t_l2 rfl rfl ?_ ?_
  ·skip
   refine s_val (x_ld (v:=am) rfl (ldb_sc Sc23 (H.bl 3) rfl)) ?_
   refine s_nil ⟨(H.pk [2,4,5,6,7]),?_⟩
   refine t_l rfl ?_
   obtain ⟨aW,H⟩:=H.emptyE
   obtain ⟨aX,H,bX⟩:=H.freezeE (k:=1) rfl
   replace H:=H.nf
   have aP:=bX
   obtain ⟨ax,H,dD,bY⟩:=H.joinE (i:=0) (j:=1) rfl rfl
   replace aP:=aP.mono bY
   obtain ⟨aB,bt⟩:∃ r:Raw 1,r.cs=[I ((s_Sections.getD i default).place),ae]:=⟨Raw.of [I ((s_Sections.getD i default).place),ae] rfl (by simp only [List.all_cons,List.all_nil,Bool.true_and,Bool.and_true,Sl.oc aP]; try rfl),rfl⟩
   have bZ:RepR (α:=Sect) ax.cells [aB] [(⟨((s_Sections.getD i default).place:Int),r4⟩:Sect)]:=.cons (by rw [bt]; exact ⟨_,rfl,aP⟩)<|.nil
   refine t_bs (α:=Raw 1) T23 [.agg #[I ((s_Sections.getD i default).place),ae]] [aB] H rfl (.cons (by rw [show (Flat.enc aB:List Value)=aB.cs from rfl,bt]; rfl) (Flat.rep_enc _ _)<|.nil) rfl rfl rfl ?_;intro b4 dE H;replace H:=H.nf
   have dF:=Sl.cells (H.os 0)
   have dG:=Sl.oc (H.os 0)
   refine s_nil ⟨(H.pk [5,7,8,9,10]),?_⟩
   refine t_l rfl ?_
   have aQ:=bZ
   obtain ⟨az,H,b5,b6⟩:=H.joinE (i:=5) (j:=1) rfl rfl
   replace ai:=ai.mono b5
   replace aQ:=aQ.mono b6
   have a8:=ai.app aQ
   refine t_app (α:=Raw 1) (k:=5) (l:=ak) (l2:=[aB]) (l':=ak++([aB])) (vy:=b4) T23 rfl H rfl rfl rfl (H.os 1) (H.ol 1) (rfl) (by have a_:=ai.len; have b_:=aQ.len; (try simp only [List.length_nil] at *); first | omega | (rw [a_,b_]; omega)) ?_;intro ba dH H;replace H:=H.nf
   have dJ:=Sl.cells (H.os 5)
   have dK:=Sl.oc (H.os 5)
   refine s_nil ⟨(H.pk [6,8,9,10,11]),?_⟩
   refine t_q rfl (fun w' H=>x_fa (v:=Pq aj) rfl (fa_blk (o:=0) Fd27_0 Sz23))<|t_l rfl ?_;refine t_sw 7 0 [ba] ba H rfl rfl Sz23 (Sl.cells (rowSl rfl (H.get (k:=5) rfl) (roLe _ (H.get (k:=0) rfl)) a8)) rfl rfl (by simp only [List.all_cons,List.all_nil,Bool.true_and,Bool.and_true,Sl.oc (rowSl rfl (H.get (k:=5) rfl) (roLe _ (H.get (k:=0) rfl)) a8)]; try rfl) ?_;intro dL H
   refine s_nil ⟨(H.pk [6,8,9,10,11]),?_⟩
   refine t_nil ?_;replace H:=H.pk [0,5,6,7,8,9,10,11];refine W.region rfl<|zM (I (i:Int)) rfl<|zR (i:Int) 1 ((i:Int)+1) rfl rfl rfl (by omega)<|zA (I ((i:Int)+1)) rfl<|s_nil ?_
   exact ⟨aI,aJ,i+1,l++([(⟨((s_Sections.getD i default).place:Int),r4⟩:Sect)]),ba,ak++([aB]),az,_,upds_of _ _ ⟨rfl,rfl,rfl,rfl,trivial⟩,M.e_inl hM aF,(H.pk [1,0,3,4,5,6,7]),a8⟩
  skip
  obtain ⟨aW,H⟩:=H.emptyE
  obtain ⟨aX,H,b7⟩:=H.freezeE (k:=1) rfl
  replace H:=H.nf
  have aR:=b7
  obtain ⟨ax,H,dM,b8⟩:=H.joinE (i:=0) (j:=1) rfl rfl
  replace aR:=aR.mono b8
  obtain ⟨aC,bu⟩:∃ r:Raw 1,r.cs=[I ((s_Sections.getD i default).place),ae]:=⟨Raw.of [I ((s_Sections.getD i default).place),ae] rfl (by simp only [List.all_cons,List.all_nil,Bool.true_and,Bool.and_true,Sl.oc aR]; try rfl),rfl⟩
  have b9:RepR (α:=Sect) ax.cells [aC] [(⟨((s_Sections.getD i default).place:Int),r4⟩:Sect)]:=.cons (by rw [bu]; exact ⟨_,rfl,aR⟩)<|.nil
  refine t_bs (α:=Raw 1) T23 [.agg #[I ((s_Sections.getD i default).place),ae]] [aC] H rfl (.cons (by rw [show (Flat.enc aC:List Value)=aC.cs from rfl,bu]; rfl) (Flat.rep_enc _ _)<|.nil) rfl rfl rfl ?_;intro cb dN H;replace H:=H.nf
  have dO:=Sl.cells (H.os 0)
  have dP:=Sl.oc (H.os 0)
  refine s_nil ⟨(H.pk [5,7,8,9,10]),?_⟩
  refine t_l rfl<|s_val (x_ld (v:=am) rfl (ldb_sc Sc23 (H.bl 6) rfl)) ?_
  refine s_nil ⟨(H.pk [5,7,8,9,10]),?_⟩
  refine t_l rfl ?_
  have aS:=b9
  obtain ⟨az,H,cc,cd⟩:=H.joinE (i:=5) (j:=1) rfl rfl
  replace ai:=ai.mono cc
  replace aS:=aS.mono cd
  have bb:=ai.app aS
  refine t_app (α:=Raw 1) (k:=5) (l:=ak) (l2:=[aC]) (l':=ak++([aC])) (vy:=cb) T23 rfl H rfl rfl rfl (H.os 1) (H.ol 1) (rfl) (by have a_:=ai.len; have b_:=aS.len; (try simp only [List.length_nil] at *); first | omega | (rw [a_,b_]; omega)) ?_;intro bc dQ H;replace H:=H.nf
  have dR:=Sl.cells (H.os 5)
  have dS:=Sl.oc (H.os 5)
  refine s_nil ⟨(H.pk [6,8,9,10,11]),?_⟩
  refine t_q rfl (fun w' H=>x_fa (v:=Pq aj) rfl (fa_blk (o:=0) Fd27_0 Sz23))<|t_l rfl ?_;refine t_sw 7 0 [bc] bc H rfl rfl Sz23 (Sl.cells (rowSl rfl (H.get (k:=5) rfl) (roLe _ (H.get (k:=0) rfl)) bb)) rfl rfl (by simp only [List.all_cons,List.all_nil,Bool.true_and,Bool.and_true,Sl.oc (rowSl rfl (H.get (k:=5) rfl) (roLe _ (H.get (k:=0) rfl)) bb)]; try rfl) ?_;intro dT H
  refine s_nil ⟨(H.pk [6,8,9,10,11]),?_⟩
  refine t_nil ?_;replace H:=H.pk [0,5,6,7,8,9,10,11];refine W.region rfl<|zM (I (i:Int)) rfl<|zR (i:Int) 1 ((i:Int)+1) rfl rfl rfl (by omega)<|zA (I ((i:Int)+1)) rfl<|s_nil ?_
  exact ⟨aI,aJ,i+1,l++([(⟨((s_Sections.getD i default).place:Int),r4⟩:Sect)]),bc,ak++([aC]),az,_,upds_of _ _ ⟨rfl,rfl,rfl,rfl,trivial⟩,M.e_inl hM aF,(H.pk [1,0,3,4,5,6,7]),bb⟩
 replace hM:=M.e_f hM aw
 replace aw:=dI aw
 refine W.exit ?_
 have ce:=M.e_inr hM aF
 subst ce;replace hM:=bH;(try dsimp only at hM);refine W.seq<|W.region rfl<|s_val (x_ld (v:=.agg #[am,ac,ab]) rfl (ldb_ag (ds:=[am,ac,ab]) Ag27 Sz27 (H.bl 2) rfl rfl)) ?_;refine t_sw 5 0 [am,ac,ab] (.agg #[am,ac,ab]) H rfl rfl Sz27 rfl rfl rfl (by simp only [List.all_cons,List.all_nil,Bool.true_and,Bool.and_true,Sl.oc (rowSl rfl (H.get (k:=0) rfl) (roLe _ (H.get (k:=1) rfl)) ai),Sl.oc (H.os 4),Sl.oc (H.os 3)]; try rfl) ?_;intro dU H;refine s_nil ?_;replace H:=H.pk [0,1,3,4,5];refine W.ret ?_
 have cf:=(H.bl 4)
 have cg:=M.e_pure hM
 exact ⟨_,(resE_of1 (v:=.agg #[am,ac,ab]) rfl (.cell (v:=.agg #[am,ac,ab]) rfl (run_loadVar_ag (ds:=[am,ac,ab]) Ag27 Sz27 cf rfl rfl)<|.nil)),⟨l,r2,r3,am,ak,B_l,ac,ab,cg,rfl,(H.pk [0,1,3,2]),ai⟩⟩

def zb5 (l:List Int):M (List Int) :=
  M.grd (decide ((([]:List Int).length+l.length)*8<=140737488355328)) <|
  M.pure l
theorem zes {R:List Chunk} {ac:Cells} {ab:Value} (l:List Int) (ag:Reads R ac) (ai:Sl ac ab l) {r:(List Int)} (hM:(zb5 l).Ends r) (w:World) (H:St w w [] R):Ret Tryz.prog 37 #[ab] w fun v w'=>∃ (y0:List Int) (u0:Value),y0=r/\v=u0/\St w w' [cOwn (α:=Int) 3 u0 y0] R:=by
 refine ret_of_W Tryz.func37 rfl rfl rfl<|W.seq<|W.region rfl<|zA (.slice none 0 0) rfl<|s_nil<|W.seq<|W.region rfl<|zA (.slice none 0 0) rfl<|s_nil<|W.seq<|W.region rfl ?_;refine zM (.slice none 0 0) rfl<|zM ab rfl ?_
 replace H:=H.nilOwn (α:=Int) 3
 obtain ⟨ak,hM⟩:=M.e_gd hM;refine t_app (α:=Int) (k:=0) (l:=[]) (l2:=l) (l':=l) (vy:=ab) T28 rfl H rfl rfl rfl ai (ag.at H) (List.nil_append _) (by first | omega | (simp only [List.length_nil] at *; omega)) ?_;intro ae am H;replace H:=H.nf;refine zA ae rfl<|s_nil ?_;refine W.ret ?_
 have aj:=M.e_pure hM
 exact ⟨_,resE_tmp rfl,⟨l,ae,aj,rfl,H⟩⟩

def zbj (s_Sections:List Sect) (i:Nat):(Nat × (List FRow))->M ((Nat × (List FRow)) ⊕ ((List FRow) × (List FRow))):=fun (k,l) =>
  bif decide ((k:Int)<(((s_Sections.getD i default).rows).length:Int)) then (
  M.grd (decide ((k:Int)<(((s_Sections.getD i default).rows).length:Int))) <|
  M.grd (decide ((l.length+([(((s_Sections.getD i default).rows).getD k default)]).length)*16<=140737488355328)) <|
  M.pure (.inl (k+1,l++([(((s_Sections.getD i default).rows).getD k default)]))))
  else (
  M.pure (.inr (l,l)))
def zb0 (s_Sections:List Sect):(Nat × (List Sect))->M ((Nat × (List Sect)) ⊕ ((List Sect) × (List Sect))):=fun (i,l4) =>
  bif decide ((i:Int)<(s_Sections.length:Int)) then (
  M.grd (decide ((i:Int)<(s_Sections.length:Int))) <|
  M.bind (M.iter (zbj s_Sections i) (0,[])) fun (l2,l3) =>
  M.grd (decide ((l4.length+([(⟨((s_Sections.getD i default).place:Int),l3⟩:Sect)]).length)*32<=140737488355328)) <|
  M.pure (.inl (i+1,l4++([(⟨((s_Sections.getD i default).place:Int),l3⟩:Sect)]))))
  else (
  M.pure (.inr (l4,l4)))
def zbH (s_Marks:List Mrk):(Nat × (List Mrk))->M ((Nat × (List Mrk)) ⊕ ((List Mrk) × (List Mrk))):=fun (i2,l7) =>
  bif decide ((i2:Int)<(s_Marks.length:Int)) then (
  M.grd (decide ((i2:Int)<(s_Marks.length:Int))) <|
  M.grd (decide ((l7.length+([(s_Marks.getD i2 default)]).length)*24<=140737488355328)) <|
  M.pure (.inl (i2+1,l7++([(s_Marks.getD i2 default)]))))
  else (
  M.pure (.inr (l7,l7)))
def zbo (s_Reaches:List Rch):(Nat × (List Rch))->M ((Nat × (List Rch)) ⊕ ((List Rch) × (List Rch))):=fun (i3,ab) =>
  bif decide ((i3:Int)<(s_Reaches.length:Int)) then (
  M.grd (decide ((i3:Int)<(s_Reaches.length:Int))) <|
  M.grd (decide ((ab.length+([(s_Reaches.getD i3 default)]).length)*40<=140737488355328)) <|
  M.pure (.inl (i3+1,ab++([(s_Reaches.getD i3 default)]))))
  else (
  M.pure (.inr (ab,ab)))
def zbD (s_Sections:List Sect) (s_Marks:List Mrk) (s_Reaches:List Rch):M ((List Sect) × (List Mrk) × (List Rch)) :=
  M.bind (M.iter (zb0 s_Sections) (0,[])) fun (l5,l6) =>
  M.bind (M.iter (zbH s_Marks) (0,[])) fun (l8,l9) =>
  M.bind (M.iter (zbo s_Reaches) (0,[])) fun (ac,ab) =>
  M.pure (l6,l9,ab)
theorem zdF {R:List Chunk} {a8:Cells} {ac:Value} {ba:Cells} {aj:Value} {bb:Cells} {ak:Value} (s_Sections:List Sect) (s_Marks:List Mrk) (s_Reaches:List Rch) (aG:Reads R a8) (ap:Sl a8 ac s_Sections) (bw:Reads R ba) (aH:Sl ba aj s_Marks) (bx:Reads R bb) (aI:Sl bb ak s_Reaches) {r:((List Sect) × (List Mrk) × (List Rch))} (hM:(zbD s_Sections s_Marks s_Reaches).Ends r) (w:World) (H:St w w [] R):Ret Tryz.prog 25 #[.agg #[ac,aj,ak]] w fun v w'=>∃ (y0:List Sect) (y1:List Mrk) (y2:List Rch) (u0:Value) (rr1:List (Raw 1)) (bc:Base) (u3:Value) (u4:Value),(y0,y1,y2)=r/\v = .agg #[u0,u3,u4]/\St w w' [cOwn (α:=Raw 1) 148 u0 rr1,cRo bc,cOwn (α:=Mrk) 150 u3 y1,cOwn (α:=Rch) 151 u4 y2] R/\RepR (α:=Sect) bc.cells rr1 y0:=by
 refine ret_of_W Tryz.func25 rfl rfl rfl<|W.seq<|W.region rfl ?_;refine t_bx [ac,aj,ak] H rfl ?_;intro ae cb H;refine t_alloc (cs:=[.slice none 0 0,.slice none 0 0,.slice none 0 0]) H Al81 rfl ?_;intro aq cc H;refine s_nil<|W.seq<|W.region rfl ?_;refine t_alloc (cs:=[.slice none 0 0,.slice none 0 0,.slice none 0 0]) H Al81 rfl ?_;intro ag cd H;refine s_nil<|W.seq<|W.seq<|W.region rfl<|zA (I 0) rfl<|s_nil<|W.block ?_
 obtain ⟨bf,H⟩:=H.emptyE
 replace H:=H.nilOwn (α:=Raw 1) 148
 have bz:RepR (α:=Sect) (n:=1) bf.cells [] []:=.nil
 obtain ⟨bA,aL,bB⟩:=M.e_bind hM
 obtain ⟨aM,aL⟩:=M.e_iter aL
 refine W.loop (fun m σ W=>∃ (i:Nat) (l4:List Sect) (ab:Value) (am:List (Raw 1)) (B_l4:Base) (ρ:Env),σ=upds ρ [(1,Pq ae),(2,Pq aq),(3,Pq ag),(4,I (i:Int))]/\M.iterN (zb0 s_Sections) m (i,l4)=some bA/\St w W [cOwn (α:=Raw 1) 148 ab am,cRo B_l4,cBlk ag [ab,.slice none 0 0,.slice none 0 0] 81,cBlk aq [.slice none 0 0,.slice none 0 0,.slice none 0 0] 81,cBlk ae [ac,aj,ak] 27] R/\RepR (α:=Sect) B_l4.cells am l4) ?_ ?_
 ·exact ⟨_,0,[],(.slice none 0 0),[],bf,_,upds_of _ _ ⟨rfl,rfl,rfl,rfl,trivial⟩,aL,H,bz⟩
 rintro ce σ cf ⟨i,l4,ab,am,B_l4,ρ,rfl,bg,H,aC⟩
 obtain ⟨bC,bD,cg,hM,bh⟩:=M.e_iterN bg
 simp only [zb0] at hM
 clear bg;refine W.seq<|W.seq<|W.region rfl<|zM (I (i:Int)) rfl<|s_val (x_fa (v:=Pq ae) rfl (fa_blk (o:=0) Fd27_0 Sz23))<|s_val (x_ld (v:=ac) rfl (ldb_sc Sc23 (H.bl 4) rfl)) ?_
 have cj:=(ap).len_le
 refine s_val (x_lenS T23.und rfl ap)<|zC (i:Int) (s_Sections.length:Int) (decide ((i:Int)<(s_Sections.length:Int))) rfl rfl rfl<|s_nil ?_
 refine W.cond (decide ((i:Int)<(s_Sections.length:Int))) rfl (fun ax=>?_) (fun ax=>?_)
 ·replace hM:=M.e_t hM ax
  replace ax:=dI ax
  refine W.skip<|W.seq<|W.block<|W.seq<|W.region rfl<|s_val (x_fa (v:=Pq ae) rfl (fa_blk (o:=0) Fd27_0 Sz23))<|s_val (x_ld (v:=ac) rfl (ldb_sc Sc23 (H.bl 4) rfl))<|zM (I (i:Int)) rfl ?_;obtain ⟨co,hM⟩:=M.e_gd hM;refine s_val (x_ix (v:=vat ac 2 (Int.toNat (i:Int))) rfl rfl (Sl.ix (α:=Sect) T23.und T23.size ap (by omega) (by omega)))<|s_val (x_fa (v:=fat (vat ac 2 (Int.toNat (i:Int))) 0) rfl (fa_pl Fd68_0 Sz3 (Sl.pl (i:=(i:Int)) ap (by omega) (by omega))))<|s_val (x_ld (v:=I ((s_Sections.getD i default).place)) rfl (ld_sc Sc3 (At.mono (Sect_at0 ap (i:=(i:Int)) (by omega) (by omega)) (aG.at H))))<|s_val (x_bld (ps:=[(0,I ((s_Sections.getD i default).place))]) (zs:=[I 0,.slice none 0 0]) (L':=[I ((s_Sections.getD i default).place),.slice none 0 0]) rfl Tryz.underlying148 Al148 rfl (Bd148 Tryz.underlying148) (.cons (cs:=[I ((s_Sections.getD i default).place)]) rfl rfl rfl rfl rfl<|.nil)) ?_;refine t_alloc (cs:=[I 0,.slice none 0 0]) H Al148 rfl ?_;intro aD cp H;refine t_sw 0 0 [I ((s_Sections.getD i default).place),.slice none 0 0] (.agg #[I ((s_Sections.getD i default).place),.slice none 0 0]) H rfl rfl Sz148 rfl rfl rfl rfl ?_;intro cq H;refine s_nil<|W.seq<|W.seq<|W.region rfl<|zA (I 0) rfl<|s_nil<|W.block ?_
  replace H:=H.nilOwn (α:=FRow) 149
  obtain ⟨bE,aN,bF⟩:=M.e_bind hM
  obtain ⟨aM,aN⟩:=M.e_iter aN
  refine W.loop (fun m σ W=>∃ (k:Nat) (l:List FRow) (au:Value) (ρ:Env),σ=upds ρ [(1,Pq ae),(2,Pq aq),(3,Pq ag),(4,I (i:Int)),(5,Pq aD),(6,I (k:Int))]/\M.iterN (zbj s_Sections i) m (k,l)=some bE/\St w W [cOwn (α:=FRow) 149 au l,cBlk aD [I ((s_Sections.getD i default).place),au] 148,cOwn (α:=Raw 1) 148 ab am,cRo B_l4,cBlk ag [ab,.slice none 0 0,.slice none 0 0] 81,cBlk aq [.slice none 0 0,.slice none 0 0,.slice none 0 0] 81,cBlk ae [ac,aj,ak] 27] R) ?_ ?_
  ·exact ⟨_,0,[],(.slice none 0 0),_,upds_of _ _ ⟨rfl,rfl,rfl,rfl,rfl,rfl,trivial⟩,aN,H⟩
  rintro cr σ ct ⟨k,l,au,ρ,rfl,bi,H⟩
  obtain ⟨bj,bm,cu,hM,aO⟩:=M.e_iterN bi
  simp only [zbj] at hM
  clear bi;refine W.seq<|W.seq<|W.region rfl<|zM (I (k:Int)) rfl<|s_val (x_fa (v:=Pq ae) rfl (fa_blk (o:=0) Fd27_0 Sz23))<|s_val (x_ld (v:=ac) rfl (ldb_sc Sc23 (H.bl 6) rfl))<|zM (I (i:Int)) rfl<|s_val (x_ix (v:=vat ac 2 (Int.toNat (i:Int))) rfl rfl (Sl.ix (α:=Sect) T23.und T23.size ap (by omega) (by omega)))<|s_val (x_fa (v:=fat (vat ac 2 (Int.toNat (i:Int))) 1) rfl (fa_pl Fd68_1 Sz66 (Sl.pl (i:=(i:Int)) ap (by omega) (by omega)))) ?_
  obtain ⟨bn,bG,aE⟩:=Sect_at1 ap (i:=(i:Int)) (by omega) (by omega)
  replace aE:Sl _ bn (s_Sections.getD i default).rows:=aE
  have cv:=aE.len_le
  refine s_val (x_ld (v:=bn) rfl (ld_sc Sc66 (At.mono (bG) (aG.at H)))) ?_
  have cw:=(aE).len_le
  refine s_val (x_lenS T66.und rfl aE)<|zC (k:Int) (((s_Sections.getD i default).rows).length:Int) (decide ((k:Int)<(((s_Sections.getD i default).rows).length:Int))) rfl rfl rfl<|s_nil ?_
  refine W.cond (decide ((k:Int)<(((s_Sections.getD i default).rows).length:Int))) rfl (fun ay=>?_) (fun ay=>?_)
  ·replace hM:=M.e_t hM ay
   replace ay:=dI ay
   refine W.skip<|W.seq<|W.block ?_;refine W.drawT (fun W=>St w W [cOwn (α:=Raw 1) 148 ab am,cRo B_l4,cBlk ag [ab,.slice none 0 0,.slice none 0 0] 81,cBlk aq [.slice none 0 0,.slice none 0 0,.slice none 0 0] 81,cBlk ae [ac,aj,ak] 27] R) (.q 0 (.q 2 (.q 3 (.q 4 (.q 5 (.q 6 (.q 7 (.q 8 (.q 9 (.q 10 (.l2 1 (.l 11 (.l 12 (.q 13 (.l 14 .nil)))) 11 (.l 1 (.l 12 (.q 13 (.l 14 .nil))))))))))))))) mixed (by decide +kernel) rfl ?_;intro cx aw;replace H:=H.ext aw;clear aw
   refine ⟨(H.pk [2,3,4,5,6]),?_⟩
   refine t_q rfl (fun w' H=>x_fa (v:=Oq aD 1) rfl (fa_blk (o:=0) Fd148_1 Sz146))<|t_q rfl (fun w' H=>x_fa (v:=Pq ae) rfl (fa_blk (o:=0) Fd27_0 Sz23))<|t_q rfl (fun w' H=>x_ld (v:=ac) rfl (ldb_sc Sc23 (H.bl 4) rfl))<|t_q rfl (fun w' H=>x_mv (v:=I (i:Int)) rfl)<|t_q rfl (fun w' H=>x_ix (v:=vat ac 2 (Int.toNat (i:Int))) rfl rfl (Sl.ix (α:=Sect) T23.und T23.size ap (by omega) (by omega)))<|t_q rfl (fun w' H=>x_fa (v:=fat (vat ac 2 (Int.toNat (i:Int))) 1) rfl (fa_pl Fd68_1 Sz66 (Sl.pl (i:=(i:Int)) ap (by omega) (by omega)))) ?_
   obtain ⟨aP,bH,aF⟩:=Sect_at1 ap (i:=(i:Int)) (by omega) (by omega)
   replace aF:Sl _ aP (s_Sections.getD i default).rows:=aF
   have cy:=aF.len_le
   refine t_q rfl (fun w' H=>x_ld (v:=aP) rfl (ld_sc Sc66 (At.mono (bH) (aG.at H))))<|t_q rfl (fun w' H=>x_mv (v:=I (k:Int)) rfl) ?_;obtain ⟨cz,hM⟩:=M.e_gd hM;refine t_q rfl (fun w' H=>x_ix (v:=vat aP 2 (Int.toNat (k:Int))) rfl rfl (Sl.ix (α:=FRow) T66.und T66.size aF (by omega) (by omega)))<|t_q rfl (fun w' H=>x_ld (v:=.agg #[I ((((s_Sections.getD i default).rows).getD k default).stage),I ((((s_Sections.getD i default).rows).getD k default).carry)]) rfl (ld_ag Ag109 Sz109 (At.mono (FRow_atA aF (i:=(k:Int)) (by omega) (by omega)) (aG.at H)))) ?_;obtain ⟨cA,hM⟩:=M.e_gd hM;refine t_l2 rfl rfl ?_ ?_
   ·skip
    refine s_val (x_ld (v:=au) rfl (ldb_sc Sc146 (H.bl 1) rfl)) ?_
    have cB:=Sl.cells (H.os 0)
    have cC:=Sl.oc (H.os 0)
    refine s_nil ⟨(H.pk [2,3,4,5,6]),?_⟩
    refine t_l rfl ?_;refine t_bs (α:=FRow) T146 [.agg #[I ((((s_Sections.getD i default).rows).getD k default).stage),I ((((s_Sections.getD i default).rows).getD k default).carry)]] [(((s_Sections.getD i default).rows).getD k default)] H rfl (.cons rfl (Flat.rep_enc _ (((s_Sections.getD i default).rows).getD k default))<|.nil) rfl rfl rfl ?_;intro bI cD H
    have cE:=Sl.cells (H.os 0)
    have cF:=Sl.oc (H.os 0)
    refine s_nil ⟨(H.pk [3,4,5,6,7]),?_⟩
    refine t_l rfl ?_;refine t_app (α:=FRow) (k:=1) (l:=l) (l2:=[(((s_Sections.getD i default).rows).getD k default)]) (l':=l++([(((s_Sections.getD i default).rows).getD k default)])) (vy:=bI) T146 rfl H rfl rfl rfl (H.os 0) (H.ol 0) (rfl) (by first | omega | (simp only [List.length_nil] at *; omega)) ?_;intro aQ cG H;replace H:=H.nf
    have cH:=Sl.cells (H.os 1)
    have cI:=Sl.oc (H.os 1)
    refine s_nil ⟨(H.pk [3,4,5,6,7]),?_⟩
    refine t_q rfl (fun w' H=>x_fa (v:=Oq aD 1) rfl (fa_blk (o:=0) Fd148_1 Sz146))<|t_l rfl ?_;refine t_sw 2 1 [aQ] aQ H rfl rfl Sz146 (Sl.cells (H.os 1)) rfl rfl (by simp only [List.all_cons,List.all_nil,Bool.true_and,Bool.and_true,Sl.oc (H.os 1)]; try rfl) ?_;intro cJ H
    refine s_nil ⟨(H.pk [3,4,5,6,7]),?_⟩
    refine t_nil<|W.region rfl<|zM (I (k:Int)) rfl<|zR (k:Int) 1 ((k:Int)+1) rfl rfl rfl (by omega)<|zA (I ((k:Int)+1)) rfl<|s_nil ?_
    exact ⟨bj,bm,k+1,l++([(((s_Sections.getD i default).rows).getD k default)]),aQ,_,upds_of _ _ ⟨rfl,rfl,rfl,rfl,rfl,rfl,trivial⟩,M.e_inl hM aO,(H.pk [1,2,3,4,5,6,7])⟩
   skip
   refine t_bs (α:=FRow) T146 [.agg #[I ((((s_Sections.getD i default).rows).getD k default).stage),I ((((s_Sections.getD i default).rows).getD k default).carry)]] [(((s_Sections.getD i default).rows).getD k default)] H rfl (.cons rfl (Flat.rep_enc _ (((s_Sections.getD i default).rows).getD k default))<|.nil) rfl rfl rfl ?_;intro bJ cK H
   have cL:=Sl.cells (H.os 0)
   have cM:=Sl.oc (H.os 0)
   have cN:=Sl.cells (H.os 1)
   have cO:=Sl.oc (H.os 1)
   refine s_nil ⟨(H.pk [3,4,5,6,7]),?_⟩
   refine t_l rfl<|s_val (x_ld (v:=au) rfl (ldb_sc Sc146 (H.bl 2) rfl)) ?_
   refine s_nil ⟨(H.pk [3,4,5,6,7]),?_⟩
   refine t_l rfl ?_;refine t_app (α:=FRow) (k:=1) (l:=l) (l2:=[(((s_Sections.getD i default).rows).getD k default)]) (l':=l++([(((s_Sections.getD i default).rows).getD k default)])) (vy:=bJ) T146 rfl H rfl rfl rfl (H.os 0) (H.ol 0) (rfl) (by first | omega | (simp only [List.length_nil] at *; omega)) ?_;intro aR cP H;replace H:=H.nf
   have cQ:=Sl.cells (H.os 1)
   have cR:=Sl.oc (H.os 1)
   refine s_nil ⟨(H.pk [3,4,5,6,7]),?_⟩
   refine t_q rfl (fun w' H=>x_fa (v:=Oq aD 1) rfl (fa_blk (o:=0) Fd148_1 Sz146))<|t_l rfl ?_;refine t_sw 2 1 [aR] aR H rfl rfl Sz146 (Sl.cells (H.os 1)) rfl rfl (by simp only [List.all_cons,List.all_nil,Bool.true_and,Bool.and_true,Sl.oc (H.os 1)]; try rfl) ?_;intro cS H
   refine s_nil ⟨(H.pk [3,4,5,6,7]),?_⟩
   refine t_nil<|W.region rfl<|zM (I (k:Int)) rfl<|zR (k:Int) 1 ((k:Int)+1) rfl rfl rfl (by omega)<|zA (I ((k:Int)+1)) rfl<|s_nil ?_
   exact ⟨bj,bm,k+1,l++([(((s_Sections.getD i default).rows).getD k default)]),aR,_,upds_of _ _ ⟨rfl,rfl,rfl,rfl,rfl,rfl,trivial⟩,M.e_inl hM aO,(H.pk [1,2,3,4,5,6,7])⟩
  replace hM:=M.e_f hM ay
  replace ay:=dI ay
  refine W.exit ?_
  have bK:=M.e_inr hM aO
  subst bK;replace hM:=bF;(try dsimp only at hM);refine W.region rfl<|s_val (x_fa (v:=Pq ag) rfl (fa_blk (o:=0) Fd81_0 Sz77))<|s_val (x_ld (v:=ab) rfl (ldb_sc Sc77 (H.bl 4) rfl))<|s_val (x_ld (v:=.agg #[I ((s_Sections.getD i default).place),au]) rfl (ldb_ag (ds:=[I ((s_Sections.getD i default).place),au]) Ag148 Sz148 (H.bl 1) rfl rfl)) ?_
  obtain ⟨cT,H⟩:=H.emptyE
  obtain ⟨cU,H,bL⟩:=H.freezeE (k:=1) rfl
  replace H:=H.nf
  have aJ:=bL
  obtain ⟨bM,H,cV,bN⟩:=H.joinE (i:=0) (j:=1) rfl rfl
  replace aJ:=aJ.mono bN
  obtain ⟨az,bo⟩:∃ r:Raw 1,r.cs=[I ((s_Sections.getD i default).place),au]:=⟨Raw.of [I ((s_Sections.getD i default).place),au] rfl (by simp only [List.all_cons,List.all_nil,Bool.true_and,Bool.and_true,Sl.oc aJ]; try rfl),rfl⟩
  have bO:RepR (α:=Sect) bM.cells [az] [(⟨((s_Sections.getD i default).place:Int),l⟩:Sect)]:=.cons (by rw [bo]; exact ⟨_,rfl,aJ⟩)<|.nil
  refine t_bs (α:=Raw 1) T77 [.agg #[I ((s_Sections.getD i default).place),au]] [az] H rfl (.cons (by rw [show (Flat.enc az:List Value)=az.cs from rfl,bo]; rfl) (Flat.rep_enc _ _)<|.nil) rfl rfl rfl ?_;intro bP cW H;replace H:=H.nf;obtain ⟨cX,hM⟩:=M.e_gd hM
  have aK:=bO
  obtain ⟨bQ,H,bR,bS⟩:=H.joinE (i:=6) (j:=1) rfl rfl
  replace aC:=aC.mono bR
  replace aK:=aK.mono bS
  have aS:=aC.app aK
  refine t_app (α:=Raw 1) (k:=6) (l:=am) (l2:=[az]) (l':=am++([az])) (vy:=bP) T77 rfl H rfl rfl rfl (H.os 1) (H.ol 1) (rfl) (by have a_:=aC.len; have b_:=aK.len; (try simp only [List.length_nil] at *); first | omega | (rw [a_,b_]; omega)) ?_;intro aT cY H;replace H:=H.nf;refine s_val (x_fa (v:=Pq ag) rfl (fa_blk (o:=0) Fd81_0 Sz77)) ?_;refine t_sw 8 0 [aT] aT H rfl rfl Sz77 (Sl.cells (rowSl rfl (H.get (k:=6) rfl) (roLe _ (H.get (k:=0) rfl)) aS)) rfl rfl (by simp only [List.all_cons,List.all_nil,Bool.true_and,Bool.and_true,Sl.oc (rowSl rfl (H.get (k:=6) rfl) (roLe _ (H.get (k:=0) rfl)) aS)]; try rfl) ?_;intro cZ H;refine s_nil ?_;replace H:=H.pk [0,6,7,8,9,10];refine W.region rfl<|zM (I (i:Int)) rfl<|zR (i:Int) 1 ((i:Int)+1) rfl rfl rfl (by omega)<|zA (I ((i:Int)+1)) rfl<|s_nil ?_
  exact ⟨bC,bD,i+1,l4++([(⟨((s_Sections.getD i default).place:Int),l⟩:Sect)]),aT,am++([az]),bQ,_,upds_of _ _ ⟨rfl,rfl,rfl,rfl,trivial⟩,M.e_inl hM bh,(H.pk [1,0,3,4,5]),aS⟩
 replace hM:=M.e_f hM ax
 replace ax:=dI ax
 refine W.exit ?_
 have bT:=M.e_inr hM bh
 subst bT;replace hM:=bB;(try dsimp only at hM);refine W.seq<|W.seq<|W.region rfl<|zA (I 0) rfl<|s_nil<|W.block ?_
 replace H:=H.nilOwn (α:=Mrk) 150
 obtain ⟨bU,aU,bV⟩:=M.e_bind hM
 obtain ⟨aM,aU⟩:=M.e_iter aU
 refine W.loop (fun m σ W=>∃ (i2:Nat) (l7:List Mrk) (ai:Value) (ρ:Env),σ=upds ρ [(1,Pq ae),(2,Pq aq),(3,Pq ag),(7,I (i2:Int))]/\M.iterN (zbH s_Marks) m (i2,l7)=some bU/\St w W [cOwn (α:=Mrk) 150 ai l7,cOwn (α:=Raw 1) 148 ab am,cRo B_l4,cBlk ag [ab,ai,.slice none 0 0] 81,cBlk aq [.slice none 0 0,.slice none 0 0,.slice none 0 0] 81,cBlk ae [ac,aj,ak] 27] R) ?_ ?_
 ·exact ⟨_,0,[],(.slice none 0 0),_,upds_of _ _ ⟨rfl,rfl,rfl,rfl,trivial⟩,aU,H⟩
 rintro c8 σ c9 ⟨i2,l7,ai,ρ,rfl,bp,H⟩
 obtain ⟨bq,br,da,hM,aV⟩:=M.e_iterN bp
 simp only [zbH] at hM
 clear bp;refine W.seq<|W.seq<|W.region rfl<|zM (I (i2:Int)) rfl<|s_val (x_fa (v:=Oq ae 1) rfl (fa_blk (o:=0) Fd27_1 Sz24))<|s_val (x_ld (v:=aj) rfl (ldb_sc Sc24 (H.bl 5) rfl)) ?_
 have db:=(aH).len_le
 refine s_val (x_lenS T24.und rfl aH)<|zC (i2:Int) (s_Marks.length:Int) (decide ((i2:Int)<(s_Marks.length:Int))) rfl rfl rfl<|s_nil ?_
 refine W.cond (decide ((i2:Int)<(s_Marks.length:Int))) rfl (fun aA=>?_) (fun aA=>?_)
 ·replace hM:=M.e_t hM aA
  replace aA:=dI aA
  refine W.skip<|W.seq<|W.block ?_;refine W.drawT (fun W=>St w W [cOwn (α:=Raw 1) 148 ab am,cRo B_l4,cBlk aq [.slice none 0 0,.slice none 0 0,.slice none 0 0] 81,cBlk ae [ac,aj,ak] 27] R) (.q 0 (.q 2 (.q 3 (.q 4 (.q 5 (.q 6 (.l2 1 (.l 7 (.l 8 (.q 9 (.l 10 .nil)))) 7 (.l 1 (.l 8 (.q 9 (.l 10 .nil))))))))))) mixed (by decide +kernel) rfl ?_;intro dc aw;replace H:=H.ext aw;clear aw
  refine ⟨(H.pk [1,2,4,5]),?_⟩
  refine t_q rfl (fun w' H=>x_fa (v:=Oq ag 1) rfl (fa_blk (o:=0) Fd81_1 Sz78))<|t_q rfl (fun w' H=>x_fa (v:=Oq ae 1) rfl (fa_blk (o:=0) Fd27_1 Sz24))<|t_q rfl (fun w' H=>x_ld (v:=aj) rfl (ldb_sc Sc24 (H.bl 3) rfl))<|t_q rfl (fun w' H=>x_mv (v:=I (i2:Int)) rfl) ?_;obtain ⟨dd,hM⟩:=M.e_gd hM;refine t_q rfl (fun w' H=>x_ix (v:=vat aj 3 (Int.toNat (i2:Int))) rfl rfl (Sl.ix (α:=Mrk) T24.und T24.size aH (by omega) (by omega)))<|t_q rfl (fun w' H=>x_ld (v:=.agg #[I ((s_Marks.getD i2 default).place),I ((s_Marks.getD i2 default).lo),I ((s_Marks.getD i2 default).hi)]) rfl (ld_ag Ag70 Sz70 (At.mono (Mrk_atA aH (i:=(i2:Int)) (by omega) (by omega)) (bw.at H)))) ?_;obtain ⟨de,hM⟩:=M.e_gd hM;refine t_l2 rfl rfl ?_ ?_
  ·skip
   refine s_val (x_ld (v:=ai) rfl (ldb_sc Sc78 (H.bl 3) rfl)) ?_
   have dg:=Sl.cells (H.os 0)
   have dh:=Sl.oc (H.os 0)
   refine s_nil ⟨(H.pk [1,2,4,5]),?_⟩
   refine t_l rfl ?_;refine t_bs (α:=Mrk) T78 [.agg #[I ((s_Marks.getD i2 default).place),I ((s_Marks.getD i2 default).lo),I ((s_Marks.getD i2 default).hi)]] [(s_Marks.getD i2 default)] H rfl (.cons rfl (Flat.rep_enc _ (s_Marks.getD i2 default))<|.nil) rfl rfl rfl ?_;intro bW di H
   have dj:=Sl.cells (H.os 0)
   have dk:=Sl.oc (H.os 0)
   refine s_nil ⟨(H.pk [2,3,5,6]),?_⟩
   refine t_l rfl ?_;refine t_app (α:=Mrk) (k:=1) (l:=l7) (l2:=[(s_Marks.getD i2 default)]) (l':=l7++([(s_Marks.getD i2 default)])) (vy:=bW) T78 rfl H rfl rfl rfl (H.os 0) (H.ol 0) (rfl) (by first | omega | (simp only [List.length_nil] at *; omega)) ?_;intro aW dm H;replace H:=H.nf
   have dp:=Sl.cells (H.os 1)
   have dq:=Sl.oc (H.os 1)
   refine s_nil ⟨(H.pk [2,3,5,6]),?_⟩
   refine t_q rfl (fun w' H=>x_fa (v:=Oq ag 1) rfl (fa_blk (o:=0) Fd81_1 Sz78))<|t_l rfl ?_;refine t_sw 4 1 [aW] aW H rfl rfl Sz78 (Sl.cells (H.os 1)) rfl rfl (by simp only [List.all_cons,List.all_nil,Bool.true_and,Bool.and_true,Sl.oc (H.os 1)]; try rfl) ?_;intro dr H
   refine s_nil ⟨(H.pk [2,3,5,6]),?_⟩
   refine t_nil<|W.region rfl<|zM (I (i2:Int)) rfl<|zR (i2:Int) 1 ((i2:Int)+1) rfl rfl rfl (by omega)<|zA (I ((i2:Int)+1)) rfl<|s_nil ?_
   exact ⟨bq,br,i2+1,l7++([(s_Marks.getD i2 default)]),aW,_,upds_of _ _ ⟨rfl,rfl,rfl,rfl,trivial⟩,M.e_inl hM aV,(H.pk [1,2,3,4,5,6])⟩
  skip
  refine t_bs (α:=Mrk) T78 [.agg #[I ((s_Marks.getD i2 default).place),I ((s_Marks.getD i2 default).lo),I ((s_Marks.getD i2 default).hi)]] [(s_Marks.getD i2 default)] H rfl (.cons rfl (Flat.rep_enc _ (s_Marks.getD i2 default))<|.nil) rfl rfl rfl ?_;intro bX dt H
  have dv:=Sl.cells (H.os 0)
  have dw:=Sl.oc (H.os 0)
  have dx:=Sl.cells (H.os 1)
  have dy:=Sl.oc (H.os 1)
  refine s_nil ⟨(H.pk [2,3,5,6]),?_⟩
  refine t_l rfl<|s_val (x_ld (v:=ai) rfl (ldb_sc Sc78 (H.bl 4) rfl)) ?_
  refine s_nil ⟨(H.pk [2,3,5,6]),?_⟩
  refine t_l rfl ?_;refine t_app (α:=Mrk) (k:=1) (l:=l7) (l2:=[(s_Marks.getD i2 default)]) (l':=l7++([(s_Marks.getD i2 default)])) (vy:=bX) T78 rfl H rfl rfl rfl (H.os 0) (H.ol 0) (rfl) (by first | omega | (simp only [List.length_nil] at *; omega)) ?_;intro aX dz H;replace H:=H.nf
  have dA:=Sl.cells (H.os 1)
  have dB:=Sl.oc (H.os 1)
  refine s_nil ⟨(H.pk [2,3,5,6]),?_⟩
  refine t_q rfl (fun w' H=>x_fa (v:=Oq ag 1) rfl (fa_blk (o:=0) Fd81_1 Sz78))<|t_l rfl ?_;refine t_sw 4 1 [aX] aX H rfl rfl Sz78 (Sl.cells (H.os 1)) rfl rfl (by simp only [List.all_cons,List.all_nil,Bool.true_and,Bool.and_true,Sl.oc (H.os 1)]; try rfl) ?_;intro dC H
  refine s_nil ⟨(H.pk [2,3,5,6]),?_⟩
  refine t_nil<|W.region rfl<|zM (I (i2:Int)) rfl<|zR (i2:Int) 1 ((i2:Int)+1) rfl rfl rfl (by omega)<|zA (I ((i2:Int)+1)) rfl<|s_nil ?_
  exact ⟨bq,br,i2+1,l7++([(s_Marks.getD i2 default)]),aX,_,upds_of _ _ ⟨rfl,rfl,rfl,rfl,trivial⟩,M.e_inl hM aV,(H.pk [1,2,3,4,5,6])⟩
 replace hM:=M.e_f hM aA
 replace aA:=dI aA
 refine W.exit ?_
 have bY:=M.e_inr hM aV
 subst bY;replace hM:=bV;(try dsimp only at hM);refine W.seq<|W.seq<|W.region rfl<|zA (I 0) rfl<|s_nil<|W.block ?_
 replace H:=H.nilOwn (α:=Rch) 151
 obtain ⟨bZ,aY,b4⟩:=M.e_bind hM
 obtain ⟨aM,aY⟩:=M.e_iter aY
 refine W.loop (fun m σ W=>∃ (i3:Nat) (av:List Rch) (ao:Value) (ρ:Env),σ=upds ρ [(1,Pq ae),(2,Pq aq),(3,Pq ag),(8,I (i3:Int))]/\M.iterN (zbo s_Reaches) m (i3,av)=some bZ/\St w W [cOwn (α:=Rch) 151 ao av,cOwn (α:=Mrk) 150 ai l7,cOwn (α:=Raw 1) 148 ab am,cRo B_l4,cBlk ag [ab,ai,ao] 81,cBlk aq [.slice none 0 0,.slice none 0 0,.slice none 0 0] 81,cBlk ae [ac,aj,ak] 27] R) ?_ ?_
 ·exact ⟨_,0,[],(.slice none 0 0),_,upds_of _ _ ⟨rfl,rfl,rfl,rfl,trivial⟩,aY,H⟩
 rintro dD σ dE ⟨i3,av,ao,ρ,rfl,bt,H⟩
 obtain ⟨bu,bv,dF,hM,aZ⟩:=M.e_iterN bt
 simp only [zbo] at hM
 clear bt;refine W.seq<|W.seq<|W.region rfl<|zM (I (i3:Int)) rfl<|s_val (x_fa (v:=Oq ae 2) rfl (fa_blk (o:=0) Fd27_2 Sz25))<|s_val (x_ld (v:=ak) rfl (ldb_sc Sc25 (H.bl 6) rfl)) ?_
 have dG:=(aI).len_le
 refine s_val (x_lenS T25.und rfl aI)<|zC (i3:Int) (s_Reaches.length:Int) (decide ((i3:Int)<(s_Reaches.length:Int))) rfl rfl rfl<|s_nil ?_
 refine W.cond (decide ((i3:Int)<(s_Reaches.length:Int))) rfl (fun aB=>?_) (fun aB=>?_)
 ·replace hM:=M.e_t hM aB
  replace aB:=dI aB
  refine W.skip<|W.seq<|W.block ?_;refine W.drawT (fun W=>St w W [cOwn (α:=Mrk) 150 ai l7,cOwn (α:=Raw 1) 148 ab am,cRo B_l4,cBlk aq [.slice none 0 0,.slice none 0 0,.slice none 0 0] 81,cBlk ae [ac,aj,ak] 27] R) (.q 0 (.q 2 (.q 3 (.q 4 (.q 5 (.q 6 (.l2 1 (.l 7 (.l 8 (.q 9 (.l 10 .nil)))) 7 (.l 1 (.l 8 (.q 9 (.l 10 .nil))))))))))) mixed (by decide +kernel) rfl ?_;intro dH aw;replace H:=H.ext aw;clear aw
  refine ⟨(H.pk [1,2,3,5,6]),?_⟩
  refine t_q rfl (fun w' H=>x_fa (v:=Oq ag 2) rfl (fa_blk (o:=0) Fd81_2 Sz79))<|t_q rfl (fun w' H=>x_fa (v:=Oq ae 2) rfl (fa_blk (o:=0) Fd27_2 Sz25))<|t_q rfl (fun w' H=>x_ld (v:=ak) rfl (ldb_sc Sc25 (H.bl 4) rfl))<|t_q rfl (fun w' H=>x_mv (v:=I (i3:Int)) rfl) ?_;obtain ⟨dJ,hM⟩:=M.e_gd hM;refine t_q rfl (fun w' H=>x_ix (v:=vat ak 5 (Int.toNat (i3:Int))) rfl rfl (Sl.ix (α:=Rch) T25.und T25.size aI (by omega) (by omega)))<|t_q rfl (fun w' H=>x_ld (v:=.agg #[I ((s_Reaches.getD i3 default).up),I ((s_Reaches.getD i3 default).down),I ((s_Reaches.getD i3 default).lo),I ((s_Reaches.getD i3 default).hi),B ((s_Reaches.getD i3 default).narrow)]) rfl (ld_ag Ag58 Sz58 (At.mono (Rch_atA aI (i:=(i3:Int)) (by omega) (by omega)) (bx.at H)))) ?_;obtain ⟨dK,hM⟩:=M.e_gd hM;refine t_l2 rfl rfl ?_ ?_
  ·skip
   refine s_val (x_ld (v:=ao) rfl (ldb_sc Sc79 (H.bl 4) rfl)) ?_
   have dL:=Sl.cells (H.os 0)
   have dM:=Sl.oc (H.os 0)
   refine s_nil ⟨(H.pk [1,2,3,5,6]),?_⟩
   refine t_l rfl ?_;refine t_bs (α:=Rch) T79 [.agg #[I ((s_Reaches.getD i3 default).up),I ((s_Reaches.getD i3 default).down),I ((s_Reaches.getD i3 default).lo),I ((s_Reaches.getD i3 default).hi),B ((s_Reaches.getD i3 default).narrow)]] [(s_Reaches.getD i3 default)] H rfl (.cons rfl (Flat.rep_enc _ (s_Reaches.getD i3 default))<|.nil) rfl rfl rfl ?_;intro b5 dN H
   have dO:=Sl.cells (H.os 0)
   have dP:=Sl.oc (H.os 0)
   refine s_nil ⟨(H.pk [2,3,4,6,7]),?_⟩
   refine t_l rfl ?_;refine t_app (α:=Rch) (k:=1) (l:=av) (l2:=[(s_Reaches.getD i3 default)]) (l':=av++([(s_Reaches.getD i3 default)])) (vy:=b5) T79 rfl H rfl rfl rfl (H.os 0) (H.ol 0) (rfl) (by first | omega | (simp only [List.length_nil] at *; omega)) ?_;intro a6 dQ H;replace H:=H.nf
   have dR:=Sl.cells (H.os 1)
   have dS:=Sl.oc (H.os 1)
   refine s_nil ⟨(H.pk [2,3,4,6,7]),?_⟩
   refine t_q rfl (fun w' H=>x_fa (v:=Oq ag 2) rfl (fa_blk (o:=0) Fd81_2 Sz79))<|t_l rfl ?_;refine t_sw 5 2 [a6] a6 H rfl rfl Sz79 (Sl.cells (H.os 1)) rfl rfl (by simp only [List.all_cons,List.all_nil,Bool.true_and,Bool.and_true,Sl.oc (H.os 1)]; try rfl) ?_;intro dT H
   refine s_nil ⟨(H.pk [2,3,4,6,7]),?_⟩
   refine t_nil<|W.region rfl<|zM (I (i3:Int)) rfl<|zR (i3:Int) 1 ((i3:Int)+1) rfl rfl rfl (by omega)<|zA (I ((i3:Int)+1)) rfl<|s_nil ?_
   exact ⟨bu,bv,i3+1,av++([(s_Reaches.getD i3 default)]),a6,_,upds_of _ _ ⟨rfl,rfl,rfl,rfl,trivial⟩,M.e_inl hM aZ,(H.pk [1,2,3,4,5,6,7])⟩
  skip
  refine t_bs (α:=Rch) T79 [.agg #[I ((s_Reaches.getD i3 default).up),I ((s_Reaches.getD i3 default).down),I ((s_Reaches.getD i3 default).lo),I ((s_Reaches.getD i3 default).hi),B ((s_Reaches.getD i3 default).narrow)]] [(s_Reaches.getD i3 default)] H rfl (.cons rfl (Flat.rep_enc _ (s_Reaches.getD i3 default))<|.nil) rfl rfl rfl ?_;intro b6 dU H
  have dV:=Sl.cells (H.os 0)
  have dW:=Sl.oc (H.os 0)
  have dX:=Sl.cells (H.os 1)
  have dY:=Sl.oc (H.os 1)
  refine s_nil ⟨(H.pk [2,3,4,6,7]),?_⟩
  refine t_l rfl<|s_val (x_ld (v:=ao) rfl (ldb_sc Sc79 (H.bl 5) rfl)) ?_
  refine s_nil ⟨(H.pk [2,3,4,6,7]),?_⟩
  refine t_l rfl ?_;refine t_app (α:=Rch) (k:=1) (l:=av) (l2:=[(s_Reaches.getD i3 default)]) (l':=av++([(s_Reaches.getD i3 default)])) (vy:=b6) T79 rfl H rfl rfl rfl (H.os 0) (H.ol 0) (rfl) (by first | omega | (simp only [List.length_nil] at *; omega)) ?_;intro a7 dZ H;replace H:=H.nf
  have d6:=Sl.cells (H.os 1)
  have d7:=Sl.oc (H.os 1)
  refine s_nil ⟨(H.pk [2,3,4,6,7]),?_⟩
  refine t_q rfl (fun w' H=>x_fa (v:=Oq ag 2) rfl (fa_blk (o:=0) Fd81_2 Sz79))<|t_l rfl ?_;refine t_sw 5 2 [a7] a7 H rfl rfl Sz79 (Sl.cells (H.os 1)) rfl rfl (by simp only [List.all_cons,List.all_nil,Bool.true_and,Bool.and_true,Sl.oc (H.os 1)]; try rfl) ?_;intro d8 H
  refine s_nil ⟨(H.pk [2,3,4,6,7]),?_⟩
  refine t_nil<|W.region rfl<|zM (I (i3:Int)) rfl<|zR (i3:Int) 1 ((i3:Int)+1) rfl rfl rfl (by omega)<|zA (I ((i3:Int)+1)) rfl<|s_nil ?_
  exact ⟨bu,bv,i3+1,av++([(s_Reaches.getD i3 default)]),a7,_,upds_of _ _ ⟨rfl,rfl,rfl,rfl,trivial⟩,M.e_inl hM aZ,(H.pk [1,2,3,4,5,6,7])⟩
 replace hM:=M.e_f hM aB
 replace aB:=dI aB
 refine W.exit ?_
 have b7:=M.e_inr hM aZ
 subst b7;replace hM:=b4;(try dsimp only at hM);refine W.seq<|W.region rfl<|s_val (x_ld (v:=.agg #[ab,ai,ao]) rfl (ldb_ag (ds:=[ab,ai,ao]) Ag81 Sz81 (H.bl 4) rfl rfl)) ?_;refine t_sw 5 0 [ab,ai,ao] (.agg #[ab,ai,ao]) H rfl rfl Sz81 rfl rfl rfl (by simp only [List.all_cons,List.all_nil,Bool.true_and,Bool.and_true,Sl.oc (rowSl rfl (H.get (k:=2) rfl) (roLe _ (H.get (k:=3) rfl)) aC),Sl.oc (H.os 1),Sl.oc (H.os 0)]; try rfl) ?_;intro d9 H;refine s_nil ?_;replace H:=H.pk [0,1,2,3,5];refine W.ret ?_
 have b8:=(H.bl 4)
 have b9:=M.e_pure hM
 exact ⟨_,(resE_of1 (v:=.agg #[ab,ai,ao]) rfl (.cell (v:=.agg #[ab,ai,ao]) rfl (run_loadVar_ag (ds:=[ab,ai,ao]) Ag81 Sz81 b8 rfl rfl)<|.nil)),⟨l4,l7,av,ab,am,B_l4,ai,ao,b9,rfl,(H.pk [2,3,1,0]),aC⟩⟩

def zad (n a b:Int):M Bool :=
  M.pure ((decide (n<a))||(decide (b<n)))
theorem zae {R:List Chunk}  (n:Int) (a:Int) (b:Int)  {r:Bool} (hM:(zad n a b).Ends r) (w:World) (H:St w w [] R):Ret Tryz.prog 82 #[I n,I a,I b] w fun v w'=>∃ (y0:Bool),y0=r/\v=B y0/\St w w' [] R:=by
 refine ret_of_W Tryz.func82 rfl rfl rfl<|W.seq<|W.region rfl<|zA (B false) rfl<|s_nil<|W.seq<|W.region rfl<|zM (I n) rfl<|zM (I a) rfl<|zC n a (decide (n<a)) rfl rfl rfl<|zM (B (decide (n<a))) rfl ?_;refine g_val (!(decide (n<a))) (gy_f rfl) (fun hg=>x_mv (v:=I n) rfl)<|g_val (!(decide (n<a))) (gy_f rfl) (fun hg=>x_mv (v:=I b) rfl)<|g_val (!(decide (n<a))) (gy_f rfl) (fun hg=>x_cmp (kd:=.i64) (r:=decide (b<n)) (gd_of hg (I n)) (gd_of hg (I b)) rfl)<|s_val (x_por (b:=decide (n<a)) (r:=decide (b<n)) rfl rfl (fun hb=>gd_of (c:=!(decide (n<a))) (by first | exact hb | (rw [hb]; rfl) | simp_all) (B (decide (b<n)))))<|zA (B ((decide (n<a))||(decide (b<n)))) rfl<|s_nil ?_;refine W.ret ?_
 have ab:=M.e_pure hM
 exact ⟨_,resE_tmp rfl,⟨((decide (n<a))||(decide (b<n))),ab,rfl,H⟩⟩

end Go.Proofs.YtlemgioaakecpaaGreat
end
section
set_option maxRecDepth 100000
set_option maxHeartbeats 16000000
namespace Go.Proofs.YtlemgioaakecpaaGreat
open Go Go.Nm
def zbW (s_Sections:List Sect):Nat->M (Nat ⊕ (Unit ⊕ Unit)):=fun i =>
  bif decide ((i:Int)<(s_Sections.length:Int)) then (
  M.grd (decide ((i:Int)<(s_Sections.length:Int))) <|
  M.bind (zad (((s_Sections.getD i default).rows).length:Int) 2 8) fun r5 =>
  bif r5 then (
  M.pure (.inr (.inl ())))
  else (
  M.pure (.inl (i+1))))
  else (
  M.pure (.inr (.inr ())))
def zbE (s_Sections:List Sect) (i2:Nat):Nat->M (Nat ⊕ (Unit ⊕ Unit)):=fun k =>
  bif decide ((k:Int)<(((s_Sections.getD i2 default).rows).length:Int)) then (
  M.grd (decide ((k:Int)<(((s_Sections.getD i2 default).rows).length:Int))) <|
  M.bind (zad ((((s_Sections.getD i2 default).rows).getD k default).stage) 0 2000) fun r7 =>
  M.bind (M.opt (!r7) (zad ((((s_Sections.getD i2 default).rows).getD k default).carry) 0 100000) false) fun r8 =>
  bif (r7||r8) then (
  M.pure (.inr (.inl ())))
  else (
  M.grd ((!(decide (0<(k:Int)))||(decide ((-9223372036854775808:Int)<=((k:Int)-1))&&decide (((k:Int)-1)<=(9223372036854775807:Int))))) <|
  M.grd ((!(decide (0<(k:Int)))||(decide ((0:Int)<=((k:Int)-1))&&decide (((k:Int)-1)<(((s_Sections.getD i2 default).rows).length:Int))))) <|
  M.grd ((!((decide (0<(k:Int)))&&!(decide (((((s_Sections.getD i2 default).rows).getD k default).stage)<=((((s_Sections.getD i2 default).rows).getD (Int.toNat ((k:Int)-1)) default).stage))))||(decide ((-9223372036854775808:Int)<=((k:Int)-1))&&decide (((k:Int)-1)<=(9223372036854775807:Int))))) <|
  M.grd ((!((decide (0<(k:Int)))&&!(decide (((((s_Sections.getD i2 default).rows).getD k default).stage)<=((((s_Sections.getD i2 default).rows).getD (Int.toNat ((k:Int)-1)) default).stage))))||(decide ((0:Int)<=((k:Int)-1))&&decide (((k:Int)-1)<(((s_Sections.getD i2 default).rows).length:Int))))) <|
  bif ((decide (0<(k:Int)))&&((decide (((((s_Sections.getD i2 default).rows).getD k default).stage)<=((((s_Sections.getD i2 default).rows).getD (Int.toNat ((k:Int)-1)) default).stage)))||(decide (((((s_Sections.getD i2 default).rows).getD k default).carry)<((((s_Sections.getD i2 default).rows).getD (Int.toNat ((k:Int)-1)) default).carry))))) then (
  M.pure (.inr (.inl ())))
  else (
  M.pure (.inl (k+1)))))
  else (
  M.pure (.inr (.inr ())))
def zby (s_Sections:List Sect):Nat->M (Nat ⊕ (Unit ⊕ Unit)):=fun i2 =>
  bif decide ((i2:Int)<(s_Sections.length:Int)) then (
  M.grd (decide ((i2:Int)<(s_Sections.length:Int))) <|
  M.bind (zad ((s_Sections.getD i2 default).place) 0 10000) fun r6 =>
  M.grd ((!((!r6)&&(decide (0<(i2:Int))))||(decide ((-9223372036854775808:Int)<=((i2:Int)-1))&&decide (((i2:Int)-1)<=(9223372036854775807:Int))))) <|
  M.grd ((!((!r6)&&(decide (0<(i2:Int))))||(decide ((0:Int)<=((i2:Int)-1))&&decide (((i2:Int)-1)<(s_Sections.length:Int))))) <|
  bif (r6||((decide (0<(i2:Int)))&&(decide (((s_Sections.getD i2 default).place)<=((s_Sections.getD (Int.toNat ((i2:Int)-1)) default).place))))) then (
  M.pure (.inr (.inl ())))
  else (
  M.bind (M.iter (zbE s_Sections i2) 0) fun x_=>match x_ with
  | (.inl (_:Unit))=>(
  M.pure (.inr (.inl ())))
  | (.inr (_:Unit))=>(
  M.pure (.inl (i2+1)))))
  else (
  M.pure (.inr (.inr ())))
def zbN (s_Marks:List Mrk):Nat->M (Nat ⊕ (Unit ⊕ Unit)):=fun i3 =>
  bif decide ((i3:Int)<(s_Marks.length:Int)) then (
  M.grd (decide ((i3:Int)<(s_Marks.length:Int))) <|
  M.bind (zad ((s_Marks.getD i3 default).place) 0 10000) fun r9 =>
  bif (((r9||(decide (((s_Marks.getD i3 default).lo)<0)))||(decide (2000<((s_Marks.getD i3 default).hi))))||(decide (((s_Marks.getD i3 default).hi)<((s_Marks.getD i3 default).lo)))) then (
  M.pure (.inr (.inl ())))
  else (
  M.pure (.inl (i3+1))))
  else (
  M.pure (.inr (.inr ())))
def zbx (s_Sections:List Sect) (s_Reaches:List Rch):Nat->M (Nat ⊕ (Unit ⊕ Unit)):=fun i4 =>
  bif decide ((i4:Int)<(s_Reaches.length:Int)) then (
  M.grd (decide ((i4:Int)<(s_Reaches.length:Int))) <|
  bif ((((((decide (((s_Reaches.getD i4 default).up)<0))||(decide (((s_Reaches.getD i4 default).down)<=((s_Reaches.getD i4 default).up))))||(decide ((s_Sections.length:Int)<=((s_Reaches.getD i4 default).down))))||(decide (((s_Reaches.getD i4 default).lo)<1)))||(decide (400<((s_Reaches.getD i4 default).hi))))||(decide (((s_Reaches.getD i4 default).hi)<((s_Reaches.getD i4 default).lo)))) then (
  M.pure (.inr (.inl ())))
  else (
  M.pure (.inl (i4+1))))
  else (
  M.pure (.inr (.inr ())))
def za6 (s_Sections:List Sect) (s_Marks:List Mrk) (s_Reaches:List Rch):M Int :=
  M.bind (zad (s_Sections.length:Int) 2 6) fun r2 =>
  M.bind (M.opt (!r2) (zad (s_Marks.length:Int) 1 16) false) fun r3 =>
  M.bind (M.opt (!(r2||r3)) (zad (s_Reaches.length:Int) 1 6) false) fun r4 =>
  bif ((r2||r3)||r4) then (
  M.pure 3)
  else (
  M.bind (M.iter (zbW s_Sections) 0) fun x_=>match x_ with
  | (.inl (_:Unit))=>(
  M.pure 3)
  | (.inr (_:Unit))=>(
  M.bind (M.iter (zby s_Sections) 0) fun x_=>match x_ with
  | (.inl (_:Unit))=>(
  M.pure 70)
  | (.inr (_:Unit))=>(
  M.bind (M.iter (zbN s_Marks) 0) fun x_=>match x_ with
  | (.inl (_:Unit))=>(
  M.pure 70)
  | (.inr (_:Unit))=>(
  M.bind (M.iter (zbx s_Sections s_Reaches) 0) fun x_=>match x_ with
  | (.inl (_:Unit))=>(
  M.pure 70)
  | (.inr (_:Unit))=>(
  M.pure 0)))))
theorem zdt {R:List Chunk} {bj:Cells} {aj:Value} {bm:Cells} {az:Value} {bn:Cells} {aA:Value} (s_Sections:List Sect) (s_Marks:List Mrk) (s_Reaches:List Rch) (aE:Reads R bj) (ay:Sl bj aj s_Sections) (bz:Reads R bm) (aM:Sl bm az s_Marks) (bA:Reads R bn) (aN:Sl bn aA s_Reaches) {r:Int} (hM:(za6 s_Sections s_Marks s_Reaches).Ends r) (w:World) (H:St w w [] R):Ret Tryz.prog 27 #[.agg #[aj,az,aA]] w fun v w'=>∃ (y0:Int),y0=r/\v=I y0/\St w w' [] R:=by
 refine ret_of_W Tryz.func27 rfl rfl rfl<|W.seq<|W.region rfl ?_;refine t_bx [aj,az,aA] H rfl ?_;intro ai co H;refine zA (I 0) rfl<|s_nil<|W.seq<|W.seq<|W.region rfl<|s_val (x_fa (v:=Pq ai) rfl (fa_blk (o:=0) Fd81_0 Sz77))<|s_val (x_ld (v:=aj) rfl (ldb_sc Sc77 (H.bl 0) rfl)) ?_
 have cp:=(ay).len_le
 refine s_val (x_lenS T77.und rfl ay) ?_;obtain ⟨cq,bB,hM⟩:=M.e_bind hM;refine s_call cf82 [I (s_Sections.length:Int),I 2,I 6] rfl (zae (s_Sections.length:Int) 2 6 bB _ (H.gt 1)) ?_
 rintro vq cr ⟨r2,rfl,hvq,aB⟩
 subst vq;(try dsimp only at hM);replace H:=H.bk aB;clear aB;refine zM (B r2) rfl<|g_val (!r2) (gy_f rfl) (fun hg=>x_fa (v:=Oq ai 1) rfl (fa_blk (o:=0) Fd81_1 Sz78))<|g_val (!r2) (gy_f rfl) (fun hg=>x_ld (v:=az) (gd_of hg (Oq ai 1)) (ldb_sc Sc78 (H.bl 0) rfl)) ?_
 have ct:=(aM).len_le
 refine g_val (!r2) (gy_f rfl) (fun hg=>x_lenS T78.und (gd_of hg (az)) aM) ?_;obtain ⟨r3,bC,hM⟩:=M.e_bind hM;refine t_gcall (!r2) (gy_f rfl) cf82 (B r3) (fun _=>[I (s_Marks.length:Int),I 1,I 16]) (fun hg=>lst3 (gd_of hg (I (s_Marks.length:Int))) rfl rfl) H (fun hg=>(zae (s_Marks.length:Int) 1 16 (M.e_opt bC hg) _ (H.give (A:=[]) rfl)).mono fun v_ w_ ⟨y_,av,aO,H_⟩=>by subst av; exact ⟨aO,H.via H_⟩) ?_;intro cu H;refine s_val (x_por (b:=r2) (r:=r3) rfl rfl (fun hb=>gd_of (c:=!r2) (by first | exact hb | (rw [hb]; rfl) | simp_all) (B r3)))<|zM (B (r2||r3)) rfl<|g_val (!(r2||r3)) (gy_f rfl) (fun hg=>x_fa (v:=Oq ai 2) rfl (fa_blk (o:=0) Fd81_2 Sz79))<|g_val (!(r2||r3)) (gy_f rfl) (fun hg=>x_ld (v:=aA) (gd_of hg (Oq ai 2)) (ldb_sc Sc79 (H.bl 0) rfl)) ?_
 have cv:=(aN).len_le
 refine g_val (!(r2||r3)) (gy_f rfl) (fun hg=>x_lenS T79.und (gd_of hg (aA)) aN) ?_;obtain ⟨r4,bD,hM⟩:=M.e_bind hM;refine t_gcall (!(r2||r3)) (gy_f rfl) cf82 (B r4) (fun _=>[I (s_Reaches.length:Int),I 1,I 6]) (fun hg=>lst3 (gd_of hg (I (s_Reaches.length:Int))) rfl rfl) H (fun hg=>(zae (s_Reaches.length:Int) 1 6 (M.e_opt bD hg) _ (H.give (A:=[]) rfl)).mono fun v_ w_ ⟨y_,av,aO,H_⟩=>by subst av; exact ⟨aO,H.via H_⟩) ?_;intro cw H;refine s_val (x_por (b:=(r2||r3)) (r:=r4) rfl rfl (fun hb=>gd_of (c:=!(r2||r3)) (by first | exact hb | (rw [hb]; rfl) | simp_all) (B r4)))<|s_nil ?_
 refine W.cond ((r2||r3)||r4) rfl (fun aU=>?_) (fun aU=>?_)
 ·replace hM:=M.e_t hM aU;refine W.seq<|W.region rfl<|zA (I 3) rfl<|s_nil ?_;refine W.ret ?_
  have av:=M.e_pure hM
  exact ⟨_,resE_tmp rfl,⟨3,av,rfl,(H.pk [])⟩⟩
 replace hM:=M.e_f hM aU;refine W.skip<|W.seq<|W.seq<|W.region rfl<|zA (I 0) rfl<|s_nil<|W.block ?_;obtain ⟨bE,aV,bo⟩:=M.e_bind hM
 obtain ⟨aR,aV⟩:=M.e_iter aV
 refine W.loop (fun m σ W=>∃ (i:Nat) (ρ:Env),σ=upds ρ [(1,Pq ai),(3,I (i:Int))]/\M.iterN (zbW s_Sections) m i=some bE/\St w W [cBlk ai [aj,az,aA] 81] R) ?_ ?_
 ·exact ⟨_,0,_,upds_of _ _ ⟨rfl,rfl,trivial⟩,aV,H⟩
 rintro cx σ cy ⟨i,ρ,rfl,bp,H⟩
 obtain ⟨bF,bG,cz,hM,aW⟩:=M.e_iterN bp
 simp only [zbW] at hM
 clear bp;refine W.seq<|W.seq<|W.region rfl<|zM (I (i:Int)) rfl<|s_val (x_fa (v:=Pq ai) rfl (fa_blk (o:=0) Fd81_0 Sz77))<|s_val (x_ld (v:=aj) rfl (ldb_sc Sc77 (H.bl 0) rfl)) ?_
 have cA:=(ay).len_le
 refine s_val (x_lenS T77.und rfl ay)<|zC (i:Int) (s_Sections.length:Int) (decide ((i:Int)<(s_Sections.length:Int))) rfl rfl rfl<|s_nil ?_
 refine W.cond (decide ((i:Int)<(s_Sections.length:Int))) rfl (fun aH=>?_) (fun aH=>?_)
 ·replace hM:=M.e_t hM aH
  replace aH:=dI aH
  refine W.skip<|W.seq<|W.block<|W.seq<|W.region rfl<|s_val (x_fa (v:=Pq ai) rfl (fa_blk (o:=0) Fd81_0 Sz77))<|s_val (x_ld (v:=aj) rfl (ldb_sc Sc77 (H.bl 0) rfl))<|zM (I (i:Int)) rfl ?_;obtain ⟨cB,hM⟩:=M.e_gd hM;refine s_val (x_ix (v:=vat aj 2 (Int.toNat (i:Int))) rfl rfl (Sl.ix (α:=Sect) T77.und T77.size ay (by omega) (by omega)))<|s_val (x_fa (v:=fat (vat aj 2 (Int.toNat (i:Int))) 1) rfl (fa_pl Fd148_1 Sz146 (Sl.pl (i:=(i:Int)) ay (by omega) (by omega)))) ?_
  obtain ⟨bq,bH,aP⟩:=Sect_at1 ay (i:=(i:Int)) (by omega) (by omega)
  replace aP:Sl _ bq (s_Sections.getD i default).rows:=aP
  have cC:=aP.len_le
  refine s_val (x_ld (v:=bq) rfl (ld_sc Sc146 (At.mono (bH) (aE.at H)))) ?_
  have cD:=(aP).len_le
  refine s_val (x_lenS T146.und rfl aP) ?_;obtain ⟨cE,bI,hM⟩:=M.e_bind hM;refine s_call cf82 [I (((s_Sections.getD i default).rows).length:Int),I 2,I 8] rfl (zae (((s_Sections.getD i default).rows).length:Int) 2 8 bI _ (H.gt 1)) ?_
  rintro vq cF ⟨r5,rfl,hvq,aB⟩
  subst vq;(try dsimp only at hM);replace H:=H.bk aB;clear aB;refine s_nil ?_
  refine W.cond r5 rfl (fun aX=>?_) (fun aX=>?_)
  ·replace hM:=M.e_t hM aX;refine W.seq<|W.region rfl<|zA (I 3) rfl<|s_nil ?_;refine W.ret ?_
   have bJ:=M.e_inr hM aW
   subst bJ;replace hM:=bo;(try dsimp only at hM)
   have av:=M.e_pure hM
   exact ⟨_,resE_tmp rfl,⟨3,av,rfl,(H.pk [])⟩⟩
  replace hM:=M.e_f hM aX;refine W.skip<|W.region rfl<|zM (I (i:Int)) rfl<|zR (i:Int) 1 ((i:Int)+1) rfl rfl rfl (by omega)<|zA (I ((i:Int)+1)) rfl<|s_nil ?_
  exact ⟨bF,bG,i+1,_,upds_of _ _ ⟨rfl,rfl,trivial⟩,M.e_inl hM aW,H⟩
 replace hM:=M.e_f hM aH
 replace aH:=dI aH
 refine W.exit ?_
 have bK:=M.e_inr hM aW
 subst bK;replace hM:=bo;(try dsimp only at hM);refine W.seq<|W.seq<|W.region rfl<|zA (I 0) rfl<|s_nil<|W.block ?_;obtain ⟨bL,aY,aS⟩:=M.e_bind hM
 obtain ⟨aR,aY⟩:=M.e_iter aY
 refine W.loop (fun m σ W=>∃ (i2:Nat) (ρ:Env),σ=upds ρ [(1,Pq ai),(4,I (i2:Int))]/\M.iterN (zby s_Sections) m i2=some bL/\St w W [cBlk ai [aj,az,aA] 81] R) ?_ ?_
 ·exact ⟨_,0,_,upds_of _ _ ⟨rfl,rfl,trivial⟩,aY,H⟩
 rintro cG σ cH ⟨i2,ρ,rfl,br,H⟩
 obtain ⟨bM,bN,cI,hM,aQ⟩:=M.e_iterN br
 simp only [zby] at hM
 clear br;refine W.seq<|W.seq<|W.region rfl<|zM (I (i2:Int)) rfl<|s_val (x_fa (v:=Pq ai) rfl (fa_blk (o:=0) Fd81_0 Sz77))<|s_val (x_ld (v:=aj) rfl (ldb_sc Sc77 (H.bl 0) rfl)) ?_
 have cJ:=(ay).len_le
 refine s_val (x_lenS T77.und rfl ay)<|zC (i2:Int) (s_Sections.length:Int) (decide ((i2:Int)<(s_Sections.length:Int))) rfl rfl rfl<|s_nil ?_
 refine W.cond (decide ((i2:Int)<(s_Sections.length:Int))) rfl (fun aI=>?_) (fun aI=>?_)
 ·replace hM:=M.e_t hM aI
  replace aI:=dI aI
  refine W.skip<|W.seq<|W.block<|W.seq<|W.region rfl<|s_val (x_fa (v:=Pq ai) rfl (fa_blk (o:=0) Fd81_0 Sz77))<|s_val (x_ld (v:=aj) rfl (ldb_sc Sc77 (H.bl 0) rfl))<|zM (I (i2:Int)) rfl ?_;obtain ⟨cK,hM⟩:=M.e_gd hM;refine s_val (x_ix (v:=vat aj 2 (Int.toNat (i2:Int))) rfl rfl (Sl.ix (α:=Sect) T77.und T77.size ay (by omega) (by omega))) ?_
  obtain ⟨ag,bO,am⟩:=Sect_atA ay (i:=(i2:Int)) (by omega) (by omega)
  replace am:Sl _ ag (s_Sections.getD i2 default).rows:=am
  have cL:=am.len_le
  refine s_val (x_ld (v:=.agg #[I ((s_Sections.getD i2 default).place),ag]) rfl (ld_ag Ag148 Sz148 (At.mono bO (aE.at H)))) ?_;refine t_alloc (cs:=[I 0,.slice none 0 0]) H Al148 rfl ?_;intro aw cM H;refine t_sw 0 0 [I ((s_Sections.getD i2 default).place),ag] (.agg #[I ((s_Sections.getD i2 default).place),ag]) H rfl rfl Sz148 rfl rfl rfl (by simp only [List.all_cons,List.all_nil,Bool.true_and,Bool.and_true,Sl.oc am]; try rfl) ?_;intro cN H;refine s_nil<|W.seq<|W.seq ?_;refine W.draw (fun W=>St w W [cBlk aw [I ((s_Sections.getD i2 default).place),ag] 148,cBlk ai [aj,az,aA] 81] R) [(0,true),(1,true),(2,false),(3,true),(4,true),(5,true),(6,true),(7,true),(8,true),(9,true),(10,true),(11,true),(12,true),(13,true),(14,true),(15,true),(16,true),(17,true),(18,true)] mixed (by decide +kernel) rfl ?_;intro cO ae;replace H:=H.ext ae;clear ae
  refine ⟨(H.pk [0,1]),?_⟩
  refine d_q rfl (fun w' H=>x_fa (v:=Pq aw) rfl (fa_blk (o:=0) Fd148_0 Sz3))<|d_q rfl (fun w' H=>x_ld (v:=I ((s_Sections.getD i2 default).place)) rfl (ldb_sc Sc3 (H.bl 0) rfl))<|d_l rfl ?_;obtain ⟨cP,bP,hM⟩:=M.e_bind hM;refine s_call cf82 [I ((s_Sections.getD i2 default).place),I 0,I 10000] rfl (zae ((s_Sections.getD i2 default).place) 0 10000 bP _ (H.gt 2)) ?_
  rintro vq cQ ⟨r6,rfl,hvq,aB⟩
  subst vq;(try dsimp only at hM);replace H:=H.bk aB;clear aB
  refine s_nil ⟨(H.pk [0,1]),?_⟩
  refine d_q rfl (fun w' H=>x_mv (v:=B r6) rfl)<|d_qg (!r6) rfl (gy_f rfl) (fun hg=>(fun w' H=>x_mv (v:=I (i2:Int)) rfl))<|d_qg (!r6) rfl (gy_f rfl) (fun hg=>(fun w' H=>x_cmp (kd:=.i64) (r:=decide (0<(i2:Int))) (gd_of hg (I (i2:Int))) rfl rfl))<|d_qg (!r6) rfl (gy_f rfl) (fun hg=>(fun w' H=>x_mv (v:=B (decide (0<(i2:Int)))) (gd_of hg (B (decide (0<(i2:Int)))))))<|d_qg ((!r6)&&(decide (0<(i2:Int)))) rfl (gy_gt rfl rfl) (fun hg=>(fun w' H=>x_fa (v:=Pq aw) rfl (fa_blk (o:=0) Fd148_0 Sz3)))<|d_qg ((!r6)&&(decide (0<(i2:Int)))) rfl (gy_gt rfl rfl) (fun hg=>(fun w' H=>x_ld (v:=I ((s_Sections.getD i2 default).place)) (gd_of hg (Pq aw)) (ldb_sc Sc3 (H.bl 0) rfl)))<|d_qg ((!r6)&&(decide (0<(i2:Int)))) rfl (gy_gt rfl rfl) (fun hg=>(fun w' H=>x_fa (v:=Pq ai) rfl (fa_blk (o:=0) Fd81_0 Sz77)))<|d_qg ((!r6)&&(decide (0<(i2:Int)))) rfl (gy_gt rfl rfl) (fun hg=>(fun w' H=>x_ld (v:=aj) (gd_of hg (Pq ai)) (ldb_sc Sc77 (H.bl 1) rfl)))<|d_qg ((!r6)&&(decide (0<(i2:Int)))) rfl (gy_gt rfl rfl) (fun hg=>(fun w' H=>x_mv (v:=I (i2:Int)) rfl)) ?_;obtain ⟨aC,hM⟩:=M.e_grd hM
  replace aC:=M.imp_of aC
  simp only [Bool.and_eq_true,decide_eq_true_eq] at aC
  refine d_qg ((!r6)&&(decide (0<(i2:Int)))) rfl (gy_gt rfl rfl) (fun hg=>(fun w' H=>x_ari (r:=(i2:Int)-1) (gd_of hg (I (i2:Int))) rfl rfl (by have ab:=aC.resolve_left (by rw [hg]; decide); first | exact ab | exact ab.1 | exact ab.2 | omega | (have ae:=hg; simp at ae; omega)))) ?_;obtain ⟨aF,hM⟩:=M.e_grd hM
  replace aF:=M.imp_of aF
  simp only [Bool.and_eq_true,decide_eq_true_eq] at aF
  refine d_qg ((!r6)&&(decide (0<(i2:Int)))) rfl (gy_gt rfl rfl) (fun hg=>(fun w' H=>x_ix (v:=vat aj 2 (Int.toNat ((i2:Int)-1))) (gd_of hg (aj)) (gd_of hg (I ((i2:Int)-1))) (Sl.ix (α:=Sect) T77.und T77.size ay (by have ab:=aC.resolve_left (by rw [hg]; decide); have ac:=aF.resolve_left (by rw [hg]; decide); first | exact ab | exact ab.1 | exact ab.2 | exact ac | exact ac.1 | exact ac.2 | omega | (have ae:=hg; simp at ae; omega)) (by have ab:=aC.resolve_left (by rw [hg]; decide); have ac:=aF.resolve_left (by rw [hg]; decide); first | exact ab | exact ab.1 | exact ab.2 | exact ac | exact ac.1 | exact ac.2 | omega | (have ae:=hg; simp at ae; omega)))))<|d_qg ((!r6)&&(decide (0<(i2:Int)))) rfl (gy_gt rfl rfl) (fun hg=>(fun w' H=>x_fa (v:=fat (vat aj 2 (Int.toNat ((i2:Int)-1))) 0) (gd_of hg (vat aj 2 (Int.toNat ((i2:Int)-1)))) (fa_pl Fd148_0 Sz3 (Sl.pl (i:=(i2:Int)-1) ay (by have ab:=aC.resolve_left (by rw [hg]; decide); have ac:=aF.resolve_left (by rw [hg]; decide); first | exact ab | exact ab.1 | exact ab.2 | exact ac | exact ac.1 | exact ac.2 | omega | (have ae:=hg; simp at ae; omega)) (by have ab:=aC.resolve_left (by rw [hg]; decide); have ac:=aF.resolve_left (by rw [hg]; decide); first | exact ab | exact ab.1 | exact ab.2 | exact ac | exact ac.1 | exact ac.2 | omega | (have ae:=hg; simp at ae; omega))))))<|d_qg ((!r6)&&(decide (0<(i2:Int)))) rfl (gy_gt rfl rfl) (fun hg=>(fun w' H=>x_ld (v:=I ((s_Sections.getD (Int.toNat ((i2:Int)-1)) default).place)) (gd_of hg (fat (vat aj 2 (Int.toNat ((i2:Int)-1))) 0)) (ld_sc Sc3 (At.mono (Sect_at0 ay (i:=(i2:Int)-1) (by have ab:=aC.resolve_left (by rw [hg]; decide); have ac:=aF.resolve_left (by rw [hg]; decide); first | exact ab | exact ab.1 | exact ab.2 | exact ac | exact ac.1 | exact ac.2 | omega | (have ae:=hg; simp at ae; omega)) (by have ab:=aC.resolve_left (by rw [hg]; decide); have ac:=aF.resolve_left (by rw [hg]; decide); first | exact ab | exact ab.1 | exact ab.2 | exact ac | exact ac.1 | exact ac.2 | omega | (have ae:=hg; simp at ae; omega))) (aE.at H)))))<|d_qg ((!r6)&&(decide (0<(i2:Int)))) rfl (gy_gt rfl rfl) (fun hg=>(fun w' H=>x_cmp (kd:=.i64) (r:=decide (((s_Sections.getD i2 default).place)<=((s_Sections.getD (Int.toNat ((i2:Int)-1)) default).place))) (gd_of hg (I ((s_Sections.getD i2 default).place))) (gd_of hg (I ((s_Sections.getD (Int.toNat ((i2:Int)-1)) default).place))) rfl))<|d_qg (!r6) rfl (gy_f rfl) (fun hg=>(fun w' H=>x_pand (b:=decide (0<(i2:Int))) (r:=decide (((s_Sections.getD i2 default).place)<=((s_Sections.getD (Int.toNat ((i2:Int)-1)) default).place))) (gd_of hg (B (decide (0<(i2:Int))))) (fun hb=>gd_of (c:=((!r6)&&(decide (0<(i2:Int))))) (by first | exact hb | (rw [hb]; rfl) | simp_all) (B (decide (((s_Sections.getD i2 default).place)<=((s_Sections.getD (Int.toNat ((i2:Int)-1)) default).place))))) rfl))<|d_q rfl (fun w' H=>x_por (b:=r6) (r:=((decide (0<(i2:Int)))&&(decide (((s_Sections.getD i2 default).place)<=((s_Sections.getD (Int.toNat ((i2:Int)-1)) default).place))))) rfl rfl (fun hb=>gd_of (c:=!r6) (by first | exact hb | (rw [hb]; rfl) | simp_all) (B ((decide (0<(i2:Int)))&&(decide (((s_Sections.getD i2 default).place)<=((s_Sections.getD (Int.toNat ((i2:Int)-1)) default).place))))))) ?_;refine d_nil ?_
  refine W.cond (r6||((decide (0<(i2:Int)))&&(decide (((s_Sections.getD i2 default).place)<=((s_Sections.getD (Int.toNat ((i2:Int)-1)) default).place))))) rfl (fun aZ=>?_) (fun aZ=>?_)
  ·replace hM:=M.e_t hM aZ;refine W.seq<|W.region rfl<|zA (I 70) rfl<|s_nil ?_;refine W.ret ?_
   have bQ:=M.e_inr hM aQ
   subst bQ;replace hM:=aS;(try dsimp only at hM)
   have av:=M.e_pure hM
   exact ⟨_,resE_tmp rfl,⟨70,av,rfl,(H.pk [])⟩⟩
  replace hM:=M.e_f hM aZ;refine W.skip<|W.seq<|W.region rfl<|zA (I 0) rfl<|s_nil<|W.block ?_;obtain ⟨bR,a6,a7⟩:=M.e_bind hM
  obtain ⟨aR,a6⟩:=M.e_iter a6
  refine W.loop (fun m σ W=>∃ (k:Nat) (ρ:Env),σ=upds ρ [(1,Pq ai),(4,I (i2:Int)),(5,Pq aw),(6,I (k:Int)),(58,gd (!r6) (I (i2:Int))),(59,gd (!r6) (B (decide (0<(i2:Int))))),(60,gd (!r6) (B (decide (0<(i2:Int))))),(61,gd ((!r6)&&(decide (0<(i2:Int)))) (Pq aw)),(62,gd ((!r6)&&(decide (0<(i2:Int)))) (I ((s_Sections.getD i2 default).place))),(63,gd ((!r6)&&(decide (0<(i2:Int)))) (Pq ai)),(64,gd ((!r6)&&(decide (0<(i2:Int)))) aj),(65,gd ((!r6)&&(decide (0<(i2:Int)))) (I (i2:Int))),(66,gd ((!r6)&&(decide (0<(i2:Int)))) (I ((i2:Int)-1))),(67,gd ((!r6)&&(decide (0<(i2:Int)))) (vat aj 2 (Int.toNat ((i2:Int)-1)))),(68,gd ((!r6)&&(decide (0<(i2:Int)))) (fat (vat aj 2 (Int.toNat ((i2:Int)-1))) 0)),(69,gd ((!r6)&&(decide (0<(i2:Int)))) (I ((s_Sections.getD (Int.toNat ((i2:Int)-1)) default).place))),(70,gd ((!r6)&&(decide (0<(i2:Int)))) (B (decide (((s_Sections.getD i2 default).place)<=((s_Sections.getD (Int.toNat ((i2:Int)-1)) default).place))))),(71,gd (!r6) (B ((decide (0<(i2:Int)))&&(decide (((s_Sections.getD i2 default).place)<=((s_Sections.getD (Int.toNat ((i2:Int)-1)) default).place))))))]/\M.iterN (zbE s_Sections i2) m k=some bR/\St w W [cBlk aw [I ((s_Sections.getD i2 default).place),ag] 148,cBlk ai [aj,az,aA] 81] R) ?_ ?_
  ·exact ⟨_,0,_,upds_of _ _ ⟨rfl,rfl,rfl,rfl,rfl,rfl,rfl,rfl,rfl,rfl,rfl,rfl,rfl,rfl,rfl,rfl,rfl,rfl,trivial⟩,a6,H⟩
  rintro cR σ cS ⟨k,ρ,rfl,bt,H⟩
  obtain ⟨bS,bT,cT,hM,aT⟩:=M.e_iterN bt
  simp only [zbE] at hM
  clear bt;refine W.seq<|W.seq<|W.region rfl<|zM (I (k:Int)) rfl<|s_val (x_fa (v:=Oq aw 1) rfl (fa_blk (o:=0) Fd148_1 Sz146))<|s_val (x_ld (v:=ag) rfl (ldb_sc Sc146 (H.bl 0) rfl)) ?_
  have cU:=(am).len_le
  refine s_val (x_lenS T146.und rfl am)<|zC (k:Int) (((s_Sections.getD i2 default).rows).length:Int) (decide ((k:Int)<(((s_Sections.getD i2 default).rows).length:Int))) rfl rfl rfl<|s_nil ?_
  refine W.cond (decide ((k:Int)<(((s_Sections.getD i2 default).rows).length:Int))) rfl (fun aJ=>?_) (fun aJ=>?_)
  ·replace hM:=M.e_t hM aJ
   replace aJ:=dI aJ
   refine W.skip<|W.seq<|W.block<|W.seq<|W.seq<|W.region rfl<|s_val (x_fa (v:=Oq aw 1) rfl (fa_blk (o:=0) Fd148_1 Sz146))<|s_val (x_ld (v:=ag) rfl (ldb_sc Sc146 (H.bl 0) rfl))<|zM (I (k:Int)) rfl ?_;obtain ⟨cV,hM⟩:=M.e_gd hM;refine s_val (x_ix (v:=vat ag 2 (Int.toNat (k:Int))) rfl rfl (Sl.ix (α:=FRow) T146.und T146.size am (by omega) (by omega)))<|s_val (x_fa (v:=fat (vat ag 2 (Int.toNat (k:Int))) 0) rfl (fa_pl Fd149_0 Sz3 (Sl.pl (i:=(k:Int)) am (by omega) (by omega))))<|s_val (x_ld (v:=I ((((s_Sections.getD i2 default).rows).getD k default).stage)) rfl (ld_sc Sc3 (At.mono (FRow_at0 am (i:=(k:Int)) (by omega) (by omega)) (aE.at H)))) ?_;obtain ⟨cW,bU,hM⟩:=M.e_bind hM;refine s_call cf82 [I ((((s_Sections.getD i2 default).rows).getD k default).stage),I 0,I 2000] rfl (zae ((((s_Sections.getD i2 default).rows).getD k default).stage) 0 2000 bU _ (H.gt 2)) ?_
   rintro vq cX ⟨r7,rfl,hvq,aB⟩
   subst vq;(try dsimp only at hM);replace H:=H.bk aB;clear aB;refine zM (B r7) rfl<|g_val (!r7) (gy_f rfl) (fun hg=>x_fa (v:=Oq aw 1) rfl (fa_blk (o:=0) Fd148_1 Sz146))<|g_val (!r7) (gy_f rfl) (fun hg=>x_ld (v:=ag) (gd_of hg (Oq aw 1)) (ldb_sc Sc146 (H.bl 0) rfl))<|g_val (!r7) (gy_f rfl) (fun hg=>x_mv (v:=I (k:Int)) rfl)<|g_val (!r7) (gy_f rfl) (fun hg=>x_ix (v:=vat ag 2 (Int.toNat (k:Int))) (gd_of hg (ag)) (gd_of hg (I (k:Int))) (Sl.ix (α:=FRow) T146.und T146.size am (by first | omega | (have ae:=hg; simp at ae; omega)) (by first | omega | (have ae:=hg; simp at ae; omega))))<|g_val (!r7) (gy_f rfl) (fun hg=>x_fa (v:=fat (vat ag 2 (Int.toNat (k:Int))) 1) (gd_of hg (vat ag 2 (Int.toNat (k:Int)))) (fa_pl Fd149_1 Sz3 (Sl.pl (i:=(k:Int)) am (by first | omega | (have ae:=hg; simp at ae; omega)) (by first | omega | (have ae:=hg; simp at ae; omega)))))<|g_val (!r7) (gy_f rfl) (fun hg=>x_ld (v:=I ((((s_Sections.getD i2 default).rows).getD k default).carry)) (gd_of hg (fat (vat ag 2 (Int.toNat (k:Int))) 1)) (ld_sc Sc3 (At.mono (FRow_at1 am (i:=(k:Int)) (by first | omega | (have ae:=hg; simp at ae; omega)) (by first | omega | (have ae:=hg; simp at ae; omega))) (aE.at H)))) ?_;obtain ⟨r8,bV,hM⟩:=M.e_bind hM;refine t_gcall (!r7) (gy_f rfl) cf82 (B r8) (fun _=>[I ((((s_Sections.getD i2 default).rows).getD k default).carry),I 0,I 100000]) (fun hg=>lst3 (gd_of hg (I ((((s_Sections.getD i2 default).rows).getD k default).carry))) rfl rfl) H (fun hg=>(zae ((((s_Sections.getD i2 default).rows).getD k default).carry) 0 100000 (M.e_opt bV hg) _ (H.give (A:=[]) rfl)).mono fun v_ w_ ⟨y_,av,aO,H_⟩=>by subst av; exact ⟨aO,H.via H_⟩) ?_;intro cY H;refine s_val (x_por (b:=r7) (r:=r8) rfl rfl (fun hb=>gd_of (c:=!r7) (by first | exact hb | (rw [hb]; rfl) | simp_all) (B r8)))<|s_nil ?_
   refine W.cond (r7||r8) rfl (fun a8=>?_) (fun a8=>?_)
   ·replace hM:=M.e_t hM a8;refine W.seq<|W.region rfl<|zA (I 70) rfl<|s_nil ?_;refine W.ret ?_
    have bW:=M.e_inr hM aT
    subst bW;replace hM:=a7;(try dsimp only at hM)
    have bX:=M.e_inr hM aQ
    subst bX;replace hM:=aS;(try dsimp only at hM)
    have av:=M.e_pure hM
    exact ⟨_,resE_tmp rfl,⟨70,av,rfl,(H.pk [])⟩⟩
   replace hM:=M.e_f hM a8;refine W.skip<|W.seq ?_;refine W.draw (fun W=>St w W [cBlk aw [I ((s_Sections.getD i2 default).place),ag] 148,cBlk ai [aj,az,aA] 81] R) [(0,true),(1,true),(2,true),(3,true),(4,true),(5,true),(6,true),(7,true),(8,true),(9,true),(10,true),(11,true),(12,true),(13,true),(14,true),(15,true),(16,true),(17,true),(18,true),(19,true),(20,true),(21,true),(22,true),(23,true),(24,true),(25,true),(26,true),(27,true),(28,true),(29,true),(30,true),(31,true),(32,true),(33,true)] mixed (by decide +kernel) rfl ?_;intro cZ ae;replace H:=H.ext ae;clear ae
   refine ⟨(H.pk [0,1]),?_⟩
   refine d_q rfl (fun w' H=>x_mv (v:=I (k:Int)) rfl)<|d_q rfl (fun w' H=>x_cmp (kd:=.i64) (r:=decide (0<(k:Int))) rfl rfl rfl)<|d_q rfl (fun w' H=>x_mv (v:=B (decide (0<(k:Int)))) rfl)<|d_qg (decide (0<(k:Int))) rfl (gy_t rfl) (fun hg=>(fun w' H=>x_fa (v:=Oq aw 1) rfl (fa_blk (o:=0) Fd148_1 Sz146)))<|d_qg (decide (0<(k:Int))) rfl (gy_t rfl) (fun hg=>(fun w' H=>x_ld (v:=ag) (gd_of hg (Oq aw 1)) (ldb_sc Sc146 (H.bl 0) rfl)))<|d_qg (decide (0<(k:Int))) rfl (gy_t rfl) (fun hg=>(fun w' H=>x_mv (v:=I (k:Int)) rfl))<|d_qg (decide (0<(k:Int))) rfl (gy_t rfl) (fun hg=>(fun w' H=>x_ix (v:=vat ag 2 (Int.toNat (k:Int))) (gd_of hg (ag)) (gd_of hg (I (k:Int))) (Sl.ix (α:=FRow) T146.und T146.size am (by first | omega | (have ae:=hg; simp at ae; omega)) (by first | omega | (have ae:=hg; simp at ae; omega)))))<|d_qg (decide (0<(k:Int))) rfl (gy_t rfl) (fun hg=>(fun w' H=>x_fa (v:=fat (vat ag 2 (Int.toNat (k:Int))) 0) (gd_of hg (vat ag 2 (Int.toNat (k:Int)))) (fa_pl Fd149_0 Sz3 (Sl.pl (i:=(k:Int)) am (by first | omega | (have ae:=hg; simp at ae; omega)) (by first | omega | (have ae:=hg; simp at ae; omega))))))<|d_qg (decide (0<(k:Int))) rfl (gy_t rfl) (fun hg=>(fun w' H=>x_ld (v:=I ((((s_Sections.getD i2 default).rows).getD k default).stage)) (gd_of hg (fat (vat ag 2 (Int.toNat (k:Int))) 0)) (ld_sc Sc3 (At.mono (FRow_at0 am (i:=(k:Int)) (by first | omega | (have ae:=hg; simp at ae; omega)) (by first | omega | (have ae:=hg; simp at ae; omega))) (aE.at H)))))<|d_qg (decide (0<(k:Int))) rfl (gy_t rfl) (fun hg=>(fun w' H=>x_fa (v:=Oq aw 1) rfl (fa_blk (o:=0) Fd148_1 Sz146))) ?_;refine d_qg (decide (0<(k:Int))) rfl (gy_t rfl) (fun hg=>(fun w' H=>x_ld (v:=ag) (gd_of hg (Oq aw 1)) (ldb_sc Sc146 (H.bl 0) rfl)))<|d_qg (decide (0<(k:Int))) rfl (gy_t rfl) (fun hg=>(fun w' H=>x_mv (v:=I (k:Int)) rfl)) ?_;obtain ⟨ao,hM⟩:=M.e_grd hM
   replace ao:=M.imp_of ao
   simp only [Bool.and_eq_true,decide_eq_true_eq] at ao
   refine d_qg (decide (0<(k:Int))) rfl (gy_t rfl) (fun hg=>(fun w' H=>x_ari (r:=(k:Int)-1) (gd_of hg (I (k:Int))) rfl rfl (by have ab:=ao.resolve_left (by rw [hg]; decide); first | exact ab | exact ab.1 | exact ab.2 | omega | (have ae:=hg; simp at ae; omega)))) ?_;obtain ⟨au,hM⟩:=M.e_grd hM
   replace au:=M.imp_of au
   simp only [Bool.and_eq_true,decide_eq_true_eq] at au
   refine d_qg (decide (0<(k:Int))) rfl (gy_t rfl) (fun hg=>(fun w' H=>x_ix (v:=vat ag 2 (Int.toNat ((k:Int)-1))) (gd_of hg (ag)) (gd_of hg (I ((k:Int)-1))) (Sl.ix (α:=FRow) T146.und T146.size am (by have ab:=ao.resolve_left (by rw [hg]; decide); have ac:=au.resolve_left (by rw [hg]; decide); first | exact ab | exact ab.1 | exact ab.2 | exact ac | exact ac.1 | exact ac.2 | omega | (have ae:=hg; simp at ae; omega)) (by have ab:=ao.resolve_left (by rw [hg]; decide); have ac:=au.resolve_left (by rw [hg]; decide); first | exact ab | exact ab.1 | exact ab.2 | exact ac | exact ac.1 | exact ac.2 | omega | (have ae:=hg; simp at ae; omega)))))<|d_qg (decide (0<(k:Int))) rfl (gy_t rfl) (fun hg=>(fun w' H=>x_fa (v:=fat (vat ag 2 (Int.toNat ((k:Int)-1))) 0) (gd_of hg (vat ag 2 (Int.toNat ((k:Int)-1)))) (fa_pl Fd149_0 Sz3 (Sl.pl (i:=(k:Int)-1) am (by have ab:=ao.resolve_left (by rw [hg]; decide); have ac:=au.resolve_left (by rw [hg]; decide); first | exact ab | exact ab.1 | exact ab.2 | exact ac | exact ac.1 | exact ac.2 | omega | (have ae:=hg; simp at ae; omega)) (by have ab:=ao.resolve_left (by rw [hg]; decide); have ac:=au.resolve_left (by rw [hg]; decide); first | exact ab | exact ab.1 | exact ab.2 | exact ac | exact ac.1 | exact ac.2 | omega | (have ae:=hg; simp at ae; omega))))))<|d_qg (decide (0<(k:Int))) rfl (gy_t rfl) (fun hg=>(fun w' H=>x_ld (v:=I ((((s_Sections.getD i2 default).rows).getD (Int.toNat ((k:Int)-1)) default).stage)) (gd_of hg (fat (vat ag 2 (Int.toNat ((k:Int)-1))) 0)) (ld_sc Sc3 (At.mono (FRow_at0 am (i:=(k:Int)-1) (by have ab:=ao.resolve_left (by rw [hg]; decide); have ac:=au.resolve_left (by rw [hg]; decide); first | exact ab | exact ab.1 | exact ab.2 | exact ac | exact ac.1 | exact ac.2 | omega | (have ae:=hg; simp at ae; omega)) (by have ab:=ao.resolve_left (by rw [hg]; decide); have ac:=au.resolve_left (by rw [hg]; decide); first | exact ab | exact ab.1 | exact ab.2 | exact ac | exact ac.1 | exact ac.2 | omega | (have ae:=hg; simp at ae; omega))) (aE.at H)))))<|d_qg (decide (0<(k:Int))) rfl (gy_t rfl) (fun hg=>(fun w' H=>x_cmp (kd:=.i64) (r:=decide (((((s_Sections.getD i2 default).rows).getD k default).stage)<=((((s_Sections.getD i2 default).rows).getD (Int.toNat ((k:Int)-1)) default).stage))) (gd_of hg (I ((((s_Sections.getD i2 default).rows).getD k default).stage))) (gd_of hg (I ((((s_Sections.getD i2 default).rows).getD (Int.toNat ((k:Int)-1)) default).stage))) rfl))<|d_qg (decide (0<(k:Int))) rfl (gy_t rfl) (fun hg=>(fun w' H=>x_mv (v:=B (decide (((((s_Sections.getD i2 default).rows).getD k default).stage)<=((((s_Sections.getD i2 default).rows).getD (Int.toNat ((k:Int)-1)) default).stage)))) (gd_of hg (B (decide (((((s_Sections.getD i2 default).rows).getD k default).stage)<=((((s_Sections.getD i2 default).rows).getD (Int.toNat ((k:Int)-1)) default).stage)))))))<|d_qg ((decide (0<(k:Int)))&&!(decide (((((s_Sections.getD i2 default).rows).getD k default).stage)<=((((s_Sections.getD i2 default).rows).getD (Int.toNat ((k:Int)-1)) default).stage)))) rfl (gy_gf rfl rfl) (fun hg=>(fun w' H=>x_fa (v:=Oq aw 1) rfl (fa_blk (o:=0) Fd148_1 Sz146)))<|d_qg ((decide (0<(k:Int)))&&!(decide (((((s_Sections.getD i2 default).rows).getD k default).stage)<=((((s_Sections.getD i2 default).rows).getD (Int.toNat ((k:Int)-1)) default).stage)))) rfl (gy_gf rfl rfl) (fun hg=>(fun w' H=>x_ld (v:=ag) (gd_of hg (Oq aw 1)) (ldb_sc Sc146 (H.bl 0) rfl)))<|d_qg ((decide (0<(k:Int)))&&!(decide (((((s_Sections.getD i2 default).rows).getD k default).stage)<=((((s_Sections.getD i2 default).rows).getD (Int.toNat ((k:Int)-1)) default).stage)))) rfl (gy_gf rfl rfl) (fun hg=>(fun w' H=>x_mv (v:=I (k:Int)) rfl))<|d_qg ((decide (0<(k:Int)))&&!(decide (((((s_Sections.getD i2 default).rows).getD k default).stage)<=((((s_Sections.getD i2 default).rows).getD (Int.toNat ((k:Int)-1)) default).stage)))) rfl (gy_gf rfl rfl) (fun hg=>(fun w' H=>x_ix (v:=vat ag 2 (Int.toNat (k:Int))) (gd_of hg (ag)) (gd_of hg (I (k:Int))) (Sl.ix (α:=FRow) T146.und T146.size am (by have ab:=ao.resolve_left (by rw [(Eq.mp (Bool.and_eq_true _ _) hg).1]; decide); have ac:=au.resolve_left (by rw [(Eq.mp (Bool.and_eq_true _ _) hg).1]; decide); first | exact ab | exact ab.1 | exact ab.2 | exact ac | exact ac.1 | exact ac.2 | omega | (have ae:=hg; simp at ae; omega)) (by have ab:=ao.resolve_left (by rw [(Eq.mp (Bool.and_eq_true _ _) hg).1]; decide); have ac:=au.resolve_left (by rw [(Eq.mp (Bool.and_eq_true _ _) hg).1]; decide); first | exact ab | exact ab.1 | exact ab.2 | exact ac | exact ac.1 | exact ac.2 | omega | (have ae:=hg; simp at ae; omega)))))<|d_qg ((decide (0<(k:Int)))&&!(decide (((((s_Sections.getD i2 default).rows).getD k default).stage)<=((((s_Sections.getD i2 default).rows).getD (Int.toNat ((k:Int)-1)) default).stage)))) rfl (gy_gf rfl rfl) (fun hg=>(fun w' H=>x_fa (v:=fat (vat ag 2 (Int.toNat (k:Int))) 1) (gd_of hg (vat ag 2 (Int.toNat (k:Int)))) (fa_pl Fd149_1 Sz3 (Sl.pl (i:=(k:Int)) am (by have ab:=ao.resolve_left (by rw [(Eq.mp (Bool.and_eq_true _ _) hg).1]; decide); have ac:=au.resolve_left (by rw [(Eq.mp (Bool.and_eq_true _ _) hg).1]; decide); first | exact ab | exact ab.1 | exact ab.2 | exact ac | exact ac.1 | exact ac.2 | omega | (have ae:=hg; simp at ae; omega)) (by have ab:=ao.resolve_left (by rw [(Eq.mp (Bool.and_eq_true _ _) hg).1]; decide); have ac:=au.resolve_left (by rw [(Eq.mp (Bool.and_eq_true _ _) hg).1]; decide); first | exact ab | exact ab.1 | exact ab.2 | exact ac | exact ac.1 | exact ac.2 | omega | (have ae:=hg; simp at ae; omega)))))) ?_;refine d_qg ((decide (0<(k:Int)))&&!(decide (((((s_Sections.getD i2 default).rows).getD k default).stage)<=((((s_Sections.getD i2 default).rows).getD (Int.toNat ((k:Int)-1)) default).stage)))) rfl (gy_gf rfl rfl) (fun hg=>(fun w' H=>x_ld (v:=I ((((s_Sections.getD i2 default).rows).getD k default).carry)) (gd_of hg (fat (vat ag 2 (Int.toNat (k:Int))) 1)) (ld_sc Sc3 (At.mono (FRow_at1 am (i:=(k:Int)) (by have ab:=ao.resolve_left (by rw [(Eq.mp (Bool.and_eq_true _ _) hg).1]; decide); have ac:=au.resolve_left (by rw [(Eq.mp (Bool.and_eq_true _ _) hg).1]; decide); first | exact ab | exact ab.1 | exact ab.2 | exact ac | exact ac.1 | exact ac.2 | omega | (have ae:=hg; simp at ae; omega)) (by have ab:=ao.resolve_left (by rw [(Eq.mp (Bool.and_eq_true _ _) hg).1]; decide); have ac:=au.resolve_left (by rw [(Eq.mp (Bool.and_eq_true _ _) hg).1]; decide); first | exact ab | exact ab.1 | exact ab.2 | exact ac | exact ac.1 | exact ac.2 | omega | (have ae:=hg; simp at ae; omega))) (aE.at H)))))<|d_qg ((decide (0<(k:Int)))&&!(decide (((((s_Sections.getD i2 default).rows).getD k default).stage)<=((((s_Sections.getD i2 default).rows).getD (Int.toNat ((k:Int)-1)) default).stage)))) rfl (gy_gf rfl rfl) (fun hg=>(fun w' H=>x_fa (v:=Oq aw 1) rfl (fa_blk (o:=0) Fd148_1 Sz146)))<|d_qg ((decide (0<(k:Int)))&&!(decide (((((s_Sections.getD i2 default).rows).getD k default).stage)<=((((s_Sections.getD i2 default).rows).getD (Int.toNat ((k:Int)-1)) default).stage)))) rfl (gy_gf rfl rfl) (fun hg=>(fun w' H=>x_ld (v:=ag) (gd_of hg (Oq aw 1)) (ldb_sc Sc146 (H.bl 0) rfl)))<|d_qg ((decide (0<(k:Int)))&&!(decide (((((s_Sections.getD i2 default).rows).getD k default).stage)<=((((s_Sections.getD i2 default).rows).getD (Int.toNat ((k:Int)-1)) default).stage)))) rfl (gy_gf rfl rfl) (fun hg=>(fun w' H=>x_mv (v:=I (k:Int)) rfl)) ?_;obtain ⟨aD,hM⟩:=M.e_grd hM
   replace aD:=M.imp_of aD
   simp only [Bool.and_eq_true,decide_eq_true_eq] at aD
   refine d_qg ((decide (0<(k:Int)))&&!(decide (((((s_Sections.getD i2 default).rows).getD k default).stage)<=((((s_Sections.getD i2 default).rows).getD (Int.toNat ((k:Int)-1)) default).stage)))) rfl (gy_gf rfl rfl) (fun hg=>(fun w' H=>x_ari (r:=(k:Int)-1) (gd_of hg (I (k:Int))) rfl rfl (by have ab:=aD.resolve_left (by rw [hg]; decide); have ac:=ao.resolve_left (by rw [(Eq.mp (Bool.and_eq_true _ _) hg).1]; decide); have ak:=au.resolve_left (by rw [(Eq.mp (Bool.and_eq_true _ _) hg).1]; decide); first | exact ab | exact ab.1 | exact ab.2 | exact ac | exact ac.1 | exact ac.2 | exact ak | exact ak.1 | exact ak.2 | omega | (have ae:=hg; simp at ae; omega)))) ?_;obtain ⟨aG,hM⟩:=M.e_grd hM
   replace aG:=M.imp_of aG
   simp only [Bool.and_eq_true,decide_eq_true_eq] at aG
   refine d_qg ((decide (0<(k:Int)))&&!(decide (((((s_Sections.getD i2 default).rows).getD k default).stage)<=((((s_Sections.getD i2 default).rows).getD (Int.toNat ((k:Int)-1)) default).stage)))) rfl (gy_gf rfl rfl) (fun hg=>(fun w' H=>x_ix (v:=vat ag 2 (Int.toNat ((k:Int)-1))) (gd_of hg (ag)) (gd_of hg (I ((k:Int)-1))) (Sl.ix (α:=FRow) T146.und T146.size am (by have ab:=aD.resolve_left (by rw [hg]; decide); have ac:=aG.resolve_left (by rw [hg]; decide); have ak:=ao.resolve_left (by rw [(Eq.mp (Bool.and_eq_true _ _) hg).1]; decide); have ap:=au.resolve_left (by rw [(Eq.mp (Bool.and_eq_true _ _) hg).1]; decide); first | exact ab | exact ab.1 | exact ab.2 | exact ac | exact ac.1 | exact ac.2 | exact ak | exact ak.1 | exact ak.2 | exact ap | exact ap.1 | exact ap.2 | omega | (have ae:=hg; simp at ae; omega)) (by have ab:=aD.resolve_left (by rw [hg]; decide); have ac:=aG.resolve_left (by rw [hg]; decide); have ak:=ao.resolve_left (by rw [(Eq.mp (Bool.and_eq_true _ _) hg).1]; decide); have ap:=au.resolve_left (by rw [(Eq.mp (Bool.and_eq_true _ _) hg).1]; decide); first | exact ab | exact ab.1 | exact ab.2 | exact ac | exact ac.1 | exact ac.2 | exact ak | exact ak.1 | exact ak.2 | exact ap | exact ap.1 | exact ap.2 | omega | (have ae:=hg; simp at ae; omega)))))<|d_qg ((decide (0<(k:Int)))&&!(decide (((((s_Sections.getD i2 default).rows).getD k default).stage)<=((((s_Sections.getD i2 default).rows).getD (Int.toNat ((k:Int)-1)) default).stage)))) rfl (gy_gf rfl rfl) (fun hg=>(fun w' H=>x_fa (v:=fat (vat ag 2 (Int.toNat ((k:Int)-1))) 1) (gd_of hg (vat ag 2 (Int.toNat ((k:Int)-1)))) (fa_pl Fd149_1 Sz3 (Sl.pl (i:=(k:Int)-1) am (by have ab:=aD.resolve_left (by rw [hg]; decide); have ac:=aG.resolve_left (by rw [hg]; decide); have ak:=ao.resolve_left (by rw [(Eq.mp (Bool.and_eq_true _ _) hg).1]; decide); have ap:=au.resolve_left (by rw [(Eq.mp (Bool.and_eq_true _ _) hg).1]; decide); first | exact ab | exact ab.1 | exact ab.2 | exact ac | exact ac.1 | exact ac.2 | exact ak | exact ak.1 | exact ak.2 | exact ap | exact ap.1 | exact ap.2 | omega | (have ae:=hg; simp at ae; omega)) (by have ab:=aD.resolve_left (by rw [hg]; decide); have ac:=aG.resolve_left (by rw [hg]; decide); have ak:=ao.resolve_left (by rw [(Eq.mp (Bool.and_eq_true _ _) hg).1]; decide); have ap:=au.resolve_left (by rw [(Eq.mp (Bool.and_eq_true _ _) hg).1]; decide); first | exact ab | exact ab.1 | exact ab.2 | exact ac | exact ac.1 | exact ac.2 | exact ak | exact ak.1 | exact ak.2 | exact ap | exact ap.1 | exact ap.2 | omega | (have ae:=hg; simp at ae; omega))))))<|d_qg ((decide (0<(k:Int)))&&!(decide (((((s_Sections.getD i2 default).rows).getD k default).stage)<=((((s_Sections.getD i2 default).rows).getD (Int.toNat ((k:Int)-1)) default).stage)))) rfl (gy_gf rfl rfl) (fun hg=>(fun w' H=>x_ld (v:=I ((((s_Sections.getD i2 default).rows).getD (Int.toNat ((k:Int)-1)) default).carry)) (gd_of hg (fat (vat ag 2 (Int.toNat ((k:Int)-1))) 1)) (ld_sc Sc3 (At.mono (FRow_at1 am (i:=(k:Int)-1) (by have ab:=aD.resolve_left (by rw [hg]; decide); have ac:=aG.resolve_left (by rw [hg]; decide); have ak:=ao.resolve_left (by rw [(Eq.mp (Bool.and_eq_true _ _) hg).1]; decide); have ap:=au.resolve_left (by rw [(Eq.mp (Bool.and_eq_true _ _) hg).1]; decide); first | exact ab | exact ab.1 | exact ab.2 | exact ac | exact ac.1 | exact ac.2 | exact ak | exact ak.1 | exact ak.2 | exact ap | exact ap.1 | exact ap.2 | omega | (have ae:=hg; simp at ae; omega)) (by have ab:=aD.resolve_left (by rw [hg]; decide); have ac:=aG.resolve_left (by rw [hg]; decide); have ak:=ao.resolve_left (by rw [(Eq.mp (Bool.and_eq_true _ _) hg).1]; decide); have ap:=au.resolve_left (by rw [(Eq.mp (Bool.and_eq_true _ _) hg).1]; decide); first | exact ab | exact ab.1 | exact ab.2 | exact ac | exact ac.1 | exact ac.2 | exact ak | exact ak.1 | exact ak.2 | exact ap | exact ap.1 | exact ap.2 | omega | (have ae:=hg; simp at ae; omega))) (aE.at H)))))<|d_qg ((decide (0<(k:Int)))&&!(decide (((((s_Sections.getD i2 default).rows).getD k default).stage)<=((((s_Sections.getD i2 default).rows).getD (Int.toNat ((k:Int)-1)) default).stage)))) rfl (gy_gf rfl rfl) (fun hg=>(fun w' H=>x_cmp (kd:=.i64) (r:=decide (((((s_Sections.getD i2 default).rows).getD k default).carry)<((((s_Sections.getD i2 default).rows).getD (Int.toNat ((k:Int)-1)) default).carry))) (gd_of hg (I ((((s_Sections.getD i2 default).rows).getD k default).carry))) (gd_of hg (I ((((s_Sections.getD i2 default).rows).getD (Int.toNat ((k:Int)-1)) default).carry))) rfl))<|d_qg (decide (0<(k:Int))) rfl (gy_t rfl) (fun hg=>(fun w' H=>x_por (b:=decide (((((s_Sections.getD i2 default).rows).getD k default).stage)<=((((s_Sections.getD i2 default).rows).getD (Int.toNat ((k:Int)-1)) default).stage))) (r:=decide (((((s_Sections.getD i2 default).rows).getD k default).carry)<((((s_Sections.getD i2 default).rows).getD (Int.toNat ((k:Int)-1)) default).carry))) (gd_of hg (B (decide (((((s_Sections.getD i2 default).rows).getD k default).stage)<=((((s_Sections.getD i2 default).rows).getD (Int.toNat ((k:Int)-1)) default).stage))))) rfl (fun hb=>gd_of (c:=((decide (0<(k:Int)))&&!(decide (((((s_Sections.getD i2 default).rows).getD k default).stage)<=((((s_Sections.getD i2 default).rows).getD (Int.toNat ((k:Int)-1)) default).stage))))) (by first | exact hb | (rw [hb]; rfl) | simp_all) (B (decide (((((s_Sections.getD i2 default).rows).getD k default).carry)<((((s_Sections.getD i2 default).rows).getD (Int.toNat ((k:Int)-1)) default).carry)))))))<|d_q rfl (fun w' H=>x_pand (b:=decide (0<(k:Int))) (r:=((decide (((((s_Sections.getD i2 default).rows).getD k default).stage)<=((((s_Sections.getD i2 default).rows).getD (Int.toNat ((k:Int)-1)) default).stage)))||(decide (((((s_Sections.getD i2 default).rows).getD k default).carry)<((((s_Sections.getD i2 default).rows).getD (Int.toNat ((k:Int)-1)) default).carry))))) rfl (fun hb=>gd_of (c:=decide (0<(k:Int))) (by first | exact hb | (rw [hb]; rfl) | simp_all) (B ((decide (((((s_Sections.getD i2 default).rows).getD k default).stage)<=((((s_Sections.getD i2 default).rows).getD (Int.toNat ((k:Int)-1)) default).stage)))||(decide (((((s_Sections.getD i2 default).rows).getD k default).carry)<((((s_Sections.getD i2 default).rows).getD (Int.toNat ((k:Int)-1)) default).carry)))))) rfl) ?_;refine d_nil ?_
   refine W.cond ((decide (0<(k:Int)))&&((decide (((((s_Sections.getD i2 default).rows).getD k default).stage)<=((((s_Sections.getD i2 default).rows).getD (Int.toNat ((k:Int)-1)) default).stage)))||(decide (((((s_Sections.getD i2 default).rows).getD k default).carry)<((((s_Sections.getD i2 default).rows).getD (Int.toNat ((k:Int)-1)) default).carry))))) rfl (fun ba=>?_) (fun ba=>?_)
   ·replace hM:=M.e_t hM ba;refine W.seq<|W.region rfl<|zA (I 70) rfl<|s_nil ?_;refine W.ret ?_
    have bY:=M.e_inr hM aT
    subst bY;replace hM:=a7;(try dsimp only at hM)
    have bZ:=M.e_inr hM aQ
    subst bZ;replace hM:=aS;(try dsimp only at hM)
    have av:=M.e_pure hM
    exact ⟨_,resE_tmp rfl,⟨70,av,rfl,(H.pk [])⟩⟩
   replace hM:=M.e_f hM ba;refine W.skip<|W.region rfl<|zM (I (k:Int)) rfl<|zR (k:Int) 1 ((k:Int)+1) rfl rfl rfl (by omega)<|zA (I ((k:Int)+1)) rfl<|s_nil ?_
   exact ⟨bS,bT,k+1,_,upds_of _ _ ⟨rfl,rfl,rfl,rfl,rfl,rfl,rfl,rfl,rfl,rfl,rfl,rfl,rfl,rfl,rfl,rfl,rfl,rfl,trivial⟩,M.e_inl hM aT,H⟩
  replace hM:=M.e_f hM aJ
  replace aJ:=dI aJ
  refine W.exit ?_
  have b4:=M.e_inr hM aT
  subst b4;replace hM:=a7;(try dsimp only at hM);refine W.region rfl<|zM (I (i2:Int)) rfl<|zR (i2:Int) 1 ((i2:Int)+1) rfl rfl rfl (by omega)<|zA (I ((i2:Int)+1)) rfl<|s_nil ?_
  exact ⟨bM,bN,i2+1,_,upds_of _ _ ⟨rfl,rfl,trivial⟩,M.e_inl hM aQ,(H.pk [1])⟩
 replace hM:=M.e_f hM aI
 replace aI:=dI aI
 refine W.exit ?_
 have b5:=M.e_inr hM aQ
 subst b5;replace hM:=aS;(try dsimp only at hM);refine W.seq<|W.seq<|W.region rfl<|zA (I 0) rfl<|s_nil<|W.block ?_;obtain ⟨b6,bb,bu⟩:=M.e_bind hM
 obtain ⟨aR,bb⟩:=M.e_iter bb
 refine W.loop (fun m σ W=>∃ (i3:Nat) (ρ:Env),σ=upds ρ [(1,Pq ai),(7,I (i3:Int))]/\M.iterN (zbN s_Marks) m i3=some b6/\St w W [cBlk ai [aj,az,aA] 81] R) ?_ ?_
 ·exact ⟨_,0,_,upds_of _ _ ⟨rfl,rfl,trivial⟩,bb,H⟩
 rintro c8 σ c9 ⟨i3,ρ,rfl,bv,H⟩
 obtain ⟨b7,b8,da,hM,bc⟩:=M.e_iterN bv
 simp only [zbN] at hM
 clear bv;refine W.seq<|W.seq<|W.region rfl<|zM (I (i3:Int)) rfl<|s_val (x_fa (v:=Oq ai 1) rfl (fa_blk (o:=0) Fd81_1 Sz78))<|s_val (x_ld (v:=az) rfl (ldb_sc Sc78 (H.bl 0) rfl)) ?_
 have db:=(aM).len_le
 refine s_val (x_lenS T78.und rfl aM)<|zC (i3:Int) (s_Marks.length:Int) (decide ((i3:Int)<(s_Marks.length:Int))) rfl rfl rfl<|s_nil ?_
 refine W.cond (decide ((i3:Int)<(s_Marks.length:Int))) rfl (fun aK=>?_) (fun aK=>?_)
 ·replace hM:=M.e_t hM aK
  replace aK:=dI aK
  refine W.skip<|W.seq<|W.block<|W.seq<|W.region rfl<|s_val (x_fa (v:=Oq ai 1) rfl (fa_blk (o:=0) Fd81_1 Sz78))<|s_val (x_ld (v:=az) rfl (ldb_sc Sc78 (H.bl 0) rfl))<|zM (I (i3:Int)) rfl ?_;obtain ⟨dc,hM⟩:=M.e_gd hM;refine s_val (x_ix (v:=vat az 3 (Int.toNat (i3:Int))) rfl rfl (Sl.ix (α:=Mrk) T78.und T78.size aM (by omega) (by omega)))<|s_val (x_ld (v:=.agg #[I ((s_Marks.getD i3 default).place),I ((s_Marks.getD i3 default).lo),I ((s_Marks.getD i3 default).hi)]) rfl (ld_ag Ag150 Sz150 (At.mono (Mrk_atA aM (i:=(i3:Int)) (by omega) (by omega)) (bz.at H)))) ?_;refine t_alloc (cs:=[I 0,I 0,I 0]) H Al150 rfl ?_;intro ax dd H;refine t_sw 0 0 [I ((s_Marks.getD i3 default).place),I ((s_Marks.getD i3 default).lo),I ((s_Marks.getD i3 default).hi)] (.agg #[I ((s_Marks.getD i3 default).place),I ((s_Marks.getD i3 default).lo),I ((s_Marks.getD i3 default).hi)]) H rfl rfl Sz150 rfl rfl rfl rfl ?_;intro de H;refine s_nil<|W.seq<|W.region rfl<|s_val (x_fa (v:=Pq ax) rfl (fa_blk (o:=0) Fd150_0 Sz3))<|s_val (x_ld (v:=I ((s_Marks.getD i3 default).place)) rfl (ldb_sc Sc3 (H.bl 0) rfl)) ?_;obtain ⟨dg,b9,hM⟩:=M.e_bind hM;refine s_call cf82 [I ((s_Marks.getD i3 default).place),I 0,I 10000] rfl (zae ((s_Marks.getD i3 default).place) 0 10000 b9 _ (H.gt 2)) ?_
  rintro vq dh ⟨r9,rfl,hvq,aB⟩
  subst vq;(try dsimp only at hM);replace H:=H.bk aB;clear aB;refine zM (B r9) rfl<|g_val (!r9) (gy_f rfl) (fun hg=>x_fa (v:=Oq ax 1) rfl (fa_blk (o:=0) Fd150_1 Sz54))<|g_val (!r9) (gy_f rfl) (fun hg=>x_fa (v:=Oq ax 1) (gd_of hg (Oq ax 1)) (fa_blk (o:=1) Fd54_0 Sz3))<|g_val (!r9) (gy_f rfl) (fun hg=>x_ld (v:=I ((s_Marks.getD i3 default).lo)) (gd_of hg (Oq ax 1)) (ldb_sc Sc3 (H.bl 0) rfl))<|g_val (!r9) (gy_f rfl) (fun hg=>x_cmp (kd:=.i64) (r:=decide (((s_Marks.getD i3 default).lo)<0)) (gd_of hg (I ((s_Marks.getD i3 default).lo))) rfl rfl)<|s_val (x_por (b:=r9) (r:=decide (((s_Marks.getD i3 default).lo)<0)) rfl rfl (fun hb=>gd_of (c:=!r9) (by first | exact hb | (rw [hb]; rfl) | simp_all) (B (decide (((s_Marks.getD i3 default).lo)<0)))))<|zM (B (r9||(decide (((s_Marks.getD i3 default).lo)<0)))) rfl<|g_val (!(r9||(decide (((s_Marks.getD i3 default).lo)<0)))) (gy_f rfl) (fun hg=>x_fa (v:=Oq ax 1) rfl (fa_blk (o:=0) Fd150_1 Sz54))<|g_val (!(r9||(decide (((s_Marks.getD i3 default).lo)<0)))) (gy_f rfl) (fun hg=>x_fa (v:=Oq ax 2) (gd_of hg (Oq ax 1)) (fa_blk (o:=1) Fd54_1 Sz3))<|g_val (!(r9||(decide (((s_Marks.getD i3 default).lo)<0)))) (gy_f rfl) (fun hg=>x_ld (v:=I ((s_Marks.getD i3 default).hi)) (gd_of hg (Oq ax 2)) (ldb_sc Sc3 (H.bl 0) rfl)) ?_;refine g_val (!(r9||(decide (((s_Marks.getD i3 default).lo)<0)))) (gy_f rfl) (fun hg=>x_cmp (kd:=.i64) (r:=decide (2000<((s_Marks.getD i3 default).hi))) (gd_of hg (I ((s_Marks.getD i3 default).hi))) rfl rfl)<|s_val (x_por (b:=(r9||(decide (((s_Marks.getD i3 default).lo)<0)))) (r:=decide (2000<((s_Marks.getD i3 default).hi))) rfl rfl (fun hb=>gd_of (c:=!(r9||(decide (((s_Marks.getD i3 default).lo)<0)))) (by first | exact hb | (rw [hb]; rfl) | simp_all) (B (decide (2000<((s_Marks.getD i3 default).hi))))))<|zM (B ((r9||(decide (((s_Marks.getD i3 default).lo)<0)))||(decide (2000<((s_Marks.getD i3 default).hi))))) rfl<|g_val (!((r9||(decide (((s_Marks.getD i3 default).lo)<0)))||(decide (2000<((s_Marks.getD i3 default).hi))))) (gy_f rfl) (fun hg=>x_fa (v:=Oq ax 1) rfl (fa_blk (o:=0) Fd150_1 Sz54))<|g_val (!((r9||(decide (((s_Marks.getD i3 default).lo)<0)))||(decide (2000<((s_Marks.getD i3 default).hi))))) (gy_f rfl) (fun hg=>x_fa (v:=Oq ax 1) (gd_of hg (Oq ax 1)) (fa_blk (o:=1) Fd54_0 Sz3))<|g_val (!((r9||(decide (((s_Marks.getD i3 default).lo)<0)))||(decide (2000<((s_Marks.getD i3 default).hi))))) (gy_f rfl) (fun hg=>x_ld (v:=I ((s_Marks.getD i3 default).lo)) (gd_of hg (Oq ax 1)) (ldb_sc Sc3 (H.bl 0) rfl))<|g_val (!((r9||(decide (((s_Marks.getD i3 default).lo)<0)))||(decide (2000<((s_Marks.getD i3 default).hi))))) (gy_f rfl) (fun hg=>x_fa (v:=Oq ax 1) rfl (fa_blk (o:=0) Fd150_1 Sz54))<|g_val (!((r9||(decide (((s_Marks.getD i3 default).lo)<0)))||(decide (2000<((s_Marks.getD i3 default).hi))))) (gy_f rfl) (fun hg=>x_fa (v:=Oq ax 2) (gd_of hg (Oq ax 1)) (fa_blk (o:=1) Fd54_1 Sz3))<|g_val (!((r9||(decide (((s_Marks.getD i3 default).lo)<0)))||(decide (2000<((s_Marks.getD i3 default).hi))))) (gy_f rfl) (fun hg=>x_ld (v:=I ((s_Marks.getD i3 default).hi)) (gd_of hg (Oq ax 2)) (ldb_sc Sc3 (H.bl 0) rfl))<|g_val (!((r9||(decide (((s_Marks.getD i3 default).lo)<0)))||(decide (2000<((s_Marks.getD i3 default).hi))))) (gy_f rfl) (fun hg=>x_cmp (kd:=.i64) (r:=decide (((s_Marks.getD i3 default).hi)<((s_Marks.getD i3 default).lo))) (gd_of hg (I ((s_Marks.getD i3 default).lo))) (gd_of hg (I ((s_Marks.getD i3 default).hi))) rfl) ?_;refine s_val (x_por (b:=((r9||(decide (((s_Marks.getD i3 default).lo)<0)))||(decide (2000<((s_Marks.getD i3 default).hi))))) (r:=decide (((s_Marks.getD i3 default).hi)<((s_Marks.getD i3 default).lo))) rfl rfl (fun hb=>gd_of (c:=!((r9||(decide (((s_Marks.getD i3 default).lo)<0)))||(decide (2000<((s_Marks.getD i3 default).hi))))) (by first | exact hb | (rw [hb]; rfl) | simp_all) (B (decide (((s_Marks.getD i3 default).hi)<((s_Marks.getD i3 default).lo))))))<|s_nil ?_
  refine W.cond (((r9||(decide (((s_Marks.getD i3 default).lo)<0)))||(decide (2000<((s_Marks.getD i3 default).hi))))||(decide (((s_Marks.getD i3 default).hi)<((s_Marks.getD i3 default).lo)))) rfl (fun bf=>?_) (fun bf=>?_)
  ·replace hM:=M.e_t hM bf;refine W.seq<|W.region rfl<|zA (I 70) rfl<|s_nil ?_;refine W.ret ?_
   have cb:=M.e_inr hM bc
   subst cb;replace hM:=bu;(try dsimp only at hM)
   have av:=M.e_pure hM
   exact ⟨_,resE_tmp rfl,⟨70,av,rfl,(H.pk [])⟩⟩
  replace hM:=M.e_f hM bf;refine W.skip<|W.region rfl<|zM (I (i3:Int)) rfl<|zR (i3:Int) 1 ((i3:Int)+1) rfl rfl rfl (by omega)<|zA (I ((i3:Int)+1)) rfl<|s_nil ?_
  exact ⟨b7,b8,i3+1,_,upds_of _ _ ⟨rfl,rfl,trivial⟩,M.e_inl hM bc,(H.pk [1])⟩
 replace hM:=M.e_f hM aK
 replace aK:=dI aK
 refine W.exit ?_
 have cc:=M.e_inr hM bc
 subst cc;replace hM:=bu;(try dsimp only at hM);refine W.seq<|W.seq<|W.region rfl<|zA (I 0) rfl<|s_nil<|W.block ?_;obtain ⟨cd,bg,bw⟩:=M.e_bind hM
 obtain ⟨aR,bg⟩:=M.e_iter bg
 refine W.loop (fun m σ W=>∃ (i4:Nat) (ρ:Env),σ=upds ρ [(1,Pq ai),(9,I (i4:Int))]/\M.iterN (zbx s_Sections s_Reaches) m i4=some cd/\St w W [cBlk ai [aj,az,aA] 81] R) ?_ ?_
 ·exact ⟨_,0,_,upds_of _ _ ⟨rfl,rfl,trivial⟩,bg,H⟩
 rintro di σ dj ⟨i4,ρ,rfl,bx,H⟩
 obtain ⟨ce,cf,dk,hM,bh⟩:=M.e_iterN bx
 simp only [zbx] at hM
 clear bx;refine W.seq<|W.seq<|W.region rfl<|zM (I (i4:Int)) rfl<|s_val (x_fa (v:=Oq ai 2) rfl (fa_blk (o:=0) Fd81_2 Sz79))<|s_val (x_ld (v:=aA) rfl (ldb_sc Sc79 (H.bl 0) rfl)) ?_
 have dm:=(aN).len_le
 refine s_val (x_lenS T79.und rfl aN)<|zC (i4:Int) (s_Reaches.length:Int) (decide ((i4:Int)<(s_Reaches.length:Int))) rfl rfl rfl<|s_nil ?_
 refine W.cond (decide ((i4:Int)<(s_Reaches.length:Int))) rfl (fun aL=>?_) (fun aL=>?_)
 ·replace hM:=M.e_t hM aL
  replace aL:=dI aL
  refine W.skip<|W.seq<|W.block<|W.seq<|W.region rfl<|s_val (x_fa (v:=Oq ai 2) rfl (fa_blk (o:=0) Fd81_2 Sz79))<|s_val (x_ld (v:=aA) rfl (ldb_sc Sc79 (H.bl 0) rfl))<|zM (I (i4:Int)) rfl ?_;obtain ⟨dp,hM⟩:=M.e_gd hM;refine s_val (x_ix (v:=vat aA 5 (Int.toNat (i4:Int))) rfl rfl (Sl.ix (α:=Rch) T79.und T79.size aN (by omega) (by omega)))<|s_val (x_ld (v:=.agg #[I ((s_Reaches.getD i4 default).up),I ((s_Reaches.getD i4 default).down),I ((s_Reaches.getD i4 default).lo),I ((s_Reaches.getD i4 default).hi),B ((s_Reaches.getD i4 default).narrow)]) rfl (ld_ag Ag151 Sz151 (At.mono (Rch_atA aN (i:=(i4:Int)) (by omega) (by omega)) (bA.at H)))) ?_;refine t_alloc (cs:=[I 0,I 0,I 0,I 0,B false]) H Al151 rfl ?_;intro aq dq H;refine t_sw 0 0 [I ((s_Reaches.getD i4 default).up),I ((s_Reaches.getD i4 default).down),I ((s_Reaches.getD i4 default).lo),I ((s_Reaches.getD i4 default).hi),B ((s_Reaches.getD i4 default).narrow)] (.agg #[I ((s_Reaches.getD i4 default).up),I ((s_Reaches.getD i4 default).down),I ((s_Reaches.getD i4 default).lo),I ((s_Reaches.getD i4 default).hi),B ((s_Reaches.getD i4 default).narrow)]) H rfl rfl Sz151 rfl rfl rfl rfl ?_;intro dr H;refine s_nil<|W.seq<|W.region rfl<|s_val (x_fa (v:=Pq aq) rfl (fa_blk (o:=0) Fd151_0 Sz3))<|s_val (x_ld (v:=I ((s_Reaches.getD i4 default).up)) rfl (ldb_sc Sc3 (H.bl 0) rfl))<|zC ((s_Reaches.getD i4 default).up) 0 (decide (((s_Reaches.getD i4 default).up)<0)) rfl rfl rfl<|zM (B (decide (((s_Reaches.getD i4 default).up)<0))) rfl<|g_val (!(decide (((s_Reaches.getD i4 default).up)<0))) (gy_f rfl) (fun hg=>x_fa (v:=Oq aq 1) rfl (fa_blk (o:=0) Fd151_1 Sz3))<|g_val (!(decide (((s_Reaches.getD i4 default).up)<0))) (gy_f rfl) (fun hg=>x_ld (v:=I ((s_Reaches.getD i4 default).down)) (gd_of hg (Oq aq 1)) (ldb_sc Sc3 (H.bl 0) rfl))<|g_val (!(decide (((s_Reaches.getD i4 default).up)<0))) (gy_f rfl) (fun hg=>x_fa (v:=Pq aq) rfl (fa_blk (o:=0) Fd151_0 Sz3)) ?_;refine g_val (!(decide (((s_Reaches.getD i4 default).up)<0))) (gy_f rfl) (fun hg=>x_ld (v:=I ((s_Reaches.getD i4 default).up)) (gd_of hg (Pq aq)) (ldb_sc Sc3 (H.bl 0) rfl))<|g_val (!(decide (((s_Reaches.getD i4 default).up)<0))) (gy_f rfl) (fun hg=>x_cmp (kd:=.i64) (r:=decide (((s_Reaches.getD i4 default).down)<=((s_Reaches.getD i4 default).up))) (gd_of hg (I ((s_Reaches.getD i4 default).down))) (gd_of hg (I ((s_Reaches.getD i4 default).up))) rfl)<|s_val (x_por (b:=decide (((s_Reaches.getD i4 default).up)<0)) (r:=decide (((s_Reaches.getD i4 default).down)<=((s_Reaches.getD i4 default).up))) rfl rfl (fun hb=>gd_of (c:=!(decide (((s_Reaches.getD i4 default).up)<0))) (by first | exact hb | (rw [hb]; rfl) | simp_all) (B (decide (((s_Reaches.getD i4 default).down)<=((s_Reaches.getD i4 default).up))))))<|zM (B ((decide (((s_Reaches.getD i4 default).up)<0))||(decide (((s_Reaches.getD i4 default).down)<=((s_Reaches.getD i4 default).up))))) rfl<|g_val (!((decide (((s_Reaches.getD i4 default).up)<0))||(decide (((s_Reaches.getD i4 default).down)<=((s_Reaches.getD i4 default).up))))) (gy_f rfl) (fun hg=>x_fa (v:=Oq aq 1) rfl (fa_blk (o:=0) Fd151_1 Sz3))<|g_val (!((decide (((s_Reaches.getD i4 default).up)<0))||(decide (((s_Reaches.getD i4 default).down)<=((s_Reaches.getD i4 default).up))))) (gy_f rfl) (fun hg=>x_ld (v:=I ((s_Reaches.getD i4 default).down)) (gd_of hg (Oq aq 1)) (ldb_sc Sc3 (H.bl 0) rfl))<|g_val (!((decide (((s_Reaches.getD i4 default).up)<0))||(decide (((s_Reaches.getD i4 default).down)<=((s_Reaches.getD i4 default).up))))) (gy_f rfl) (fun hg=>x_fa (v:=Pq ai) rfl (fa_blk (o:=0) Fd81_0 Sz77))<|g_val (!((decide (((s_Reaches.getD i4 default).up)<0))||(decide (((s_Reaches.getD i4 default).down)<=((s_Reaches.getD i4 default).up))))) (gy_f rfl) (fun hg=>x_ld (v:=aj) (gd_of hg (Pq ai)) (ldb_sc Sc77 (H.bl 1) rfl)) ?_
  have dt:=(ay).len_le
  refine g_val (!((decide (((s_Reaches.getD i4 default).up)<0))||(decide (((s_Reaches.getD i4 default).down)<=((s_Reaches.getD i4 default).up))))) (gy_f rfl) (fun hg=>x_lenS T77.und (gd_of hg (aj)) ay)<|g_val (!((decide (((s_Reaches.getD i4 default).up)<0))||(decide (((s_Reaches.getD i4 default).down)<=((s_Reaches.getD i4 default).up))))) (gy_f rfl) (fun hg=>x_cmp (kd:=.i64) (r:=decide ((s_Sections.length:Int)<=((s_Reaches.getD i4 default).down))) (gd_of hg (I ((s_Reaches.getD i4 default).down))) (gd_of hg (I (s_Sections.length:Int))) rfl)<|s_val (x_por (b:=((decide (((s_Reaches.getD i4 default).up)<0))||(decide (((s_Reaches.getD i4 default).down)<=((s_Reaches.getD i4 default).up))))) (r:=decide ((s_Sections.length:Int)<=((s_Reaches.getD i4 default).down))) rfl rfl (fun hb=>gd_of (c:=!((decide (((s_Reaches.getD i4 default).up)<0))||(decide (((s_Reaches.getD i4 default).down)<=((s_Reaches.getD i4 default).up))))) (by first | exact hb | (rw [hb]; rfl) | simp_all) (B (decide ((s_Sections.length:Int)<=((s_Reaches.getD i4 default).down))))))<|zM (B (((decide (((s_Reaches.getD i4 default).up)<0))||(decide (((s_Reaches.getD i4 default).down)<=((s_Reaches.getD i4 default).up))))||(decide ((s_Sections.length:Int)<=((s_Reaches.getD i4 default).down))))) rfl<|g_val (!(((decide (((s_Reaches.getD i4 default).up)<0))||(decide (((s_Reaches.getD i4 default).down)<=((s_Reaches.getD i4 default).up))))||(decide ((s_Sections.length:Int)<=((s_Reaches.getD i4 default).down))))) (gy_f rfl) (fun hg=>x_fa (v:=Oq aq 2) rfl (fa_blk (o:=0) Fd151_2 Sz54))<|g_val (!(((decide (((s_Reaches.getD i4 default).up)<0))||(decide (((s_Reaches.getD i4 default).down)<=((s_Reaches.getD i4 default).up))))||(decide ((s_Sections.length:Int)<=((s_Reaches.getD i4 default).down))))) (gy_f rfl) (fun hg=>x_fa (v:=Oq aq 2) (gd_of hg (Oq aq 2)) (fa_blk (o:=2) Fd54_0 Sz3))<|g_val (!(((decide (((s_Reaches.getD i4 default).up)<0))||(decide (((s_Reaches.getD i4 default).down)<=((s_Reaches.getD i4 default).up))))||(decide ((s_Sections.length:Int)<=((s_Reaches.getD i4 default).down))))) (gy_f rfl) (fun hg=>x_ld (v:=I ((s_Reaches.getD i4 default).lo)) (gd_of hg (Oq aq 2)) (ldb_sc Sc3 (H.bl 0) rfl))<|g_val (!(((decide (((s_Reaches.getD i4 default).up)<0))||(decide (((s_Reaches.getD i4 default).down)<=((s_Reaches.getD i4 default).up))))||(decide ((s_Sections.length:Int)<=((s_Reaches.getD i4 default).down))))) (gy_f rfl) (fun hg=>x_cmp (kd:=.i64) (r:=decide (((s_Reaches.getD i4 default).lo)<1)) (gd_of hg (I ((s_Reaches.getD i4 default).lo))) rfl rfl)<|s_val (x_por (b:=(((decide (((s_Reaches.getD i4 default).up)<0))||(decide (((s_Reaches.getD i4 default).down)<=((s_Reaches.getD i4 default).up))))||(decide ((s_Sections.length:Int)<=((s_Reaches.getD i4 default).down))))) (r:=decide (((s_Reaches.getD i4 default).lo)<1)) rfl rfl (fun hb=>gd_of (c:=!(((decide (((s_Reaches.getD i4 default).up)<0))||(decide (((s_Reaches.getD i4 default).down)<=((s_Reaches.getD i4 default).up))))||(decide ((s_Sections.length:Int)<=((s_Reaches.getD i4 default).down))))) (by first | exact hb | (rw [hb]; rfl) | simp_all) (B (decide (((s_Reaches.getD i4 default).lo)<1)))))<|zM (B ((((decide (((s_Reaches.getD i4 default).up)<0))||(decide (((s_Reaches.getD i4 default).down)<=((s_Reaches.getD i4 default).up))))||(decide ((s_Sections.length:Int)<=((s_Reaches.getD i4 default).down))))||(decide (((s_Reaches.getD i4 default).lo)<1)))) rfl ?_;refine g_val (!((((decide (((s_Reaches.getD i4 default).up)<0))||(decide (((s_Reaches.getD i4 default).down)<=((s_Reaches.getD i4 default).up))))||(decide ((s_Sections.length:Int)<=((s_Reaches.getD i4 default).down))))||(decide (((s_Reaches.getD i4 default).lo)<1)))) (gy_f rfl) (fun hg=>x_fa (v:=Oq aq 2) rfl (fa_blk (o:=0) Fd151_2 Sz54))<|g_val (!((((decide (((s_Reaches.getD i4 default).up)<0))||(decide (((s_Reaches.getD i4 default).down)<=((s_Reaches.getD i4 default).up))))||(decide ((s_Sections.length:Int)<=((s_Reaches.getD i4 default).down))))||(decide (((s_Reaches.getD i4 default).lo)<1)))) (gy_f rfl) (fun hg=>x_fa (v:=Oq aq 3) (gd_of hg (Oq aq 2)) (fa_blk (o:=2) Fd54_1 Sz3))<|g_val (!((((decide (((s_Reaches.getD i4 default).up)<0))||(decide (((s_Reaches.getD i4 default).down)<=((s_Reaches.getD i4 default).up))))||(decide ((s_Sections.length:Int)<=((s_Reaches.getD i4 default).down))))||(decide (((s_Reaches.getD i4 default).lo)<1)))) (gy_f rfl) (fun hg=>x_ld (v:=I ((s_Reaches.getD i4 default).hi)) (gd_of hg (Oq aq 3)) (ldb_sc Sc3 (H.bl 0) rfl))<|g_val (!((((decide (((s_Reaches.getD i4 default).up)<0))||(decide (((s_Reaches.getD i4 default).down)<=((s_Reaches.getD i4 default).up))))||(decide ((s_Sections.length:Int)<=((s_Reaches.getD i4 default).down))))||(decide (((s_Reaches.getD i4 default).lo)<1)))) (gy_f rfl) (fun hg=>x_cmp (kd:=.i64) (r:=decide (400<((s_Reaches.getD i4 default).hi))) (gd_of hg (I ((s_Reaches.getD i4 default).hi))) rfl rfl)<|s_val (x_por (b:=((((decide (((s_Reaches.getD i4 default).up)<0))||(decide (((s_Reaches.getD i4 default).down)<=((s_Reaches.getD i4 default).up))))||(decide ((s_Sections.length:Int)<=((s_Reaches.getD i4 default).down))))||(decide (((s_Reaches.getD i4 default).lo)<1)))) (r:=decide (400<((s_Reaches.getD i4 default).hi))) rfl rfl (fun hb=>gd_of (c:=!((((decide (((s_Reaches.getD i4 default).up)<0))||(decide (((s_Reaches.getD i4 default).down)<=((s_Reaches.getD i4 default).up))))||(decide ((s_Sections.length:Int)<=((s_Reaches.getD i4 default).down))))||(decide (((s_Reaches.getD i4 default).lo)<1)))) (by first | exact hb | (rw [hb]; rfl) | simp_all) (B (decide (400<((s_Reaches.getD i4 default).hi))))))<|zM (B (((((decide (((s_Reaches.getD i4 default).up)<0))||(decide (((s_Reaches.getD i4 default).down)<=((s_Reaches.getD i4 default).up))))||(decide ((s_Sections.length:Int)<=((s_Reaches.getD i4 default).down))))||(decide (((s_Reaches.getD i4 default).lo)<1)))||(decide (400<((s_Reaches.getD i4 default).hi))))) rfl<|g_val (!(((((decide (((s_Reaches.getD i4 default).up)<0))||(decide (((s_Reaches.getD i4 default).down)<=((s_Reaches.getD i4 default).up))))||(decide ((s_Sections.length:Int)<=((s_Reaches.getD i4 default).down))))||(decide (((s_Reaches.getD i4 default).lo)<1)))||(decide (400<((s_Reaches.getD i4 default).hi))))) (gy_f rfl) (fun hg=>x_fa (v:=Oq aq 2) rfl (fa_blk (o:=0) Fd151_2 Sz54))<|g_val (!(((((decide (((s_Reaches.getD i4 default).up)<0))||(decide (((s_Reaches.getD i4 default).down)<=((s_Reaches.getD i4 default).up))))||(decide ((s_Sections.length:Int)<=((s_Reaches.getD i4 default).down))))||(decide (((s_Reaches.getD i4 default).lo)<1)))||(decide (400<((s_Reaches.getD i4 default).hi))))) (gy_f rfl) (fun hg=>x_fa (v:=Oq aq 2) (gd_of hg (Oq aq 2)) (fa_blk (o:=2) Fd54_0 Sz3))<|g_val (!(((((decide (((s_Reaches.getD i4 default).up)<0))||(decide (((s_Reaches.getD i4 default).down)<=((s_Reaches.getD i4 default).up))))||(decide ((s_Sections.length:Int)<=((s_Reaches.getD i4 default).down))))||(decide (((s_Reaches.getD i4 default).lo)<1)))||(decide (400<((s_Reaches.getD i4 default).hi))))) (gy_f rfl) (fun hg=>x_ld (v:=I ((s_Reaches.getD i4 default).lo)) (gd_of hg (Oq aq 2)) (ldb_sc Sc3 (H.bl 0) rfl))<|g_val (!(((((decide (((s_Reaches.getD i4 default).up)<0))||(decide (((s_Reaches.getD i4 default).down)<=((s_Reaches.getD i4 default).up))))||(decide ((s_Sections.length:Int)<=((s_Reaches.getD i4 default).down))))||(decide (((s_Reaches.getD i4 default).lo)<1)))||(decide (400<((s_Reaches.getD i4 default).hi))))) (gy_f rfl) (fun hg=>x_fa (v:=Oq aq 2) rfl (fa_blk (o:=0) Fd151_2 Sz54)) ?_;refine g_val (!(((((decide (((s_Reaches.getD i4 default).up)<0))||(decide (((s_Reaches.getD i4 default).down)<=((s_Reaches.getD i4 default).up))))||(decide ((s_Sections.length:Int)<=((s_Reaches.getD i4 default).down))))||(decide (((s_Reaches.getD i4 default).lo)<1)))||(decide (400<((s_Reaches.getD i4 default).hi))))) (gy_f rfl) (fun hg=>x_fa (v:=Oq aq 3) (gd_of hg (Oq aq 2)) (fa_blk (o:=2) Fd54_1 Sz3))<|g_val (!(((((decide (((s_Reaches.getD i4 default).up)<0))||(decide (((s_Reaches.getD i4 default).down)<=((s_Reaches.getD i4 default).up))))||(decide ((s_Sections.length:Int)<=((s_Reaches.getD i4 default).down))))||(decide (((s_Reaches.getD i4 default).lo)<1)))||(decide (400<((s_Reaches.getD i4 default).hi))))) (gy_f rfl) (fun hg=>x_ld (v:=I ((s_Reaches.getD i4 default).hi)) (gd_of hg (Oq aq 3)) (ldb_sc Sc3 (H.bl 0) rfl))<|g_val (!(((((decide (((s_Reaches.getD i4 default).up)<0))||(decide (((s_Reaches.getD i4 default).down)<=((s_Reaches.getD i4 default).up))))||(decide ((s_Sections.length:Int)<=((s_Reaches.getD i4 default).down))))||(decide (((s_Reaches.getD i4 default).lo)<1)))||(decide (400<((s_Reaches.getD i4 default).hi))))) (gy_f rfl) (fun hg=>x_cmp (kd:=.i64) (r:=decide (((s_Reaches.getD i4 default).hi)<((s_Reaches.getD i4 default).lo))) (gd_of hg (I ((s_Reaches.getD i4 default).lo))) (gd_of hg (I ((s_Reaches.getD i4 default).hi))) rfl)<|s_val (x_por (b:=(((((decide (((s_Reaches.getD i4 default).up)<0))||(decide (((s_Reaches.getD i4 default).down)<=((s_Reaches.getD i4 default).up))))||(decide ((s_Sections.length:Int)<=((s_Reaches.getD i4 default).down))))||(decide (((s_Reaches.getD i4 default).lo)<1)))||(decide (400<((s_Reaches.getD i4 default).hi))))) (r:=decide (((s_Reaches.getD i4 default).hi)<((s_Reaches.getD i4 default).lo))) rfl rfl (fun hb=>gd_of (c:=!(((((decide (((s_Reaches.getD i4 default).up)<0))||(decide (((s_Reaches.getD i4 default).down)<=((s_Reaches.getD i4 default).up))))||(decide ((s_Sections.length:Int)<=((s_Reaches.getD i4 default).down))))||(decide (((s_Reaches.getD i4 default).lo)<1)))||(decide (400<((s_Reaches.getD i4 default).hi))))) (by first | exact hb | (rw [hb]; rfl) | simp_all) (B (decide (((s_Reaches.getD i4 default).hi)<((s_Reaches.getD i4 default).lo))))))<|s_nil ?_
  refine W.cond ((((((decide (((s_Reaches.getD i4 default).up)<0))||(decide (((s_Reaches.getD i4 default).down)<=((s_Reaches.getD i4 default).up))))||(decide ((s_Sections.length:Int)<=((s_Reaches.getD i4 default).down))))||(decide (((s_Reaches.getD i4 default).lo)<1)))||(decide (400<((s_Reaches.getD i4 default).hi))))||(decide (((s_Reaches.getD i4 default).hi)<((s_Reaches.getD i4 default).lo)))) rfl (fun bi=>?_) (fun bi=>?_)
  ·replace hM:=M.e_t hM bi;refine W.seq<|W.region rfl<|zA (I 70) rfl<|s_nil ?_;refine W.ret ?_
   have cg:=M.e_inr hM bh
   subst cg;replace hM:=bw;(try dsimp only at hM)
   have av:=M.e_pure hM
   exact ⟨_,resE_tmp rfl,⟨70,av,rfl,(H.pk [])⟩⟩
  replace hM:=M.e_f hM bi;refine W.skip<|W.region rfl<|zM (I (i4:Int)) rfl<|zR (i4:Int) 1 ((i4:Int)+1) rfl rfl rfl (by omega)<|zA (I ((i4:Int)+1)) rfl<|s_nil ?_
  exact ⟨ce,cf,i4+1,_,upds_of _ _ ⟨rfl,rfl,trivial⟩,M.e_inl hM bh,(H.pk [1])⟩
 replace hM:=M.e_f hM aL
 replace aL:=dI aL
 refine W.exit ?_
 have cj:=M.e_inr hM bh
 subst cj;replace hM:=bw;(try dsimp only at hM);refine W.seq<|W.region rfl<|zA (I 0) rfl<|s_nil ?_;refine W.ret ?_
 have av:=M.e_pure hM
 exact ⟨_,resE_tmp rfl,⟨0,av,rfl,(H.pk [])⟩⟩

def zbf (s_Marks:List Mrk) (marks:List Int):Nat->M (Nat ⊕ (Unit ⊕ Unit)):=fun i =>
  bif decide ((i:Int)<(marks.length:Int)) then (
  M.grd (decide ((i:Int)<(marks.length:Int))) <|
  M.bind (zad (marks.getD i 0) 0 ((s_Marks.length:Int)-1)) fun r3 =>
  M.grd ((!((!r3)&&(decide (0<(i:Int))))||(decide ((-9223372036854775808:Int)<=((i:Int)-1))&&decide (((i:Int)-1)<=(9223372036854775807:Int))))) <|
  M.grd ((!((!r3)&&(decide (0<(i:Int))))||(decide ((0:Int)<=((i:Int)-1))&&decide (((i:Int)-1)<(marks.length:Int))))) <|
  bif (r3||((decide (0<(i:Int)))&&(decide ((marks.getD i 0)<=(marks.getD (Int.toNat ((i:Int)-1)) 0))))) then (
  M.pure (.inr (.inl ())))
  else (
  M.pure (.inl (i+1))))
  else (
  M.pure (.inr (.inr ())))
def zbV (s_Sections:List Sect) (s_Marks:List Mrk) (s_Reaches:List Rch) (marks:List Int):M Int :=
  M.bind (za6 s_Sections s_Marks s_Reaches) fun r2 =>
  bif r2 != 0 then (
  M.pure r2)
  else (
  M.bind (M.iter (zbf s_Marks marks) 0) fun x_=>match x_ with
  | (.inl (_:Unit))=>(
  M.pure 2)
  | (.inr (_:Unit))=>(
  M.pure 0))
theorem zdz {R:List Chunk} {aD:Cells} {aj:Value} {aE:Cells} {ai:Value} {aF:Cells} {ak:Value} {aG:Cells} {ag:Value} (s_Sections:List Sect) (s_Marks:List Mrk) (s_Reaches:List Rch) (marks:List Int) (aJ:Reads R aD) (aK:Sl aD aj s_Sections) (aL:Reads R aE) (ay:Sl aE ai s_Marks) (aM:Reads R aF) (aN:Sl aF ak s_Reaches) (az:Reads R aG) (am:Sl aG ag marks) {r:Int} (hM:(zbV s_Sections s_Marks s_Reaches marks).Ends r) (w:World) (H:St w w [] R):Ret Tryz.prog 89 #[.agg #[aj,ai,ak],ag] w fun v w'=>∃ (y0:Int),y0=r/\v=I y0/\St w w' [] R:=by
 refine ret_of_W Tryz.func89 rfl rfl rfl<|W.seq<|W.region rfl ?_;refine t_bx [aj,ai,ak] H rfl ?_;intro ax aV H;refine zA (I 0) rfl<|s_nil<|W.seq<|W.seq<|W.region rfl<|s_val (x_ld (v:=.agg #[aj,ai,ak]) rfl (ldb_ag (ds:=[aj,ai,ak]) Ag81 Sz81 (H.bl 0) rfl rfl)) ?_;obtain ⟨aW,aO,hM⟩:=M.e_bind hM;refine s_call cf27 [.agg #[aj,ai,ak]] rfl (zdt s_Sections s_Marks s_Reaches (aJ.app _) aK (aL.app _) ay (aM.app _) aN aO _ (H.gt 1)) ?_
 rintro vq aX ⟨r2,rfl,hvq,av⟩
 subst vq;(try dsimp only at hM);replace H:=H.bk av;clear av;refine zA (I r2) rfl<|s_nil<|W.seq<|W.region rfl<|zM (I r2) rfl<|zC r2 0 (r2 != 0) rfl rfl rfl<|s_nil ?_
 refine W.cond (r2 != 0) rfl (fun ap=>?_) (fun ap=>?_)
 ·replace hM:=M.e_t hM ap
  replace ap:=dI ap
  refine W.seq<|W.region rfl<|zM (I r2) rfl<|zA (I r2) rfl<|s_nil ?_;refine W.ret ?_
  have aw:=M.e_pure hM
  exact ⟨_,resE_tmp rfl,⟨r2,aw,rfl,(H.pk [])⟩⟩
 replace hM:=M.e_f hM ap
 replace ap:=dI ap
 refine W.skip<|W.seq<|W.seq<|W.region rfl<|zA (I 0) rfl<|s_nil<|W.block ?_;obtain ⟨aP,aA,aH⟩:=M.e_bind hM
 obtain ⟨aY,aA⟩:=M.e_iter aA
 refine W.loop (fun m σ W=>∃ (i:Nat) (ρ:Env),σ=upds ρ [(1,ag),(2,Pq ax),(6,I (i:Int))]/\M.iterN (zbf s_Marks marks) m i=some aP/\St w W [cBlk ax [aj,ai,ak] 81] R) ?_ ?_
 ·exact ⟨_,0,_,upds_of _ _ ⟨rfl,rfl,rfl,trivial⟩,aA,H⟩
 rintro aZ σ a6 ⟨i,ρ,rfl,aI,H⟩
 obtain ⟨aQ,aR,a7,hM,aB⟩:=M.e_iterN aI
 simp only [zbf] at hM
 clear aI;refine W.seq<|W.seq<|W.region rfl<|zM (I (i:Int)) rfl<|zM ag rfl ?_
 have a8:=(am).len_le
 refine s_val (x_lenS T28.und rfl am)<|zC (i:Int) (marks.length:Int) (decide ((i:Int)<(marks.length:Int))) rfl rfl rfl<|s_nil ?_
 refine W.cond (decide ((i:Int)<(marks.length:Int))) rfl (fun aq=>?_) (fun aq=>?_)
 ·replace hM:=M.e_t hM aq
  replace aq:=dI aq
  refine W.skip<|W.seq<|W.block<|W.seq ?_;refine W.draw (fun W=>St w W [cBlk ax [aj,ai,ak] 81] R) [(0,true),(1,true),(2,true),(3,true),(4,true),(5,true),(6,true),(7,true),(8,false),(9,true),(10,true),(11,true),(12,true),(13,true),(14,true),(15,true),(16,true),(17,true),(18,true),(19,true),(20,true),(21,true),(22,true),(23,true),(24,true)] mixed (by decide +kernel) rfl ?_;intro ba ab;replace H:=H.ext ab;clear ab
  refine ⟨(H.pk [0]),?_⟩
  refine d_q rfl (fun w' H=>x_mv (v:=ag) rfl)<|d_q rfl (fun w' H=>x_mv (v:=I (i:Int)) rfl) ?_;obtain ⟨bb,hM⟩:=M.e_gd hM;refine d_q rfl (fun w' H=>x_ix (v:=vat ag 1 (Int.toNat (i:Int))) rfl rfl (Sl.ix (α:=Int) T28.und T28.size am (by omega) (by omega)))<|d_q rfl (fun w' H=>x_ld (v:=I (marks.getD i 0)) rfl (ld_sc Sc3 (At.mono (Int_at am (i:=(i:Int)) (by omega) (by omega)) (az.at H))))<|d_q rfl (fun w' H=>x_fa (v:=Oq ax 1) rfl (fa_blk (o:=0) Fd81_1 Sz78))<|d_q rfl (fun w' H=>x_ld (v:=ai) rfl (ldb_sc Sc78 (H.bl 0) rfl)) ?_
  have bc:=(ay).len_le
  refine d_q rfl (fun w' H=>x_lenS T78.und rfl ay)<|d_q rfl (fun w' H=>x_ari (r:=(s_Marks.length:Int)-1) rfl rfl rfl (by omega))<|d_l rfl ?_;obtain ⟨bf,aS,hM⟩:=M.e_bind hM;refine s_call cf82 [I (marks.getD i 0),I 0,I ((s_Marks.length:Int)-1)] rfl (zae (marks.getD i 0) 0 ((s_Marks.length:Int)-1) aS _ (H.gt 1)) ?_
  rintro vq bg ⟨r3,rfl,hvq,av⟩
  subst vq;(try dsimp only at hM);replace H:=H.bk av;clear av
  refine s_nil ⟨(H.pk [0]),?_⟩
  refine d_q rfl (fun w' H=>x_mv (v:=B r3) rfl)<|d_qg (!r3) rfl (gy_f rfl) (fun hg=>(fun w' H=>x_mv (v:=I (i:Int)) rfl))<|d_qg (!r3) rfl (gy_f rfl) (fun hg=>(fun w' H=>x_cmp (kd:=.i64) (r:=decide (0<(i:Int))) (gd_of hg (I (i:Int))) rfl rfl))<|d_qg (!r3) rfl (gy_f rfl) (fun hg=>(fun w' H=>x_mv (v:=B (decide (0<(i:Int)))) (gd_of hg (B (decide (0<(i:Int)))))))<|d_qg ((!r3)&&(decide (0<(i:Int)))) rfl (gy_gt rfl rfl) (fun hg=>(fun w' H=>x_mv (v:=ag) rfl))<|d_qg ((!r3)&&(decide (0<(i:Int)))) rfl (gy_gt rfl rfl) (fun hg=>(fun w' H=>x_mv (v:=I (i:Int)) rfl))<|d_qg ((!r3)&&(decide (0<(i:Int)))) rfl (gy_gt rfl rfl) (fun hg=>(fun w' H=>x_ix (v:=vat ag 1 (Int.toNat (i:Int))) (gd_of hg (ag)) (gd_of hg (I (i:Int))) (Sl.ix (α:=Int) T28.und T28.size am (by first | omega | (have ab:=hg; simp at ab; omega)) (by first | omega | (have ab:=hg; simp at ab; omega)))))<|d_qg ((!r3)&&(decide (0<(i:Int)))) rfl (gy_gt rfl rfl) (fun hg=>(fun w' H=>x_ld (v:=I (marks.getD i 0)) (gd_of hg (vat ag 1 (Int.toNat (i:Int)))) (ld_sc Sc3 (At.mono (Int_at am (i:=(i:Int)) (by first | omega | (have ab:=hg; simp at ab; omega)) (by first | omega | (have ab:=hg; simp at ab; omega))) (az.at H)))))<|d_qg ((!r3)&&(decide (0<(i:Int)))) rfl (gy_gt rfl rfl) (fun hg=>(fun w' H=>x_mv (v:=ag) rfl))<|d_qg ((!r3)&&(decide (0<(i:Int)))) rfl (gy_gt rfl rfl) (fun hg=>(fun w' H=>x_mv (v:=I (i:Int)) rfl)) ?_;obtain ⟨ao,hM⟩:=M.e_grd hM
  replace ao:=M.imp_of ao
  simp only [Bool.and_eq_true,decide_eq_true_eq] at ao
  refine d_qg ((!r3)&&(decide (0<(i:Int)))) rfl (gy_gt rfl rfl) (fun hg=>(fun w' H=>x_ari (r:=(i:Int)-1) (gd_of hg (I (i:Int))) rfl rfl (by have ac:=ao.resolve_left (by rw [hg]; decide); first | exact ac | exact ac.1 | exact ac.2 | omega | (have ab:=hg; simp at ab; omega)))) ?_;obtain ⟨au,hM⟩:=M.e_grd hM
  replace au:=M.imp_of au
  simp only [Bool.and_eq_true,decide_eq_true_eq] at au
  refine d_qg ((!r3)&&(decide (0<(i:Int)))) rfl (gy_gt rfl rfl) (fun hg=>(fun w' H=>x_ix (v:=vat ag 1 (Int.toNat ((i:Int)-1))) (gd_of hg (ag)) (gd_of hg (I ((i:Int)-1))) (Sl.ix (α:=Int) T28.und T28.size am (by have ac:=ao.resolve_left (by rw [hg]; decide); have ae:=au.resolve_left (by rw [hg]; decide); first | exact ac | exact ac.1 | exact ac.2 | exact ae | exact ae.1 | exact ae.2 | omega | (have ab:=hg; simp at ab; omega)) (by have ac:=ao.resolve_left (by rw [hg]; decide); have ae:=au.resolve_left (by rw [hg]; decide); first | exact ac | exact ac.1 | exact ac.2 | exact ae | exact ae.1 | exact ae.2 | omega | (have ab:=hg; simp at ab; omega)))))<|d_qg ((!r3)&&(decide (0<(i:Int)))) rfl (gy_gt rfl rfl) (fun hg=>(fun w' H=>x_ld (v:=I (marks.getD (Int.toNat ((i:Int)-1)) 0)) (gd_of hg (vat ag 1 (Int.toNat ((i:Int)-1)))) (ld_sc Sc3 (At.mono (Int_at am (i:=(i:Int)-1) (by have ac:=ao.resolve_left (by rw [hg]; decide); have ae:=au.resolve_left (by rw [hg]; decide); first | exact ac | exact ac.1 | exact ac.2 | exact ae | exact ae.1 | exact ae.2 | omega | (have ab:=hg; simp at ab; omega)) (by have ac:=ao.resolve_left (by rw [hg]; decide); have ae:=au.resolve_left (by rw [hg]; decide); first | exact ac | exact ac.1 | exact ac.2 | exact ae | exact ae.1 | exact ae.2 | omega | (have ab:=hg; simp at ab; omega))) (az.at H)))))<|d_qg ((!r3)&&(decide (0<(i:Int)))) rfl (gy_gt rfl rfl) (fun hg=>(fun w' H=>x_cmp (kd:=.i64) (r:=decide ((marks.getD i 0)<=(marks.getD (Int.toNat ((i:Int)-1)) 0))) (gd_of hg (I (marks.getD i 0))) (gd_of hg (I (marks.getD (Int.toNat ((i:Int)-1)) 0))) rfl))<|d_qg (!r3) rfl (gy_f rfl) (fun hg=>(fun w' H=>x_pand (b:=decide (0<(i:Int))) (r:=decide ((marks.getD i 0)<=(marks.getD (Int.toNat ((i:Int)-1)) 0))) (gd_of hg (B (decide (0<(i:Int))))) (fun hb=>gd_of (c:=((!r3)&&(decide (0<(i:Int))))) (by first | exact hb | (rw [hb]; rfl) | simp_all) (B (decide ((marks.getD i 0)<=(marks.getD (Int.toNat ((i:Int)-1)) 0))))) rfl))<|d_q rfl (fun w' H=>x_por (b:=r3) (r:=((decide (0<(i:Int)))&&(decide ((marks.getD i 0)<=(marks.getD (Int.toNat ((i:Int)-1)) 0))))) rfl rfl (fun hb=>gd_of (c:=!r3) (by first | exact hb | (rw [hb]; rfl) | simp_all) (B ((decide (0<(i:Int)))&&(decide ((marks.getD i 0)<=(marks.getD (Int.toNat ((i:Int)-1)) 0))))))) ?_;refine d_nil ?_
  refine W.cond (r3||((decide (0<(i:Int)))&&(decide ((marks.getD i 0)<=(marks.getD (Int.toNat ((i:Int)-1)) 0))))) rfl (fun aC=>?_) (fun aC=>?_)
  ·replace hM:=M.e_t hM aC;refine W.seq<|W.region rfl<|zA (I 2) rfl<|s_nil ?_;refine W.ret ?_
   have aT:=M.e_inr hM aB
   subst aT;replace hM:=aH;(try dsimp only at hM)
   have aw:=M.e_pure hM
   exact ⟨_,resE_tmp rfl,⟨2,aw,rfl,(H.pk [])⟩⟩
  replace hM:=M.e_f hM aC;refine W.skip<|W.region rfl<|zM (I (i:Int)) rfl<|zR (i:Int) 1 ((i:Int)+1) rfl rfl rfl (by omega)<|zA (I ((i:Int)+1)) rfl<|s_nil ?_
  exact ⟨aQ,aR,i+1,_,upds_of _ _ ⟨rfl,rfl,rfl,trivial⟩,M.e_inl hM aB,H⟩
 replace hM:=M.e_f hM aq
 replace aq:=dI aq
 refine W.exit ?_
 have aU:=M.e_inr hM aB
 subst aU;replace hM:=aH;(try dsimp only at hM);refine W.seq<|W.region rfl<|zA (I 0) rfl<|s_nil ?_;refine W.ret ?_
 have aw:=M.e_pure hM
 exact ⟨_,resE_tmp rfl,⟨0,aw,rfl,(H.pk [])⟩⟩

def zaK (a b:Mrk):M Bool :=
  M.pure (((decide (a.place<=b.place))&&(decide (a.hi<b.lo)))||((decide (b.place<=a.place))&&(decide (b.hi<a.lo))))
theorem zcB {R:List Chunk}  (a:Mrk) (b:Mrk)  {r:Bool} (hM:(zaK a b).Ends r) (w:World) (H:St w w [] R):Ret Tryz.prog 85 #[.agg #[I a.place,I a.lo,I a.hi],.agg #[I b.place,I b.lo,I b.hi]] w fun v w'=>∃ (y0:Bool),y0=r/\v=B y0/\St w w' [] R:=by
 refine ret_of_W Tryz.func85 rfl rfl rfl<|W.seq<|W.region rfl ?_;refine t_bx [I a.place,I a.lo,I a.hi] H rfl ?_;intro ab ag H;refine t_bx [I b.place,I b.lo,I b.hi] H rfl ?_;intro ac ai H;refine zA (B false) rfl<|s_nil<|W.seq<|W.region rfl<|s_val (x_fa (v:=Pq ab) rfl (fa_blk (o:=0) Fd150_0 Sz3))<|s_val (x_ld (v:=I a.place) rfl (ldb_sc Sc3 (H.bl 1) rfl))<|s_val (x_fa (v:=Pq ac) rfl (fa_blk (o:=0) Fd150_0 Sz3))<|s_val (x_ld (v:=I b.place) rfl (ldb_sc Sc3 (H.bl 0) rfl))<|zC a.place b.place (decide (a.place<=b.place)) rfl rfl rfl<|zM (B (decide (a.place<=b.place))) rfl ?_;refine g_val (decide (a.place<=b.place)) (gy_t rfl) (fun hg=>x_fa (v:=Oq ab 1) rfl (fa_blk (o:=0) Fd150_1 Sz54))<|g_val (decide (a.place<=b.place)) (gy_t rfl) (fun hg=>x_fa (v:=Oq ab 2) (gd_of hg (Oq ab 1)) (fa_blk (o:=1) Fd54_1 Sz3))<|g_val (decide (a.place<=b.place)) (gy_t rfl) (fun hg=>x_ld (v:=I a.hi) (gd_of hg (Oq ab 2)) (ldb_sc Sc3 (H.bl 1) rfl))<|g_val (decide (a.place<=b.place)) (gy_t rfl) (fun hg=>x_fa (v:=Oq ac 1) rfl (fa_blk (o:=0) Fd150_1 Sz54))<|g_val (decide (a.place<=b.place)) (gy_t rfl) (fun hg=>x_fa (v:=Oq ac 1) (gd_of hg (Oq ac 1)) (fa_blk (o:=1) Fd54_0 Sz3))<|g_val (decide (a.place<=b.place)) (gy_t rfl) (fun hg=>x_ld (v:=I b.lo) (gd_of hg (Oq ac 1)) (ldb_sc Sc3 (H.bl 0) rfl))<|g_val (decide (a.place<=b.place)) (gy_t rfl) (fun hg=>x_cmp (kd:=.i64) (r:=decide (a.hi<b.lo)) (gd_of hg (I a.hi)) (gd_of hg (I b.lo)) rfl)<|s_val (x_pand (b:=decide (a.place<=b.place)) (r:=decide (a.hi<b.lo)) rfl (fun hb=>gd_of (c:=decide (a.place<=b.place)) (by first | exact hb | (rw [hb]; rfl) | simp_all) (B (decide (a.hi<b.lo)))) rfl)<|zM (B ((decide (a.place<=b.place))&&(decide (a.hi<b.lo)))) rfl<|g_val (!((decide (a.place<=b.place))&&(decide (a.hi<b.lo)))) (gy_f rfl) (fun hg=>x_fa (v:=Pq ac) rfl (fa_blk (o:=0) Fd150_0 Sz3)) ?_;refine g_val (!((decide (a.place<=b.place))&&(decide (a.hi<b.lo)))) (gy_f rfl) (fun hg=>x_ld (v:=I b.place) (gd_of hg (Pq ac)) (ldb_sc Sc3 (H.bl 0) rfl))<|g_val (!((decide (a.place<=b.place))&&(decide (a.hi<b.lo)))) (gy_f rfl) (fun hg=>x_fa (v:=Pq ab) rfl (fa_blk (o:=0) Fd150_0 Sz3))<|g_val (!((decide (a.place<=b.place))&&(decide (a.hi<b.lo)))) (gy_f rfl) (fun hg=>x_ld (v:=I a.place) (gd_of hg (Pq ab)) (ldb_sc Sc3 (H.bl 1) rfl))<|g_val (!((decide (a.place<=b.place))&&(decide (a.hi<b.lo)))) (gy_f rfl) (fun hg=>x_cmp (kd:=.i64) (r:=decide (b.place<=a.place)) (gd_of hg (I b.place)) (gd_of hg (I a.place)) rfl)<|g_val (!((decide (a.place<=b.place))&&(decide (a.hi<b.lo)))) (gy_f rfl) (fun hg=>x_mv (v:=B (decide (b.place<=a.place))) (gd_of hg (B (decide (b.place<=a.place)))))<|g_val ((!((decide (a.place<=b.place))&&(decide (a.hi<b.lo))))&&(decide (b.place<=a.place))) (gy_gt rfl rfl) (fun hg=>x_fa (v:=Oq ac 1) rfl (fa_blk (o:=0) Fd150_1 Sz54))<|g_val ((!((decide (a.place<=b.place))&&(decide (a.hi<b.lo))))&&(decide (b.place<=a.place))) (gy_gt rfl rfl) (fun hg=>x_fa (v:=Oq ac 2) (gd_of hg (Oq ac 1)) (fa_blk (o:=1) Fd54_1 Sz3))<|g_val ((!((decide (a.place<=b.place))&&(decide (a.hi<b.lo))))&&(decide (b.place<=a.place))) (gy_gt rfl rfl) (fun hg=>x_ld (v:=I b.hi) (gd_of hg (Oq ac 2)) (ldb_sc Sc3 (H.bl 0) rfl))<|g_val ((!((decide (a.place<=b.place))&&(decide (a.hi<b.lo))))&&(decide (b.place<=a.place))) (gy_gt rfl rfl) (fun hg=>x_fa (v:=Oq ab 1) rfl (fa_blk (o:=0) Fd150_1 Sz54))<|g_val ((!((decide (a.place<=b.place))&&(decide (a.hi<b.lo))))&&(decide (b.place<=a.place))) (gy_gt rfl rfl) (fun hg=>x_fa (v:=Oq ab 1) (gd_of hg (Oq ab 1)) (fa_blk (o:=1) Fd54_0 Sz3)) ?_;refine g_val ((!((decide (a.place<=b.place))&&(decide (a.hi<b.lo))))&&(decide (b.place<=a.place))) (gy_gt rfl rfl) (fun hg=>x_ld (v:=I a.lo) (gd_of hg (Oq ab 1)) (ldb_sc Sc3 (H.bl 1) rfl))<|g_val ((!((decide (a.place<=b.place))&&(decide (a.hi<b.lo))))&&(decide (b.place<=a.place))) (gy_gt rfl rfl) (fun hg=>x_cmp (kd:=.i64) (r:=decide (b.hi<a.lo)) (gd_of hg (I b.hi)) (gd_of hg (I a.lo)) rfl)<|g_val (!((decide (a.place<=b.place))&&(decide (a.hi<b.lo)))) (gy_f rfl) (fun hg=>x_pand (b:=decide (b.place<=a.place)) (r:=decide (b.hi<a.lo)) (gd_of hg (B (decide (b.place<=a.place)))) (fun hb=>gd_of (c:=((!((decide (a.place<=b.place))&&(decide (a.hi<b.lo))))&&(decide (b.place<=a.place)))) (by first | exact hb | (rw [hb]; rfl) | simp_all) (B (decide (b.hi<a.lo)))) rfl)<|s_val (x_por (b:=((decide (a.place<=b.place))&&(decide (a.hi<b.lo)))) (r:=((decide (b.place<=a.place))&&(decide (b.hi<a.lo)))) rfl rfl (fun hb=>gd_of (c:=!((decide (a.place<=b.place))&&(decide (a.hi<b.lo)))) (by first | exact hb | (rw [hb]; rfl) | simp_all) (B ((decide (b.place<=a.place))&&(decide (b.hi<a.lo))))))<|zA (B (((decide (a.place<=b.place))&&(decide (a.hi<b.lo)))||((decide (b.place<=a.place))&&(decide (b.hi<a.lo))))) rfl<|s_nil ?_;replace H:=H.pk [];refine W.ret ?_
 have ae:=M.e_pure hM
 exact ⟨_,resE_tmp rfl,⟨(((decide (a.place<=b.place))&&(decide (a.hi<b.lo)))||((decide (b.place<=a.place))&&(decide (b.hi<a.lo)))),ae,rfl,H⟩⟩

def zbJ (s_Marks:List Mrk) (marks:List Int) (i:Nat):Nat->M (Nat ⊕ (Unit ⊕ Unit)):=fun k =>
  bif decide ((k:Int)<(i:Int)) then (
  M.grd (decide ((i:Int)<(marks.length:Int))) <|
  M.grd (decide ((0:Int)<=(marks.getD i 0))&&decide ((marks.getD i 0)<(s_Marks.length:Int))) <|
  M.grd (decide ((k:Int)<(marks.length:Int))) <|
  M.grd (decide ((0:Int)<=(marks.getD k 0))&&decide ((marks.getD k 0)<(s_Marks.length:Int))) <|
  M.bind (zaK (s_Marks.getD (Int.toNat (marks.getD i 0)) default) (s_Marks.getD (Int.toNat (marks.getD k 0)) default)) fun r2 =>
  bif r2 then (
  M.pure (.inr (.inl ())))
  else (
  M.pure (.inl (k+1))))
  else (
  M.pure (.inr (.inr ())))
def zbm (s_Marks:List Mrk) (marks:List Int):Nat->M (Nat ⊕ (Unit ⊕ Unit)):=fun i =>
  bif decide ((i:Int)<(marks.length:Int)) then (
  M.bind (M.iter (zbJ s_Marks marks i) 0) fun x_=>match x_ with
  | (.inl (_:Unit))=>(
  M.pure (.inr (.inl ())))
  | (.inr (_:Unit))=>(
  M.pure (.inl (i+1))))
  else (
  M.pure (.inr (.inr ())))
def zbn (s_Sections:List Sect) (s_Marks:List Mrk) (s_Reaches:List Rch) (marks:List Int):M Bool :=
  M.bind (M.iter (zbm s_Marks marks) 0) fun x_=>match x_ with
  | (.inl (_:Unit))=>(
  M.pure false)
  | (.inr (_:Unit))=>(
  M.pure true)
theorem zdD {R:List Chunk} {ay:Cells} {aj:Value} {az:Cells} {ab:Value} {aA:Cells} {ak:Value} {aB:Cells} {ac:Value} (s_Sections:List Sect) (s_Marks:List Mrk) (s_Reaches:List Rch) (marks:List Int) (aW:Reads R ay) (aX:Sl ay aj s_Sections) (aC:Reads R az) (ao:Sl az ab s_Marks) (aY:Reads R aA) (aZ:Sl aA ak s_Reaches) (aD:Reads R aB) (am:Sl aB ac marks) {r:Bool} (hM:(zbn s_Sections s_Marks s_Reaches marks).Ends r) (w:World) (H:St w w [] R):Ret Tryz.prog 34 #[.agg #[aj,ab,ak],ac] w fun v w'=>∃ (y0:Bool),y0=r/\v=B y0/\St w w' [] R:=by
 refine ret_of_W Tryz.func34 rfl rfl rfl<|W.seq<|W.region rfl ?_;refine t_bx [aj,ab,ak] H rfl ?_;intro ae a6 H;refine zA (B false) rfl<|s_nil<|W.seq<|W.seq<|W.region rfl<|zA (I 0) rfl<|s_nil<|W.block ?_;obtain ⟨aK,ap,aE⟩:=M.e_bind hM
 obtain ⟨aL,ap⟩:=M.e_iter ap
 refine W.loop (fun m σ W=>∃ (i:Nat) (ρ:Env),σ=upds ρ [(1,ac),(2,Pq ae),(5,I (i:Int))]/\M.iterN (zbm s_Marks marks) m i=some aK/\St w W [cBlk ae [aj,ab,ak] 81] R) ?_ ?_
 ·exact ⟨_,0,_,upds_of _ _ ⟨rfl,rfl,rfl,trivial⟩,ap,H⟩
 rintro a7 σ a8 ⟨i,ρ,rfl,aF,H⟩
 obtain ⟨aM,aN,ba,hM,aq⟩:=M.e_iterN aF
 simp only [zbm] at hM
 clear aF;refine W.seq<|W.seq<|W.region rfl<|zM (I (i:Int)) rfl<|zM ac rfl ?_
 have bb:=(am).len_le
 refine s_val (x_lenS T28.und rfl am)<|zC (i:Int) (marks.length:Int) (decide ((i:Int)<(marks.length:Int))) rfl rfl rfl<|s_nil ?_
 refine W.cond (decide ((i:Int)<(marks.length:Int))) rfl (fun ag=>?_) (fun ag=>?_)
 ·replace hM:=M.e_t hM ag
  replace ag:=dI ag
  refine W.skip<|W.seq<|W.block<|W.seq<|W.region rfl<|zA (I 0) rfl<|s_nil<|W.block ?_;obtain ⟨aO,au,aG⟩:=M.e_bind hM
  obtain ⟨aL,au⟩:=M.e_iter au
  refine W.loop (fun m σ W=>∃ (k:Nat) (ρ:Env),σ=upds ρ [(1,ac),(2,Pq ae),(5,I (i:Int)),(6,I (k:Int))]/\M.iterN (zbJ s_Marks marks i) m k=some aO/\St w W [cBlk ae [aj,ab,ak] 81] R) ?_ ?_
  ·exact ⟨_,0,_,upds_of _ _ ⟨rfl,rfl,rfl,rfl,trivial⟩,au,H⟩
  rintro bc σ bf ⟨k,ρ,rfl,aH,H⟩
  obtain ⟨aP,aQ,bg,hM,av⟩:=M.e_iterN aH
  simp only [zbJ] at hM
  clear aH;refine W.seq<|W.seq<|W.region rfl<|zM (I (k:Int)) rfl<|zM (I (i:Int)) rfl<|zC (k:Int) (i:Int) (decide ((k:Int)<(i:Int))) rfl rfl rfl<|s_nil ?_
  refine W.cond (decide ((k:Int)<(i:Int))) rfl (fun ai=>?_) (fun ai=>?_)
  ·replace hM:=M.e_t hM ai
   replace ai:=dI ai
   refine W.skip<|W.seq<|W.block<|W.seq ?_;refine W.draw (fun W=>St w W [cBlk ae [aj,ab,ak] 81] R) [(0,true),(1,true),(2,true),(3,true),(4,true),(5,true),(6,true),(7,true),(8,true),(9,true),(10,true),(11,true),(12,true),(13,true),(14,true),(15,true),(16,false)] mixed (by decide +kernel) rfl ?_;intro bh aI;replace H:=H.ext aI;clear aI
   refine ⟨(H.pk [0]),?_⟩
   refine d_q rfl (fun w' H=>x_fa (v:=Oq ae 1) rfl (fa_blk (o:=0) Fd81_1 Sz78))<|d_q rfl (fun w' H=>x_ld (v:=ab) rfl (ldb_sc Sc78 (H.bl 0) rfl))<|d_q rfl (fun w' H=>x_mv (v:=ac) rfl)<|d_q rfl (fun w' H=>x_mv (v:=I (i:Int)) rfl) ?_;obtain ⟨bi,hM⟩:=M.e_gd hM;refine d_q rfl (fun w' H=>x_ix (v:=vat ac 1 (Int.toNat (i:Int))) rfl rfl (Sl.ix (α:=Int) T28.und T28.size am (by omega) (by omega)))<|d_q rfl (fun w' H=>x_ld (v:=I (marks.getD i 0)) rfl (ld_sc Sc3 (At.mono (Int_at am (i:=(i:Int)) (by omega) (by omega)) (aD.at H)))) ?_;obtain ⟨bj,hM⟩:=M.e_gd hM;refine d_q rfl (fun w' H=>x_ix (v:=vat ab 3 (Int.toNat (marks.getD i 0))) rfl rfl (Sl.ix (α:=Mrk) T78.und T78.size ao (by omega) (by omega)))<|d_q rfl (fun w' H=>x_ld (v:=.agg #[I ((s_Marks.getD (Int.toNat (marks.getD i 0)) default).place),I ((s_Marks.getD (Int.toNat (marks.getD i 0)) default).lo),I ((s_Marks.getD (Int.toNat (marks.getD i 0)) default).hi)]) rfl (ld_ag Ag150 Sz150 (At.mono (Mrk_atA ao (i:=marks.getD i 0) (by omega) (by omega)) (aC.at H))))<|d_q rfl (fun w' H=>x_fa (v:=Oq ae 1) rfl (fa_blk (o:=0) Fd81_1 Sz78))<|d_q rfl (fun w' H=>x_ld (v:=ab) rfl (ldb_sc Sc78 (H.bl 0) rfl))<|d_q rfl (fun w' H=>x_mv (v:=ac) rfl)<|d_q rfl (fun w' H=>x_mv (v:=I (k:Int)) rfl) ?_;obtain ⟨bm,hM⟩:=M.e_gd hM;refine d_q rfl (fun w' H=>x_ix (v:=vat ac 1 (Int.toNat (k:Int))) rfl rfl (Sl.ix (α:=Int) T28.und T28.size am (by omega) (by omega)))<|d_q rfl (fun w' H=>x_ld (v:=I (marks.getD k 0)) rfl (ld_sc Sc3 (At.mono (Int_at am (i:=(k:Int)) (by omega) (by omega)) (aD.at H)))) ?_;obtain ⟨bn,hM⟩:=M.e_gd hM;refine d_q rfl (fun w' H=>x_ix (v:=vat ab 3 (Int.toNat (marks.getD k 0))) rfl rfl (Sl.ix (α:=Mrk) T78.und T78.size ao (by omega) (by omega)))<|d_q rfl (fun w' H=>x_ld (v:=.agg #[I ((s_Marks.getD (Int.toNat (marks.getD k 0)) default).place),I ((s_Marks.getD (Int.toNat (marks.getD k 0)) default).lo),I ((s_Marks.getD (Int.toNat (marks.getD k 0)) default).hi)]) rfl (ld_ag Ag150 Sz150 (At.mono (Mrk_atA ao (i:=marks.getD k 0) (by omega) (by omega)) (aC.at H))))<|d_l rfl ?_;obtain ⟨bo,aR,hM⟩:=M.e_bind hM;refine s_call cf85 [.agg #[I ((s_Marks.getD (Int.toNat (marks.getD i 0)) default).place),I ((s_Marks.getD (Int.toNat (marks.getD i 0)) default).lo),I ((s_Marks.getD (Int.toNat (marks.getD i 0)) default).hi)],.agg #[I ((s_Marks.getD (Int.toNat (marks.getD k 0)) default).place),I ((s_Marks.getD (Int.toNat (marks.getD k 0)) default).lo),I ((s_Marks.getD (Int.toNat (marks.getD k 0)) default).hi)]] rfl (zcB (s_Marks.getD (Int.toNat (marks.getD i 0)) default) (s_Marks.getD (Int.toNat (marks.getD k 0)) default) aR _ (H.gt 1)) ?_
   rintro vq bp ⟨r2,rfl,hvq,aJ⟩
   subst vq;(try dsimp only at hM);replace H:=H.bk aJ;clear aJ
   refine s_nil ⟨(H.pk [0]),?_⟩
   refine d_nil ?_
   refine W.cond r2 rfl (fun aw=>?_) (fun aw=>?_)
   ·replace hM:=M.e_t hM aw;refine W.seq<|W.region rfl<|zA (B false) rfl<|s_nil ?_;refine W.ret ?_
    have aS:=M.e_inr hM av
    subst aS;replace hM:=aG;(try dsimp only at hM)
    have aT:=M.e_inr hM aq
    subst aT;replace hM:=aE;(try dsimp only at hM)
    have ax:=M.e_pure hM
    exact ⟨_,resE_tmp rfl,⟨false,ax,rfl,(H.pk [])⟩⟩
   replace hM:=M.e_f hM aw;refine W.skip<|W.region rfl<|zM (I (k:Int)) rfl<|zR (k:Int) 1 ((k:Int)+1) rfl rfl rfl (by omega)<|zA (I ((k:Int)+1)) rfl<|s_nil ?_
   exact ⟨aP,aQ,k+1,_,upds_of _ _ ⟨rfl,rfl,rfl,rfl,trivial⟩,M.e_inl hM av,H⟩
  replace hM:=M.e_f hM ai
  replace ai:=dI ai
  refine W.exit ?_
  have aU:=M.e_inr hM av
  subst aU;replace hM:=aG;(try dsimp only at hM);refine W.region rfl<|zM (I (i:Int)) rfl<|zR (i:Int) 1 ((i:Int)+1) rfl rfl rfl (by omega)<|zA (I ((i:Int)+1)) rfl<|s_nil ?_
  exact ⟨aM,aN,i+1,_,upds_of _ _ ⟨rfl,rfl,rfl,trivial⟩,M.e_inl hM aq,H⟩
 replace hM:=M.e_f hM ag
 replace ag:=dI ag
 refine W.exit ?_
 have aV:=M.e_inr hM aq
 subst aV;replace hM:=aE;(try dsimp only at hM);refine W.seq<|W.region rfl<|zA (B true) rfl<|s_nil ?_;refine W.ret ?_
 have ax:=M.e_pure hM
 exact ⟨_,resE_tmp rfl,⟨true,ax,rfl,(H.pk [])⟩⟩

def zba (s_Sections:List Sect) (s_Marks:List Mrk) (marks:List Int) (ab:Int) (h:Nat):(Bool × Nat)->M ((Bool × Nat) ⊕ Bool):=fun (fine,i) =>
  bif decide ((i:Int)<(marks.length:Int)) then (
  M.grd ((!fine||(decide ((i:Int)<(marks.length:Int))))) <|
  M.grd ((!fine||(decide ((0:Int)<=(marks.getD i 0))&&decide ((marks.getD i 0)<(s_Marks.length:Int))))) <|
  M.bind (M.opt fine (zaK (⟨((s_Sections.getD (Int.toNat ab) default).place:Int),(h:Int),(h:Int)⟩:Mrk) (s_Marks.getD (Int.toNat (marks.getD i 0)) default)) false) fun r2 =>
  M.pure (.inl ((fine&&(!r2)),i+1)))
  else (
  M.pure (.inr fine))
def zbh (s_Sections:List Sect) (s_Marks:List Mrk) (marks:List Int) (ab:Int):(Nat × (List Int))->M ((Nat × (List Int)) ⊕ ((List Int) × (List Int))):=fun (h,l) =>
  bif decide ((h:Int)<=2000) then (
  M.grd (decide ((0:Int)<=ab)&&decide (ab<(s_Sections.length:Int))) <|
  M.bind (M.iter (zba s_Sections s_Marks marks ab h) (true,0)) fun fine2 =>
  bif fine2 then (
  M.grd (decide ((l.length+([(h:Int)]).length)*8<=140737488355328)) <|
  M.grd (decide ((-9223372036854775808:Int)<=((h:Int)+1))&&decide (((h:Int)+1)<=(9223372036854775807:Int))) <|
  M.pure (.inl (h+1,l++([(h:Int)]))))
  else (
  M.grd (decide ((-9223372036854775808:Int)<=((h:Int)+1))&&decide (((h:Int)+1)<=(9223372036854775807:Int))) <|
  M.pure (.inl (h+1,l))))
  else (
  M.pure (.inr (l,l)))
def zaQ (s_Sections:List Sect) (s_Marks:List Mrk) (s_Reaches:List Rch) (marks:List Int) (ab:Int):M (List Int) :=
  M.bind (M.iter (zbh s_Sections s_Marks marks ab) (0,[])) fun (l2,l3) =>
  M.pure l3
theorem zcQ {R:List Chunk} {aF:Cells} {am:Value} {aG:Cells} {ak:Value} {aH:Cells} {aw:Value} {aI:Cells} {ao:Value} (s_Sections:List Sect) (s_Marks:List Mrk) (s_Reaches:List Rch) (marks:List Int) (ac:Int) (aQ:Reads R aF) (ay:Sl aF am s_Sections) (aR:Reads R aG) (aJ:Sl aG ak s_Marks) (bc:Reads R aH) (bf:Sl aH aw s_Reaches) (aS:Reads R aI) (ax:Sl aI ao marks) {r:(List Int)} (hM:(zaQ s_Sections s_Marks s_Reaches marks ac).Ends r) (w:World) (H:St w w [] R):Ret Tryz.prog 90 #[.agg #[am,ak,aw],ao,I ac] w fun v w'=>∃ (y0:List Int) (u0:Value),y0=r/\v=u0/\St w w' [cOwn (α:=Int) 3 u0 y0] R:=by
 refine ret_of_W Tryz.func90 rfl rfl rfl<|W.seq<|W.region rfl ?_;refine t_bx [am,ak,aw] H rfl ?_;intro ap bg H;refine zA (.slice none 0 0) rfl<|s_nil<|W.seq<|W.region rfl<|zA (.slice none 0 0) rfl<|s_nil<|W.seq<|W.seq<|W.region rfl<|zA (I 0) rfl ?_;refine s_nil<|W.block ?_
 replace H:=H.nilOwn (α:=Int) 3
 obtain ⟨aT,az,aU⟩:=M.e_bind hM
 obtain ⟨aV,az⟩:=M.e_iter az
 refine W.loop (fun m σ W=>∃ (h:Nat) (l:List Int) (ai:Value) (ρ:Env),σ=upds ρ [(1,ao),(2,I ac),(3,Pq ap),(7,ai),(8,I (h:Int))]/\M.iterN (zbh s_Sections s_Marks marks ac) m (h,l)=some aT/\St w W [cOwn (α:=Int) 3 ai l,cBlk ap [am,ak,aw] 81] R) ?_ ?_
 ·exact ⟨_,0,[],(.slice none 0 0),_,upds_of _ _ ⟨rfl,rfl,rfl,rfl,rfl,trivial⟩,az,H⟩
 rintro bh σ bi ⟨h,l,ai,ρ,rfl,aK,H⟩
 obtain ⟨aL,aM,bj,hM,aA⟩:=M.e_iterN aK
 simp only [zbh] at hM
 clear aK;refine W.seq<|W.seq<|W.region rfl<|zM (I (h:Int)) rfl<|zC (h:Int) 2000 (decide ((h:Int)<=2000)) rfl rfl rfl<|s_nil ?_
 refine W.cond (decide ((h:Int)<=2000)) rfl (fun aq=>?_) (fun aq=>?_)
 ·replace hM:=M.e_t hM aq
  replace aq:=dI aq
  refine W.skip<|W.seq<|W.block<|W.seq<|W.region rfl<|s_val (x_fa (v:=Pq ap) rfl (fa_blk (o:=0) Fd81_0 Sz77))<|s_val (x_ld (v:=am) rfl (ldb_sc Sc77 (H.bl 1) rfl))<|zM (I ac) rfl ?_;obtain ⟨bm,hM⟩:=M.e_gd hM;refine s_val (x_ix (v:=vat am 2 (Int.toNat ac)) rfl rfl (Sl.ix (α:=Sect) T77.und T77.size ay (by omega) (by omega)))<|s_val (x_fa (v:=fat (vat am 2 (Int.toNat ac)) 0) rfl (fa_pl Fd148_0 Sz3 (Sl.pl (i:=ac) ay (by omega) (by omega))))<|s_val (x_ld (v:=I ((s_Sections.getD (Int.toNat ac) default).place)) rfl (ld_sc Sc3 (At.mono (Sect_at0 ay (i:=ac) (by omega) (by omega)) (aQ.at H))))<|zM (I (h:Int)) rfl<|zM (I (h:Int)) rfl<|s_val (x_bld (ps:=[(0,I (h:Int)),(1,I (h:Int))]) (zs:=[I 0,I 0]) (L':=[I (h:Int),I (h:Int)]) rfl Tryz.underlying54 Al54 rfl (Bd54 Tryz.underlying54) (.cons (cs:=[I (h:Int)]) rfl rfl rfl rfl rfl<|.cons (cs:=[I (h:Int)]) rfl rfl rfl rfl rfl<|.nil))<|s_val (x_bld (ps:=[(0,I ((s_Sections.getD (Int.toNat ac) default).place)),(1,.agg #[I (h:Int),I (h:Int)])]) (zs:=[I 0,I 0,I 0]) (L':=[I ((s_Sections.getD (Int.toNat ac) default).place),I (h:Int),I (h:Int)]) rfl Tryz.underlying150 Al150 rfl (Bd150 Tryz.underlying150) (.cons (cs:=[I ((s_Sections.getD (Int.toNat ac) default).place)]) rfl rfl rfl rfl rfl<|.cons (cs:=[I (h:Int),I (h:Int)]) rfl rfl rfl rfl rfl<|.nil)) ?_;refine t_alloc (cs:=[I 0,I 0,I 0]) H Al150 rfl ?_;intro aB bn H;refine t_sw 0 0 [I ((s_Sections.getD (Int.toNat ac) default).place),I (h:Int),I (h:Int)] (.agg #[I ((s_Sections.getD (Int.toNat ac) default).place),I (h:Int),I (h:Int)]) H rfl rfl Sz150 rfl rfl rfl rfl ?_;intro bo H;refine s_nil<|W.seq<|W.region rfl<|zA (B true) rfl<|s_nil<|W.seq<|W.seq<|W.region rfl<|zA (I 0) rfl<|s_nil ?_;refine W.block ?_;obtain ⟨aW,aC,aX⟩:=M.e_bind hM
  obtain ⟨aV,aC⟩:=M.e_iter aC
  refine W.loop (fun m σ W=>∃ (fine:Bool) (i:Nat) (ρ:Env),σ=upds ρ [(1,ao),(2,I ac),(3,Pq ap),(7,ai),(8,I (h:Int)),(9,Pq aB),(10,B fine),(11,I (i:Int))]/\M.iterN (zba s_Sections s_Marks marks ac h) m (fine,i)=some aW/\St w W [cBlk aB [I ((s_Sections.getD (Int.toNat ac) default).place),I (h:Int),I (h:Int)] 150,cOwn (α:=Int) 3 ai l,cBlk ap [am,ak,aw] 81] R) ?_ ?_
  ·exact ⟨_,true,0,_,upds_of _ _ ⟨rfl,rfl,rfl,rfl,rfl,rfl,rfl,rfl,trivial⟩,aC,H⟩
  rintro bp σ bq ⟨fine,i,ρ,rfl,aN,H⟩
  obtain ⟨aY,aZ,br,hM,aO⟩:=M.e_iterN aN
  simp only [zba] at hM
  clear aN;refine W.seq<|W.seq<|W.region rfl<|zM (I (i:Int)) rfl<|zM ao rfl ?_
  have bt:=(ax).len_le
  refine s_val (x_lenS T28.und rfl ax)<|zC (i:Int) (marks.length:Int) (decide ((i:Int)<(marks.length:Int))) rfl rfl rfl<|s_nil ?_
  refine W.cond (decide ((i:Int)<(marks.length:Int))) rfl (fun au=>?_) (fun au=>?_)
  ·replace hM:=M.e_t hM au
   replace au:=dI au
   refine W.skip<|W.seq<|W.block ?_;refine W.draw (fun W=>St w W [cBlk aB [I ((s_Sections.getD (Int.toNat ac) default).place),I (h:Int),I (h:Int)] 150,cOwn (α:=Int) 3 ai l,cBlk ap [am,ak,aw] 81] R) [(0,true),(1,true),(2,true),(3,true),(4,true),(5,true),(6,true),(7,true),(8,true),(9,true),(10,true),(11,false),(12,true),(13,true),(14,true)] mixed (by decide +kernel) rfl ?_;intro bu ae;replace H:=H.ext ae;clear ae
   refine ⟨(H.pk [0,1,2]),?_⟩
   refine d_q rfl (fun w' H=>x_mv (v:=B fine) rfl)<|d_q rfl (fun w' H=>x_mv (v:=B fine) rfl)<|d_qg fine rfl (gy_t rfl) (fun hg=>(fun w' H=>x_ld (v:=.agg #[I ((s_Sections.getD (Int.toNat ac) default).place),I (h:Int),I (h:Int)]) rfl (ldb_ag (ds:=[I ((s_Sections.getD (Int.toNat ac) default).place),I (h:Int),I (h:Int)]) Ag150 Sz150 (H.bl 0) rfl rfl)))<|d_qg fine rfl (gy_t rfl) (fun hg=>(fun w' H=>x_fa (v:=Oq ap 1) rfl (fa_blk (o:=0) Fd81_1 Sz78)))<|d_qg fine rfl (gy_t rfl) (fun hg=>(fun w' H=>x_ld (v:=ak) (gd_of hg (Oq ap 1)) (ldb_sc Sc78 (H.bl 2) rfl)))<|d_qg fine rfl (gy_t rfl) (fun hg=>(fun w' H=>x_mv (v:=ao) rfl))<|d_qg fine rfl (gy_t rfl) (fun hg=>(fun w' H=>x_mv (v:=I (i:Int)) rfl)) ?_;obtain ⟨aj,hM⟩:=M.e_grd hM
   replace aj:=M.imp_of aj
   simp only [Bool.and_eq_true,decide_eq_true_eq] at aj
   refine d_qg fine rfl (gy_t rfl) (fun hg=>(fun w' H=>x_ix (v:=vat ao 1 (Int.toNat (i:Int))) (gd_of hg (ao)) (gd_of hg (I (i:Int))) (Sl.ix (α:=Int) T28.und T28.size ax (by have ab:=aj.resolve_left (by rw [hg]; decide); first | exact ab | exact ab.1 | exact ab.2 | omega | (have ae:=hg; simp at ae; omega)) (by have ab:=aj.resolve_left (by rw [hg]; decide); first | exact ab | exact ab.1 | exact ab.2 | omega | (have ae:=hg; simp at ae; omega)))))<|d_qg fine rfl (gy_t rfl) (fun hg=>(fun w' H=>x_ld (v:=I (marks.getD i 0)) (gd_of hg (vat ao 1 (Int.toNat (i:Int)))) (ld_sc Sc3 (At.mono (Int_at ax (i:=(i:Int)) (by have ab:=aj.resolve_left (by rw [hg]; decide); first | exact ab | exact ab.1 | exact ab.2 | omega | (have ae:=hg; simp at ae; omega)) (by have ab:=aj.resolve_left (by rw [hg]; decide); first | exact ab | exact ab.1 | exact ab.2 | omega | (have ae:=hg; simp at ae; omega))) (aS.at H))))) ?_;obtain ⟨av,hM⟩:=M.e_grd hM
   replace av:=M.imp_of av
   simp only [Bool.and_eq_true,decide_eq_true_eq] at av
   refine d_qg fine rfl (gy_t rfl) (fun hg=>(fun w' H=>x_ix (v:=vat ak 3 (Int.toNat (marks.getD i 0))) (gd_of hg (ak)) (gd_of hg (I (marks.getD i 0))) (Sl.ix (α:=Mrk) T78.und T78.size aJ (by have ab:=aj.resolve_left (by rw [hg]; decide); have ag:=av.resolve_left (by rw [hg]; decide); first | exact ab | exact ab.1 | exact ab.2 | exact ag | exact ag.1 | exact ag.2 | omega | (have ae:=hg; simp at ae; omega)) (by have ab:=aj.resolve_left (by rw [hg]; decide); have ag:=av.resolve_left (by rw [hg]; decide); first | exact ab | exact ab.1 | exact ab.2 | exact ag | exact ag.1 | exact ag.2 | omega | (have ae:=hg; simp at ae; omega)))))<|d_qg fine rfl (gy_t rfl) (fun hg=>(fun w' H=>x_ld (v:=.agg #[I ((s_Marks.getD (Int.toNat (marks.getD i 0)) default).place),I ((s_Marks.getD (Int.toNat (marks.getD i 0)) default).lo),I ((s_Marks.getD (Int.toNat (marks.getD i 0)) default).hi)]) (gd_of hg (vat ak 3 (Int.toNat (marks.getD i 0)))) (ld_ag Ag150 Sz150 (At.mono (Mrk_atA aJ (i:=marks.getD i 0) (by have ab:=aj.resolve_left (by rw [hg]; decide); have ag:=av.resolve_left (by rw [hg]; decide); first | exact ab | exact ab.1 | exact ab.2 | exact ag | exact ag.1 | exact ag.2 | omega | (have ae:=hg; simp at ae; omega)) (by have ab:=aj.resolve_left (by rw [hg]; decide); have ag:=av.resolve_left (by rw [hg]; decide); first | exact ab | exact ab.1 | exact ab.2 | exact ag | exact ag.1 | exact ag.2 | omega | (have ae:=hg; simp at ae; omega))) (aR.at H)))))<|d_l rfl ?_;obtain ⟨r2,a6,hM⟩:=M.e_bind hM;refine t_gcall fine (gy_t rfl) cf85 (B r2) (fun _=>[.agg #[I ((s_Sections.getD (Int.toNat ac) default).place),I (h:Int),I (h:Int)],.agg #[I ((s_Marks.getD (Int.toNat (marks.getD i 0)) default).place),I ((s_Marks.getD (Int.toNat (marks.getD i 0)) default).lo),I ((s_Marks.getD (Int.toNat (marks.getD i 0)) default).hi)]]) (fun hg=>lst2 (gd_of hg (.agg #[I ((s_Sections.getD (Int.toNat ac) default).place),I (h:Int),I (h:Int)])) (gd_of hg (.agg #[I ((s_Marks.getD (Int.toNat (marks.getD i 0)) default).place),I ((s_Marks.getD (Int.toNat (marks.getD i 0)) default).lo),I ((s_Marks.getD (Int.toNat (marks.getD i 0)) default).hi)]))) H (fun hg=>(zcB (⟨((s_Sections.getD (Int.toNat ac) default).place:Int),(h:Int),(h:Int)⟩:Mrk) (s_Marks.getD (Int.toNat (marks.getD i 0)) default) (M.e_opt a6 hg) _ (H.give (A:=[]) rfl)).mono fun v_ w_ ⟨y_,aD,a7,H_⟩=>by subst aD; exact ⟨a7,H.via H_⟩) ?_;intro bv H
   refine s_nil ⟨(H.pk [0,1,2]),?_⟩
   refine d_qg fine rfl (gy_t rfl) (fun hg=>(fun w' H=>x_not (b:=r2) (gd_of hg (B r2))))<|d_q rfl (fun w' H=>x_pand (b:=fine) (r:=!r2) rfl (fun hb=>gd_of (c:=fine) (by first | exact hb | (rw [hb]; rfl) | simp_all) (B (!r2))) rfl)<|d_q rfl (fun w' H=>x_as (v:=B (fine&&(!r2))) rfl) ?_;refine d_nil<|W.region rfl<|zM (I (i:Int)) rfl<|zR (i:Int) 1 ((i:Int)+1) rfl rfl rfl (by omega)<|zA (I ((i:Int)+1)) rfl<|s_nil ?_
   exact ⟨aY,aZ,(fine&&(!r2)),i+1,_,upds_of _ _ ⟨rfl,rfl,rfl,rfl,rfl,rfl,rfl,rfl,trivial⟩,M.e_inl hM aO,H⟩
  replace hM:=M.e_f hM au
  replace au:=dI au
  refine W.exit ?_
  have a8:=M.e_inr hM aO
  subst a8;replace hM:=aX;(try dsimp only at hM);refine W.seq<|W.region rfl<|zM (B fine) rfl<|s_nil ?_
  refine W.cond fine rfl (fun aE=>?_) (fun aE=>?_)
  ·replace hM:=M.e_t hM aE;refine W.region rfl<|zM ai rfl<|zM (I (h:Int)) rfl ?_;refine t_bs (α:=Int) T28 [I (h:Int)] [(h:Int)] H rfl (.cons rfl (Flat.rep_enc _ (h:Int))<|.nil) rfl rfl rfl ?_;intro ba bw H;obtain ⟨bx,hM⟩:=M.e_gd hM;refine t_app (α:=Int) (k:=2) (l:=l) (l2:=[(h:Int)]) (l':=l++([(h:Int)])) (vy:=ba) T28 rfl H rfl rfl rfl (H.os 0) (H.ol 0) (rfl) (by first | omega | (simp only [List.length_nil] at *; omega)) ?_;intro aP bz H;replace H:=H.nf;refine zA aP rfl<|s_nil ?_;replace H:=H.pk [2,3];refine W.region rfl<|zM (I (h:Int)) rfl ?_;obtain ⟨bA,hM⟩:=M.e_gd hM;refine zR (h:Int) 1 ((h:Int)+1) rfl rfl rfl (by omega)<|zA (I ((h:Int)+1)) rfl<|s_nil ?_
   exact ⟨aL,aM,h+1,l++([(h:Int)]),aP,_,upds_of _ _ ⟨rfl,rfl,rfl,rfl,rfl,trivial⟩,M.e_inl hM aA,H⟩
  replace hM:=M.e_f hM aE;refine W.skip<|W.region rfl<|zM (I (h:Int)) rfl ?_;obtain ⟨bB,hM⟩:=M.e_gd hM;refine zR (h:Int) 1 ((h:Int)+1) rfl rfl rfl (by omega)<|zA (I ((h:Int)+1)) rfl<|s_nil ?_
  exact ⟨aL,aM,h+1,l,ai,_,upds_of _ _ ⟨rfl,rfl,rfl,rfl,rfl,trivial⟩,M.e_inl hM aA,(H.pk [1,2])⟩
 replace hM:=M.e_f hM aq
 replace aq:=dI aq
 refine W.exit ?_
 have bb:=M.e_inr hM aA
 subst bb;replace hM:=aU;(try dsimp only at hM);refine W.seq<|W.region rfl<|zM ai rfl<|zA ai rfl<|s_nil ?_;refine W.ret ?_
 have aD:=M.e_pure hM
 exact ⟨_,resE_tmp rfl,⟨l,ai,aD,rfl,(H.pk [0])⟩⟩

def za7 (s_Sections:List Sect) (s_Marks:List Mrk) (s_Reaches:List Rch) (marks:List Int):(Nat × (List Span))->M ((Nat × (List Span)) ⊕ ((List Span) × (List Span))):=fun (i,l) =>
  bif decide ((i:Int)<(s_Sections.length:Int)) then (
  M.bind (zaQ s_Sections s_Marks s_Reaches marks (i:Int)) fun r4 =>
  M.grd (decide (0<(r4.length:Int))) <|
  M.grd (decide ((0:Int)<=((r4.length:Int)-1))&&decide (((r4.length:Int)-1)<(r4.length:Int))) <|
  M.grd (decide ((l.length+([(⟨(r4.getD 0 0:Int),(r4.getD (Int.toNat ((r4.length:Int)-1)) 0:Int)⟩:Span)]).length)*16<=140737488355328)) <|
  M.pure (.inl (i+1,l++([(⟨(r4.getD 0 0:Int),(r4.getD (Int.toNat ((r4.length:Int)-1)) 0:Int)⟩:Span)]))))
  else (
  M.pure (.inr (l,l)))
def zbY (s_Sections:List Sect) (s_Marks:List Mrk) (s_Reaches:List Rch) (marks:List Int):M ((List Span) × Int) :=
  M.bind (zbV s_Sections s_Marks s_Reaches marks) fun r2 =>
  bif r2 != 0 then (
  M.pure (([]),r2))
  else (
  M.bind (zbn s_Sections s_Marks s_Reaches marks) fun r3 =>
  bif !r3 then (
  M.pure (([]),7))
  else (
  M.bind (M.iter (za7 s_Sections s_Marks s_Reaches marks) (0,[])) fun (l2,l3) =>
  M.pure (l3,0)))
theorem zde {R:List Chunk} {aE:Cells} {ab:Value} {aF:Cells} {ac:Value} {aG:Cells} {ae:Value} {aH:Cells} {ag:Value} (s_Sections:List Sect) (s_Marks:List Mrk) (s_Reaches:List Rch) (marks:List Int) (av:Reads R aE) (ap:Sl aE ab s_Sections) (aw:Reads R aF) (ax:Sl aF ac s_Marks) (ay:Reads R aG) (az:Sl aG ae s_Reaches) (aA:Reads R aH) (aB:Sl aH ag marks) {r:((List Span) × Int)} (hM:(zbY s_Sections s_Marks s_Reaches marks).Ends r) (w:World) (H:St w w [] R):Ret Tryz.prog 38 #[.agg #[ab,ac,ae],ag] w fun v w'=>∃ (y0:List Span) (y1:Int) (u0:Value),(y0,y1)=r/\v = .tuple #[u0,I y1]/\St w w' [cOwn (α:=Span) 54 u0 y0] R:=by
 refine ret_of_W Tryz.func38 rfl rfl rfl<|W.seq<|W.region rfl ?_;refine t_bx [ab,ac,ae] H rfl ?_;intro au aV H;refine zA (.slice none 0 0) rfl<|zA (I 0) rfl<|s_nil<|W.seq<|W.seq<|W.region rfl<|s_val (x_ld (v:=.agg #[ab,ac,ae]) rfl (ldb_ag (ds:=[ab,ac,ae]) Ag81 Sz81 (H.bl 0) rfl rfl))<|zM ag rfl ?_;obtain ⟨aW,aM,hM⟩:=M.e_bind hM;refine s_call cf89 [.agg #[ab,ac,ae],ag] rfl (zdz s_Sections s_Marks s_Reaches marks (av.app _) ap (aw.app _) ax (ay.app _) az (aA.app _) aB aM _ (H.gt 1)) ?_
 rintro vq aX ⟨r2,rfl,hvq,ai⟩
 subst vq;(try dsimp only at hM);replace H:=H.bk ai;clear ai;refine zA (I r2) rfl<|s_nil<|W.seq<|W.region rfl<|zM (I r2) rfl<|zC r2 0 (r2 != 0) rfl rfl rfl<|s_nil ?_
 refine W.cond (r2 != 0) rfl (fun aj=>?_) (fun aj=>?_)
 ·replace hM:=M.e_t hM aj
  replace aj:=dI aj
  refine W.seq<|W.region rfl<|zM (I r2) rfl<|zA (.slice none 0 0) rfl<|zA (I r2) rfl<|s_nil ?_;refine W.ret ?_
  have aq:=M.e_pure hM
  replace H:=H.nilOwn (α:=Span) 54
  exact ⟨_,resE_tmp2 rfl,⟨([]),r2,(.slice none 0 0),aq,rfl,(H.pk [0])⟩⟩
 replace hM:=M.e_f hM aj
 replace aj:=dI aj
 refine W.skip<|W.seq<|W.seq<|W.region rfl<|s_val (x_ld (v:=.agg #[ab,ac,ae]) rfl (ldb_ag (ds:=[ab,ac,ae]) Ag81 Sz81 (H.bl 0) rfl rfl))<|zM ag rfl ?_;obtain ⟨aY,aN,hM⟩:=M.e_bind hM;refine s_call cf34 [.agg #[ab,ac,ae],ag] rfl (zdD s_Sections s_Marks s_Reaches marks (av.app _) ap (aw.app _) ax (ay.app _) az (aA.app _) aB aN _ (H.gt 1)) ?_
 rintro vq aZ ⟨r3,rfl,hvq,ai⟩
 subst vq;(try dsimp only at hM);replace H:=H.bk ai;clear ai;refine s_val (x_not (b:=r3) rfl)<|s_nil ?_
 refine W.cond (!r3) rfl (fun aC=>?_) (fun aC=>?_)
 ·replace hM:=M.e_t hM aC;refine W.seq<|W.region rfl<|zA (.slice none 0 0) rfl<|zA (I 7) rfl<|s_nil ?_;refine W.ret ?_
  have aq:=M.e_pure hM
  replace H:=H.nilOwn (α:=Span) 54
  exact ⟨_,resE_tmp2 rfl,⟨([]),7,(.slice none 0 0),aq,rfl,(H.pk [0])⟩⟩
 replace hM:=M.e_f hM aC;refine W.skip<|W.seq<|W.region rfl<|zA (.slice none 0 0) rfl<|s_nil<|W.seq<|W.seq<|W.region rfl<|zA (I 0) rfl<|s_nil ?_;refine W.block ?_
 replace H:=H.nilOwn (α:=Span) 54
 obtain ⟨aO,aD,aP⟩:=M.e_bind hM
 obtain ⟨a6,aD⟩:=M.e_iter aD
 refine W.loop (fun m σ W=>∃ (i:Nat) (l:List Span) (ak:Value) (ρ:Env),σ=upds ρ [(1,ag),(2,Pq au),(7,ak),(8,I (i:Int))]/\M.iterN (za7 s_Sections s_Marks s_Reaches marks) m (i,l)=some aO/\St w W [cOwn (α:=Span) 54 ak l,cBlk au [ab,ac,ae] 81] R) ?_ ?_
 ·exact ⟨_,0,[],(.slice none 0 0),_,upds_of _ _ ⟨rfl,rfl,rfl,rfl,trivial⟩,aD,H⟩
 rintro a7 σ a8 ⟨i,l,ak,ρ,rfl,aI,H⟩
 obtain ⟨aQ,aR,ba,hM,aJ⟩:=M.e_iterN aI
 simp only [za7] at hM
 clear aI;refine W.seq<|W.seq<|W.region rfl<|zM (I (i:Int)) rfl<|s_val (x_fa (v:=Pq au) rfl (fa_blk (o:=0) Fd81_0 Sz77))<|s_val (x_ld (v:=ab) rfl (ldb_sc Sc77 (H.bl 1) rfl)) ?_
 have bb:=(ap).len_le
 refine s_val (x_lenS T77.und rfl ap)<|zC (i:Int) (s_Sections.length:Int) (decide ((i:Int)<(s_Sections.length:Int))) rfl rfl rfl<|s_nil ?_
 refine W.cond (decide ((i:Int)<(s_Sections.length:Int))) rfl (fun am=>?_) (fun am=>?_)
 ·replace hM:=M.e_t hM am
  replace am:=dI am
  refine W.skip<|W.seq<|W.block<|W.seq<|W.region rfl<|s_val (x_ld (v:=.agg #[ab,ac,ae]) rfl (ldb_ag (ds:=[ab,ac,ae]) Ag81 Sz81 (H.bl 1) rfl rfl))<|zM ag rfl<|zM (I (i:Int)) rfl ?_;obtain ⟨bc,aS,hM⟩:=M.e_bind hM;refine s_call cf90 [.agg #[ab,ac,ae],ag,I (i:Int)] rfl (zcQ s_Sections s_Marks s_Reaches marks (i:Int) (av.app _) ap (aw.app _) ax (ay.app _) az (aA.app _) aB aS _ (H.gt 2)) ?_
  rintro vq bf ⟨r4,ao,rfl,hvq,ai⟩
  subst vq;(try dsimp only at hM);replace H:=H.bk ai;clear ai;refine zA ao rfl<|s_nil ?_;refine W.draw (fun W=>St w W [cOwn (α:=Int) 3 ao r4,cBlk au [ab,ac,ae] 81] R) [(0,true),(1,true),(2,true),(3,true),(4,true),(5,true),(6,true),(7,true),(8,true),(9,true),(10,true),(11,false),(12,false),(13,true)] mixed (by decide +kernel) rfl ?_;intro bg aK;replace H:=H.ext aK;clear aK
  refine ⟨(H.pk [0,2]),?_⟩
  refine d_q rfl (fun w' H=>x_mv (v:=ak) rfl)<|d_q rfl (fun w' H=>x_mv (v:=ao) rfl) ?_;obtain ⟨bh,hM⟩:=M.e_gd hM;refine d_q rfl (fun w' H=>x_ix (v:=vat ao 1 (Int.toNat 0)) rfl rfl (Sl.ix (α:=Int) T28.und T28.size (H.os 0) (by omega) (by omega)))<|d_q rfl (fun w' H=>x_ld (v:=I (r4.getD 0 0)) rfl (ld_sc Sc3 (At.mono (Int_at (H.os 0) (i:=0) (by omega) (by omega)) (H.ol 0))))<|d_q rfl (fun w' H=>x_mv (v:=ao) rfl)<|d_q rfl (fun w' H=>x_mv (v:=ao) rfl) ?_
  have bi:=((H.os 0)).len_le
  refine d_q rfl (fun w' H=>x_lenS T28.und rfl (H.os 0))<|d_q rfl (fun w' H=>x_ari (r:=(r4.length:Int)-1) rfl rfl rfl (by omega)) ?_;obtain ⟨bj,hM⟩:=M.e_gd hM;refine d_q rfl (fun w' H=>x_ix (v:=vat ao 1 (Int.toNat ((r4.length:Int)-1))) rfl rfl (Sl.ix (α:=Int) T28.und T28.size (H.os 0) (by omega) (by omega)))<|d_q rfl (fun w' H=>x_ld (v:=I (r4.getD (Int.toNat ((r4.length:Int)-1)) 0)) rfl (ld_sc Sc3 (At.mono (Int_at (H.os 0) (i:=(r4.length:Int)-1) (by omega) (by omega)) (H.ol 0))))<|d_q rfl (fun w' H=>x_bld (ps:=[(0,I (r4.getD 0 0)),(1,I (r4.getD (Int.toNat ((r4.length:Int)-1)) 0))]) (zs:=[I 0,I 0]) (L':=[I (r4.getD 0 0),I (r4.getD (Int.toNat ((r4.length:Int)-1)) 0)]) rfl Tryz.underlying54 Al54 rfl (Bd54 Tryz.underlying54) (.cons (cs:=[I (r4.getD 0 0)]) rfl rfl rfl rfl rfl<|.cons (cs:=[I (r4.getD (Int.toNat ((r4.length:Int)-1)) 0)]) rfl rfl rfl rfl rfl<|.nil))<|d_l rfl ?_;refine t_bs (α:=Span) T43 [.agg #[I (r4.getD 0 0),I (r4.getD (Int.toNat ((r4.length:Int)-1)) 0)]] [(⟨(r4.getD 0 0:Int),(r4.getD (Int.toNat ((r4.length:Int)-1)) 0:Int)⟩:Span)] H rfl (.cons rfl (Flat.rep_enc _ (⟨(r4.getD 0 0:Int),(r4.getD (Int.toNat ((r4.length:Int)-1)) 0:Int)⟩:Span))<|.nil) rfl rfl rfl ?_;intro aT bm H
  have bn:=Sl.cells (H.os 0)
  have bo:=Sl.oc (H.os 0)
  have bp:=Sl.cells (H.os 2)
  have bq:=Sl.oc (H.os 2)
  refine s_nil ⟨(H.pk [1,3]),?_⟩
  refine d_l rfl ?_;obtain ⟨br,hM⟩:=M.e_gd hM;refine t_app (α:=Span) (k:=2) (l:=l) (l2:=[(⟨(r4.getD 0 0:Int),(r4.getD (Int.toNat ((r4.length:Int)-1)) 0:Int)⟩:Span)]) (l':=l++([(⟨(r4.getD 0 0:Int),(r4.getD (Int.toNat ((r4.length:Int)-1)) 0:Int)⟩:Span)])) (vy:=aT) T43 rfl H rfl rfl rfl (H.os 0) (H.ol 0) (rfl) (by first | omega | (simp only [List.length_nil] at *; omega)) ?_;intro aL bt H;replace H:=H.nf
  have bu:=Sl.cells (H.os 2)
  have bv:=Sl.oc (H.os 2)
  refine s_nil ⟨(H.pk [1,3]),?_⟩
  refine d_q rfl (fun w' H=>x_as (v:=aL) rfl) ?_;refine d_nil ?_;replace H:=H.pk [2,3];refine W.region rfl<|zM (I (i:Int)) rfl<|zR (i:Int) 1 ((i:Int)+1) rfl rfl rfl (by omega)<|zA (I ((i:Int)+1)) rfl<|s_nil ?_
  exact ⟨aQ,aR,i+1,l++([(⟨(r4.getD 0 0:Int),(r4.getD (Int.toNat ((r4.length:Int)-1)) 0:Int)⟩:Span)]),aL,_,upds_of _ _ ⟨rfl,rfl,rfl,rfl,trivial⟩,M.e_inl hM aJ,H⟩
 replace hM:=M.e_f hM am
 replace am:=dI am
 refine W.exit ?_
 have aU:=M.e_inr hM aJ
 subst aU;replace hM:=aP;(try dsimp only at hM);refine W.seq<|W.region rfl<|zM ak rfl<|zA ak rfl<|zA (I 0) rfl<|s_nil ?_;refine W.ret ?_
 have aq:=M.e_pure hM
 exact ⟨_,resE_tmp2 rfl,⟨l,0,ak,aq,rfl,(H.pk [0])⟩⟩

def zbs (a b:List Span):Nat->M (Nat ⊕ (Unit ⊕ Unit)):=fun i =>
  bif decide ((i:Int)<(a.length:Int)) then (
  M.grd (decide ((i:Int)<(a.length:Int))) <|
  M.grd (decide ((i:Int)<(b.length:Int))) <|
  bif !(decide ((a.getD i default)=(b.getD i default))) then (
  M.pure (.inr (.inl ())))
  else (
  M.pure (.inl (i+1))))
  else (
  M.pure (.inr (.inr ())))
def zcm (a b:List Span):M Bool :=
  bif (a.length:Int) != (b.length:Int) then (
  M.pure false)
  else (
  M.bind (M.iter (zbs a b) 0) fun x_=>match x_ with
  | (.inl (_:Unit))=>(
  M.pure false)
  | (.inr (_:Unit))=>(
  M.pure true))
theorem zd9 {R:List Chunk} {aq:Cells} {ab:Value} {au:Cells} {ag:Value} (a:List Span) (b:List Span) (ay:Reads R aq) (ai:Sl aq ab a) (az:Reads R au) (ak:Sl au ag b) {r:Bool} (hM:(zcm a b).Ends r) (w:World) (H:St w w [] R):Ret Tryz.prog 39 #[ab,ag] w fun v w'=>∃ (y0:Bool),y0=r/\v=B y0/\St w w' [] R:=by
 refine ret_of_W Tryz.func39 rfl rfl rfl<|W.seq<|W.region rfl<|zA (B false) rfl<|s_nil<|W.seq<|W.seq<|W.region rfl<|zM ab rfl ?_
 have aF:=(ai).len_le
 refine s_val (x_lenS T43.und rfl ai)<|zM ag rfl ?_
 have aG:=(ak).len_le
 refine s_val (x_lenS T43.und rfl ak)<|zC (a.length:Int) (b.length:Int) ((a.length:Int) != (b.length:Int)) rfl rfl rfl<|s_nil ?_
 refine W.cond ((a.length:Int) != (b.length:Int)) rfl (fun ac=>?_) (fun ac=>?_)
 ·replace hM:=M.e_t hM ac
  replace ac:=dI ac
  refine W.seq<|W.region rfl<|zA (B false) rfl<|s_nil ?_;refine W.ret ?_
  have aj:=M.e_pure hM
  exact ⟨_,resE_tmp rfl,⟨false,aj,rfl,H⟩⟩
 replace hM:=M.e_f hM ac
 replace ac:=dI ac
 refine W.skip<|W.seq<|W.seq<|W.region rfl<|zA (I 0) rfl<|s_nil<|W.block ?_;obtain ⟨aA,am,av⟩:=M.e_bind hM
 obtain ⟨aH,am⟩:=M.e_iter am
 refine W.loop (fun m σ W=>∃ (i:Nat) (ρ:Env),σ=upds ρ [(0,ab),(1,ag),(5,I (i:Int))]/\M.iterN (zbs a b) m i=some aA/\St w W [] R) ?_ ?_
 ·exact ⟨_,0,_,upds_of _ _ ⟨rfl,rfl,rfl,trivial⟩,am,H⟩
 rintro aI σ aJ ⟨i,ρ,rfl,aw,H⟩
 obtain ⟨aB,aC,aK,hM,ao⟩:=M.e_iterN aw
 simp only [zbs] at hM
 clear aw;refine W.seq<|W.seq<|W.region rfl<|zM (I (i:Int)) rfl<|zM ab rfl ?_
 have aL:=(ai).len_le
 refine s_val (x_lenS T43.und rfl ai)<|zC (i:Int) (a.length:Int) (decide ((i:Int)<(a.length:Int))) rfl rfl rfl<|s_nil ?_
 refine W.cond (decide ((i:Int)<(a.length:Int))) rfl (fun ae=>?_) (fun ae=>?_)
 ·replace hM:=M.e_t hM ae
  replace ae:=dI ae
  refine W.skip<|W.seq<|W.block<|W.seq ?_;refine W.draw (fun W=>St w W [] R) [(0,true),(1,true),(2,true),(3,true),(4,true),(5,true),(6,true),(7,true),(8,true)] mixed (by decide +kernel) rfl ?_;intro aM ax;replace H:=H.ext ax;clear ax
  refine ⟨(H.pk []),?_⟩
  refine d_q rfl (fun w' H=>x_mv (v:=ab) rfl)<|d_q rfl (fun w' H=>x_mv (v:=I (i:Int)) rfl) ?_;obtain ⟨aN,hM⟩:=M.e_gd hM;refine d_q rfl (fun w' H=>x_ix (v:=vat ab 2 (Int.toNat (i:Int))) rfl rfl (Sl.ix (α:=Span) T43.und T43.size ai (by omega) (by omega)))<|d_q rfl (fun w' H=>x_ld (v:=.agg #[I ((a.getD i default).lo),I ((a.getD i default).hi)]) rfl (ld_ag Ag54 Sz54 (At.mono (Span_atA ai (i:=(i:Int)) (by omega) (by omega)) (ay.at H))))<|d_q rfl (fun w' H=>x_mv (v:=ag) rfl)<|d_q rfl (fun w' H=>x_mv (v:=I (i:Int)) rfl) ?_;obtain ⟨aO,hM⟩:=M.e_gd hM;refine d_q rfl (fun w' H=>x_ix (v:=vat ag 2 (Int.toNat (i:Int))) rfl rfl (Sl.ix (α:=Span) T43.und T43.size ak (by omega) (by omega)))<|d_q rfl (fun w' H=>x_ld (v:=.agg #[I ((b.getD i default).lo),I ((b.getD i default).hi)]) rfl (ld_ag Ag54 Sz54 (At.mono (Span_atA ak (i:=(i:Int)) (by omega) (by omega)) (az.at H))))<|d_q rfl (fun w' H=>x_neS (eqT54 (a.getD i default) (b.getD i default) _) gdT54 rfl rfl) ?_;refine d_nil ?_
  refine W.cond (!(decide ((a.getD i default)=(b.getD i default)))) rfl (fun ap=>?_) (fun ap=>?_)
  ·replace hM:=M.e_t hM ap;refine W.seq<|W.region rfl<|zA (B false) rfl<|s_nil ?_;refine W.ret ?_
   have aD:=M.e_inr hM ao
   subst aD;replace hM:=av;(try dsimp only at hM)
   have aj:=M.e_pure hM
   exact ⟨_,resE_tmp rfl,⟨false,aj,rfl,H⟩⟩
  replace hM:=M.e_f hM ap;refine W.skip<|W.region rfl<|zM (I (i:Int)) rfl<|zR (i:Int) 1 ((i:Int)+1) rfl rfl rfl (by omega)<|zA (I ((i:Int)+1)) rfl<|s_nil ?_
  exact ⟨aB,aC,i+1,_,upds_of _ _ ⟨rfl,rfl,rfl,trivial⟩,M.e_inl hM ao,H⟩
 replace hM:=M.e_f hM ae
 replace ae:=dI ae
 refine W.exit ?_
 have aE:=M.e_inr hM ao
 subst aE;replace hM:=av;(try dsimp only at hM);refine W.seq<|W.region rfl<|zA (B true) rfl<|s_nil ?_;refine W.ret ?_
 have aj:=M.e_pure hM
 exact ⟨_,resE_tmp rfl,⟨true,aj,rfl,H⟩⟩

end Go.Proofs.YtlemgioaakecpaaGreat
end
