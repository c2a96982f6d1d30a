/- Part 2 of the texts on which the proof rests. Conditions: none. -/
import Derived.ScopeJumps
import Derived.Below
import Derived.Maps.RangeRun
import Derived.Test.YtlemgioaakecpaaGreatProg
import Derived.Shelf.SlIterI.Nil
import Derived.Shelf.SortM.Plain
import Derived.Shelf.SortM.SortNone
import Derived.WideKeyRuns
import Derived.Test.YtlemgioaakecpaaGreatZL1
set_option linter.unusedVariables false
set_option linter.unusedSimpArgs false
set_option linter.unusedSectionVars false
namespace Go.Nm
open Go
theorem perm_sub {α:Type} [DecidableEq α]:∀ (a b:List α),a.Nodup->(∀ x∈a,x∈b)->b.length<=a.length->a.Perm b
  | [],b,_,_,h=>by
    have:b=[]:=List.length_eq_zero_iff.1 (by simpa using h)
    rw [this]
  | x :: a,b,hn,hs,h=>by
    rw [List.nodup_cons] at hn
    have hx:=hs x (by simp)
    refine List.Perm.trans (List.Perm.cons x (perm_sub a (b.erase x) hn.2 (fun y hy=>?_) ?_)) (List.perm_cons_erase hx).symm
    · exact (List.mem_erase_of_ne (fun e:y=x=>hn.1 (by rw [← e]; exact hy))).2 (hs y (by simp [hy]))
    · rw [List.length_erase_of_mem hx]
      rw [List.length_cons] at h
      omega
theorem inj_map {α β:Type} {f:α->β}:∀ {l:List α},(l.map f).Nodup->∀ {x y},x∈l->y∈l->f x=f y->x=y
  | [],_,_,_,h,_,_=>by cases h
  | z :: l,hn,x,y,hx,hy,e=>by
    rw [List.map_cons,List.nodup_cons] at hn
    rcases List.mem_cons.1 hx with hx | hx <;> rcases List.mem_cons.1 hy with hy | hy
    · rw [hx,hy]
    · exact absurd (List.mem_map.2 ⟨y,hy,by rw [← e,hx]⟩) hn.1
    · exact absurd (List.mem_map.2 ⟨x,hx,by rw [e,hy]⟩) hn.1
    · exact inj_map hn.2 hx hy e
theorem St.perm {w0 w:World} {L L' R:List Chunk} (h:St w0 w L R) (p:L.Perm L'):St w0 w L' R:=by
  refine ⟨h.kp,?_⟩
  have hS:=h.sep
  rw [Sep.iff] at hS ⊢
  have q:(L++R).Perm (L'++R):=p.append_right R
  exact ⟨fun c hc=>hS.1 c (q.mem_iff.2 hc),(q.pairwise_iff fun h=>Apart.symm h).1 hS.2⟩
/-- What is allocated: where its pointer goes, its type, its cells. -/
abbrev Alc:=Nat × TypeId × List Value
def mixE (ds:List Nat) (g:Nat->Value) (σ:Env):Env:=fun t=>bif ds.contains t then g t else σ t
theorem beqF {t d:Nat} (e:t ≠ d):Nat.beq t d=false:=by
  rw [← Bool.not_eq_true]
  exact fun hb=>e (Nat.eq_of_beq_eq_true hb)
theorem mix_upd {ds:List Nat} {g:Nat->Value} {σ:Env} {d:Nat} {v:Value} (h:ds.contains d=false):upd (mixE ds g σ) d v=mixE ds g (upd σ d v):=by
  funext t
  show (bif Nat.beq t d then v else bif ds.contains t then g t else σ t)=bif ds.contains t then g t else bif Nat.beq t d then v else σ t
  by_cases e:t=d
  · subst e
    rw [h,Nat.beq_refl]
    rfl
  · rw [beqF e]
    rfl
theorem mix_put {ds:List Nat} {g:Nat->Value} {σ:Env} {d:Nat} {v:Value} (h:ds.contains d=true):upd (mixE ds g σ) d v=mixE ds (fun t=>bif Nat.beq t d then v else g t) σ:=by
  funext t
  show (bif Nat.beq t d then v else bif ds.contains t then g t else σ t)=bif ds.contains t then (bif Nat.beq t d then v else g t) else σ t
  by_cases e:t=d
  · subst e
    rw [h,Nat.beq_refl]
    rfl
  · rw [beqF e]
    rfl
def ptrOf (b:Nat):Value:=.pointer (some ⟨b,0,none⟩)
/-- Behind all of them: each has its block. -/
def FinA:List Alc->List Chunk->Env->(List Chunk->Env->Prop)->Prop
  | [],acc,σ,K=>K acc σ
  | (d,t,z) :: r,acc,σ,K=>∀ b,FinA r (acc++[cBlk b z t]) (upd σ d (.pointer (some ⟨b,0,none⟩))) K
theorem FinA.go {K:List Chunk->Env->Prop} (b:Nat->Nat):∀ (sp:List Alc) (acc:List Chunk) (σ:Env),FinA sp acc σ K->K (acc++sp.map fun x=>cBlk (b x.1) x.2.2 x.2.1) (sp.foldl (fun σ x=>upd σ x.1 (ptrOf (b x.1))) σ)
  | [],acc,σ,h=>by simpa [FinA] using h
  | (d,t,z) :: r,acc,σ,h=>by
    have:=FinA.go b r _ _ (h (b d))
    rw [List.append_assoc] at this
    exact this
theorem fold_mix (b:Nat->Nat):∀ (sp:List Alc) (σ:Env),sp.foldl (fun σ x=>upd σ x.1 (ptrOf (b x.1))) σ=mixE (sp.map (·.1)) (fun t=>ptrOf (b t)) σ
  | [],σ=>rfl
  | (d,t,z) :: r,σ=>by
    rw [List.foldl_cons,fold_mix b r]
    funext k
    show (bif (r.map fun x:Alc=>x.1).contains k then ptrOf (b k) else bif Nat.beq k d then ptrOf (b d) else σ k)=bif (d :: r.map fun x:Alc=>x.1).contains k then ptrOf (b k) else σ k
    rw [List.contains_cons]
    by_cases e:k=d
    · subst e
      rw [Nat.beq_refl,beq_self_eq_true,Bool.true_or]
      cases (List.map (fun x:Alc=>x.1) r).contains k <;> rfl
    · have h2:(k==d)=false:=beq_eq_false_iff_ne.2 e
      rw [beqF e,h2,Bool.false_or]
      rfl
/-- The check: what may come at each time is the next one of the row, or a block. -/
def canonA (md:Region.Mode) (ops:Array Oper) (A:List Nat) (tail:Ord) (nt:Nat):Nat->List (Nat × Bool)->Array Bool->Bool
  | 0,[],listed=>canonT md ops tail nt listed
  | n+1,[],listed=>!(Region.ready md ops listed).isEmpty&&(Region.ready md ops listed).all fun i=>A.contains i&&canonA md ops A tail nt n [] (listed.setIfInBounds i true)
  | n+1,(k,true) :: r,listed=>(Region.ready md ops listed).contains k&&Region.free md ops listed k&&canonA md ops A tail nt n r (listed.setIfInBounds k true)
  | n+1,(k,false) :: r,listed=>!(Region.ready md ops listed).isEmpty&&(Region.ready md ops listed).all fun i=>(i==k&&canonA md ops A tail nt n r (listed.setIfInBounds k true))||(!(i==k)&&A.contains i&&canonA md ops A tail nt n ((k,false) :: r) (listed.setIfInBounds i true))
  | 0,_ :: _,_=>false
section
variable (P:Program) (all:List Oper) (C:World->Prop) (w0:World) (R:List Chunk) (ds:List Nat) (Fin:Env->List Chunk->Prop)
/-- The row, whatever blocks there are beside. -/
def SLA:List (Nat × Bool)->Env->List Chunk->Prop
  | [],σ,L=>(∀ Lx w,St w0 w (L++Lx) R->C w)/\Fin σ L
  | (k,true) :: r,σ,L=>(∀ Lx w,St w0 w (L++Lx) R->C w)/\∃ o d v,all[k]?=some o/\o.dst=some d/\o.guard=none/\ds.contains d=false/\(∀ g w',C w'->(execOp (ev (mixE ds g σ)) o).run P w' = .ok (.value v) w')/\SLA r (upd σ d v) L
  | (k,false) :: r,σ,L=>(∀ Lx w,St w0 w (L++Lx) R->C w)/\∃ o,all[k]?=some o/\∀ g Lx w,St w0 w (L++Lx) R->SL P all (loudQ C fun σ' w'=>∃ σ'' L',σ'=mixE ds g σ''/\St w0 w' (L'++Lx) R/\SLA r σ'' L') [o] (mixE ds g σ) w
end
theorem SLA.cl {P:Program} {all:List Oper} {C:World->Prop} {w0:World} {R:List Chunk} {ds:List Nat} {Fin:Env->List Chunk->Prop} {r:List (Nat × Bool)} {σ:Env} {L:List Chunk} (h:SLA P all C w0 R ds Fin r σ L):∀ Lx w,St w0 w (L++Lx) R->C w:=by
  match r,h with
  | [],h=>exact h.1
  | (k,true) :: r,h=>exact h.1
  | (k,false) :: r,h=>exact h.1
theorem listed_lt {md:Region.Mode} {ops:Array Oper} {listed:Array Bool} {i:Nat} (h:i∈Region.ready md ops listed):listed.getD i true=false:=(mem_ready.1 h).1
/-- How far the allocations are. -/
structure AlS (P:Program) (all:List Oper) (sp:List (Nat × Alc)) (done:List Alc) (g:Nat->Value) (Lx:List Chunk):Prop where
  ex:∃ b:Nat->Nat,(∀ x∈done,g x.1=ptrOf (b x.1))/\Lx.Perm (done.map fun x=>cBlk (b x.1) x.2.2 x.2.1)
theorem wpAnyC_A {P:Program} {ds:List Deferred} {n:Nat} {C:World->Prop} {Q:Post} {md:Region.Mode} (all:List Oper) (hok:∀ o∈all,∀ d,o.dst=some d->d<n) (hs:Region.noSelect all.toArray=true) (w0:World) (R:List Chunk) (sp:List (Nat × Alc)) (tail:Ord) (nt:Nat)
    (hal:∀ x∈sp,∃ ty pos af,all[x.1]?=some ⟨some x.2.1,.alloc x.2.2.1,ty,pos,af,none⟩/\∃ z,(P.info? x.2.2.1).map (·.zero)=some (some z)/\z.cells=x.2.2.2.toArray) (hnd:(sp.map fun x=>x.2.1).Nodup) (hnd1:(sp.map fun x=>x.1).Nodup) :
    ∀ (m:Nat) (r:List (Nat × Bool)) (listed:Array Bool) (a:Act) (w:World) (σ:Env) (g:Nat->Value) (L Lx:List Chunk) (done:List (Nat × Alc)) (b:Nat->Nat),
      (∀ x∈done,x∈sp/\listed.getD x.1 true=true)->done.Nodup->(∀ x∈done,g x.2.1=ptrOf (b x.2.1))->Lx.Perm (done.map fun x=>cBlk (b x.2.1) x.2.2.2 x.2.2.1) →
      m+done.length=(r.length+sp.length) →
      Fr ds n (mixE (sp.map fun x=>x.2.1) g σ) a->St w0 w (L++Lx) R →
      canonA md all.toArray (sp.map fun x=>x.1) tail nt m r listed=true →
      SLA P all C w0 R (sp.map fun x=>x.2.1) (fun σ L=>FinA (sp.map fun x=>x.2) [] σ fun acc σ=>∀ w,St w0 w (L++acc) R->SLT P all C Q tail σ w) r σ L →
      wpAnyC P md all.toArray C (fun a' w'=>∃ σ',Fr ds n σ' a'/\Q .normal σ' w') (m+nt) listed a w:=by
  intro m
  induction m with
  | zero =>
    intro r listed a w σ g L Lx done b hd hdn hg hp hm ha H hB hS
    cases r with
    | cons x r=>simp [canonA] at hB
    | nil =>
      simp only [canonA] at hB
      obtain ⟨hcl,hF⟩:=hS
      have hF:=FinA.go b _ _ _ hF
      -- all of them are done
      have hperm:done.Perm sp:=by
        classical
        exact perm_sub done sp hdn (fun x hx=>(hd x hx).1) (by simp at hm; omega)
      have hL:Lx.Perm ((sp.map fun x=>x.2).map fun x:Alc=>cBlk (b x.1) x.2.2 x.2.1):=by
        rw [List.map_map]
        exact hp.trans (hperm.map _)
      have hσ:mixE (sp.map fun x=>x.2.1) g σ=(sp.map fun x=>x.2).foldl (fun σ x=>upd σ x.1 (ptrOf (b x.1))) σ:=by
        rw [fold_mix,List.map_map]
        funext t
        unfold mixE
        by_cases e:(sp.map fun x=>x.2.1).contains t=true
        · have e':(List.map ((fun x:Alc=>x.1) ∘ fun x:Nat × Alc=>x.2) sp).contains t=true:=e
          rw [e,e']
          obtain ⟨x,hx,rfl⟩:=List.mem_map.1 (List.contains_iff_mem.1 e)
          exact hg x (hperm.mem_iff.2 hx)
        · have e1:(sp.map fun x=>x.2.1).contains t=false:=by simpa using e
          have e':(List.map ((fun x:Alc=>x.1) ∘ fun x:Nat × Alc=>x.2) sp).contains t=false:=e1
          rw [e1,e']
          rfl
      rw [hσ] at ha
      rw [List.nil_append] at hF
      have H2:=H.perm (hL.append_left L)
      rw [Nat.zero_add]
      exact wpAnyC_canonT hs tail nt listed a w (hcl _ _ H) hB (SLT_runT all hok tail _ w a ha (hF w H2))
  | succ m ih =>
    intro r listed a w σ g L Lx done b hd hdn hg hp hm ha H hB hS
    have hC:=hS.cl _ _ H
    rw [show m+1+nt=(m+nt)+1 by omega]
    -- a block
    have alc:∀ i,i∈Region.ready md all.toArray listed->(sp.map fun x=>x.1).contains i=true->canonA md all.toArray (sp.map fun x=>x.1) tail nt m r (listed.setIfInBounds i true)=true →
        lOp P all.toArray i (fun a' w'=>C w'/\wpAnyC P md all.toArray C (fun a' w'=>∃ σ',Fr ds n σ' a'/\Q .normal σ' w') (m+nt) (listed.setIfInBounds i true) a' w') a w:=by
      intro i hi hiA hB'
      obtain ⟨⟨i',d,t,zs⟩,hx,e0⟩:=List.mem_map.1 (List.contains_iff_mem.1 hiA)
      dsimp only at e0
      subst e0
      obtain ⟨ty,pos,af,ho,z,hz,hzc⟩:=hal _ hx
      dsimp only at ho hz hzc
      have hnew:(i',d,t,zs) ∉ done:=fun hh=>by
        have h1:=(hd _ hh).2
        have h2:=listed_lt hi
        dsimp only at h1
        rw [h2] at h1
        cases h1
      have hdx:(sp.map fun x=>x.2.1).contains d=true:=List.contains_iff_mem.2 (List.mem_map.2 ⟨_,hx,rfl⟩)
      refine SL_lOp (C:=C) (K:=fun σ' w'=>∃ b',σ'=upd (mixE (sp.map fun x=>x.2.1) g σ) d (ptrOf b')/\St w0 w' (cBlk b' zs t :: (L++Lx)) R) (K':=fun a' w'=>wpAnyC P md all.toArray C (fun a' w'=>∃ σ',Fr ds n σ' a'/\Q .normal σ' w') (m+nt) (listed.setIfInBounds i' true) a' w') all hok ?_ ho ha ?_
      · rintro σ' w' a' ha' ⟨b',rfl,H'⟩
        rw [mix_put hdx] at ha'
        have hsz:i'<listed.size:=by
          have h2:=listed_lt hi
          rcases Nat.lt_or_ge i' listed.size with h' | h'
          · exact h'
          · rw [Array.getD_eq_getD_getElem?,Array.getElem?_eq_none h'] at h2
            cases h2
        have hne:∀ x∈done,x.2.1 ≠ d:=fun x hxd e=>by
          have h1:=(hd x hxd).1
          have:x=(i',d,t,zs):=inj_map hnd h1 hx e
          rw [this] at hxd
          exact hnew hxd
        refine ih r _ a' w' σ _ L (cBlk b' zs t :: Lx) ((i',d,t,zs) :: done) (fun k=>if k=d then b' else b k) ?_ (List.nodup_cons.2 ⟨hnew,hdn⟩) ?_ ?_ (by rw [List.length_cons]; omega) ha' (H'.perm List.perm_middle.symm) hB' hS
        · intro x hx'
          rcases List.mem_cons.1 hx' with rfl | hx'
          · refine ⟨hx,?_⟩
            dsimp only
            rw [Array.getD_eq_getD_getElem?,Array.getElem?_setIfInBounds_self_of_lt hsz]
            rfl
          · refine ⟨(hd x hx').1,?_⟩
            by_cases e:i'=x.1
            · rw [← e,Array.getD_eq_getD_getElem?,Array.getElem?_setIfInBounds_self_of_lt hsz]
              rfl
            · rw [getD_set_ne true e]
              exact (hd x hx').2
        · intro x hx'
          rcases List.mem_cons.1 hx' with rfl | hx'
          · dsimp only
            rw [Nat.beq_refl,if_pos rfl]
            rfl
          · have e:=hne x hx'
            rw [beqF e,if_neg e]
            exact hg x hx'
        · rw [List.map_cons,if_pos rfl]
          refine List.Perm.cons _ (hp.trans (List.Perm.of_eq (List.map_congr_left fun x hx'=>?_)))
          rw [if_neg (hne x hx')]
      · exact t_alloc (cs:=zs) H hz hzc fun b' w' H'=>⟨hS.cl _ _ (H'.perm List.perm_middle.symm),b',rfl,H'⟩
    match r,hS,hB,hm,ih,alc with
    | [],hS,hB,hm,ih,alc =>
      simp only [canonA,Bool.and_eq_true,Bool.not_eq_true',List.isEmpty_eq_false_iff,List.all_eq_true] at hB
      exact ⟨fun h0=>absurd h0 hB.1,fun i hi=>alc i hi (hB.2 i hi).1 (hB.2 i hi).2⟩
    | (k, true) :: r, ⟨_, o, d, v, ho, hdst, hgd, hdd, hv, hK⟩, hB, hm, ih, alc =>
      simp only [canonA,Bool.and_eq_true] at hB
      obtain ⟨⟨hr,hf⟩,hB'⟩:=hB
      have hmem:o∈all:=List.mem_of_getElem? ho
      have ho':all.toArray[k]?=some o:=by simpa using ho
      refine wpAnyC_first ho' (Region.noSelect_spec hs) (m+nt) listed a w hC (Region.free_spec ho' hf) (by simpa using hr) (v:=v) ?_ ?_
      · unfold YV
        rw [wanted_eq ha all hok,ha.eval]
        unfold wantedE
        rw [hgd]
        exact .inl ⟨rfl,fun w' hw'=>hv g w' hw'⟩
      · rw [hdst]
        have ha2:=ha.put (hok o hmem d hdst) v
        rw [mix_upd hdd] at ha2
        refine ih r _ _ w _ g L Lx done b (fun x hx=>⟨(hd x hx).1,?_⟩) hdn hg hp (by rw [List.length_cons] at hm; omega) ha2 H hB' hK
        by_cases e:k=x.1
        · have:=listed_lt (md:=md) (ops:=all.toArray) (listed:=listed) (i:=k) (by simpa using hr)
          rw [e,(hd x hx).2] at this
          cases this
        · rw [getD_set_ne true e]
          exact (hd x hx).2
    | (k, false) :: r, ⟨hcl, o, ho, hK⟩, hB, hm, ih, alc =>
      simp only [canonA,Bool.and_eq_true,Bool.not_eq_true',List.isEmpty_eq_false_iff,List.all_eq_true] at hB
      refine ⟨fun h0=>absurd h0 hB.1,fun i hi=>?_⟩
      have hBi:=hB.2 i hi
      by_cases e:i=k
      · subst e
        have hB':canonA md all.toArray (sp.map fun x=>x.1) tail nt m r (listed.setIfInBounds i true)=true:=by
          simpa using hBi
        refine (SL_lOp (C:=C) (K':=fun a' w'=>wpAnyC P md all.toArray C (fun a' w'=>∃ σ',Fr ds n σ' a'/\Q .normal σ' w') (m+nt) (listed.setIfInBounds i true) a' w') all hok ?_ ho ha (hK g Lx w H))
        rintro σ' w' a' ha' ⟨σ'',L',rfl,H',hS'⟩
        refine ih r _ a' w' σ'' g L' Lx done b (fun x hx=>⟨(hd x hx).1,?_⟩) hdn hg hp (by rw [List.length_cons] at hm; omega) ha' H' hB' hS'
        by_cases e:i=x.1
        · have:=listed_lt hi
          rw [e,(hd x hx).2] at this
          cases this
        · rw [getD_set_ne true e]
          exact (hd x hx).2
      · have h2:(i==k)=false:=beq_eq_false_iff_ne.2 e
        rw [h2] at hBi
        simp only [Bool.false_and,Bool.not_false,Bool.true_and,Bool.false_or,Bool.and_eq_true] at hBi
        exact alc i hi hBi.1 hBi.2
theorem W.drawA {r:Option Nat} {P:Program} {n:Nat} {Q:Post} {σ:Env} {w w0:World} {id:Nat} {l:List Oper} {L R:List Chunk} (C:World->Prop) (row:List (Nat × Bool)) (sp:List (Nat × Alc)) (tail:Ord) (nt:Nat) (hm:P.follows .mixedOrders=true)
    (hB:(Region.noSelect l.toArray&&Nat.beq (row.length+sp.length+nt) l.length&&canonA .any l.toArray (sp.map fun x=>x.1) tail nt (row.length+sp.length) row (Array.replicate l.length false))=true)
    (hok:okDst n l=true) (hal:∀ x∈sp,∃ ty pos af,l[x.1]?=some ⟨some x.2.1,.alloc x.2.2.1,ty,pos,af,none⟩/\∃ z,(P.info? x.2.2.1).map (·.zero)=some (some z)/\z.cells=x.2.2.2.toArray) (hnd:(sp.map fun x=>x.2.1).Nodup) (hnd1:(sp.map fun x=>x.1).Nodup)
    (H:St w0 w L R) (h:SLA P l C w0 R (sp.map fun x=>x.2.1) (fun σ L=>FinA (sp.map fun x=>x.2) [] σ fun acc σ=>∀ w,St w0 w (L++acc) R->SLT P l C Q tail σ w) row σ L):WR r P n (.region id l.toArray true) Q σ w:=by
  intro ds a ha
  simp only [Bool.and_eq_true] at hB
  obtain ⟨⟨hs,hl⟩,hB⟩:=hB
  have hl':=Nat.eq_of_beq_eq_true hl
  refine wpIn_region_any hm (wpAny_of_C (C:=C) (Q:=fun a' w'=>∃ σ',Fr ds n σ' a'/\Q .normal σ' w') (fun _ _ h=>h) _ _ _ _ ?_)
  have hself:mixE (sp.map fun x=>x.2.1) σ σ=σ:=by
    funext t
    unfold mixE
    cases (sp.map fun x=>x.2.1).contains t <;> rfl
  have:=wpAnyC_A (P:=P) (md:=.any) (Q:=Q) (C:=C) (ds:=ds) (n:=n) l (okDst_spec hok) hs w0 R sp tail nt hal hnd hnd1 (row.length+sp.length) row (Array.replicate l.length false) a w.drew σ σ L [] [] (fun _=>0) (by simp) List.nodup_nil (by simp) List.Perm.nil (by simp) (by rw [hself]; exact ha) (by rw [List.append_nil]; exact H.ext (.drew w)) hB h
  rw [hl'] at this
  simpa using this
section
variable {P:Program} {all:List Oper} {C:World->Prop} {w0:World} {R:List Chunk} {ds:List Nat} {Fin:Env->List Chunk->Prop} {r:List (Nat × Bool)} {σ:Env} {L:List Chunk}
theorem sa_nil (h1:∀ Lx w,St w0 w (L++Lx) R->C w) (h:Fin σ L):SLA P all C w0 R ds Fin [] σ L:=⟨h1,h⟩
theorem sa_q {k d:Nat} {op:Op} {ty:TypeId} {pos:String} {af:Array Edge} {v:Value} (h1:∀ Lx w,St w0 w (L++Lx) R->C w) (ho:all[k]?=some ⟨some d,op,ty,pos,af,none⟩) (hd:ds.contains d=false)
    (h:∀ g w',C w'->(execOp (ev (mixE ds g σ)) ⟨some d,op,ty,pos,af,none⟩).run P w' = .ok (.value v) w') (hk:SLA P all C w0 R ds Fin r (upd σ d v) L):SLA P all C w0 R ds Fin ((k,true) :: r) σ L :=
  ⟨h1,_,d,v,ho,rfl,rfl,hd,h,hk⟩
theorem sa_l {k:Nat} {o:Oper} (h1:∀ Lx w,St w0 w (L++Lx) R->C w) (ho:all[k]?=some o) (h:∀ g Lx w,St w0 w (L++Lx) R->SL P all (loudQ C fun σ' w'=>∃ σ'' L',σ'=mixE ds g σ''/\St w0 w' (L'++Lx) R/\SLA P all C w0 R ds Fin r σ'' L') [o] (mixE ds g σ) w) :
    SLA P all C w0 R ds Fin ((k,false) :: r) σ L:=⟨h1,o,ho,h⟩
end
end Go.Nm
namespace Go.Nm
open Go
section
variable {md:Region.Mode} {ops:Array Oper}
end
end Go.Nm
namespace Go.Nm
open Go
section
variable {P:Program} {ops:Array Oper} {md:Region.Mode} {C:World->Prop} {z:Nat}
end
section
variable {P:Program} {all:List Oper} {C:World->Prop} {z:Nat} {Q:Post} {r:List Nat} {σ:Env} {w:World}
end
end Go.Nm
namespace Go.Nm
open Go
section
variable {P:Program} {ops:Array Oper} {md:Region.Mode} {C:World->Prop} {z:Nat}
end
section
variable {P:Program} {all:List Oper} {C:World->Prop} {z:Nat} {Q:Post} {r r2:Ord} {σ:Env} {w:World}
end
end Go.Nm
namespace Go.Nm
open Go
/-- As Q; a jump to the label: K. -/
def jumpQ (l:Nat) (K:Env->World->Prop) (Q:Post):Post
  | .goto l',σ,w=>l'=l/\K σ w
  | e,σ,w=>Q e σ w
section
variable {P:Program} {n:Nat} {Q:Post} {σ:Env} {w:World}
theorem W.goto {r:Option Nat} {l:Nat} (h:Q (.goto l) σ w):WR r P n (.goto l) Q σ w:=fun _ _ ha=>wpIn_goto ⟨σ,ha,h⟩
theorem W.jump {c rest:Code} (l:Nat) (hf:findLabel c l=some rest) (I:Nat->Env->World->Prop) (first:W P n c (jumpQ l (fun σ w=>∃ m,I m σ w) Q) σ w)
    (pass:∀ m σ w,I m σ w->W P n rest (jumpQ l (fun σ' w'=>∃ m',m'<m/\I m' σ' w') Q) σ w):W P n (.scope c) Q σ w:=by
  intro ds a ha
  classical
  let J:Act->World->Prop:=fun a w=>∃ m σ,Fr ds n σ a/\I m σ w
  have hmin:∀ a w,J a w->∃ m,(∃ σ,Fr ds n σ a/\I m σ w)/\∀ m',(∃ σ,Fr ds n σ a/\I m' σ w)->m<=m':=by
    rintro a w ⟨m,σ,h1,h2⟩
    have key:∀ k m,m<=k->(∃ σ,Fr ds n σ a/\I m σ w)->∃ m,(∃ σ,Fr ds n σ a/\I m σ w)/\∀ m',(∃ σ,Fr ds n σ a/\I m' σ w)->m<=m':=by
      intro k
      induction k with
      | zero=>intro m hm h; exact ⟨m,h,fun m' _=>by omega⟩
      | succ k ih =>
        intro m hm h
        by_cases hx:∃ m',m'<m/\∃ σ,Fr ds n σ a/\I m' σ w
        · obtain ⟨m',hlt,h'⟩:=hx
          exact ih m' (by omega) h'
        · exact ⟨m,h,fun m' h'=>Nat.le_of_not_lt fun hlt=>hx ⟨m',hlt,h'⟩⟩
    exact key m m (Nat.le_refl _) ⟨σ,h1,h2⟩
  let μ:Act->World->Nat:=fun a w=>if h:J a w then (hmin a w h).choose else 0
  refine (wpIn_wide (n:=0)).2 (wp_scope_jumps l J μ hf ?_ ?_)
  · refine wp_mono ((wpIn_wide (n:=0)).1 (first ds a ha)) ?_
    rintro e a' w' ⟨s,hs,h'⟩
    cases e with
    | goto l'=>exact ⟨h'.1,h'.2.choose,s,hs,h'.2.choose_spec⟩
    | _=>exact ⟨s,hs,h'⟩
  · intro a w hJ
    obtain ⟨σ,hσ,hI⟩:=(hmin a w hJ).choose_spec.1
    refine wp_mono ((wpIn_wide (n:=0)).1 (pass _ σ w hI ds a hσ)) ?_
    rintro e a' w' ⟨s,hs,h'⟩
    cases e with
    | goto l' =>
      obtain ⟨rfl,m',hlt,hI'⟩:=h'
      have hJ':J a' w':=⟨m',s,hs,hI'⟩
      refine ⟨rfl,hJ',?_⟩
      have h1:=(hmin a' w' hJ').choose_spec.2 m' ⟨s,hs,hI'⟩
      have e1:μ a' w'=(hmin a' w' hJ').choose:=dif_pos hJ'
      have e2:μ a w=(hmin a w hJ).choose:=dif_pos hJ
      rw [e1,e2]
      omega
    | _=>exact ⟨s,hs,h'⟩
/-- What is asked where a jump leads: some way to tell the passes. -/
def JG (P:Program) (n l:Nat) (R:Code) (Q:Post) (σ:Env) (w:World):Prop :=
  ∃ I:Nat->Env->World->Prop,∃ m,I m σ w/\∀ m σ w,I m σ w->W P n R (jumpQ l (fun σ' w'=>∃ m',m'<m/\I m' σ' w') Q) σ w
theorem jumpQ_mono {l:Nat} {K K':Env->World->Prop} (h:∀ σ w,K σ w->K' σ w):∀ e σ w,jumpQ l K Q e σ w->jumpQ l K' Q e σ w:=fun e σ w hh=>by
  cases e with
  | goto l'=>exact ⟨hh.1,h _ _ hh.2⟩
  | _=>exact hh
theorem W.jumpS {c R:Code} (l:Nat) (hf:findLabel c l=some R) (first:W P n c (jumpQ l (JG P n l R Q) Q) σ w):W P n (.scope c) Q σ w :=
  W.jump l hf (fun m σ w=>∃ I:Nat->Env->World->Prop,I m σ w/\∀ m σ w,I m σ w->W P n R (jumpQ l (fun σ' w'=>∃ m',m'<m/\I m' σ' w') Q) σ w)
    (W.mono first (jumpQ_mono fun _ _ ⟨I,m,h,p⟩=>⟨m,I,h,p⟩))
    fun m σ w ⟨I,h,p⟩=>W.mono (p m σ w h) (jumpQ_mono fun _ _ ⟨m',hlt,h'⟩=>⟨m',hlt,I,h',p⟩)
theorem W.jumpL {R:Code} {l:Nat} (I:Nat->Env->World->Prop) (h0:∃ m,I m σ w) (pass:∀ m σ w,I m σ w->W P n R (jumpQ l (fun σ' w'=>∃ m',m'<m/\I m' σ' w') Q) σ w) :
    W P n (.seq (.label l) R) (jumpQ l (JG P n l (.seq .skip R) Q) Q) σ w:=by
  obtain ⟨m,h⟩:=h0
  exact W.seq (W.label (W.mono (pass m σ w h) (jumpQ_mono fun _ _ ⟨m',_,h'⟩=>⟨I,m',h',fun m σ w hh=>W.seq (W.skip (pass m σ w hh))⟩)))
end
end Go.Nm
namespace Go.Nm
open Go
def noGotoD (Q:PostD):PostD
  | .goto _,_,_,_=>False
  | e,Ds,σ,w=>Q e Ds σ w
theorem WD.scope {P:Program} {n:Nat} {Q:PostD} {σ:Env} {w:World} {Ds:List Nat} {c:Code} (h:WD P n Ds c (noGotoD Q) σ w):WD P n Ds (.scope c) Q σ w:=by
  intro a ha
  refine (wpIn_wide (n:=0)).2 (wp_scope_straight (wp_mono ((wpIn_wide (n:=0)).1 (h a ha)) ?_))
  rintro e a' w' ⟨d,s,hs,h'⟩
  cases e with
  | goto l=>exact h'.elim
  | _=>exact ⟨d,s,hs,h'⟩
section
variable {P:Program} {w:World} {σ:Env} {d:Nat} {ty:TypeId} {pos:String} {af:Array Edge} {g:Option (Nat × Bool)}
/-! ### Values of any type, and what type they are of -/
theorem x_ushr1 {t yt:TypeId} {x y:Operand} {a:Int} (hx:ev σ x = .int .u64 a) (hy:ev σ y = .int .u64 1) :
    (execOp (ev σ) ⟨some d,.binOp .shr t x y yt,ty,pos,af,g⟩).run P w = .ok (.value (.int .u64 (a / 2))) w:=by
  have e:a.fdiv 2=a / 2:=Int.fdiv_eq_ediv_of_nonneg _ (by decide)
  simp only [execOp,hx,hy,eqGuard,binOp,Op.shift]
  simp
  exact e
end
end Go.Nm
namespace Go.Nm
open Go
section
variable {P:Program} {w:World} {σ:Env} {d:Nat} {ty:TypeId} {pos:String} {af:Array Edge} {g:Option (Nat × Bool)}
end
end Go.Nm
namespace Go.Nm
open Go
theorem fat_fat {p:Value} (hp:∃ b o,p = .pointer (some ⟨b,o,none⟩)) (a c:Nat):fat (fat p a) c=fat p (a+c):=by
  obtain ⟨b,o,rfl⟩:=hp
  simp [fat,add_lit,Nat.add_assoc]
section
variable {P:Program} {w:World}
theorem fa_pl2 {s:TypeId} {k off a c:Nat} {ft:TypeId}
    (h:(P.underlying s).bind (fun d=>match d with | .struct fs=>(fs[k]?).map (fun f=>(f.offset,f.type)) | _=>none)=some (off,ft))
    {n:Nat} (hn:(P.info? ft).map (·.size)=some (n+1)) {p:Value} (hp:∃ b o,p = .pointer (some ⟨b,o,none⟩)) (hc:a+off=c):(Instr.fieldAt s (fat p a) k).run P w = .ok (fat p c) w:=by
  subst hc
  rw [fa_pl h hn (p:=fat p a) (by obtain ⟨b,o,rfl⟩:=hp; exact ⟨b,o+a,by simp [fat,add_lit]⟩),fat_fat hp]
end
/-- A row of truths that lies in a block, read on only. -/
theorem St.freezeB {w0 w:World} {L R:List Chunk} (H:St w0 w L R) {k b:Nat} {l:List Bool} {t:TypeId} {n:Nat} (hk:L[k]?=some (cBlk b (encB l) t)) (hn:l.length=n) (hm:n<=9223372036854775807) :
    ∃ B,St w0 w (L.set k (cRo B)) R/\∀ j:Int,0<=j->j<=n->Sl B.cells (.slice (some ⟨b,0,none⟩) j.toNat n) (l.take j.toNat):=by
  subst hn
  refine ⟨⟨w,fun i=>i=b⟩,H.set (c':=cRo ⟨w,fun i=>i=b⟩) hk rfl (.refl w) (fun _ _ _=>rfl) (fun i hi=>.inl hi.1) ⟨Nat.le_refl _,fun _ _ _=>rfl⟩ rfl,fun j h0 h1=>?_⟩
  have hb:w.heap[b]?=some (.cells (encB l).toArray t (0,0)):=H.get hk
  refine ⟨⟨some ⟨b,0,none⟩,l.length,by rw [List.length_take,Nat.min_eq_left (by omega)],by rw [List.length_take]; omega,hm,fun k x hx=>⟨b,0,[.bool x],rfl,rfl,fun i y hy=>?_⟩⟩⟩
  obtain ⟨rfl,rfl⟩:i=0/\y = .bool x:=by
    cases i with
    | zero=>simp at hy; exact ⟨rfl,hy.symm⟩
    | succ i=>simp at hy
  have hx':l[k]?=some x:=by
    rw [List.getElem?_take] at hx
    split at hx
    · exact hx
    · cases hx
  have hs:(Elt.sz Bool)=1:=rfl
  unfold Base.cells
  rw [if_pos rfl]
  show w.cell? ⟨b,0+k*Elt.sz Bool+0,none⟩=_
  rw [hs]
  simp [World.cell?,hb,encB,hx']
theorem run_sliceB {P:Program} {t e:TypeId} {n k:Nat} {w:World} {b:Nat} {j:Int} (hu:P.underlying t=some (.array n e)) (hz:(P.info? e).map (·.size)=some k) (h0:0<=j) (h1:j<=n) :
    (Instr.sliceAt t (.pointer (some ⟨b,0,none⟩)) none (some (I j)) none).run P w = .ok (.slice (some ⟨b,0,none⟩) j.toNat n) w:=by
  simp [Instr.sliceAt,Instr.sureAddr,Instr.sliceBounds,Instr.sliceBound,asIntOf,run_underlying hu,run_sizeOf hz,h0,h1,Addr.add]
end Go.Nm
namespace Go.Nm
open Go
/-! ### Numbers in order -/
def insI (x:Int):List Int->List Int
  | []=>[x]
  | y :: l=>bif decide (x<=y) then x :: y :: l else y :: insI x l
def isort (l:List Int):List Int:=l.foldr insI []
theorem insI_perm (x:Int):∀ l:List Int,(insI x l).Perm (x :: l)
  | []=>.refl _
  | y :: l=>by
    unfold insI
    cases decide (x<=y) with
    | true=>exact .refl _
    | false=>exact ((insI_perm x l).cons y).trans (.swap x y l)
theorem isort_perm:∀ l:List Int,(isort l).Perm l
  | []=>.refl _
  | x :: l=>(insI_perm x _).trans ((isort_perm l).cons x)
theorem insI_asc (x:Int):∀ l:List Int,l.Pairwise (·<=·)->(insI x l).Pairwise (·<=·)
  | [],_=>by simp [insI]
  | y :: l,h=>by
    rw [List.pairwise_cons] at h
    unfold insI
    cases hc:decide (x<=y) with
    | true =>
      have hc:=of_decide_eq_true hc
      show (x :: y :: l).Pairwise _
      rw [List.pairwise_cons,List.pairwise_cons]
      refine ⟨fun z hz=>?_,h⟩
      rcases List.mem_cons.1 hz with rfl | hz
      · exact hc
      · exact Int.le_trans hc (h.1 z hz)
    | false =>
      have hc:=of_decide_eq_false hc
      show (y :: insI x l).Pairwise _
      rw [List.pairwise_cons]
      refine ⟨fun z hz=>?_,insI_asc x l h.2⟩
      rcases List.mem_cons.1 ((insI_perm x l).mem_iff.1 hz) with rfl | hz
      · omega
      · exact h.1 z hz
theorem isort_asc:∀ l:List Int,(isort l).Pairwise (·<=·)
  | []=>.nil
  | x :: l=>insI_asc x _ (isort_asc l)
theorem asc_uniq:∀ {l m:List Int},l.Pairwise (·<=·)->m.Pairwise (·<=·)->l.Perm m->l=m
  | [],m,_,_,p=>(List.nil_perm.1 p).symm
  | x :: l,[],_,_,p=>by have:=p.length_eq; simp at this
  | x :: l,y :: m,h,k,p=>by
    rw [List.pairwise_cons] at h k
    have h1:x<=y:=by
      rcases List.mem_cons.1 (p.mem_iff.2 (List.mem_cons_self (a:=y) (l:=m))) with e | e
      · omega
      · exact h.1 y e
    have h2:y<=x:=by
      rcases List.mem_cons.1 (p.mem_iff.1 (List.mem_cons_self (a:=x) (l:=l))) with e | e
      · omega
      · exact k.1 x e
    obtain rfl:x=y:=by omega
    rw [asc_uniq h.2 k.2 (List.perm_cons x |>.1 p)]
theorem merge_isort {ss ks:List Int} (p:ss.Perm ks):ss.mergeSort (fun x y=>decide (x<=y))=isort ks:=by
  refine asc_uniq ?_ (isort_asc ks) (((List.mergeSort_perm ss _).trans p).trans (isort_perm ks).symm)
  have:=List.pairwise_mergeSort (le:=fun x y:Int=>decide (x<=y)) (fun a b c h1 h2=>by simp only [decide_eq_true_eq] at *; omega) (fun a b=>by simp only [Bool.or_eq_true,decide_eq_true_eq]; omega) ss
  exact this.imp fun h=>of_decide_eq_true h
/-! ### Maps, told entry by entry -/
def MapL {κ ν:Type} (kenc:κ->Value) (venc:ν->Value) (es:Array MapEntry) (clk:Nat) (m:List (κ × ν)):Prop :=
  es.toList.map (fun e=>(e.key,e.val))=m.map (fun p=>(kenc p.1,venc p.2))/\(es.toList.map (·.born)).Nodup/\∀ e∈es.toList,e.born<clk
section
variable {P:Program} {w w0:World} {L L' R:List Chunk} {t kt et:TypeId} {b:Nat} {es:Array MapEntry} {clk:Nat} {ks:List Int}
variable {all rest:List Oper} {Q:Post} {σ:Env} {d:Nat} {ty:TypeId} {pos:String} {af:Array Edge} {g:Option (Nat × Bool)}
end
end Go.Nm
namespace Go.Nm
open Go
/-! ### What is reckoned entry by entry -/
namespace M
variable {κ ν:Type}
def mapL (body:κ->ν->M ν):List (κ × ν)->M (List (κ × ν))
  | []=>pure []
  | p :: m=>bind (body p.1 p.2) fun v=>bind (mapL body m) fun m'=>pure ((p.1,v) :: m')
theorem mapL_at {body:κ->ν->M ν}:∀ {m m':List (κ × ν)},(mapL body m).Ends m'->m'.length=m.length/\∀ (i:Nat) (k:κ) (v:ν),m[i]?=some (k,v)->∃ v',(body k v).Ends v'/\m'[i]?=some (k,v')
  | [],m',h=>by
    obtain rfl:=e_pure h
    exact ⟨rfl,fun i k v h=>by simp at h⟩
  | p :: m,m',h=>by
    obtain ⟨v1,h1,h⟩:=e_bind h
    obtain ⟨m1,h2,h⟩:=e_bind h
    obtain rfl:=e_pure h
    obtain ⟨l,ih⟩:=mapL_at h2
    refine ⟨by simp [l],fun i k v hi=>?_⟩
    cases i with
    | zero =>
      simp only [List.getElem?_cons_zero,Option.some.injEq] at hi
      subst hi
      exact ⟨v1,h1,rfl⟩
    | succ i=>exact ih i k v (by simpa using hi)
end M
/-! ### In memory -/
section
variable {κ ν:Type} [DecidableEq κ] {kenc:κ->Value} {venc:ν->Value}
def cMl (kenc:κ->Value) (venc:ν->Value) (b:Nat) (m:List (κ × ν)):Chunk where
  D k:=k=b
  ex:=true
  ok w:=∃ es n,w.heap[b]?=some (.map es n)/\MapL kenc venc es n m/\(m.map Prod.fst).Nodup
  st w w':=fun ⟨es,n,h1,h2⟩ _ k=>⟨es,n,(k b rfl).trans h1,h2⟩
  bd w k:=fun ⟨_,_,h,_⟩ e=>by rw [e]; exact heap_lt h
variable {P:Program} {w w0:World} {L L' R:List Chunk} {t kt et:TypeId} {b r:Nat} {es:Array MapEntry} {clk:Nat} {m:List (κ × ν)}
variable {all rest:List Oper} {Q:Post} {σ:Env} {d:Nat} {ty:TypeId} {pos:String} {af:Array Edge} {g:Option (Nat × Bool)}
omit [DecidableEq κ] in theorem t_mkMl {t':TypeId} (kenc:κ->Value) (venc:ν->Value) (H:St w0 w L R) (k:∀ b w',St w0 w' (cMl kenc venc b [] :: L) R->SL P all Q rest (upd σ d (.map (some b))) w'):SL P all Q (⟨some d,.makeMap t' none,ty,pos,af,none⟩ :: rest) σ w :=
  s_mkmap fun b w' hn=>k b w' (H.push (c:=cMl kenc venc b []) hn.ext ⟨_,_,hn.same,⟨rfl,List.nodup_nil,fun e h=>by simp at h⟩,List.nodup_nil⟩ (fun j hj=>by rw [show j=b from hj]; exact hn.ge))
end
/-- How far a loop over a map has come: what is left is as it was, what was met is as it will be. -/
def ItR {κ ν:Type} (m m' m1:List (κ × ν)) (left:List Bool):Prop:=m1.length=m.length/\m'.length=m.length/\left.length=m.length/\∀ i,i<m.length->m1[i]?=if left.getD i false then m[i]? else m'[i]?
namespace ItR
variable {κ ν:Type} {m m' m1:List (κ × ν)} {left:List Bool} {body:κ->ν->M ν}
theorem fin (h:ItR m m' m1 left) (hl:∀ j:Nat,left.getD j false=false):m1=m':=by
  apply List.ext_getElem?
  intro i
  by_cases hi:i<m.length
  · rw [h.2.2.2 i hi,hl i]; rfl
  · rw [List.getElem?_eq_none (by have:=h.1; omega),List.getElem?_eq_none (by have:=h.2.1; omega)]
theorem lt (h:ItR m m' m1 left) {j:Nat} (hj:left.getD j false=true):j<m.length:=by
  rw [← h.2.2.1]
  refine Nat.lt_of_not_le fun hn=>?_
  rw [List.getD_eq_getElem?_getD,List.getElem?_eq_none hn] at hj
  cases hj
theorem at_ (h:ItR m m' m1 left) (hb:(M.mapL body m).Ends m') {j:Nat} {k:κ} {v:ν} (hj:left.getD j false=true) (hm:m1[j]?=some (k,v)):∃ v',(body k v).Ends v'/\m'[j]?=some (k,v'):=by
  have:=h.2.2.2 j (h.lt hj)
  rw [hj,hm] at this
  exact (M.mapL_at hb).2 j k v (by simpa using this.symm)
theorem step (h:ItR m m' m1 left) {j:Nat} {k:κ} {v v':ν} (hj:left.getD j false=true) (hm:m1[j]?=some (k,v)) (hv:m'[j]?=some (k,v')):ItR m m' (m1.set j (k,v')) (left.set j false):=by
  have hjl:=h.lt hj
  have hl:=h.2.2.1
  have h1:=h.1
  refine ⟨by rw [List.length_set]; exact h.1,h.2.1,by rw [List.length_set]; exact h.2.2.1,fun i hi=>?_⟩
  by_cases e:j=i
  · subst e
    rw [List.getElem?_set_self (by omega),List.getD_eq_getElem?_getD,List.getElem?_set_self (by omega),hv]
    rfl
  · rw [List.getElem?_set_ne e,List.getD_eq_getElem?_getD,List.getElem?_set_ne e,← List.getD_eq_getElem?_getD]
    exact h.2.2.2 i hi
theorem keep (h:ItR m m' m1 left) {j:Nat} {k:κ} {v:ν} (hj:left.getD j false=true) (hm:m1[j]?=some (k,v)) (hv:m'[j]?=some (k,v)):ItR m m' m1 (left.set j false):=by
  have:=h.step hj hm hv
  rwa [show m1.set j (k,v)=m1 from by
    obtain ⟨hl,e⟩:=List.getElem?_eq_some_iff.1 hm
    rw [← e,List.set_getElem_self]] at this
theorem less {j:Nat} (hj:left.getD j false=true):(left.set j false).count true<left.count true:=by
  have hl:j<left.length:=Nat.lt_of_not_le fun hn=>by
    rw [List.getD_eq_getElem?_getD,List.getElem?_eq_none hn] at hj
    cases hj
  have hg:left[j]=true:=by
    rw [List.getD_eq_getElem?_getD,List.getElem?_eq_getElem hl] at hj
    exact hj
  rw [List.count_set hl,hg]
  have:0<left.count true:=List.count_pos_iff.2 (by rw [← hg]; exact List.getElem_mem hl)
  simp
  omega
end ItR
end Go.Nm
namespace Go.Proofs
open Go.RowKit Go.Maps Go.Sort Go.Shelf
def Tryz.sortA_ren:Go.Shelf.Ren:=⟨fun | 5=>52 | 7=>97 | 8=>98 | 10=>121 | 11=>122 | 12=>123 | 13=>124 | 14=>125 | 15=>126 | 16=>127 | 17=>128 | 18=>129 | 19=>130 | 20=>131 | 30=>139 | 31=>140 | 32=>141 | 33=>142 | 34=>143 | 35=>138 | 40=>145 | n=>n,fun | 0=>0 | 3=>3 | 4=>4 | 5=>5 | 9=>9 | 22=>28 | 23=>28 | 25=>3 | 32=>185 | 35=>193 | 36=>194 | 41=>188 | 44=>200 | 46=>202 | 53=>207 | 57=>211 | 63=>214 | 64=>215 | n=>n,fun | n=>n⟩
theorem Tryz.sortA:Go.Proofs.SlLaysM.n5 Tryz.prog Tryz.sortA_ren:={
  mixed:=by kernel_rfl
  f5 := ⟨"slices.Sort[[]int,int]", by kernel_rfl, Tryz.func52.trans (congrArg some (by kernel_rfl))⟩
  f7 := ⟨"slices.pdqsortOrdered[int]", by kernel_rfl, Tryz.func97.trans (congrArg some (by kernel_rfl))⟩
  f8:=Tryz.func98.trans (congrArg some (by kernel_rfl))
  f10 := ⟨"slices.insertionSortOrdered[int]", by kernel_rfl, Tryz.func121.trans (congrArg some (by kernel_rfl))⟩
  f11 := ⟨"slices.heapSortOrdered[int]", by kernel_rfl, Tryz.func122.trans (congrArg some (by kernel_rfl))⟩
  f12 := ⟨"slices.breakPatternsOrdered[int]", by kernel_rfl, Tryz.func123.trans (congrArg some (by kernel_rfl))⟩
  f13 := ⟨"slices.choosePivotOrdered[int]", by kernel_rfl, Tryz.func124.trans (congrArg some (by kernel_rfl))⟩
  f14 := ⟨"slices.reverseRangeOrdered[int]", by kernel_rfl, Tryz.func125.trans (congrArg some (by kernel_rfl))⟩
  f15 := ⟨"slices.partialInsertionSortOrdered[int]", by kernel_rfl, Tryz.func126.trans (congrArg some (by kernel_rfl))⟩
  f16 := ⟨"cmp.Less[int]", by kernel_rfl, Tryz.func127.trans (congrArg some (by kernel_rfl))⟩
  f17 := ⟨"slices.partitionEqualOrdered[int]", by kernel_rfl, Tryz.func128.trans (congrArg some (by kernel_rfl))⟩
  f18 := ⟨"slices.partitionOrdered[int]", by kernel_rfl, Tryz.func129.trans (congrArg some (by kernel_rfl))⟩
  f19:=Tryz.func130.trans (congrArg some (by kernel_rfl))
  f20:=Tryz.func131.trans (congrArg some (by kernel_rfl))
  f30 := ⟨"slices.siftDownOrdered[int]", by kernel_rfl, Tryz.func139.trans (congrArg some (by kernel_rfl))⟩
  f31:=Tryz.func140.trans (congrArg some (by kernel_rfl))
  f32:=Tryz.func141.trans (congrArg some (by kernel_rfl))
  f33 := ⟨"slices.medianAdjacentOrdered[int]", by kernel_rfl, Tryz.func142.trans (congrArg some (by kernel_rfl))⟩
  f34 := ⟨"slices.medianOrdered[int]", by kernel_rfl, Tryz.func143.trans (congrArg some (by kernel_rfl))⟩
  f35 := ⟨"cmp.isNaN[int]", by kernel_rfl, Tryz.func138.trans (congrArg some (by kernel_rfl))⟩
  f40 := ⟨"slices.order2Ordered[int]", by kernel_rfl, Tryz.func145.trans (congrArg some (by kernel_rfl))⟩
  t0:=Tryz.underlying0
  a0:=Tryz.isAgg0
  z0:=Tryz.sizeOf0
  v0:=Tryz.zeroValue0
  t3:=Tryz.underlying3
  a3:=Tryz.isAgg3
  z3:=Tryz.sizeOf3
  v3:=Tryz.zeroValue3
  t4:=Tryz.underlying4
  a4:=Tryz.isAgg4
  z4:=Tryz.sizeOf4
  v4:=Tryz.zeroValue4
  t5:=Tryz.underlying5
  a5:=Tryz.isAgg5
  z5:=Tryz.sizeOf5
  v5:=Tryz.zeroValue5
  t9:=Tryz.underlying9
  a9:=Tryz.isAgg9
  z9:=Tryz.sizeOf9
  v9:=Tryz.zeroValue9
  t22:=Tryz.underlying28
  a22:=Tryz.isAgg28
  z22:=Tryz.sizeOf28
  v22:=Tryz.zeroValue28
  t23:=Tryz.underlying28
  a23:=Tryz.isAgg28
  z23:=Tryz.sizeOf28
  v23:=Tryz.zeroValue28
  t25:=Tryz.underlying3
  a25:=Tryz.isAgg3
  z25:=Tryz.sizeOf3
  v25:=Tryz.zeroValue3
  t32:=Tryz.underlying185
  a32:=Tryz.isAgg185
  z32:=Tryz.sizeOf185
  v32:=Tryz.zeroValue185
  t35:=Tryz.underlying193
  a35:=Tryz.isAgg193
  z35:=Tryz.sizeOf193
  v35:=Tryz.zeroValue193
  t36:=Tryz.underlying194
  a36:=Tryz.isAgg194
  z36:=Tryz.sizeOf194
  v36:=Tryz.zeroValue194
  t41:=Tryz.underlying188
  a41:=Tryz.isAgg188
  z41:=Tryz.sizeOf188
  v41:=Tryz.zeroValue188
  t44:=Tryz.underlying200
  a44:=Tryz.isAgg200
  z44:=Tryz.sizeOf200
  v44:=Tryz.zeroValue200
  t46:=Tryz.underlying202
  a46:=Tryz.isAgg202
  z46:=Tryz.sizeOf202
  v46:=Tryz.zeroValue202
  t53:=Tryz.underlying207
  a53:=Tryz.isAgg207
  z53:=Tryz.sizeOf207
  v53:=Tryz.zeroValue207
  t57:=Tryz.underlying211
  a57:=Tryz.isAgg211
  z57:=Tryz.sizeOf211
  v57:=Tryz.zeroValue211
  t63:=Tryz.underlying214
  a63:=Tryz.isAgg214
  z63:=Tryz.sizeOf214
  v63:=Tryz.zeroValue214
  t64:=Tryz.underlying215
  a64:=Tryz.isAgg215
  z64:=Tryz.sizeOf215
  v64:=Tryz.zeroValue215 }

end Go.Proofs
namespace Go.Nm
open Go
theorem OwnF.row {B:Nat} {e:TypeId} {w:World} {l:List Int} {g cap:Nat} {cur:Array Value} (ho:OwnF B e w (.slice (some ⟨g,0,none⟩) l.length cap) l) (hg:w.heap[g]?=some (.cells cur e (0,0)))
    (hcs:l.length<=cap) (hsz:cur.size=cap) (hb:B<=g) (hm:cap<=maxLen) (d:Array Int) (hl:d.size=l.length) (q:Nat) :
    OwnF B e (Sort.putRow (Value.int .i64) (Sort.ahead w q) g 0 d) (.slice (some ⟨g,0,none⟩) l.length cap) d.toList/\Grow B (.slice (some ⟨g,0,none⟩) l.length cap) w (Sort.putRow (Value.int .i64) (Sort.ahead w q) g 0 d):=by
  have hs1:Elt.sz Int=1:=rfl
  have h1:(Sort.putRow (Value.int .i64) (Sort.ahead w q) g 0 d).heap[g]?=some (.cells (Sort.putCells (Value.int .i64) 0 d cur) e (0,0)):=by
    show (w.heap.modify g _)[g]?=_
    rw [Array.getElem?_modify,if_pos rfl,hg]
    rfl
  have h2:∀ k,k ≠ g->(Sort.putRow (Value.int .i64) (Sort.ahead w q) g 0 d).heap[k]?=w.heap[k]?:=by
    intro k hk
    show (w.heap.modify g _)[k]?=_
    rw [Array.getElem?_modify,if_neg (fun h=>hk h.symm)]
  refine ⟨⟨by rw [enc_ints]; simp [hs1],.inr ⟨g,cap,_,by simp [hl],hb,h1,by simp [hl]; omega,hm,by simp [hs1,Sort.putCells]; omega,?_⟩⟩,⟨rfl,rfl,by simp [Sort.putRow,Sort.mapBlock,Sort.ahead],fun k _ hk=>?_,fun g' hg'=>(ho.lt g' hg').1,fun a=>by simp⟩⟩
  · rw [enc_ints,hs1]
    apply List.ext_getElem?
    intro i
    rw [List.getElem?_take,List.getElem?_map]
    by_cases hi:i<d.toList.length*1
    · rw [if_pos hi]
      have hi':i<d.size:=by simpa using hi
      have hc:i<cur.size:=by omega
      simp [Sort.putCells,hi',hc]
    · rw [if_neg hi,List.getElem?_eq_none (by simpa using hi)]
      rfl
  · refine h2 k (fun e'=>hk ?_)
    rw [e']
    rfl
end Go.Nm
namespace Go.Proofs.YtlemgioaakecpaaGreat
open Go Go.Nm Go.Proofs
theorem sort_any {w:World} {v:Value} {l:List Int} (ho:OwnF 0 3 w v l) (hl:l.length<=1000000):Ret Tryz.prog 52 #[v] w fun u w'=>u = .tuple #[]/\OwnF 0 3 w' v (isort l)/\Keep w w'/\∀ b,b<w.heap.size->v.ownBlock ≠ some b->w'.heap[b]?=w.heap[b]?:=by
  have ho':=ho
  rcases ho.2 with ⟨rfl,hn⟩ | ⟨g,cap,cur,rfl,hb,hg,hc,hm,hcs,htake⟩
  · obtain rfl:=List.length_eq_zero_iff.1 hn
    have h:=AnyM.slices_Sort_int_none Tryz.sortA none 0 w
    refine Calls.mono h ?_
    rintro _ w' ⟨rfl,rfl⟩
    exact ⟨_,rfl,rfl,ho,Keep.refl _,fun _ _ _=>rfl⟩
  · have hs1:Elt.sz Int=1:=rfl
    rw [hs1] at hcs htake
    rw [enc_ints] at htake
    have hcell:∀ j,j<l.length->w.cell? ⟨g,0+j,none⟩=some (.int .i64 (l.getD j 0)):=by
      intro j hj
      rw [Nat.zero_add,cell_of_row w g j cur 3 (0,0) hg]
      have h1:(cur.toList.take (l.length*1))[j]?=(l.map I)[j]?:=by rw [htake]
      rw [List.getElem?_take,if_pos (by omega),List.getElem?_map,getD_some l hj 0] at h1
      simpa using h1
    have hH:Sort.Holds (Value.int .i64) w g 0 l.toArray:=by
      intro j hj
      have hj:j<l.length:=by simpa using hj
      refine ⟨?_,by simp [World.frozen?,hg]⟩
      rw [hcell j hj]
      have:l.getD j 0=l.toArray[j]!:=by
        rw [List.getD_eq_getElem?_getD,List.getElem?_eq_getElem hj]
        simp [getElem!_pos,hj]
      rw [this]
    have h:=AnyM.slices_Sort_int Tryz.sortA g 0 cap l w hH (heap_lt hg) (by omega)
    refine Calls.mono h ?_
    rintro _ w' ⟨rfl,q,os,rfl⟩
    rw [merge_isort (List.Perm.refl l)]
    have hlen:(isort l).length=l.length:=(isort_perm l).length_eq
    obtain ⟨h1,h2⟩:=OwnF.row ho hg hc (by omega) hb hm (isort l).toArray (by simp [hlen]) q
    have hlt:g<(Sort.putRow (Value.int .i64) (Sort.ahead w q) g 0 (isort l).toArray).heap.size:=Nat.lt_of_lt_of_le (heap_lt hg) h2.size
    refine ⟨_,rfl,rfl,?_,⟨h2.os,h2.out,by rw [Sort.size_grow]; exact Nat.le_trans h2.size (Nat.le_add_right _ _)⟩,fun b hb' hne=>?_⟩
    · rcases h1 with ⟨h3,h4 | ⟨g',cap',cur',h5,h6,h7,h8⟩⟩
      · exact absurd h4.1 (by simp)
      · simp only [Value.slice.injEq,Option.some.injEq,Addr.mk.injEq,and_true] at h5
        obtain ⟨rfl,_,rfl⟩:=h5
        refine ⟨h3,.inr ⟨g,cap,cur',by simp [hlen],h6,by rw [Sort.heap_grow_old _ _ hlt]; exact h7,h8⟩⟩
    · rw [Sort.heap_grow_old _ _ (Nat.lt_of_lt_of_le hb' h2.size)]
      exact h2.blk b hb' hne
end Go.Proofs.YtlemgioaakecpaaGreat
namespace Go.Nm
open Go
theorem St.sorted {w0 w w':World} {L L' R:List Chunk} {k:Nat} {v:Value} {l l':List Int} {e:TypeId} (H:St w0 w L R) (hk:L[k]?=some (cOwn (α:=Int) e v l)) (ho:OwnF 0 e w' v l') (kp:Keep w w') (hs:∀ b,b<w.heap.size->v.ownBlock ≠ some b->w'.heap[b]?=w.heap[b]?)
    (hl:L.set k (cOwn (α:=Int) e v l')=L'):St w0 w' L' R :=
  H.set (c':=cOwn (α:=Int) e v l') hk rfl kp hs (fun b hb=>.inl hb) ho hl
end Go.Nm
namespace Go.Nm
open Go
end Go.Nm
namespace Go.Nm
open Go
universe u
abbrev Pq (b:Nat):Value:=.pointer (some ⟨b,0,none⟩)
abbrev Oq (b o:Nat):Value:=.pointer (some ⟨b,o,none⟩)
class NthR {α:Type u} (l:List α) (i:Nat) (x:outParam α):Prop where
  is:l[i]?=some x
instance {α:Type u} {l:List α} {x:α}:NthR (x :: l) 0 x:=⟨rfl⟩
instance {α:Type u} {l:List α} {x y:α} {i:Nat} [h:NthR l i x]:NthR (y :: l) (i+1) x:=⟨h.is⟩
instance (priority:=high) {α:Type u} {l:List α} {x a b c d:α} {i:Nat} [h:NthR l i x]:NthR (a :: b :: c :: d :: l) (i+4) x:=⟨h.is⟩
class PickR {α:Type u} (l:List α) (i:List Nat) (o:outParam (List α)):Prop where
  is:i.mapM (fun j=>l[j]?)=some o
instance {α:Type u} {l:List α}:PickR l [] []:=⟨rfl⟩
instance {α:Type u} {l o:List α} {i:Nat} {is:List Nat} {x:α} [h:NthR l i x] [k:PickR l is o]:PickR l (i :: is) (x :: o):=⟨by rw [List.mapM_cons,h.is,k.is]; rfl⟩
class AppR {α:Type u} (a b:List α) (o:outParam (List α)):Prop where
  is:a++b=o
instance {α:Type u} {b:List α}:AppR [] b b:=⟨rfl⟩
instance {α:Type u} {x:α} {a b o:List α} [h:AppR a b o]:AppR (x :: a) b (x :: o):=⟨by rw [List.cons_append,h.is]⟩
class LenR {α:Type u} (l:List α) (n:Nat):Prop where
  is:l.length=n
instance {α:Type u}:LenR ([]:List α) 0:=⟨rfl⟩
instance {α:Type u} {l:List α} {x:α} {n:Nat} [h:LenR l n]:LenR (x :: l) (n+1):=⟨by rw [List.length_cons,h.is]⟩
class EndR {α:Type u} (n:Nat) (l:List α) (a b:outParam (List α)):Prop where
  is:a++b=l
instance (priority:=low) {α:Type u} {x:α} {n:Nat} {l a b:List α} [h:EndR n l a b]:EndR n (x :: l) (x :: a) b:=⟨by rw [List.cons_append,h.is]⟩
instance {α:Type u} {n:Nat} {l:List α} [LenR l n]:EndR n l [] l:=⟨rfl⟩
class SetR {α:Type u} (l:List α) (k:Nat) (x:α) (o:outParam (List α)):Prop where
  is:l.set k x=o
instance {α:Type u} {l:List α} {x y:α}:SetR (y :: l) 0 x (x :: l):=⟨rfl⟩
instance {α:Type u} {l o:List α} {x y:α} {k:Nat} [h:SetR l k x o]:SetR (y :: l) (k+1) x (y :: o):=⟨by rw [List.set_cons_succ,h.is]⟩
class NfR {α:Type u} (l:List α) (o:outParam (List α)):Prop where
  is:l=o
instance {α:Type u}:NfR ([]:List α) []:=⟨rfl⟩
instance {α:Type u} {x:α} {l o:List α} [h:NfR l o]:NfR (x :: l) (x :: o):=⟨by rw [← h.is]⟩
instance {α:Type u} {l o p:List α} {k:Nat} {x:α} [h:NfR l o] [s:SetR o k x p]:NfR (l.set k x) p:=⟨by rw [h.is,s.is]⟩
instance {α:Type u} {a b a' b' o:List α} [h:NfR a a'] [h':NfR b b'] [s:AppR a' b' o]:NfR (a++b) o:=⟨by rw [h.is,h'.is,s.is]⟩
instance {α:Type u} {x:α} {l o:List α} [h:NfR l o]:NfR ((x :: l).eraseIdx 0) o:=⟨by rw [← h.is]; rfl⟩
instance {α:Type u} {x:α} {l o:List α} {k:Nat} [h:NfR (l.eraseIdx k) o]:NfR ((x :: l).eraseIdx (k+1)) (x :: o):=⟨by rw [List.eraseIdx_cons_succ,h.is]⟩
class OverR {α:Type u} (cs:List α) (off:Nat) (vs:List α) (o:outParam (List α)):Prop where
  is:cs.take off++vs++cs.drop (off+vs.length)=o
instance {α:Type u} {cs:List α}:OverR cs 0 [] cs:=⟨by simp⟩
instance {α:Type u} {c v:α} {cs vs o:List α} [h:OverR cs 0 vs o]:OverR (c :: cs) 0 (v :: vs) (v :: o):=⟨by
  have:=h.is
  simp only [List.take_zero,List.nil_append,Nat.zero_add] at this ⊢
  simp [this]⟩
instance {α:Type u} {c:α} {cs vs o:List α} {n:Nat} [h:OverR cs n vs o]:OverR (c :: cs) (n+1) vs (c :: o):=⟨by
  have:=h.is
  rw [List.take_succ_cons,show n+1+vs.length=n+vs.length+1 by omega,List.drop_succ_cons,List.cons_append,List.cons_append,this]⟩
section
variable {w0 w w':World} {L L' L1 R A T:List Chunk}
theorem St.os {α:Type} [Flat α] {e:TypeId} {v:Value} {l:List α} (h:St w0 w L R) (k:Nat) [n:NthR L k (cOwn e v l)]:Sl (rowC v (l.flatMap Flat.enc)) v l:=ownSl (h.get n.is)
theorem St.ol {α:Type} [Flat α] {e:TypeId} {v:Value} {l:List α} (h:St w0 w L R) (k:Nat) [n:NthR L k (cOwn e v l)]:(rowC v (l.flatMap Flat.enc)).Le w.cell?:=ownLe w (h.get n.is)
theorem rdo {α:Type} [Flat α] {e:TypeId} {v:Value} {l:List α} (k:Nat) [n:NthR L k (cOwn e v l)]:Reads (L++R) (rowC v (l.flatMap Flat.enc)):=Reads.of n.is ownLe
theorem St.bl {b:Nat} {cs:List Value} {t:TypeId} (h:St w0 w L R) (k:Nat) [n:NthR L k (cBlk b cs t)]:w.heap[b]?=some (.cells cs.toArray t (0,0)):=h.blk n.is
theorem St.nf (h:St w0 w L R) [n:NfR L L']:St w0 w L' R:=by
  have:=n.is
  subst this
  exact h
theorem St.pk (h:St w0 w L R) (i:List Nat) [n:NfR L L1] [p:PickR L1 i L'] (hn:i.Nodup:=by decide):St w0 w L' R:=h.nf.pick i hn p.is
theorem St.bk (h:St w0 w L R) (h':St w w' A (T++R)) [a:NfR (A++T) L']:St w0 w' L' R:=h.back h' a.is
theorem St.gt (h:St w0 w L R) (k:Nat) [n:NfR L L1] [s:EndR k L1 A T]:St w w A (T++R):=h.nf.give s.is
end
section
variable {P:Program} {all rest:List Oper} {Q:Post} {σ:Env} {w0 w:World} {L L' R:List Chunk} {ty:TypeId} {pos:String} {af:Array Edge}
theorem zM {d:Nat} {x:Operand} (v:Value) (h:ev σ x=v) (k:SL P all Q rest (upd σ d v) w):SL P all Q (⟨some d,.move x,ty,pos,af,none⟩ :: rest) σ w:=s_val (x_mv h) k
theorem zA {d:Nat} {x:Operand} (v:Value) (h:ev σ x=v) (k:SL P all Q rest (upd σ d v) w):SL P all Q (⟨some d,.assign x,ty,pos,af,none⟩ :: rest) σ w:=s_val (x_as h) k
theorem zC {d:Nat} {op:BinOp} {t yt:TypeId} {x y:Operand} (a b:Int) (r:Bool) (hx:ev σ x = .int .i64 a) (hy:ev σ y = .int .i64 b) (hr:cmpV op a b=some r) (k:SL P all Q rest (upd σ d (.bool r)) w):SL P all Q (⟨some d,.binOp op t x y yt,ty,pos,af,none⟩ :: rest) σ w:=s_val (x_cmp hx hy hr) k
theorem zR {d:Nat} {op:BinOp} {t yt:TypeId} {x y:Operand} (a b r:Int) (hx:ev σ x = .int .i64 a) (hy:ev σ y = .int .i64 b) (hr:ariV op a b=some r) (h:-9223372036854775808<=r/\r<=9223372036854775807) (k:SL P all Q rest (upd σ d (.int .i64 r)) w):SL P all Q (⟨some d,.binOp op t x y yt,ty,pos,af,none⟩ :: rest) σ w:=s_val (x_ari hx hy hr h) k
theorem zX {d i:Nat} {x:Operand} (vs:List Value) (v:Value) (h:ev σ x = .tuple vs.toArray) (hv:vs[i]?=some v) (k:SL P all Q rest (upd σ d v) w):SL P all Q (⟨some d,.extract x i,ty,pos,af,none⟩ :: rest) σ w:=s_val (x_ext h hv) k
theorem t_sw {dst:Option Nat} {t:TypeId} {x y:Operand} {b n:Nat} {cs cs':List Value} {et:TypeId} (k off:Nat) (vs:List Value) (v:Value) (H:St w0 w L R) [hk:NthR L k (cBlk b cs et)] [hc:OverR cs off vs cs'] [hL:SetR L k (cBlk b cs' et) L'] (hx:ev σ x = .pointer (some ⟨b,off,none⟩)) (hy:ev σ y=v)
    (hs:(P.info? t).map (·.size)=some n) (hv:v.cells=vs.toArray) (hn:vs.length=n) (hl:Nat.ble (off+n) cs.length=true) (h1:vs.all (·.oneCell')=true)
    (kk:∀ w',St w0 w' L' R->SL P all Q rest (updo σ dst undef) w'):SL P all Q (⟨dst,.store t x y,ty,pos,af,none⟩ :: rest) σ w :=
  t_st H hk.is hx hy hs hv hn hl h1 (by rw [← hn]; exact hc.is) hL.is kk
end
/-- What a test says, as a proposition. -/
class DcB (b c:Bool) (p:outParam Prop):Prop where
  to:b=c->p
instance (priority:=low) {b c:Bool}:DcB b c (b=c):=⟨fun h=>h⟩
instance {p:Prop} [Decidable p]:DcB (decide p) true p:=⟨of_decide_eq_true⟩
instance {p:Prop} [Decidable p]:DcB (decide p) false (¬p):=⟨of_decide_eq_false⟩
instance {α:Type _} [BEq α] [LawfulBEq α] {a b:α}:DcB (a==b) true (a=b):=⟨beq_iff_eq.1⟩
instance {α:Type _} [BEq α] [LawfulBEq α] {a b:α}:DcB (a==b) false (a ≠ b):=⟨beq_eq_false_iff_ne.1⟩
instance {α:Type _} [BEq α] [LawfulBEq α] {a b:α}:DcB (a != b) true (a ≠ b):=⟨bne_iff_ne.1⟩
instance {α:Type _} [BEq α] [LawfulBEq α] {a b:α}:DcB (a != b) false (a=b):=⟨bne_eq_false_iff_eq.1⟩
theorem dI {b c:Bool} {p:Prop} [h:DcB b c p] (x:b=c):p:=h.to x
section
variable {P:Program} {all rest:List Oper} {Q:Post} {σ:Env} {w0 w:World} {L L' R:List Chunk} {ty:TypeId} {pos:String} {af:Array Edge}
theorem t_ow {α:Type} [Flat α] {dst:Option Nat} {e t:TypeId} {x y:Operand} {v val:Value} {l:List α} (k:Nat) (i:Int) (a:α) (H:St w0 w L R) [hk:NthR L k (cOwn e v l)] [hL:SetR L k (cOwn e v (l.set i.toNat a)) L'] (hs:(P.info? t).map (·.size)=some (Elt.sz α))
    (h0:0<=i) (h1:i<l.length) (hx:ev σ x=vat v (Elt.sz α) i.toNat) (hy:ev σ y=val) (hv:val.cells=(Flat.enc a:List Value).toArray)
    (kk:∀ w',St w0 w' L' R->SL P all Q rest (updo σ dst undef) w'):SL P all Q (⟨dst,.store t x y,ty,pos,af,none⟩ :: rest) σ w:=t_ost H hk.is hs h0 h1 a hx hy hv rfl hL.is kk
theorem t_bx {d:Nat} {e:TypeId} {x:Operand} (cs:List Value) (H:St w0 w L R) (hx:ev σ x = .agg cs.toArray)
    (k:∀ b w',St w0 w' (cBlk b cs e :: L) R->SL P all Q rest (upd σ d (.pointer (some ⟨b,0,none⟩))) w'):SL P all Q (⟨some d,.box e x,ty,pos,af,none⟩ :: rest) σ w:=t_box H hx rfl k
theorem t_b1 {d:Nat} {e:TypeId} {x:Operand} (v:Value) (H:St w0 w L R) (hx:ev σ x=v) (hv:v.cells=[v].toArray)
    (k:∀ b w',St w0 w' (cBlk b [v] e :: L) R->SL P all Q rest (upd σ d (.pointer (some ⟨b,0,none⟩))) w'):SL P all Q (⟨some d,.box e x,ty,pos,af,none⟩ :: rest) σ w:=t_box H hx hv k
end
end Go.Nm
namespace Go.Nm
open Go
section
variable {P:Program} {w:World} {σ:Env} {d:Nat} {ty:TypeId} {pos:String} {af:Array Edge} {g:Option (Nat × Bool)}
end
end Go.Nm
namespace Go.Proofs.YtlemgioaakecpaaGreat
open Go Go.Nm
theorem cf10:CF Tryz.prog 10:=⟨_,Tryz.func10,rfl,by decide +kernel⟩
theorem cf12:CF Tryz.prog 12:=⟨_,Tryz.func12,rfl,by decide +kernel⟩
theorem cf13:CF Tryz.prog 13:=⟨_,Tryz.func13,rfl,by decide +kernel⟩
theorem cf16:CF Tryz.prog 16:=⟨_,Tryz.func16,rfl,by decide +kernel⟩
theorem cf17:CF Tryz.prog 17:=⟨_,Tryz.func17,rfl,by decide +kernel⟩
theorem cf20:CF Tryz.prog 20:=⟨_,Tryz.func20,rfl,by decide +kernel⟩
theorem cf21:CF Tryz.prog 21:=⟨_,Tryz.func21,rfl,by decide +kernel⟩
theorem cf22:CF Tryz.prog 22:=⟨_,Tryz.func22,rfl,by decide +kernel⟩
theorem cf23:CF Tryz.prog 23:=⟨_,Tryz.func23,rfl,by decide +kernel⟩
theorem cf24:CF Tryz.prog 24:=⟨_,Tryz.func24,rfl,by decide +kernel⟩
theorem cf25:CF Tryz.prog 25:=⟨_,Tryz.func25,rfl,by decide +kernel⟩
theorem cf26:CF Tryz.prog 26:=⟨_,Tryz.func26,rfl,by decide +kernel⟩
theorem cf27:CF Tryz.prog 27:=⟨_,Tryz.func27,rfl,by decide +kernel⟩
theorem cf30:CF Tryz.prog 30:=⟨_,Tryz.func30,rfl,by decide +kernel⟩
theorem cf34:CF Tryz.prog 34:=⟨_,Tryz.func34,rfl,by decide +kernel⟩
theorem cf35:CF Tryz.prog 35:=⟨_,Tryz.func35,rfl,by decide +kernel⟩
theorem cf37:CF Tryz.prog 37:=⟨_,Tryz.func37,rfl,by decide +kernel⟩
theorem cf38:CF Tryz.prog 38:=⟨_,Tryz.func38,rfl,by decide +kernel⟩
theorem cf39:CF Tryz.prog 39:=⟨_,Tryz.func39,rfl,by decide +kernel⟩
theorem cf40:CF Tryz.prog 40:=⟨_,Tryz.func40,rfl,by decide +kernel⟩
theorem cf41:CF Tryz.prog 41:=⟨_,Tryz.func41,rfl,by decide +kernel⟩
theorem cf42:CF Tryz.prog 42:=⟨_,Tryz.func42,rfl,by decide +kernel⟩
theorem cf43:CF Tryz.prog 43:=⟨_,Tryz.func43,rfl,by decide +kernel⟩
theorem cf44:CF Tryz.prog 44:=⟨_,Tryz.func44,rfl,by decide +kernel⟩
theorem cf45:CF Tryz.prog 45:=⟨_,Tryz.func45,rfl,by decide +kernel⟩
theorem cf46:CF Tryz.prog 46:=⟨_,Tryz.func46,rfl,by decide +kernel⟩
theorem cf47:CF Tryz.prog 47:=⟨_,Tryz.func47,rfl,by decide +kernel⟩
theorem cf49:CF Tryz.prog 49:=⟨_,Tryz.func49,rfl,by decide +kernel⟩
theorem cf50:CF Tryz.prog 50:=⟨_,Tryz.func50,rfl,by decide +kernel⟩
theorem cf51:CF Tryz.prog 51:=⟨_,Tryz.func51,rfl,by decide +kernel⟩
theorem cf52:CF Tryz.prog 52:=⟨_,Tryz.func52,rfl,by decide +kernel⟩
theorem cf53:CF Tryz.prog 53:=⟨_,Tryz.func53,rfl,by decide +kernel⟩
theorem cf54:CF Tryz.prog 54:=⟨_,Tryz.func54,rfl,by decide +kernel⟩
theorem cf55:CF Tryz.prog 55:=⟨_,Tryz.func55,rfl,by decide +kernel⟩
theorem cf56:CF Tryz.prog 56:=⟨_,Tryz.func56,rfl,by decide +kernel⟩
theorem cf57:CF Tryz.prog 57:=⟨_,Tryz.func57,rfl,by decide +kernel⟩
theorem cf58:CF Tryz.prog 58:=⟨_,Tryz.func58,rfl,by decide +kernel⟩
theorem cf59:CF Tryz.prog 59:=⟨_,Tryz.func59,rfl,by decide +kernel⟩
theorem cf60:CF Tryz.prog 60:=⟨_,Tryz.func60,rfl,by decide +kernel⟩
theorem cf61:CF Tryz.prog 61:=⟨_,Tryz.func61,rfl,by decide +kernel⟩
theorem cf62:CF Tryz.prog 62:=⟨_,Tryz.func62,rfl,by decide +kernel⟩
theorem cf63:CF Tryz.prog 63:=⟨_,Tryz.func63,rfl,by decide +kernel⟩
theorem cf64:CF Tryz.prog 64:=⟨_,Tryz.func64,rfl,by decide +kernel⟩
theorem cf65:CF Tryz.prog 65:=⟨_,Tryz.func65,rfl,by decide +kernel⟩
theorem cf66:CF Tryz.prog 66:=⟨_,Tryz.func66,rfl,by decide +kernel⟩
theorem cf67:CF Tryz.prog 67:=⟨_,Tryz.func67,rfl,by decide +kernel⟩
theorem cf68:CF Tryz.prog 68:=⟨_,Tryz.func68,rfl,by decide +kernel⟩
theorem cf69:CF Tryz.prog 69:=⟨_,Tryz.func69,rfl,by decide +kernel⟩
theorem cf70:CF Tryz.prog 70:=⟨_,Tryz.func70,rfl,by decide +kernel⟩
theorem cf71:CF Tryz.prog 71:=⟨_,Tryz.func71,rfl,by decide +kernel⟩
theorem cf72:CF Tryz.prog 72:=⟨_,Tryz.func72,rfl,by decide +kernel⟩
theorem cf73:CF Tryz.prog 73:=⟨_,Tryz.func73,rfl,by decide +kernel⟩
theorem cf74:CF Tryz.prog 74:=⟨_,Tryz.func74,rfl,by decide +kernel⟩
theorem cf75:CF Tryz.prog 75:=⟨_,Tryz.func75,rfl,by decide +kernel⟩
theorem cf76:CF Tryz.prog 76:=⟨_,Tryz.func76,rfl,by decide +kernel⟩
theorem cf77:CF Tryz.prog 77:=⟨_,Tryz.func77,rfl,by decide +kernel⟩
theorem cf78:CF Tryz.prog 78:=⟨_,Tryz.func78,rfl,by decide +kernel⟩
theorem cf79:CF Tryz.prog 79:=⟨_,Tryz.func79,rfl,by decide +kernel⟩
theorem cf80:CF Tryz.prog 80:=⟨_,Tryz.func80,rfl,by decide +kernel⟩
theorem cf81:CF Tryz.prog 81:=⟨_,Tryz.func81,rfl,by decide +kernel⟩
theorem cf82:CF Tryz.prog 82:=⟨_,Tryz.func82,rfl,by decide +kernel⟩
theorem cf83:CF Tryz.prog 83:=⟨_,Tryz.func83,rfl,by decide +kernel⟩
theorem cf84:CF Tryz.prog 84:=⟨_,Tryz.func84,rfl,by decide +kernel⟩
theorem cf85:CF Tryz.prog 85:=⟨_,Tryz.func85,rfl,by decide +kernel⟩
theorem cf86:CF Tryz.prog 86:=⟨_,Tryz.func86,rfl,by decide +kernel⟩
theorem cf87:CF Tryz.prog 87:=⟨_,Tryz.func87,rfl,by decide +kernel⟩
theorem cf88:CF Tryz.prog 88:=⟨_,Tryz.func88,rfl,by decide +kernel⟩
theorem cf89:CF Tryz.prog 89:=⟨_,Tryz.func89,rfl,by decide +kernel⟩
theorem cf90:CF Tryz.prog 90:=⟨_,Tryz.func90,rfl,by decide +kernel⟩
theorem cf91:CF Tryz.prog 91:=⟨_,Tryz.func91,rfl,by decide +kernel⟩
theorem cf92:CF Tryz.prog 92:=⟨_,Tryz.func92,rfl,by decide +kernel⟩
theorem cf93:CF Tryz.prog 93:=⟨_,Tryz.func93,rfl,by decide +kernel⟩
theorem cf94:CF Tryz.prog 94:=⟨_,Tryz.func94,rfl,by decide +kernel⟩
theorem cf95:CF Tryz.prog 95:=⟨_,Tryz.func95,rfl,by decide +kernel⟩
theorem cf96:CF Tryz.prog 96:=⟨_,Tryz.func96,rfl,by decide +kernel⟩
theorem cf99:CF Tryz.prog 99:=⟨_,Tryz.func99,rfl,by decide +kernel⟩
theorem cf100:CF Tryz.prog 100:=⟨_,Tryz.func100,rfl,by decide +kernel⟩
theorem cf101:CF Tryz.prog 101:=⟨_,Tryz.func101,rfl,by decide +kernel⟩
theorem cf102:CF Tryz.prog 102:=⟨_,Tryz.func102,rfl,by decide +kernel⟩
theorem cf103:CF Tryz.prog 103:=⟨_,Tryz.func103,rfl,by decide +kernel⟩
theorem cf104:CF Tryz.prog 104:=⟨_,Tryz.func104,rfl,by decide +kernel⟩
theorem cf105:CF Tryz.prog 105:=⟨_,Tryz.func105,rfl,by decide +kernel⟩
theorem cf106:CF Tryz.prog 106:=⟨_,Tryz.func106,rfl,by decide +kernel⟩
theorem cf107:CF Tryz.prog 107:=⟨_,Tryz.func107,rfl,by decide +kernel⟩
theorem cf108:CF Tryz.prog 108:=⟨_,Tryz.func108,rfl,by decide +kernel⟩
theorem cf109:CF Tryz.prog 109:=⟨_,Tryz.func109,rfl,by decide +kernel⟩
theorem cf110:CF Tryz.prog 110:=⟨_,Tryz.func110,rfl,by decide +kernel⟩
theorem cf111:CF Tryz.prog 111:=⟨_,Tryz.func111,rfl,by decide +kernel⟩
theorem cf112:CF Tryz.prog 112:=⟨_,Tryz.func112,rfl,by decide +kernel⟩
theorem cf113:CF Tryz.prog 113:=⟨_,Tryz.func113,rfl,by decide +kernel⟩
theorem cf114:CF Tryz.prog 114:=⟨_,Tryz.func114,rfl,by decide +kernel⟩
theorem cf115:CF Tryz.prog 115:=⟨_,Tryz.func115,rfl,by decide +kernel⟩
theorem cf116:CF Tryz.prog 116:=⟨_,Tryz.func116,rfl,by decide +kernel⟩
theorem cf117:CF Tryz.prog 117:=⟨_,Tryz.func117,rfl,by decide +kernel⟩
theorem cf118:CF Tryz.prog 118:=⟨_,Tryz.func118,rfl,by decide +kernel⟩
theorem cf119:CF Tryz.prog 119:=⟨_,Tryz.func119,rfl,by decide +kernel⟩
theorem cf120:CF Tryz.prog 120:=⟨_,Tryz.func120,rfl,by decide +kernel⟩
theorem cf132:CF Tryz.prog 132:=⟨_,Tryz.func132,rfl,by decide +kernel⟩
theorem cf133:CF Tryz.prog 133:=⟨_,Tryz.func133,rfl,by decide +kernel⟩
theorem cf134:CF Tryz.prog 134:=⟨_,Tryz.func134,rfl,by decide +kernel⟩
theorem cf135:CF Tryz.prog 135:=⟨_,Tryz.func135,rfl,by decide +kernel⟩
theorem cf136:CF Tryz.prog 136:=⟨_,Tryz.func136,rfl,by decide +kernel⟩
theorem cf137:CF Tryz.prog 137:=⟨_,Tryz.func137,rfl,by decide +kernel⟩
theorem cf138:CF Tryz.prog 138:=⟨_,Tryz.func138,rfl,by decide +kernel⟩
theorem cf144:CF Tryz.prog 144:=⟨_,Tryz.func144,rfl,by decide +kernel⟩
theorem T23:SlT Tryz.prog 23 68 2 32 (.agg #[I 0,.slice none 0 0]):=⟨Tryz.underlying23,by kernel_rfl,rfl,by decide⟩
theorem T24:SlT Tryz.prog 24 70 3 24 (.agg #[I 0,I 0,I 0]):=⟨Tryz.underlying24,by kernel_rfl,rfl,by decide⟩
theorem T25:SlT Tryz.prog 25 58 5 40 (.agg #[I 0,I 0,I 0,I 0,B false]):=⟨Tryz.underlying25,by kernel_rfl,rfl,by decide⟩
theorem T28:SlT Tryz.prog 28 3 1 8 (I 0):=⟨Tryz.underlying28,by kernel_rfl,rfl,by decide⟩
theorem T38:SlT Tryz.prog 38 28 1 24 (.slice none 0 0):=⟨Tryz.underlying38,by kernel_rfl,rfl,by decide⟩
theorem T43:SlT Tryz.prog 43 54 2 16 (.agg #[I 0,I 0]):=⟨Tryz.underlying43,by kernel_rfl,rfl,by decide⟩
theorem T59:SlT Tryz.prog 59 4 1 1 (B false):=⟨Tryz.underlying59,by kernel_rfl,rfl,by decide⟩
theorem T66:SlT Tryz.prog 66 109 2 16 (.agg #[I 0,I 0]):=⟨Tryz.underlying66,by kernel_rfl,rfl,by decide⟩
theorem T77:SlT Tryz.prog 77 148 2 32 (.agg #[I 0,.slice none 0 0]):=⟨Tryz.underlying77,by kernel_rfl,rfl,by decide⟩
theorem T78:SlT Tryz.prog 78 150 3 24 (.agg #[I 0,I 0,I 0]):=⟨Tryz.underlying78,by kernel_rfl,rfl,by decide⟩
theorem T79:SlT Tryz.prog 79 151 5 40 (.agg #[I 0,I 0,I 0,I 0,B false]):=⟨Tryz.underlying79,by kernel_rfl,rfl,by decide⟩
theorem T146:SlT Tryz.prog 146 149 2 16 (.agg #[I 0,I 0]):=⟨Tryz.underlying146,by kernel_rfl,rfl,by decide⟩
theorem Sc3:isSc (Tryz.prog.underlying 3)=true:=by rw [Tryz.underlying3]; rfl
theorem Sc4:isSc (Tryz.prog.underlying 4)=true:=by rw [Tryz.underlying4]; rfl
theorem Sc23:isSc (Tryz.prog.underlying 23)=true:=by rw [Tryz.underlying23]; rfl
theorem Sc24:isSc (Tryz.prog.underlying 24)=true:=by rw [Tryz.underlying24]; rfl
theorem Sc25:isSc (Tryz.prog.underlying 25)=true:=by rw [Tryz.underlying25]; rfl
theorem Sc28:isSc (Tryz.prog.underlying 28)=true:=by rw [Tryz.underlying28]; rfl
theorem Sc35:isSc (Tryz.prog.underlying 35)=true:=by rw [Tryz.underlying35]; rfl
theorem Sc66:isSc (Tryz.prog.underlying 66)=true:=by rw [Tryz.underlying66]; rfl
theorem Sc77:isSc (Tryz.prog.underlying 77)=true:=by rw [Tryz.underlying77]; rfl
theorem Sc78:isSc (Tryz.prog.underlying 78)=true:=by rw [Tryz.underlying78]; rfl
theorem Sc79:isSc (Tryz.prog.underlying 79)=true:=by rw [Tryz.underlying79]; rfl
theorem Sc112:isSc (Tryz.prog.underlying 112)=true:=by rw [Tryz.underlying112]; rfl
theorem Sc116:isSc (Tryz.prog.underlying 116)=true:=by rw [Tryz.underlying116]; rfl
theorem Sc125:isSc (Tryz.prog.underlying 125)=true:=by rw [Tryz.underlying125]; rfl
theorem Sc143:isSc (Tryz.prog.underlying 143)=true:=by rw [Tryz.underlying143]; rfl
theorem Sc146:isSc (Tryz.prog.underlying 146)=true:=by rw [Tryz.underlying146]; rfl
theorem Sc152:isSc (Tryz.prog.underlying 152)=true:=by rw [Tryz.underlying152]; rfl
theorem Sc155:isSc (Tryz.prog.underlying 155)=true:=by rw [Tryz.underlying155]; rfl
theorem Sc157:isSc (Tryz.prog.underlying 157)=true:=by rw [Tryz.underlying157]; rfl
theorem Sc175:isSc (Tryz.prog.underlying 175)=true:=by rw [Tryz.underlying175]; rfl
theorem Sc178:isSc (Tryz.prog.underlying 178)=true:=by rw [Tryz.underlying178]; rfl
theorem Sc191:isSc (Tryz.prog.underlying 191)=true:=by rw [Tryz.underlying191]; rfl
theorem Sz3:(Tryz.prog.info? 3).map (·.size)=some 1:=by kernel_rfl
theorem Sz4:(Tryz.prog.info? 4).map (·.size)=some 1:=by kernel_rfl
theorem Sz23:(Tryz.prog.info? 23).map (·.size)=some 1:=by kernel_rfl
theorem Sz24:(Tryz.prog.info? 24).map (·.size)=some 1:=by kernel_rfl
theorem Sz25:(Tryz.prog.info? 25).map (·.size)=some 1:=by kernel_rfl
theorem Ag27:isAg (Tryz.prog.underlying 27)=true:=by rw [Tryz.underlying27]; rfl
theorem Sz27:(Tryz.prog.info? 27).map (·.size)=some 3:=by kernel_rfl
theorem Sz35:(Tryz.prog.info? 35).map (·.size)=some 1:=by kernel_rfl
theorem Ag54:isAg (Tryz.prog.underlying 54)=true:=by rw [Tryz.underlying54]; rfl
theorem Sz54:(Tryz.prog.info? 54).map (·.size)=some 2:=by kernel_rfl
theorem Ag58:isAg (Tryz.prog.underlying 58)=true:=by rw [Tryz.underlying58]; rfl
theorem Sz58:(Tryz.prog.info? 58).map (·.size)=some 5:=by kernel_rfl
theorem Ag61:isAg (Tryz.prog.underlying 61)=true:=by rw [Tryz.underlying61]; rfl
theorem Sz61:(Tryz.prog.info? 61).map (·.size)=some 4:=by kernel_rfl
theorem Sz66:(Tryz.prog.info? 66).map (·.size)=some 1:=by kernel_rfl
theorem Ag68:isAg (Tryz.prog.underlying 68)=true:=by rw [Tryz.underlying68]; rfl
theorem Sz68:(Tryz.prog.info? 68).map (·.size)=some 2:=by kernel_rfl
theorem Ag70:isAg (Tryz.prog.underlying 70)=true:=by rw [Tryz.underlying70]; rfl
theorem Sz70:(Tryz.prog.info? 70).map (·.size)=some 3:=by kernel_rfl
theorem Sz77:(Tryz.prog.info? 77).map (·.size)=some 1:=by kernel_rfl
theorem Sz78:(Tryz.prog.info? 78).map (·.size)=some 1:=by kernel_rfl
theorem Sz79:(Tryz.prog.info? 79).map (·.size)=some 1:=by kernel_rfl
theorem Ag81:isAg (Tryz.prog.underlying 81)=true:=by rw [Tryz.underlying81]; rfl
theorem Sz81:(Tryz.prog.info? 81).map (·.size)=some 3:=by kernel_rfl
theorem Ag99:isAg (Tryz.prog.underlying 99)=true:=by rw [Tryz.underlying99]; rfl
theorem Sz99:(Tryz.prog.info? 99).map (·.size)=some 4:=by kernel_rfl
theorem Ag109:isAg (Tryz.prog.underlying 109)=true:=by rw [Tryz.underlying109]; rfl
theorem Sz109:(Tryz.prog.info? 109).map (·.size)=some 2:=by kernel_rfl
theorem Sz112:(Tryz.prog.info? 112).map (·.size)=some 1:=by kernel_rfl
theorem Sz116:(Tryz.prog.info? 116).map (·.size)=some 1:=by kernel_rfl
theorem Ag138:isAg (Tryz.prog.underlying 138)=true:=by rw [Tryz.underlying138]; rfl
theorem Sz138:(Tryz.prog.info? 138).map (·.size)=some 1:=by kernel_rfl
theorem Sz146:(Tryz.prog.info? 146).map (·.size)=some 1:=by kernel_rfl
theorem Ag148:isAg (Tryz.prog.underlying 148)=true:=by rw [Tryz.underlying148]; rfl
theorem Sz148:(Tryz.prog.info? 148).map (·.size)=some 2:=by kernel_rfl
theorem Ag150:isAg (Tryz.prog.underlying 150)=true:=by rw [Tryz.underlying150]; rfl
theorem Sz150:(Tryz.prog.info? 150).map (·.size)=some 3:=by kernel_rfl
theorem Ag151:isAg (Tryz.prog.underlying 151)=true:=by rw [Tryz.underlying151]; rfl
theorem Sz151:(Tryz.prog.info? 151).map (·.size)=some 5:=by kernel_rfl
theorem Sz157:(Tryz.prog.info? 157).map (·.size)=some 1:=by kernel_rfl
theorem Ag160:isAg (Tryz.prog.underlying 160)=true:=by rw [Tryz.underlying160]; rfl
theorem Sz160:(Tryz.prog.info? 160).map (·.size)=some 2:=by kernel_rfl
theorem Sz175:(Tryz.prog.info? 175).map (·.size)=some 1:=by kernel_rfl
theorem Sz178:(Tryz.prog.info? 178).map (·.size)=some 1:=by kernel_rfl
theorem Sz180:(Tryz.prog.info? 180).map (·.size)=some 16:=by kernel_rfl
theorem Sz191:(Tryz.prog.info? 191).map (·.size)=some 1:=by kernel_rfl
theorem Fd27_0:(Tryz.prog.underlying 27).bind (fun d=>match d with | .struct fs=>(fs[0]?).map (fun f=>(f.offset,f.type)) | _=>none)=some (0,23):=by rw [Tryz.underlying27]; rfl
theorem Fd27_1:(Tryz.prog.underlying 27).bind (fun d=>match d with | .struct fs=>(fs[1]?).map (fun f=>(f.offset,f.type)) | _=>none)=some (1,24):=by rw [Tryz.underlying27]; rfl
theorem Fd27_2:(Tryz.prog.underlying 27).bind (fun d=>match d with | .struct fs=>(fs[2]?).map (fun f=>(f.offset,f.type)) | _=>none)=some (2,25):=by rw [Tryz.underlying27]; rfl
theorem Fd54_0:(Tryz.prog.underlying 54).bind (fun d=>match d with | .struct fs=>(fs[0]?).map (fun f=>(f.offset,f.type)) | _=>none)=some (0,3):=by rw [Tryz.underlying54]; rfl
theorem Fd54_1:(Tryz.prog.underlying 54).bind (fun d=>match d with | .struct fs=>(fs[1]?).map (fun f=>(f.offset,f.type)) | _=>none)=some (1,3):=by rw [Tryz.underlying54]; rfl
theorem Fd58_0:(Tryz.prog.underlying 58).bind (fun d=>match d with | .struct fs=>(fs[0]?).map (fun f=>(f.offset,f.type)) | _=>none)=some (0,3):=by rw [Tryz.underlying58]; rfl
theorem Fd58_1:(Tryz.prog.underlying 58).bind (fun d=>match d with | .struct fs=>(fs[1]?).map (fun f=>(f.offset,f.type)) | _=>none)=some (1,3):=by rw [Tryz.underlying58]; rfl
theorem Fd58_2:(Tryz.prog.underlying 58).bind (fun d=>match d with | .struct fs=>(fs[2]?).map (fun f=>(f.offset,f.type)) | _=>none)=some (2,54):=by rw [Tryz.underlying58]; rfl
theorem Fd58_3:(Tryz.prog.underlying 58).bind (fun d=>match d with | .struct fs=>(fs[3]?).map (fun f=>(f.offset,f.type)) | _=>none)=some (4,4):=by rw [Tryz.underlying58]; rfl
theorem Fd61_0:(Tryz.prog.underlying 61).bind (fun d=>match d with | .struct fs=>(fs[0]?).map (fun f=>(f.offset,f.type)) | _=>none)=some (0,3):=by rw [Tryz.underlying61]; rfl
theorem Fd61_1:(Tryz.prog.underlying 61).bind (fun d=>match d with | .struct fs=>(fs[1]?).map (fun f=>(f.offset,f.type)) | _=>none)=some (1,3):=by rw [Tryz.underlying61]; rfl
theorem Fd61_2:(Tryz.prog.underlying 61).bind (fun d=>match d with | .struct fs=>(fs[2]?).map (fun f=>(f.offset,f.type)) | _=>none)=some (2,3):=by rw [Tryz.underlying61]; rfl
theorem Fd61_3:(Tryz.prog.underlying 61).bind (fun d=>match d with | .struct fs=>(fs[3]?).map (fun f=>(f.offset,f.type)) | _=>none)=some (3,3):=by rw [Tryz.underlying61]; rfl
theorem Fd68_0:(Tryz.prog.underlying 68).bind (fun d=>match d with | .struct fs=>(fs[0]?).map (fun f=>(f.offset,f.type)) | _=>none)=some (0,3):=by rw [Tryz.underlying68]; rfl
theorem Fd68_1:(Tryz.prog.underlying 68).bind (fun d=>match d with | .struct fs=>(fs[1]?).map (fun f=>(f.offset,f.type)) | _=>none)=some (1,66):=by rw [Tryz.underlying68]; rfl
theorem Fd70_0:(Tryz.prog.underlying 70).bind (fun d=>match d with | .struct fs=>(fs[0]?).map (fun f=>(f.offset,f.type)) | _=>none)=some (0,3):=by rw [Tryz.underlying70]; rfl
theorem Fd70_1:(Tryz.prog.underlying 70).bind (fun d=>match d with | .struct fs=>(fs[1]?).map (fun f=>(f.offset,f.type)) | _=>none)=some (1,54):=by rw [Tryz.underlying70]; rfl
theorem Fd81_0:(Tryz.prog.underlying 81).bind (fun d=>match d with | .struct fs=>(fs[0]?).map (fun f=>(f.offset,f.type)) | _=>none)=some (0,77):=by rw [Tryz.underlying81]; rfl
theorem Fd81_1:(Tryz.prog.underlying 81).bind (fun d=>match d with | .struct fs=>(fs[1]?).map (fun f=>(f.offset,f.type)) | _=>none)=some (1,78):=by rw [Tryz.underlying81]; rfl
theorem Fd81_2:(Tryz.prog.underlying 81).bind (fun d=>match d with | .struct fs=>(fs[2]?).map (fun f=>(f.offset,f.type)) | _=>none)=some (2,79):=by rw [Tryz.underlying81]; rfl
theorem Fd99_0:(Tryz.prog.underlying 99).bind (fun d=>match d with | .struct fs=>(fs[0]?).map (fun f=>(f.offset,f.type)) | _=>none)=some (0,3):=by rw [Tryz.underlying99]; rfl
theorem Fd99_1:(Tryz.prog.underlying 99).bind (fun d=>match d with | .struct fs=>(fs[1]?).map (fun f=>(f.offset,f.type)) | _=>none)=some (1,3):=by rw [Tryz.underlying99]; rfl
theorem Fd99_2:(Tryz.prog.underlying 99).bind (fun d=>match d with | .struct fs=>(fs[2]?).map (fun f=>(f.offset,f.type)) | _=>none)=some (2,3):=by rw [Tryz.underlying99]; rfl
theorem Fd99_3:(Tryz.prog.underlying 99).bind (fun d=>match d with | .struct fs=>(fs[3]?).map (fun f=>(f.offset,f.type)) | _=>none)=some (3,3):=by rw [Tryz.underlying99]; rfl
theorem Fd109_0:(Tryz.prog.underlying 109).bind (fun d=>match d with | .struct fs=>(fs[0]?).map (fun f=>(f.offset,f.type)) | _=>none)=some (0,3):=by rw [Tryz.underlying109]; rfl
theorem Fd109_1:(Tryz.prog.underlying 109).bind (fun d=>match d with | .struct fs=>(fs[1]?).map (fun f=>(f.offset,f.type)) | _=>none)=some (1,3):=by rw [Tryz.underlying109]; rfl
theorem Fd138_0:(Tryz.prog.underlying 138).bind (fun d=>match d with | .struct fs=>(fs[0]?).map (fun f=>(f.offset,f.type)) | _=>none)=some (0,116):=by rw [Tryz.underlying138]; rfl
theorem Fd148_0:(Tryz.prog.underlying 148).bind (fun d=>match d with | .struct fs=>(fs[0]?).map (fun f=>(f.offset,f.type)) | _=>none)=some (0,3):=by rw [Tryz.underlying148]; rfl
theorem Fd148_1:(Tryz.prog.underlying 148).bind (fun d=>match d with | .struct fs=>(fs[1]?).map (fun f=>(f.offset,f.type)) | _=>none)=some (1,146):=by rw [Tryz.underlying148]; rfl
theorem Fd149_0:(Tryz.prog.underlying 149).bind (fun d=>match d with | .struct fs=>(fs[0]?).map (fun f=>(f.offset,f.type)) | _=>none)=some (0,3):=by rw [Tryz.underlying149]; rfl
theorem Fd149_1:(Tryz.prog.underlying 149).bind (fun d=>match d with | .struct fs=>(fs[1]?).map (fun f=>(f.offset,f.type)) | _=>none)=some (1,3):=by rw [Tryz.underlying149]; rfl
theorem Fd150_0:(Tryz.prog.underlying 150).bind (fun d=>match d with | .struct fs=>(fs[0]?).map (fun f=>(f.offset,f.type)) | _=>none)=some (0,3):=by rw [Tryz.underlying150]; rfl
theorem Fd150_1:(Tryz.prog.underlying 150).bind (fun d=>match d with | .struct fs=>(fs[1]?).map (fun f=>(f.offset,f.type)) | _=>none)=some (1,54):=by rw [Tryz.underlying150]; rfl
theorem Fd151_0:(Tryz.prog.underlying 151).bind (fun d=>match d with | .struct fs=>(fs[0]?).map (fun f=>(f.offset,f.type)) | _=>none)=some (0,3):=by rw [Tryz.underlying151]; rfl
theorem Fd151_1:(Tryz.prog.underlying 151).bind (fun d=>match d with | .struct fs=>(fs[1]?).map (fun f=>(f.offset,f.type)) | _=>none)=some (1,3):=by rw [Tryz.underlying151]; rfl
theorem Fd151_2:(Tryz.prog.underlying 151).bind (fun d=>match d with | .struct fs=>(fs[2]?).map (fun f=>(f.offset,f.type)) | _=>none)=some (2,54):=by rw [Tryz.underlying151]; rfl
theorem Fd151_3:(Tryz.prog.underlying 151).bind (fun d=>match d with | .struct fs=>(fs[3]?).map (fun f=>(f.offset,f.type)) | _=>none)=some (4,4):=by rw [Tryz.underlying151]; rfl
theorem Fd160_0:(Tryz.prog.underlying 160).bind (fun d=>match d with | .struct fs=>(fs[0]?).map (fun f=>(f.offset,f.type)) | _=>none)=some (0,3):=by rw [Tryz.underlying160]; rfl
theorem Fd160_1:(Tryz.prog.underlying 160).bind (fun d=>match d with | .struct fs=>(fs[1]?).map (fun f=>(f.offset,f.type)) | _=>none)=some (1,3):=by rw [Tryz.underlying160]; rfl
theorem Fd177_0:(Tryz.prog.underlying 177).bind (fun d=>match d with | .struct fs=>(fs[0]?).map (fun f=>(f.offset,f.type)) | _=>none)=some (0,27):=by rw [Tryz.underlying177]; rfl
theorem Fd177_1:(Tryz.prog.underlying 177).bind (fun d=>match d with | .struct fs=>(fs[1]?).map (fun f=>(f.offset,f.type)) | _=>none)=some (3,175):=by rw [Tryz.underlying177]; rfl
theorem Fd182_0:(Tryz.prog.underlying 182).bind (fun d=>match d with | .struct fs=>(fs[0]?).map (fun f=>(f.offset,f.type)) | _=>none)=some (0,180):=by rw [Tryz.underlying182]; rfl
theorem Fd182_1:(Tryz.prog.underlying 182).bind (fun d=>match d with | .struct fs=>(fs[1]?).map (fun f=>(f.offset,f.type)) | _=>none)=some (16,180):=by rw [Tryz.underlying182]; rfl
theorem Al3:(Tryz.prog.info? 3).map (·.zero)=some (some (I 0)):=by kernel_rfl
theorem Al4:(Tryz.prog.info? 4).map (·.zero)=some (some (B false)):=by kernel_rfl
theorem Al27:(Tryz.prog.info? 27).map (·.zero)=some (some (.agg #[.slice none 0 0,.slice none 0 0,.slice none 0 0])):=by kernel_rfl
theorem Al35:(Tryz.prog.info? 35).map (·.zero)=some (some (I 0)):=by kernel_rfl
theorem Al54:(Tryz.prog.info? 54).map (·.zero)=some (some (.agg #[I 0,I 0])):=by kernel_rfl
theorem Al58:(Tryz.prog.info? 58).map (·.zero)=some (some (.agg #[I 0,I 0,I 0,I 0,B false])):=by kernel_rfl
theorem Al61:(Tryz.prog.info? 61).map (·.zero)=some (some (.agg #[I 0,I 0,I 0,I 0])):=by kernel_rfl
theorem Al68:(Tryz.prog.info? 68).map (·.zero)=some (some (.agg #[I 0,.slice none 0 0])):=by kernel_rfl
theorem Al70:(Tryz.prog.info? 70).map (·.zero)=some (some (.agg #[I 0,I 0,I 0])):=by kernel_rfl
theorem Al81:(Tryz.prog.info? 81).map (·.zero)=some (some (.agg #[.slice none 0 0,.slice none 0 0,.slice none 0 0])):=by kernel_rfl
theorem Al99:(Tryz.prog.info? 99).map (·.zero)=some (some (.agg #[I 0,I 0,I 0,I 0])):=by kernel_rfl
theorem Al109:(Tryz.prog.info? 109).map (·.zero)=some (some (.agg #[I 0,I 0])):=by kernel_rfl
theorem Al112:(Tryz.prog.info? 112).map (·.zero)=some (some (.pointer none)):=by kernel_rfl
theorem Al116:(Tryz.prog.info? 116).map (·.zero)=some (some (.nilFunc)):=by kernel_rfl
theorem Al121:(Tryz.prog.info? 121).map (·.zero)=some (some (.agg #[B false,B false,B false,B false,B false,B false,B false,B false,B false,B false,B false,B false,B false,B false,B false,B false])):=by kernel_rfl
theorem Al138:(Tryz.prog.info? 138).map (·.zero)=some (some (.agg #[.nilFunc])):=by kernel_rfl
theorem Al148:(Tryz.prog.info? 148).map (·.zero)=some (some (.agg #[I 0,.slice none 0 0])):=by kernel_rfl
theorem Al150:(Tryz.prog.info? 150).map (·.zero)=some (some (.agg #[I 0,I 0,I 0])):=by kernel_rfl
theorem Al151:(Tryz.prog.info? 151).map (·.zero)=some (some (.agg #[I 0,I 0,I 0,I 0,B false])):=by kernel_rfl
theorem Al157:(Tryz.prog.info? 157).map (·.zero)=some (some (.nilFunc)):=by kernel_rfl
theorem Al160:(Tryz.prog.info? 160).map (·.zero)=some (some (.agg #[I 0,I 0])):=by kernel_rfl
theorem Al177:(Tryz.prog.info? 177).map (·.zero)=some (some (.agg #[.slice none 0 0,.slice none 0 0,.slice none 0 0,.map none])):=by kernel_rfl
theorem Al178:(Tryz.prog.info? 178).map (·.zero)=some (some (.pointer none)):=by kernel_rfl
theorem Al191:(Tryz.prog.info? 191).map (·.zero)=some (some (.map none)):=by kernel_rfl
theorem Bd27 {fs:Array Field} (h:Tryz.prog.underlying 27=some (.struct fs)):fs.toList.mapM (fun f=>(Tryz.prog.info? f.type).map fun i=>(f.offset,i.size))=some [(0,1),(1,1),(2,1)]:=by rw [Tryz.underlying27] at h; simp only [Option.some.injEq,TypeDesc.struct.injEq] at h; subst h; kernel_rfl
theorem Bd54 {fs:Array Field} (h:Tryz.prog.underlying 54=some (.struct fs)):fs.toList.mapM (fun f=>(Tryz.prog.info? f.type).map fun i=>(f.offset,i.size))=some [(0,1),(1,1)]:=by rw [Tryz.underlying54] at h; simp only [Option.some.injEq,TypeDesc.struct.injEq] at h; subst h; kernel_rfl
theorem Bd58 {fs:Array Field} (h:Tryz.prog.underlying 58=some (.struct fs)):fs.toList.mapM (fun f=>(Tryz.prog.info? f.type).map fun i=>(f.offset,i.size))=some [(0,1),(1,1),(2,2),(4,1)]:=by rw [Tryz.underlying58] at h; simp only [Option.some.injEq,TypeDesc.struct.injEq] at h; subst h; kernel_rfl
theorem Bd61 {fs:Array Field} (h:Tryz.prog.underlying 61=some (.struct fs)):fs.toList.mapM (fun f=>(Tryz.prog.info? f.type).map fun i=>(f.offset,i.size))=some [(0,1),(1,1),(2,1),(3,1)]:=by rw [Tryz.underlying61] at h; simp only [Option.some.injEq,TypeDesc.struct.injEq] at h; subst h; kernel_rfl
theorem Bd68 {fs:Array Field} (h:Tryz.prog.underlying 68=some (.struct fs)):fs.toList.mapM (fun f=>(Tryz.prog.info? f.type).map fun i=>(f.offset,i.size))=some [(0,1),(1,1)]:=by rw [Tryz.underlying68] at h; simp only [Option.some.injEq,TypeDesc.struct.injEq] at h; subst h; kernel_rfl
theorem Bd70 {fs:Array Field} (h:Tryz.prog.underlying 70=some (.struct fs)):fs.toList.mapM (fun f=>(Tryz.prog.info? f.type).map fun i=>(f.offset,i.size))=some [(0,1),(1,2)]:=by rw [Tryz.underlying70] at h; simp only [Option.some.injEq,TypeDesc.struct.injEq] at h; subst h; kernel_rfl
theorem Bd99 {fs:Array Field} (h:Tryz.prog.underlying 99=some (.struct fs)):fs.toList.mapM (fun f=>(Tryz.prog.info? f.type).map fun i=>(f.offset,i.size))=some [(0,1),(1,1),(2,1),(3,1)]:=by rw [Tryz.underlying99] at h; simp only [Option.some.injEq,TypeDesc.struct.injEq] at h; subst h; kernel_rfl
theorem Bd109 {fs:Array Field} (h:Tryz.prog.underlying 109=some (.struct fs)):fs.toList.mapM (fun f=>(Tryz.prog.info? f.type).map fun i=>(f.offset,i.size))=some [(0,1),(1,1)]:=by rw [Tryz.underlying109] at h; simp only [Option.some.injEq,TypeDesc.struct.injEq] at h; subst h; kernel_rfl
theorem Bd138 {fs:Array Field} (h:Tryz.prog.underlying 138=some (.struct fs)):fs.toList.mapM (fun f=>(Tryz.prog.info? f.type).map fun i=>(f.offset,i.size))=some [(0,1)]:=by rw [Tryz.underlying138] at h; simp only [Option.some.injEq,TypeDesc.struct.injEq] at h; subst h; kernel_rfl
theorem Bd148 {fs:Array Field} (h:Tryz.prog.underlying 148=some (.struct fs)):fs.toList.mapM (fun f=>(Tryz.prog.info? f.type).map fun i=>(f.offset,i.size))=some [(0,1),(1,1)]:=by rw [Tryz.underlying148] at h; simp only [Option.some.injEq,TypeDesc.struct.injEq] at h; subst h; kernel_rfl
theorem Bd150 {fs:Array Field} (h:Tryz.prog.underlying 150=some (.struct fs)):fs.toList.mapM (fun f=>(Tryz.prog.info? f.type).map fun i=>(f.offset,i.size))=some [(0,1),(1,2)]:=by rw [Tryz.underlying150] at h; simp only [Option.some.injEq,TypeDesc.struct.injEq] at h; subst h; kernel_rfl
theorem Bd160 {fs:Array Field} (h:Tryz.prog.underlying 160=some (.struct fs)):fs.toList.mapM (fun f=>(Tryz.prog.info? f.type).map fun i=>(f.offset,i.size))=some [(0,1),(1,1)]:=by rw [Tryz.underlying160] at h; simp only [Option.some.injEq,TypeDesc.struct.injEq] at h; subst h; kernel_rfl
theorem Bd177 {fs:Array Field} (h:Tryz.prog.underlying 177=some (.struct fs)):fs.toList.mapM (fun f=>(Tryz.prog.info? f.type).map fun i=>(f.offset,i.size))=some [(0,3),(3,1)]:=by rw [Tryz.underlying177] at h; simp only [Option.some.injEq,TypeDesc.struct.injEq] at h; subst h; kernel_rfl
theorem Bd182 {fs:Array Field} (h:Tryz.prog.underlying 182=some (.struct fs)):fs.toList.mapM (fun f=>(Tryz.prog.info? f.type).map fun i=>(f.offset,i.size))=some [(0,16),(16,16)]:=by rw [Tryz.underlying182] at h; simp only [Option.some.injEq,TypeDesc.struct.injEq] at h; subst h; kernel_rfl
theorem mixed:Tryz.prog.follows .mixedOrders=true:=by kernel_rfl
theorem Al182:(Tryz.prog.info? 182).map (·.zero)=some (some (.agg (List.flatten [[],encF (α:=Int) (List.replicate 16 0),encF (α:=Int) (List.replicate 16 0)]).toArray)):=by kernel_rfl

end Go.Proofs.YtlemgioaakecpaaGreat
namespace Go.Nm
open Go
abbrev encSpt (x:Spot):Value:=.agg #[I x.sec,I x.stage]
theorem bool_val (o:Option Bool):(o.map B).getD (.bool false)=B (o.getD false):=by cases o <;> rfl
end Go.Nm
namespace Go.Proofs.YtlemgioaakecpaaGreat
open Go Go.Nm Go.Proofs
theorem keyIntB:KeyL (ν:=Bool) Tryz.prog 3 I:=KeyL.int Tryz.underlying3
theorem findAskSpt {ν:Type} (k:Spot) (w:World):∀ (es:List MapEntry) (m:List (Spot × ν)) (venc:ν->Value) (j:Nat),es.map (fun e=>(e.key,e.val))=m.map (fun p=>(encSpt p.1,venc p.2)) →
    (Instr.findAsking 160 (encSpt k) es j).run Tryz.prog w = .ok ((idxM m k).bind fun i=>(es[i]?).map fun e=>(i+j,e.val)) w
  | [],[],_,_,_=>rfl
  | [],_ :: _,_,_,h=>by simp at h
  | _ :: _,[],_,_,h=>by simp at h
  | e :: es,p :: m,venc,j,h=>by
    simp only [List.map_cons,List.cons.injEq,Prod.mk.injEq] at h
    have ih:=findAskSpt k w es m venc (j+1) h.2
    unfold Instr.findAsking
    rw [h.1.1]
    have he:=eqT160 k p.1 w
    unfold idxM
    by_cases hp:p.1=k
    · rw [if_pos hp]
      have:decide (k=p.1)=true:=by simp [hp]
      rw [this] at he
      simp [Op.equal,Op.maxDepth,he]
    · rw [if_neg hp]
      have:decide (k=p.1)=false:=by simp; exact fun e=>hp e.symm
      rw [this] at he
      simp only [Op.equal,Op.maxDepth,Sem.run_bind,he,Result.andThen_ok,Bool.false_eq_true,if_false,ih]
      cases hi:idxM m k with
      | none=>rfl
      | some i =>
        simp only [Option.map_some,Option.bind_some,List.getElem?_cons_succ]
        cases es[i]? with
        | none=>rfl
        | some e'=>simp; omega
theorem keySpot:KeyL (ν:=Int) Tryz.prog 160 encSpt:=by
  refine ⟨fun e w k=>?_,fun w es m venc k h=>?_,fun k=>?_⟩
  · have u3:=Tryz.underlying3
    have a3:=Tryz.isAgg3
    have z3:=Tryz.sizeOf3
    have h1:∀ (n:Nat) (x:Int),(Instr.checkKey e (n+1) 3 (I x)).run Tryz.prog w = .ok () w:=fun n x=>MapKept.run_checkKey u3 (show MapKept.IsKey (.int .i64) (I x) from rfl) e n
    have key:∀ n:Nat,(Instr.checkKey e (n+1+1) 160 (encSpt k)).run Tryz.prog w = .ok () w:=by
      intro n
      rw [Instr.checkKey]
      simp only [Sem.run_bind,run_underlying Tryz.underlying160,Result.andThen_ok]
      rw [← Array.forIn_toList]
      simp only [List.forIn_cons,List.forIn_nil]
      go_simp
    exact key 9998
  · rw [run_findKey_eq w (by rw [Tryz.underlying160]),findAskSpt k w es m venc 0 h]
    rfl
  · simp [Instr.sameBits]
end Go.Proofs.YtlemgioaakecpaaGreat
section
set_option maxRecDepth 100000
set_option maxHeartbeats 16000000
namespace Go.Proofs.YtlemgioaakecpaaGreat
open Go Go.Nm
def m_cmp_isNaN_int (x:Int):M Bool :=
  M.pure (x != x)
theorem cmp_isNaN_int_ok {R:List Chunk}  (x:Int)  {r:Bool} (hM:(m_cmp_isNaN_int x).Ends r) (w:World) (H:St w w [] R):Ret Tryz.prog 138 #[I x] w fun v w'=>∃ (y0:Bool),y0=r/\v=B y0/\St w w' [] R:=by
 refine ret_of_W Tryz.func138 rfl rfl rfl<|W.seq<|W.region rfl<|zA (B false) rfl<|s_nil<|W.seq<|W.region rfl<|zM (I x) rfl<|zM (I x) rfl<|zC x x (x != x) rfl rfl rfl<|zA (B (x != x)) rfl ?_;refine s_nil ?_;refine W.ret ?_
 have ab:=M.e_pure hM
 exact ⟨_,resE_tmp rfl,⟨(x != x),ab,rfl,H⟩⟩

def m_cmp_Compare_int (x y:Int):M Int :=
  M.bind (m_cmp_isNaN_int x) fun r2 =>
  M.bind (m_cmp_isNaN_int y) fun r3 =>
  bif r2 then (
  bif r3 then (
  M.pure 0)
  else (
  M.pure (-1)))
  else (
  bif r3 then (
  M.pure 1)
  else (
  bif decide (x<y) then (
  M.pure (-1))
  else (
  bif decide (y<x) then (
  M.pure 1)
  else (
  M.pure 0))))
theorem cmp_Compare_int_ok {R:List Chunk}  (x:Int) (y:Int)  {r:Int} (hM:(m_cmp_Compare_int x y).Ends r) (w:World) (H:St w w [] R):Ret Tryz.prog 118 #[I x,I y] w fun v w'=>∃ (y0:Int),y0=r/\v=I y0/\St w w' [] R:=by
 refine ret_of_W Tryz.func118 rfl rfl rfl<|W.seq<|W.region rfl<|zA (I 0) rfl<|s_nil<|W.seq<|W.region rfl<|zM (I x) rfl ?_;obtain ⟨ap,am,hM⟩:=M.e_bind hM;refine s_call cf138 [I x] rfl (cmp_isNaN_int_ok x am _ (H.gt 0)) ?_
 rintro vq aq ⟨r2,rfl,hvq,ag⟩
 subst vq;(try dsimp only at hM);replace H:=H.bk ag;clear ag;refine zA (B r2) rfl<|s_nil<|W.seq<|W.region rfl<|zM (I y) rfl ?_;obtain ⟨au,ao,hM⟩:=M.e_bind hM;refine s_call cf138 [I y] rfl (cmp_isNaN_int_ok y ao _ (H.gt 0)) ?_
 rintro vq av ⟨r3,rfl,hvq,ag⟩
 subst vq;(try dsimp only at hM);replace H:=H.bk ag;clear ag;refine zA (B r3) rfl<|s_nil<|W.seq<|W.seq<|W.region rfl<|zM (B r2) rfl<|s_nil ?_
 refine W.cond r2 rfl (fun ai=>?_) (fun ai=>?_)
 ·replace hM:=M.e_t hM ai;refine W.seq<|W.seq<|W.region rfl<|zM (B r3) rfl<|s_nil ?_
  refine W.cond r3 rfl (fun aj=>?_) (fun aj=>?_)
  ·replace hM:=M.e_t hM aj;refine W.seq<|W.region rfl<|zA (I 0) rfl<|s_nil ?_;refine W.ret ?_
   have ab:=M.e_pure hM
   exact ⟨_,resE_tmp rfl,⟨0,ab,rfl,H⟩⟩
  replace hM:=M.e_f hM aj;refine W.skip<|W.seq<|W.region rfl<|zA (I (-1)) rfl<|s_nil ?_;refine W.ret ?_
  have ab:=M.e_pure hM
  exact ⟨_,resE_tmp rfl,⟨(-1),ab,rfl,H⟩⟩
 replace hM:=M.e_f hM ai;refine W.skip<|W.seq<|W.seq<|W.region rfl<|zM (B r3) rfl<|s_nil ?_
 refine W.cond r3 rfl (fun ak=>?_) (fun ak=>?_)
 ·replace hM:=M.e_t hM ak;refine W.seq<|W.region rfl<|zA (I 1) rfl<|s_nil ?_;refine W.ret ?_
  have ab:=M.e_pure hM
  exact ⟨_,resE_tmp rfl,⟨1,ab,rfl,H⟩⟩
 replace hM:=M.e_f hM ak;refine W.skip<|W.seq<|W.seq<|W.region rfl<|zM (I x) rfl<|zM (I y) rfl<|zC x y (decide (x<y)) rfl rfl rfl<|s_nil ?_
 refine W.cond (decide (x<y)) rfl (fun ac=>?_) (fun ac=>?_)
 ·replace hM:=M.e_t hM ac
  replace ac:=dI ac
  refine W.seq<|W.region rfl<|zA (I (-1)) rfl<|s_nil ?_;refine W.ret ?_
  have ab:=M.e_pure hM
  exact ⟨_,resE_tmp rfl,⟨(-1),ab,rfl,H⟩⟩
 replace hM:=M.e_f hM ac
 replace ac:=dI ac
 refine W.skip<|W.seq<|W.seq<|W.region rfl<|zM (I x) rfl<|zM (I y) rfl<|zC x y (decide (y<x)) rfl rfl rfl<|s_nil ?_
 refine W.cond (decide (y<x)) rfl (fun ae=>?_) (fun ae=>?_)
 ·replace hM:=M.e_t hM ae
  replace ae:=dI ae
  refine W.seq<|W.region rfl<|zA (I 1) rfl<|s_nil ?_;refine W.ret ?_
  have ab:=M.e_pure hM
  exact ⟨_,resE_tmp rfl,⟨1,ab,rfl,H⟩⟩
 replace hM:=M.e_f hM ae
 replace ae:=dI ae
 refine W.skip<|W.seq<|W.region rfl<|zA (I 0) rfl<|s_nil ?_;refine W.ret ?_
 have ab:=M.e_pure hM
 exact ⟨_,resE_tmp rfl,⟨0,ab,rfl,H⟩⟩

def zbt (r_:FRow) (stage:Int):M Int :=
  M.bind (m_cmp_Compare_int r_.stage stage) fun r2 =>
  M.pure r2
theorem zdA {R:List Chunk}  (r_:FRow) (stage:Int)  {r:Int} (hM:(zbt r_ stage).Ends r) (w:World) (H:St w w [] R):Ret Tryz.prog 117 #[.agg #[I r_.stage,I r_.carry],I stage] w fun v w'=>∃ (y0:Int),y0=r/\v=I y0/\St w w' [] R:=by
 refine ret_of_W Tryz.func117 rfl rfl rfl<|W.seq<|W.region rfl ?_;refine t_bx [I r_.stage,I r_.carry] H rfl ?_;intro ac ai H;refine zA (I 0) rfl<|s_nil<|W.seq<|W.region rfl<|s_val (x_fa (v:=Pq ac) rfl (fa_blk (o:=0) Fd109_0 Sz3))<|s_val (x_ld (v:=I r_.stage) rfl (ldb_sc Sc3 (H.bl 0) rfl))<|zM (I stage) rfl ?_;obtain ⟨aj,ae,hM⟩:=M.e_bind hM;refine s_call cf118 [I r_.stage,I stage] rfl (cmp_Compare_int_ok r_.stage stage ae _ (H.gt 1)) ?_
 rintro vq ak ⟨r2,rfl,hvq,ab⟩
 subst vq;(try dsimp only at hM);replace H:=H.bk ab;clear ab;refine zA (I r2) rfl<|s_nil ?_;refine W.ret ?_
 have ag:=M.e_pure hM
 exact ⟨_,resE_tmp rfl,⟨r2,ag,rfl,(H.pk [])⟩⟩

def zcc (x:List FRow) (target:Int):(Int × Int)->M ((Int × Int) ⊕ Int):=fun (i,j) =>
  bif decide (i<j) then (
  M.grd (decide ((-9223372036854775808:Int)<=(i+j))&&decide ((i+j)<=(9223372036854775807:Int))) <|
  M.grd (decide ((0:Int)<=(i+j))&&decide ((i+j)<=(9223372036854775807:Int))) <|
  M.grd (decide ((0:Int)<=((i+j) / 2))&&decide (((i+j) / 2)<=(9223372036854775807:Int))) <|
  M.grd (decide ((0:Int)<=((i+j) / 2))&&decide (((i+j) / 2)<(x.length:Int))) <|
  M.bind (zbt (x.getD (Int.toNat ((i+j) / 2)) default) target) fun r2 =>
  bif decide (r2<0) then (
  M.pure (.inl (((i+j) / 2)+1,j)))
  else (
  M.pure (.inl (i,(i+j) / 2))))
  else (
  M.pure (.inr i))
def zck (x:List FRow) (target:Int):M (Int × Bool) :=
  M.bind (M.iter (zcc x target) (0,(x.length:Int))) fun i2 =>
  M.grd ((!(decide (i2<(x.length:Int)))||(decide ((0:Int)<=i2)&&decide (i2<(x.length:Int))))) <|
  M.bind (M.opt (decide (i2<(x.length:Int))) (zbt (x.getD (Int.toNat i2) default) target) 0) fun r3 =>
  M.pure (i2,((decide (i2<(x.length:Int)))&&(r3==0)))
theorem zej {R:List Chunk} {aq:Cells} {ac:Value} (x:List FRow) (target:Int) (au:Reads R aq) (ak:Sl aq ac x) {r:(Int × Bool)} (hM:(zck x target).Ends r) (w:World) (H:St w w [] R):Ret Tryz.prog 116 #[ac,I target,.func (.func 117) #[] #[]] w fun v w'=>∃ (y0:Int) (y1:Bool),(y0,y1)=r/\v = .tuple #[I y0,B y1]/\St w w' [] R:=by
 refine ret_of_W Tryz.func116 rfl rfl rfl<|W.seq<|W.region rfl<|zA (I 0) rfl<|zA (B false) rfl<|s_nil<|W.seq<|W.region rfl<|zM ac rfl ?_
 have aF:=(ak).len_le
 refine s_val (x_lenS T66.und rfl ak)<|zA (I (x.length:Int)) rfl<|s_nil<|W.seq<|W.region rfl<|zM (I (x.length:Int)) rfl<|zA (I 0) rfl<|zA (I (x.length:Int)) rfl<|s_nil<|W.seq ?_;refine W.block ?_;obtain ⟨az,am,aA⟩:=M.e_bind hM
 obtain ⟨aG,am⟩:=M.e_iter am
 refine W.loop (fun m σ W=>∃ (i:Int) (j:Int) (ρ:Env),σ=upds ρ [(0,ac),(1,I target),(2,.func (.func 117) #[] #[]),(8,I (x.length:Int)),(9,I i),(10,I j)]/\M.iterN (zcc x target) m (i,j)=some az/\St w W [] R) ?_ ?_
 ·exact ⟨_,0,(x.length:Int),_,upds_of _ _ ⟨rfl,rfl,rfl,rfl,rfl,rfl,trivial⟩,am,H⟩
 rintro aH σ aI ⟨i,j,ρ,rfl,av,H⟩
 obtain ⟨aw,ax,aJ,hM,ao⟩:=M.e_iterN av
 simp only [zcc] at hM
 clear av;refine W.seq<|W.seq<|W.region rfl<|zM (I i) rfl<|zM (I j) rfl<|zC i j (decide (i<j)) rfl rfl rfl<|s_nil ?_
 refine W.cond (decide (i<j)) rfl (fun ae=>?_) (fun ae=>?_)
 ·replace hM:=M.e_t hM ae
  replace ae:=dI ae
  refine W.skip<|W.block<|W.seq<|W.region rfl<|zM (I i) rfl<|zM (I j) rfl ?_;obtain ⟨aK,hM⟩:=M.e_gd hM;refine zR i j (i+j) rfl rfl rfl (by omega) ?_;obtain ⟨aL,hM⟩:=M.e_gd hM;refine s_val (x_convU (kd:=.i64) (a:=i+j) Tryz.underlying3 Tryz.underlying185 rfl (by omega))<|s_val (x_ushr1 (a:=i+j) rfl rfl) ?_;obtain ⟨aM,hM⟩:=M.e_gd hM;refine s_val (x_conv64 (kd:=.u64) (a:=(i+j) / 2) Tryz.underlying185 Tryz.underlying3 rfl (by omega))<|zA (I ((i+j) / 2)) rfl<|s_nil<|W.seq<|W.region rfl<|zM (.func (.func 117) #[] #[]) rfl<|zM ac rfl<|zM (I ((i+j) / 2)) rfl ?_;obtain ⟨aN,hM⟩:=M.e_gd hM;refine s_val (x_ix (v:=vat ac 2 (Int.toNat ((i+j) / 2))) rfl rfl (Sl.ix (α:=FRow) T66.und T66.size ak (by omega) (by omega)))<|s_val (x_ld (v:=.agg #[I ((x.getD (Int.toNat ((i+j) / 2)) default).stage),I ((x.getD (Int.toNat ((i+j) / 2)) default).carry)]) rfl (ld_ag Ag109 Sz109 (At.mono (FRow_atA ak (i:=(i+j) / 2) (by omega) (by omega)) (au.at H))))<|zM (I target) rfl ?_;obtain ⟨aO,aB,hM⟩:=M.e_bind hM;refine s_callv (f:=117) rfl cf117 [.agg #[I ((x.getD (Int.toNat ((i+j) / 2)) default).stage),I ((x.getD (Int.toNat ((i+j) / 2)) default).carry)],I target] rfl (zdA (x.getD (Int.toNat ((i+j) / 2)) default) target aB _ (H.gt 0)) ?_
  rintro vq aP ⟨r2,rfl,hvq,ay⟩
  subst vq;(try dsimp only at hM);replace H:=H.bk ay;clear ay;refine zC r2 0 (decide (r2<0)) rfl rfl rfl<|s_nil ?_
  refine W.cond (decide (r2<0)) rfl (fun ag=>?_) (fun ag=>?_)
  ·replace hM:=M.e_t hM ag
   replace ag:=dI ag
   refine W.region rfl<|zM (I ((i+j) / 2)) rfl<|zR ((i+j) / 2) 1 (((i+j) / 2)+1) rfl rfl rfl (by omega)<|zA (I (((i+j) / 2)+1)) rfl<|s_nil ?_
   exact ⟨aw,ax,((i+j) / 2)+1,j,_,upds_of _ _ ⟨rfl,rfl,rfl,rfl,rfl,rfl,trivial⟩,M.e_inl hM ao,H⟩
  replace hM:=M.e_f hM ag
  replace ag:=dI ag
  refine W.region rfl<|zM (I ((i+j) / 2)) rfl<|zA (I ((i+j) / 2)) rfl<|s_nil ?_
  exact ⟨aw,ax,i,(i+j) / 2,_,upds_of _ _ ⟨rfl,rfl,rfl,rfl,rfl,rfl,trivial⟩,M.e_inl hM ao,H⟩
 replace hM:=M.e_f hM ae
 replace ae:=dI ae
 refine W.exit ?_
 have aC:=M.e_inr hM ao
 subst aC;replace hM:=aA;(try dsimp only at hM);refine W.seq<|W.region rfl<|zM (I i) rfl<|zM (I i) rfl<|zM (I (x.length:Int)) rfl<|zC i (x.length:Int) (decide (i<(x.length:Int))) rfl rfl rfl<|zM (B (decide (i<(x.length:Int)))) rfl<|g_val (decide (i<(x.length:Int))) (gy_t rfl) (fun hg=>x_mv (v:=.func (.func 117) #[] #[]) rfl)<|g_val (decide (i<(x.length:Int))) (gy_t rfl) (fun hg=>x_mv (v:=ac) rfl)<|g_val (decide (i<(x.length:Int))) (gy_t rfl) (fun hg=>x_mv (v:=I i) rfl) ?_;obtain ⟨ai,hM⟩:=M.e_grd hM
 replace ai:=M.imp_of ai
 simp only [Bool.and_eq_true,decide_eq_true_eq] at ai
 refine g_val (decide (i<(x.length:Int))) (gy_t rfl) (fun hg=>x_ix (v:=vat ac 2 (Int.toNat i)) (gd_of hg (ac)) (gd_of hg (I i)) (Sl.ix (α:=FRow) T66.und T66.size ak (by have ab:=ai.resolve_left (by rw [hg]; decide); first | exact ab | exact ab.1 | exact ab.2 | omega | (have aj:=hg; simp at aj; omega)) (by have ab:=ai.resolve_left (by rw [hg]; decide); first | exact ab | exact ab.1 | exact ab.2 | omega | (have aj:=hg; simp at aj; omega))))<|g_val (decide (i<(x.length:Int))) (gy_t rfl) (fun hg=>x_ld (v:=.agg #[I ((x.getD (Int.toNat i) default).stage),I ((x.getD (Int.toNat i) default).carry)]) (gd_of hg (vat ac 2 (Int.toNat i))) (ld_ag Ag109 Sz109 (At.mono (FRow_atA ak (i:=i) (by have ab:=ai.resolve_left (by rw [hg]; decide); first | exact ab | exact ab.1 | exact ab.2 | omega | (have aj:=hg; simp at aj; omega)) (by have ab:=ai.resolve_left (by rw [hg]; decide); first | exact ab | exact ab.1 | exact ab.2 | omega | (have aj:=hg; simp at aj; omega))) (au.at H))))<|g_val (decide (i<(x.length:Int))) (gy_t rfl) (fun hg=>x_mv (v:=I target) rfl) ?_;obtain ⟨r3,aD,hM⟩:=M.e_bind hM;refine t_gcallv (cap:=[]) (decide (i<(x.length:Int))) (gy_t rfl) cf117 (fun hg=>(gd_of hg (.func (.func 117) #[] #[]))) (I r3) (fun _=>[.agg #[I ((x.getD (Int.toNat i) default).stage),I ((x.getD (Int.toNat i) default).carry)],I target]) (fun hg=>lst2 (gd_of hg (.agg #[I ((x.getD (Int.toNat i) default).stage),I ((x.getD (Int.toNat i) default).carry)])) (gd_of hg (I target))) H (fun hg=>(zdA (x.getD (Int.toNat i) default) target (M.e_opt aD hg) _ (H.give (A:=[]) rfl)).mono fun v_ w_ ⟨y_,ap,aE,H_⟩=>by subst ap; exact ⟨aE,H.via H_⟩) ?_;intro aQ H;refine g_val (decide (i<(x.length:Int))) (gy_t rfl) (fun hg=>x_cmp (kd:=.i64) (r:=r3==0) (gd_of hg (I r3)) rfl rfl)<|s_val (x_pand (b:=decide (i<(x.length:Int))) (r:=r3==0) rfl (fun hb=>gd_of (c:=decide (i<(x.length:Int))) (by first | exact hb | (rw [hb]; rfl) | simp_all) (B (r3==0))) rfl)<|zA (I i) rfl<|zA (B ((decide (i<(x.length:Int)))&&(r3==0))) rfl<|s_nil ?_;refine W.ret ?_
 have ap:=M.e_pure hM
 exact ⟨_,resE_tmp2 rfl,⟨i,((decide (i<(x.length:Int)))&&(r3==0)),ap,rfl,H⟩⟩

def zaa (ab:List Sect) (ac:List Mrk) (ae:List Rch) (x:Spot):M Int :=
  M.grd (decide ((0:Int)<=x.sec)&&decide (x.sec<(ab.length:Int))) <|
  M.bind (zck ((ab.getD (Int.toNat x.sec) default).rows) x.stage) fun (r0,r1) =>
  bif r1 then (
  M.grd (decide ((0:Int)<=r0)&&decide (r0<(((ab.getD (Int.toNat x.sec) default).rows).length:Int))) <|
  M.pure ((((ab.getD (Int.toNat x.sec) default).rows).getD (Int.toNat r0) default).carry))
  else (
  bif r0==(((ab.getD (Int.toNat x.sec) default).rows).length:Int) then (
  M.grd (decide ((-9223372036854775808:Int)<=(r0-1))&&decide ((r0-1)<=(9223372036854775807:Int))) <|
  M.grd (decide ((0:Int)<=(r0-1))&&decide ((r0-1)<(((ab.getD (Int.toNat x.sec) default).rows).length:Int))) <|
  M.pure ((((ab.getD (Int.toNat x.sec) default).rows).getD (Int.toNat (r0-1)) default).carry))
  else (
  bif decide (0<r0) then (
  M.grd (decide ((-9223372036854775808:Int)<=(r0-1))&&decide ((r0-1)<=(9223372036854775807:Int))) <|
  M.grd (decide ((0:Int)<=(r0-1))&&decide ((r0-1)<(((ab.getD (Int.toNat x.sec) default).rows).length:Int))) <|
  M.grd (decide ((0:Int)<=r0)&&decide (r0<(((ab.getD (Int.toNat x.sec) default).rows).length:Int))) <|
  M.grd (decide ((-9223372036854775808:Int)<=(((((ab.getD (Int.toNat x.sec) default).rows).getD (Int.toNat r0) default).carry)-((((ab.getD (Int.toNat x.sec) default).rows).getD (Int.toNat (r0-1)) default).carry)))&&decide ((((((ab.getD (Int.toNat x.sec) default).rows).getD (Int.toNat r0) default).carry)-((((ab.getD (Int.toNat x.sec) default).rows).getD (Int.toNat (r0-1)) default).carry))<=(9223372036854775807:Int))) <|
  M.grd (decide ((-9223372036854775808:Int)<=(x.stage-((((ab.getD (Int.toNat x.sec) default).rows).getD (Int.toNat (r0-1)) default).stage)))&&decide ((x.stage-((((ab.getD (Int.toNat x.sec) default).rows).getD (Int.toNat (r0-1)) default).stage))<=(9223372036854775807:Int))) <|
  M.grd (decide ((-9223372036854775808:Int)<=((((((ab.getD (Int.toNat x.sec) default).rows).getD (Int.toNat r0) default).carry)-((((ab.getD (Int.toNat x.sec) default).rows).getD (Int.toNat (r0-1)) default).carry))*(x.stage-((((ab.getD (Int.toNat x.sec) default).rows).getD (Int.toNat (r0-1)) default).stage))))&&decide (((((((ab.getD (Int.toNat x.sec) default).rows).getD (Int.toNat r0) default).carry)-((((ab.getD (Int.toNat x.sec) default).rows).getD (Int.toNat (r0-1)) default).carry))*(x.stage-((((ab.getD (Int.toNat x.sec) default).rows).getD (Int.toNat (r0-1)) default).stage)))<=(9223372036854775807:Int))) <|
  M.grd (decide ((-9223372036854775808:Int)<=(((((ab.getD (Int.toNat x.sec) default).rows).getD (Int.toNat r0) default).stage)-((((ab.getD (Int.toNat x.sec) default).rows).getD (Int.toNat (r0-1)) default).stage)))&&decide ((((((ab.getD (Int.toNat x.sec) default).rows).getD (Int.toNat r0) default).stage)-((((ab.getD (Int.toNat x.sec) default).rows).getD (Int.toNat (r0-1)) default).stage))<=(9223372036854775807:Int))) <|
  M.grd (decide (0<=((((((ab.getD (Int.toNat x.sec) default).rows).getD (Int.toNat r0) default).carry)-((((ab.getD (Int.toNat x.sec) default).rows).getD (Int.toNat (r0-1)) default).carry))*(x.stage-((((ab.getD (Int.toNat x.sec) default).rows).getD (Int.toNat (r0-1)) default).stage))))&&decide (((((((ab.getD (Int.toNat x.sec) default).rows).getD (Int.toNat r0) default).carry)-((((ab.getD (Int.toNat x.sec) default).rows).getD (Int.toNat (r0-1)) default).carry))*(x.stage-((((ab.getD (Int.toNat x.sec) default).rows).getD (Int.toNat (r0-1)) default).stage)))<=(9223372036854775807:Int))&&decide ((0:Int)<(((((ab.getD (Int.toNat x.sec) default).rows).getD (Int.toNat r0) default).stage)-((((ab.getD (Int.toNat x.sec) default).rows).getD (Int.toNat (r0-1)) default).stage)))) <|
  M.grd (decide ((-9223372036854775808:Int)<=(((((ab.getD (Int.toNat x.sec) default).rows).getD (Int.toNat (r0-1)) default).carry)+(((((((ab.getD (Int.toNat x.sec) default).rows).getD (Int.toNat r0) default).carry)-((((ab.getD (Int.toNat x.sec) default).rows).getD (Int.toNat (r0-1)) default).carry))*(x.stage-((((ab.getD (Int.toNat x.sec) default).rows).getD (Int.toNat (r0-1)) default).stage))) / (((((ab.getD (Int.toNat x.sec) default).rows).getD (Int.toNat r0) default).stage)-((((ab.getD (Int.toNat x.sec) default).rows).getD (Int.toNat (r0-1)) default).stage)))))&&decide ((((((ab.getD (Int.toNat x.sec) default).rows).getD (Int.toNat (r0-1)) default).carry)+(((((((ab.getD (Int.toNat x.sec) default).rows).getD (Int.toNat r0) default).carry)-((((ab.getD (Int.toNat x.sec) default).rows).getD (Int.toNat (r0-1)) default).carry))*(x.stage-((((ab.getD (Int.toNat x.sec) default).rows).getD (Int.toNat (r0-1)) default).stage))) / (((((ab.getD (Int.toNat x.sec) default).rows).getD (Int.toNat r0) default).stage)-((((ab.getD (Int.toNat x.sec) default).rows).getD (Int.toNat (r0-1)) default).stage))))<=(9223372036854775807:Int))) <|
  M.pure (((((ab.getD (Int.toNat x.sec) default).rows).getD (Int.toNat (r0-1)) default).carry)+(((((((ab.getD (Int.toNat x.sec) default).rows).getD (Int.toNat r0) default).carry)-((((ab.getD (Int.toNat x.sec) default).rows).getD (Int.toNat (r0-1)) default).carry))*(x.stage-((((ab.getD (Int.toNat x.sec) default).rows).getD (Int.toNat (r0-1)) default).stage))) / (((((ab.getD (Int.toNat x.sec) default).rows).getD (Int.toNat r0) default).stage)-((((ab.getD (Int.toNat x.sec) default).rows).getD (Int.toNat (r0-1)) default).stage)))))
  else (
  M.pure 0)))
theorem zdE {R:List Chunk} {ae:Nat} {aG:Cells} {aA:Value} {aH:Cells} {aI:Value} {aJ:Cells} {aK:Value} {ai:Nat} (ab:List Sect) (aB:List Mrk) (aC:List Rch) (x:Spot) (az:Reads R aG) (aD:Sl aG aA ab) (aR:Reads R aH) (aS:Sl aH aI aB) (aT:Reads R aJ) (aU:Sl aJ aK aC) (au:Has R (cBlk ae [aA,aI,aK,.map (some ai)] 177)) {r:Int} (hM:(zaa ab aB aC x).Ends r) (w:World) (H:St w w [cMemI encSpt ai (zaa ab aB aC)] R):Ret Tryz.prog 83 #[Pq ae,.agg #[I x.sec,I x.stage]] w fun v w'=>∃ (y0:Int),y0=r/\v=I y0/\St w w' [cMemI encSpt ai (zaa ab aB aC)] R:=by
 refine ret_of_W Tryz.func83 rfl rfl rfl ?_
 have hM0:=hM
 obtain ⟨aj,H,av⟩:=St.memOpenI H (i:=0) rfl
 replace H:=H.nf
 cases aE:aj x with
 | none =>
  refine W.seq<|W.region rfl ?_;refine t_bx [I x.sec,I x.stage] H rfl ?_;intro ag aV H;refine zA (I 0) rfl<|s_nil<|W.seq<|W.seq ?_;refine W.draw (fun W=>St w W [cBlk ag [I x.sec,I x.stage] 160] R) [(0,true),(1,true),(2,true),(3,true),(4,true),(5,false),(6,true),(7,true),(8,true),(9,true),(10,true)] mixed (by decide +kernel) rfl ?_;intro aW ac;replace H:=H.ext ac;clear ac
  refine ⟨(H.pk [0]),?_⟩
  refine d_q rfl (fun w' H=>x_mv (v:=Pq ae) rfl)<|d_q rfl (fun w' H=>x_nc (a:=⟨ae,0,none⟩) rfl)<|d_q rfl (fun w' H=>x_fa (v:=Oq ae 3) rfl (fa_blk (o:=0) Fd177_1 Sz175))<|d_q rfl (fun w' H=>x_ld (v:=.map (some ai)) rfl (ldb_sc Sc175 (au.blk H) rfl))<|d_q rfl (fun w' H=>x_ld (v:=.agg #[I x.sec,I x.stage]) rfl (ldb_ag (ds:=[I x.sec,I x.stage]) Ag160 Sz160 (H.bl 0) rfl rfl))<|d_l rfl<|s_val (q_look (kenc:=encSpt) (venc:=I) (f:=aj) (k:=x) (z:=I 0) (v:=.tuple #[I 0,B false]) keySpot Tryz.underlying175 Al3 rfl rfl (H.get (k:=1) rfl) true (by simp [aE])) ?_
  refine s_nil ⟨(H.pk [0]),?_⟩
  refine d_q rfl (fun w' H=>x_mv (v:=.tuple #[I 0,B false]) rfl)<|d_q rfl (fun w' H=>x_ext (vs:=[I 0,B false]) (v:=I 0) rfl rfl)<|d_q rfl (fun w' H=>x_ext (vs:=[I 0,B false]) (v:=B false) rfl rfl)<|d_q rfl (fun w' H=>x_as (v:=I 0) rfl)<|d_q rfl (fun w' H=>x_as (v:=B false) rfl) ?_;refine d_nil<|W.seq<|W.region rfl<|zM (B false) rfl<|s_nil ?_
  refine W.cond false rfl (fun aL=>?_) (fun aL=>?_)
  ·skip
   exact absurd aL (by decide)
  skip
  refine W.skip<|W.seq ?_;refine W.draw (fun W=>St w W [cBlk ag [I x.sec,I x.stage] 160,cMap encSpt I ai aj] R) [(0,true),(1,true),(2,true),(3,true),(4,true),(5,true),(6,true),(7,true),(8,true),(9,true),(10,true)] mixed (by decide +kernel) rfl ?_;intro aX ac;replace H:=H.ext ac;clear ac
  refine ⟨(H.pk [0,1]),?_⟩
  refine d_q rfl (fun w' H=>x_mv (v:=Pq ae) rfl)<|d_q rfl (fun w' H=>x_nc (a:=⟨ae,0,none⟩) rfl)<|d_q rfl (fun w' H=>x_fa (v:=Pq ae) rfl (fa_blk (o:=0) Fd177_0 Sz27))<|d_q rfl (fun w' H=>x_fa (v:=Pq ae) rfl (fa_blk (o:=0) Fd27_0 Sz23))<|d_q rfl (fun w' H=>x_ld (v:=aA) rfl (ldb_sc Sc23 (au.blk H) rfl))<|d_q rfl (fun w' H=>x_fa (v:=Pq ag) rfl (fa_blk (o:=0) Fd160_0 Sz3))<|d_q rfl (fun w' H=>x_ld (v:=I x.sec) rfl (ldb_sc Sc3 (H.bl 0) rfl)) ?_;obtain ⟨aY,hM⟩:=M.e_gd hM;refine d_q rfl (fun w' H=>x_ix (v:=vat aA 2 (Int.toNat x.sec)) rfl rfl (Sl.ix (α:=Sect) T23.und T23.size aD (by omega) (by omega)))<|d_q rfl (fun w' H=>x_fa (v:=fat (vat aA 2 (Int.toNat x.sec)) 1) rfl (fa_pl Fd68_1 Sz66 (Sl.pl (i:=x.sec) aD (by omega) (by omega)))) ?_
  obtain ⟨ak,aO,am⟩:=Sect_at1 aD (i:=x.sec) (by omega) (by omega)
  replace am:Sl _ ak (ab.getD (Int.toNat x.sec) default).rows:=am
  have aZ:=am.len_le
  refine d_q rfl (fun w' H=>x_ld (v:=ak) rfl (ld_sc Sc66 (At.mono (aO) (az.at H))))<|d_q rfl (fun w' H=>x_as (v:=ak) rfl) ?_;refine d_nil<|W.seq<|W.region rfl<|zM ak rfl<|s_val (x_fa (v:=Oq ag 1) rfl (fa_blk (o:=0) Fd160_1 Sz3))<|s_val (x_ld (v:=I x.stage) rfl (ldb_sc Sc3 (H.bl 0) rfl)) ?_;obtain ⟨a6,aP,hM⟩:=M.e_bind hM;refine s_call cf116 [ak,I x.stage,.func (.func 117) #[] #[]] rfl (zej ((ab.getD (Int.toNat x.sec) default).rows) x.stage (az.app _) am aP _ (H.gt 2)) ?_
  rintro vq a7 ⟨r0,r1,rfl,hvq,aM⟩
  subst vq;(try dsimp only at hM);replace H:=H.bk aM;clear aM;refine zM (.tuple #[I r0,B r1]) rfl<|zX [I r0,B r1] (I r0) rfl rfl<|zX [I r0,B r1] (B r1) rfl rfl<|zA (I r0) rfl<|zA (B r1) rfl<|s_nil<|W.seq<|W.region rfl<|zA (I 0) rfl<|s_nil ?_;refine W.seq<|W.block<|W.seq<|W.region rfl<|zM (B r1) rfl<|zA (B r1) rfl<|s_nil ?_
  refine W.cond r1 rfl (fun aF=>?_) (fun aF=>?_)
  ·replace hM:=M.e_t hM aF;refine W.region rfl<|zM ak rfl<|zM (I r0) rfl ?_;obtain ⟨a8,hM⟩:=M.e_gd hM;refine s_val (x_ix (v:=vat ak 2 (Int.toNat r0)) rfl rfl (Sl.ix (α:=FRow) T66.und T66.size am (by omega) (by omega)))<|s_val (x_fa (v:=fat (vat ak 2 (Int.toNat r0)) 1) rfl (fa_pl Fd109_1 Sz3 (Sl.pl (i:=r0) am (by omega) (by omega))))<|s_val (x_ld (v:=I ((((ab.getD (Int.toNat x.sec) default).rows).getD (Int.toNat r0) default).carry)) rfl (ld_sc Sc3 (At.mono (FRow_at1 am (i:=r0) (by omega) (by omega)) (az.at H))))<|zA (I ((((ab.getD (Int.toNat x.sec) default).rows).getD (Int.toNat r0) default).carry)) rfl<|s_nil<|W.seq ?_;refine W.draw (fun W=>St w W [cBlk ag [I x.sec,I x.stage] 160] R) [(0,true),(1,true),(2,true),(3,true),(4,true),(5,true),(6,false)] mixed (by decide +kernel) rfl ?_;intro ba ac;replace H:=H.ext ac;clear ac
   refine ⟨(H.pk [0]),?_⟩
   refine d_q rfl (fun w' H=>x_mv (v:=Pq ae) rfl)<|d_q rfl (fun w' H=>x_nc (a:=⟨ae,0,none⟩) rfl)<|d_q rfl (fun w' H=>x_fa (v:=Oq ae 3) rfl (fa_blk (o:=0) Fd177_1 Sz175))<|d_q rfl (fun w' H=>x_ld (v:=.map (some ai)) rfl (ldb_sc Sc175 (au.blk H) rfl))<|d_q rfl (fun w' H=>x_ld (v:=.agg #[I x.sec,I x.stage]) rfl (ldb_ag (ds:=[I x.sec,I x.stage]) Ag160 Sz160 (H.bl 0) rfl rfl))<|d_q rfl (fun w' H=>x_mv (v:=I ((((ab.getD (Int.toNat x.sec) default).rows).getD (Int.toNat r0) default).carry)) rfl)<|d_l rfl ?_;refine t_mapu (i:=1) (kenc:=encSpt) (venc:=I) (f:=aj) (k:=x) (v:=(((ab.getD (Int.toNat x.sec) default).rows).getD (Int.toNat r0) default).carry) (L':=[cBlk ag [I x.sec,I x.stage] 160,cMap encSpt I ai (updF aj x ((((ab.getD (Int.toNat x.sec) default).rows).getD (Int.toNat r0) default).carry))]) keySpot Tryz.underlying175 H rfl rfl rfl rfl rfl ?_;intro bb H
   refine s_nil ⟨(H.pk [0]),?_⟩
   refine d_nil<|W.seq<|W.region rfl<|zM (I ((((ab.getD (Int.toNat x.sec) default).rows).getD (Int.toNat r0) default).carry)) rfl<|zA (I ((((ab.getD (Int.toNat x.sec) default).rows).getD (Int.toNat r0) default).carry)) rfl<|s_nil ?_;refine W.ret ?_
   replace H:=St.memShutI H (i:=1) rfl (memIput av (by rw [M.e_pure hM]; exact hM0))
   replace H:=H.nf
   have ap:=M.e_pure hM
   exact ⟨_,resE_tmp rfl,⟨((((ab.getD (Int.toNat x.sec) default).rows).getD (Int.toNat r0) default).carry),ap,rfl,(H.pk [1])⟩⟩
  replace hM:=M.e_f hM aF;refine W.seq<|W.region rfl<|zM (I r0) rfl<|zM ak rfl ?_
  have bc:=(am).len_le
  refine s_val (x_lenS T66.und rfl am)<|zC r0 (((ab.getD (Int.toNat x.sec) default).rows).length:Int) (r0==(((ab.getD (Int.toNat x.sec) default).rows).length:Int)) rfl rfl rfl<|zA (B (r0==(((ab.getD (Int.toNat x.sec) default).rows).length:Int))) rfl<|s_nil ?_
  refine W.cond (r0==(((ab.getD (Int.toNat x.sec) default).rows).length:Int)) rfl (fun aw=>?_) (fun aw=>?_)
  ·replace hM:=M.e_t hM aw
   replace aw:=dI aw
   refine W.region rfl<|zM ak rfl<|zM (I r0) rfl ?_;obtain ⟨bf,hM⟩:=M.e_gd hM;refine zR r0 1 (r0-1) rfl rfl rfl (by omega) ?_;obtain ⟨bg,hM⟩:=M.e_gd hM;refine s_val (x_ix (v:=vat ak 2 (Int.toNat (r0-1))) rfl rfl (Sl.ix (α:=FRow) T66.und T66.size am (by omega) (by omega)))<|s_val (x_fa (v:=fat (vat ak 2 (Int.toNat (r0-1))) 1) rfl (fa_pl Fd109_1 Sz3 (Sl.pl (i:=r0-1) am (by omega) (by omega))))<|s_val (x_ld (v:=I ((((ab.getD (Int.toNat x.sec) default).rows).getD (Int.toNat (r0-1)) default).carry)) rfl (ld_sc Sc3 (At.mono (FRow_at1 am (i:=r0-1) (by omega) (by omega)) (az.at H))))<|zA (I ((((ab.getD (Int.toNat x.sec) default).rows).getD (Int.toNat (r0-1)) default).carry)) rfl<|s_nil<|W.seq ?_;refine W.draw (fun W=>St w W [cBlk ag [I x.sec,I x.stage] 160] R) [(0,true),(1,true),(2,true),(3,true),(4,true),(5,true),(6,false)] mixed (by decide +kernel) rfl ?_;intro bh ac;replace H:=H.ext ac;clear ac
   refine ⟨(H.pk [0]),?_⟩
   refine d_q rfl (fun w' H=>x_mv (v:=Pq ae) rfl)<|d_q rfl (fun w' H=>x_nc (a:=⟨ae,0,none⟩) rfl)<|d_q rfl (fun w' H=>x_fa (v:=Oq ae 3) rfl (fa_blk (o:=0) Fd177_1 Sz175))<|d_q rfl (fun w' H=>x_ld (v:=.map (some ai)) rfl (ldb_sc Sc175 (au.blk H) rfl))<|d_q rfl (fun w' H=>x_ld (v:=.agg #[I x.sec,I x.stage]) rfl (ldb_ag (ds:=[I x.sec,I x.stage]) Ag160 Sz160 (H.bl 0) rfl rfl))<|d_q rfl (fun w' H=>x_mv (v:=I ((((ab.getD (Int.toNat x.sec) default).rows).getD (Int.toNat (r0-1)) default).carry)) rfl)<|d_l rfl ?_;refine t_mapu (i:=1) (kenc:=encSpt) (venc:=I) (f:=aj) (k:=x) (v:=(((ab.getD (Int.toNat x.sec) default).rows).getD (Int.toNat (r0-1)) default).carry) (L':=[cBlk ag [I x.sec,I x.stage] 160,cMap encSpt I ai (updF aj x ((((ab.getD (Int.toNat x.sec) default).rows).getD (Int.toNat (r0-1)) default).carry))]) keySpot Tryz.underlying175 H rfl rfl rfl rfl rfl ?_;intro bi H
   refine s_nil ⟨(H.pk [0]),?_⟩
   refine d_nil<|W.seq<|W.region rfl<|zM (I ((((ab.getD (Int.toNat x.sec) default).rows).getD (Int.toNat (r0-1)) default).carry)) rfl<|zA (I ((((ab.getD (Int.toNat x.sec) default).rows).getD (Int.toNat (r0-1)) default).carry)) rfl<|s_nil ?_;refine W.ret ?_
   replace H:=St.memShutI H (i:=1) rfl (memIput av (by rw [M.e_pure hM]; exact hM0))
   replace H:=H.nf
   have ap:=M.e_pure hM
   exact ⟨_,resE_tmp rfl,⟨((((ab.getD (Int.toNat x.sec) default).rows).getD (Int.toNat (r0-1)) default).carry),ap,rfl,(H.pk [1])⟩⟩
  replace hM:=M.e_f hM aw
  replace aw:=dI aw
  refine W.seq<|W.region rfl<|zM (I r0) rfl<|zC r0 0 (decide (0<r0)) rfl rfl rfl<|zA (B (decide (0<r0))) rfl<|s_nil ?_
  refine W.cond (decide (0<r0)) rfl (fun ax=>?_) (fun ax=>?_)
  ·replace hM:=M.e_t hM ax
   replace ax:=dI ax
   refine W.seq ?_;refine W.drawT (fun W=>St w W [cBlk ag [I x.sec,I x.stage] 160,cMap encSpt I ai aj] R) (.q 0 (.q 1 (.q 2 (.q 3 (.q 4 (.q 5 (.q 6 (.q 7 (.q 8 (.l2 9 (.l 10 (.l 11 (.l 12 .nil))) 10 (.l 9 (.l 11 (.l 12 .nil))))))))))))) mixed (by decide +kernel) rfl ?_;intro bj ac;replace H:=H.ext ac;clear ac
   refine ⟨(H.pk [0,1]),?_⟩
   refine t_q rfl (fun w' H=>x_mv (v:=ak) rfl)<|t_q rfl (fun w' H=>x_mv (v:=I r0) rfl) ?_;obtain ⟨bm,hM⟩:=M.e_gd hM;refine t_q rfl (fun w' H=>x_ari (r:=r0-1) rfl rfl rfl (by omega)) ?_;obtain ⟨bn,hM⟩:=M.e_gd hM;refine t_q rfl (fun w' H=>x_ix (v:=vat ak 2 (Int.toNat (r0-1))) rfl rfl (Sl.ix (α:=FRow) T66.und T66.size am (by omega) (by omega)))<|t_q rfl (fun w' H=>x_ld (v:=.agg #[I ((((ab.getD (Int.toNat x.sec) default).rows).getD (Int.toNat (r0-1)) default).stage),I ((((ab.getD (Int.toNat x.sec) default).rows).getD (Int.toNat (r0-1)) default).carry)]) rfl (ld_ag Ag109 Sz109 (At.mono (FRow_atA am (i:=r0-1) (by omega) (by omega)) (az.at H))))<|t_q rfl (fun w' H=>x_mv (v:=ak) rfl)<|t_q rfl (fun w' H=>x_mv (v:=I r0) rfl) ?_;obtain ⟨bo,hM⟩:=M.e_gd hM;refine t_q rfl (fun w' H=>x_ix (v:=vat ak 2 (Int.toNat r0)) rfl rfl (Sl.ix (α:=FRow) T66.und T66.size am (by omega) (by omega)))<|t_q rfl (fun w' H=>x_ld (v:=.agg #[I ((((ab.getD (Int.toNat x.sec) default).rows).getD (Int.toNat r0) default).stage),I ((((ab.getD (Int.toNat x.sec) default).rows).getD (Int.toNat r0) default).carry)]) rfl (ld_ag Ag109 Sz109 (At.mono (FRow_atA am (i:=r0) (by omega) (by omega)) (az.at H)))) ?_;refine t_l2 rfl rfl ?_ ?_
   ·skip
    refine t_alloc (cs:=[I 0,I 0]) H Al109 rfl ?_;intro aq bp H
    refine s_nil ⟨(H.pk [1,2]),?_⟩
    refine t_l rfl ?_;refine t_alloc (cs:=[I 0,I 0]) H Al109 rfl ?_;intro ay bq H
    refine s_nil ⟨(H.pk [2,3]),?_⟩
    refine t_l rfl ?_;refine t_sw 1 0 [I ((((ab.getD (Int.toNat x.sec) default).rows).getD (Int.toNat (r0-1)) default).stage),I ((((ab.getD (Int.toNat x.sec) default).rows).getD (Int.toNat (r0-1)) default).carry)] (.agg #[I ((((ab.getD (Int.toNat x.sec) default).rows).getD (Int.toNat (r0-1)) default).stage),I ((((ab.getD (Int.toNat x.sec) default).rows).getD (Int.toNat (r0-1)) default).carry)]) H rfl rfl Sz109 rfl rfl rfl rfl ?_;intro br H
    refine s_nil ⟨(H.pk [2,3]),?_⟩
    refine t_l rfl ?_;refine t_sw 0 0 [I ((((ab.getD (Int.toNat x.sec) default).rows).getD (Int.toNat r0) default).stage),I ((((ab.getD (Int.toNat x.sec) default).rows).getD (Int.toNat r0) default).carry)] (.agg #[I ((((ab.getD (Int.toNat x.sec) default).rows).getD (Int.toNat r0) default).stage),I ((((ab.getD (Int.toNat x.sec) default).rows).getD (Int.toNat r0) default).carry)]) H rfl rfl Sz109 rfl rfl rfl rfl ?_;intro bt H
    refine s_nil ⟨(H.pk [2,3]),?_⟩
    refine t_nil ?_;refine W.draw (fun W=>St w W [cBlk ay [I ((((ab.getD (Int.toNat x.sec) default).rows).getD (Int.toNat r0) default).stage),I ((((ab.getD (Int.toNat x.sec) default).rows).getD (Int.toNat r0) default).carry)] 109,cBlk aq [I ((((ab.getD (Int.toNat x.sec) default).rows).getD (Int.toNat (r0-1)) default).stage),I ((((ab.getD (Int.toNat x.sec) default).rows).getD (Int.toNat (r0-1)) default).carry)] 109,cBlk ag [I x.sec,I x.stage] 160,cMap encSpt I ai aj] R) [(0,true),(1,true),(2,true),(3,true),(4,true),(5,true),(6,true),(7,true),(8,true),(9,true),(10,true),(11,true),(12,true),(13,true),(14,true),(15,true),(16,true),(17,true),(18,true),(19,true),(20,true)] mixed (by decide +kernel) rfl ?_;intro bu ac;replace H:=H.ext ac;clear ac
    refine ⟨(H.pk [0,1,2,3]),?_⟩
    refine d_q rfl (fun w' H=>x_fa (v:=Oq aq 1) rfl (fa_blk (o:=0) Fd109_1 Sz3))<|d_q rfl (fun w' H=>x_ld (v:=I ((((ab.getD (Int.toNat x.sec) default).rows).getD (Int.toNat (r0-1)) default).carry)) rfl (ldb_sc Sc3 (H.bl 1) rfl))<|d_q rfl (fun w' H=>x_fa (v:=Oq ay 1) rfl (fa_blk (o:=0) Fd109_1 Sz3))<|d_q rfl (fun w' H=>x_ld (v:=I ((((ab.getD (Int.toNat x.sec) default).rows).getD (Int.toNat r0) default).carry)) rfl (ldb_sc Sc3 (H.bl 0) rfl))<|d_q rfl (fun w' H=>x_fa (v:=Oq aq 1) rfl (fa_blk (o:=0) Fd109_1 Sz3))<|d_q rfl (fun w' H=>x_ld (v:=I ((((ab.getD (Int.toNat x.sec) default).rows).getD (Int.toNat (r0-1)) default).carry)) rfl (ldb_sc Sc3 (H.bl 1) rfl)) ?_;obtain ⟨bv,hM⟩:=M.e_gd hM;refine d_q rfl (fun w' H=>x_ari (r:=((((ab.getD (Int.toNat x.sec) default).rows).getD (Int.toNat r0) default).carry)-((((ab.getD (Int.toNat x.sec) default).rows).getD (Int.toNat (r0-1)) default).carry)) rfl rfl rfl (by omega))<|d_q rfl (fun w' H=>x_fa (v:=Oq ag 1) rfl (fa_blk (o:=0) Fd160_1 Sz3))<|d_q rfl (fun w' H=>x_ld (v:=I x.stage) rfl (ldb_sc Sc3 (H.bl 2) rfl))<|d_q rfl (fun w' H=>x_fa (v:=Pq aq) rfl (fa_blk (o:=0) Fd109_0 Sz3))<|d_q rfl (fun w' H=>x_ld (v:=I ((((ab.getD (Int.toNat x.sec) default).rows).getD (Int.toNat (r0-1)) default).stage)) rfl (ldb_sc Sc3 (H.bl 1) rfl)) ?_;obtain ⟨bw,hM⟩:=M.e_gd hM;refine d_q rfl (fun w' H=>x_ari (r:=x.stage-((((ab.getD (Int.toNat x.sec) default).rows).getD (Int.toNat (r0-1)) default).stage)) rfl rfl rfl (by omega)) ?_;obtain ⟨bx,hM⟩:=M.e_gd hM;refine d_q rfl (fun w' H=>x_ari (r:=(((((ab.getD (Int.toNat x.sec) default).rows).getD (Int.toNat r0) default).carry)-((((ab.getD (Int.toNat x.sec) default).rows).getD (Int.toNat (r0-1)) default).carry))*(x.stage-((((ab.getD (Int.toNat x.sec) default).rows).getD (Int.toNat (r0-1)) default).stage))) rfl rfl rfl (by omega))<|d_q rfl (fun w' H=>x_fa (v:=Pq ay) rfl (fa_blk (o:=0) Fd109_0 Sz3))<|d_q rfl (fun w' H=>x_ld (v:=I ((((ab.getD (Int.toNat x.sec) default).rows).getD (Int.toNat r0) default).stage)) rfl (ldb_sc Sc3 (H.bl 0) rfl))<|d_q rfl (fun w' H=>x_fa (v:=Pq aq) rfl (fa_blk (o:=0) Fd109_0 Sz3))<|d_q rfl (fun w' H=>x_ld (v:=I ((((ab.getD (Int.toNat x.sec) default).rows).getD (Int.toNat (r0-1)) default).stage)) rfl (ldb_sc Sc3 (H.bl 1) rfl)) ?_;obtain ⟨bz,hM⟩:=M.e_gd hM;refine d_q rfl (fun w' H=>x_ari (r:=((((ab.getD (Int.toNat x.sec) default).rows).getD (Int.toNat r0) default).stage)-((((ab.getD (Int.toNat x.sec) default).rows).getD (Int.toNat (r0-1)) default).stage)) rfl rfl rfl (by omega)) ?_;obtain ⟨bA,hM⟩:=M.e_gd hM;refine d_q rfl (fun w' H=>x_quo (a:=(((((ab.getD (Int.toNat x.sec) default).rows).getD (Int.toNat r0) default).carry)-((((ab.getD (Int.toNat x.sec) default).rows).getD (Int.toNat (r0-1)) default).carry))*(x.stage-((((ab.getD (Int.toNat x.sec) default).rows).getD (Int.toNat (r0-1)) default).stage))) (b:=((((ab.getD (Int.toNat x.sec) default).rows).getD (Int.toNat r0) default).stage)-((((ab.getD (Int.toNat x.sec) default).rows).getD (Int.toNat (r0-1)) default).stage)) rfl rfl (by omega)) ?_;obtain ⟨bB,hM⟩:=M.e_gd hM;refine d_q rfl (fun w' H=>x_ari (r:=((((ab.getD (Int.toNat x.sec) default).rows).getD (Int.toNat (r0-1)) default).carry)+(((((((ab.getD (Int.toNat x.sec) default).rows).getD (Int.toNat r0) default).carry)-((((ab.getD (Int.toNat x.sec) default).rows).getD (Int.toNat (r0-1)) default).carry))*(x.stage-((((ab.getD (Int.toNat x.sec) default).rows).getD (Int.toNat (r0-1)) default).stage))) / (((((ab.getD (Int.toNat x.sec) default).rows).getD (Int.toNat r0) default).stage)-((((ab.getD (Int.toNat x.sec) default).rows).getD (Int.toNat (r0-1)) default).stage)))) rfl rfl rfl (by omega))<|d_q rfl (fun w' H=>x_as (v:=I (((((ab.getD (Int.toNat x.sec) default).rows).getD (Int.toNat (r0-1)) default).carry)+(((((((ab.getD (Int.toNat x.sec) default).rows).getD (Int.toNat r0) default).carry)-((((ab.getD (Int.toNat x.sec) default).rows).getD (Int.toNat (r0-1)) default).carry))*(x.stage-((((ab.getD (Int.toNat x.sec) default).rows).getD (Int.toNat (r0-1)) default).stage))) / (((((ab.getD (Int.toNat x.sec) default).rows).getD (Int.toNat r0) default).stage)-((((ab.getD (Int.toNat x.sec) default).rows).getD (Int.toNat (r0-1)) default).stage))))) rfl) ?_;refine d_nil ?_;replace H:=H.pk [2,3];refine W.seq ?_;refine W.draw (fun W=>St w W [cBlk ag [I x.sec,I x.stage] 160] R) [(0,true),(1,true),(2,true),(3,true),(4,true),(5,true),(6,false)] mixed (by decide +kernel) rfl ?_;intro bC ac;replace H:=H.ext ac;clear ac
    refine ⟨(H.pk [0]),?_⟩
    refine d_q rfl (fun w' H=>x_mv (v:=Pq ae) rfl)<|d_q rfl (fun w' H=>x_nc (a:=⟨ae,0,none⟩) rfl)<|d_q rfl (fun w' H=>x_fa (v:=Oq ae 3) rfl (fa_blk (o:=0) Fd177_1 Sz175))<|d_q rfl (fun w' H=>x_ld (v:=.map (some ai)) rfl (ldb_sc Sc175 (au.blk H) rfl))<|d_q rfl (fun w' H=>x_ld (v:=.agg #[I x.sec,I x.stage]) rfl (ldb_ag (ds:=[I x.sec,I x.stage]) Ag160 Sz160 (H.bl 0) rfl rfl))<|d_q rfl (fun w' H=>x_mv (v:=I (((((ab.getD (Int.toNat x.sec) default).rows).getD (Int.toNat (r0-1)) default).carry)+(((((((ab.getD (Int.toNat x.sec) default).rows).getD (Int.toNat r0) default).carry)-((((ab.getD (Int.toNat x.sec) default).rows).getD (Int.toNat (r0-1)) default).carry))*(x.stage-((((ab.getD (Int.toNat x.sec) default).rows).getD (Int.toNat (r0-1)) default).stage))) / (((((ab.getD (Int.toNat x.sec) default).rows).getD (Int.toNat r0) default).stage)-((((ab.getD (Int.toNat x.sec) default).rows).getD (Int.toNat (r0-1)) default).stage))))) rfl)<|d_l rfl ?_;refine t_mapu (i:=1) (kenc:=encSpt) (venc:=I) (f:=aj) (k:=x) (v:=((((ab.getD (Int.toNat x.sec) default).rows).getD (Int.toNat (r0-1)) default).carry)+(((((((ab.getD (Int.toNat x.sec) default).rows).getD (Int.toNat r0) default).carry)-((((ab.getD (Int.toNat x.sec) default).rows).getD (Int.toNat (r0-1)) default).carry))*(x.stage-((((ab.getD (Int.toNat x.sec) default).rows).getD (Int.toNat (r0-1)) default).stage))) / (((((ab.getD (Int.toNat x.sec) default).rows).getD (Int.toNat r0) default).stage)-((((ab.getD (Int.toNat x.sec) default).rows).getD (Int.toNat (r0-1)) default).stage)))) (L':=[cBlk ag [I x.sec,I x.stage] 160,cMap encSpt I ai (updF aj x (((((ab.getD (Int.toNat x.sec) default).rows).getD (Int.toNat (r0-1)) default).carry)+(((((((ab.getD (Int.toNat x.sec) default).rows).getD (Int.toNat r0) default).carry)-((((ab.getD (Int.toNat x.sec) default).rows).getD (Int.toNat (r0-1)) default).carry))*(x.stage-((((ab.getD (Int.toNat x.sec) default).rows).getD (Int.toNat (r0-1)) default).stage))) / (((((ab.getD (Int.toNat x.sec) default).rows).getD (Int.toNat r0) default).stage)-((((ab.getD (Int.toNat x.sec) default).rows).getD (Int.toNat (r0-1)) default).stage)))))]) keySpot Tryz.underlying175 H rfl rfl rfl rfl rfl ?_;intro bD H
    refine s_nil ⟨(H.pk [0]),?_⟩
    refine d_nil<|W.seq<|W.region rfl<|zM (I (((((ab.getD (Int.toNat x.sec) default).rows).getD (Int.toNat (r0-1)) default).carry)+(((((((ab.getD (Int.toNat x.sec) default).rows).getD (Int.toNat r0) default).carry)-((((ab.getD (Int.toNat x.sec) default).rows).getD (Int.toNat (r0-1)) default).carry))*(x.stage-((((ab.getD (Int.toNat x.sec) default).rows).getD (Int.toNat (r0-1)) default).stage))) / (((((ab.getD (Int.toNat x.sec) default).rows).getD (Int.toNat r0) default).stage)-((((ab.getD (Int.toNat x.sec) default).rows).getD (Int.toNat (r0-1)) default).stage))))) rfl<|zA (I (((((ab.getD (Int.toNat x.sec) default).rows).getD (Int.toNat (r0-1)) default).carry)+(((((((ab.getD (Int.toNat x.sec) default).rows).getD (Int.toNat r0) default).carry)-((((ab.getD (Int.toNat x.sec) default).rows).getD (Int.toNat (r0-1)) default).carry))*(x.stage-((((ab.getD (Int.toNat x.sec) default).rows).getD (Int.toNat (r0-1)) default).stage))) / (((((ab.getD (Int.toNat x.sec) default).rows).getD (Int.toNat r0) default).stage)-((((ab.getD (Int.toNat x.sec) default).rows).getD (Int.toNat (r0-1)) default).stage))))) rfl<|s_nil ?_;refine W.ret ?_
    replace H:=St.memShutI H (i:=1) rfl (memIput av (by rw [M.e_pure hM]; exact hM0))
    replace H:=H.nf
    have ap:=M.e_pure hM
    exact ⟨_,resE_tmp rfl,⟨(((((ab.getD (Int.toNat x.sec) default).rows).getD (Int.toNat (r0-1)) default).carry)+(((((((ab.getD (Int.toNat x.sec) default).rows).getD (Int.toNat r0) default).carry)-((((ab.getD (Int.toNat x.sec) default).rows).getD (Int.toNat (r0-1)) default).carry))*(x.stage-((((ab.getD (Int.toNat x.sec) default).rows).getD (Int.toNat (r0-1)) default).stage))) / (((((ab.getD (Int.toNat x.sec) default).rows).getD (Int.toNat r0) default).stage)-((((ab.getD (Int.toNat x.sec) default).rows).getD (Int.toNat (r0-1)) default).stage)))),ap,rfl,(H.pk [1])⟩⟩
   skip
   refine t_alloc (cs:=[I 0,I 0]) H Al109 rfl ?_;intro ay bE H
   refine s_nil ⟨(H.pk [1,2]),?_⟩
   refine t_l rfl ?_;refine t_alloc (cs:=[I 0,I 0]) H Al109 rfl ?_;intro aq bF H
   refine s_nil ⟨(H.pk [2,3]),?_⟩
   refine t_l rfl ?_;refine t_sw 0 0 [I ((((ab.getD (Int.toNat x.sec) default).rows).getD (Int.toNat (r0-1)) default).stage),I ((((ab.getD (Int.toNat x.sec) default).rows).getD (Int.toNat (r0-1)) default).carry)] (.agg #[I ((((ab.getD (Int.toNat x.sec) default).rows).getD (Int.toNat (r0-1)) default).stage),I ((((ab.getD (Int.toNat x.sec) default).rows).getD (Int.toNat (r0-1)) default).carry)]) H rfl rfl Sz109 rfl rfl rfl rfl ?_;intro bG H
   refine s_nil ⟨(H.pk [2,3]),?_⟩
   refine t_l rfl ?_;refine t_sw 1 0 [I ((((ab.getD (Int.toNat x.sec) default).rows).getD (Int.toNat r0) default).stage),I ((((ab.getD (Int.toNat x.sec) default).rows).getD (Int.toNat r0) default).carry)] (.agg #[I ((((ab.getD (Int.toNat x.sec) default).rows).getD (Int.toNat r0) default).stage),I ((((ab.getD (Int.toNat x.sec) default).rows).getD (Int.toNat r0) default).carry)]) H rfl rfl Sz109 rfl rfl rfl rfl ?_;intro bH H
   refine s_nil ⟨(H.pk [2,3]),?_⟩
   refine t_nil ?_;refine W.draw (fun W=>St w W [cBlk aq [I ((((ab.getD (Int.toNat x.sec) default).rows).getD (Int.toNat (r0-1)) default).stage),I ((((ab.getD (Int.toNat x.sec) default).rows).getD (Int.toNat (r0-1)) default).carry)] 109,cBlk ay [I ((((ab.getD (Int.toNat x.sec) default).rows).getD (Int.toNat r0) default).stage),I ((((ab.getD (Int.toNat x.sec) default).rows).getD (Int.toNat r0) default).carry)] 109,cBlk ag [I x.sec,I x.stage] 160,cMap encSpt I ai aj] R) [(0,true),(1,true),(2,true),(3,true),(4,true),(5,true),(6,true),(7,true),(8,true),(9,true),(10,true),(11,true),(12,true),(13,true),(14,true),(15,true),(16,true),(17,true),(18,true),(19,true),(20,true)] mixed (by decide +kernel) rfl ?_;intro bI ac;replace H:=H.ext ac;clear ac
   refine ⟨(H.pk [0,1,2,3]),?_⟩
   refine d_q rfl (fun w' H=>x_fa (v:=Oq aq 1) rfl (fa_blk (o:=0) Fd109_1 Sz3))<|d_q rfl (fun w' H=>x_ld (v:=I ((((ab.getD (Int.toNat x.sec) default).rows).getD (Int.toNat (r0-1)) default).carry)) rfl (ldb_sc Sc3 (H.bl 0) rfl))<|d_q rfl (fun w' H=>x_fa (v:=Oq ay 1) rfl (fa_blk (o:=0) Fd109_1 Sz3))<|d_q rfl (fun w' H=>x_ld (v:=I ((((ab.getD (Int.toNat x.sec) default).rows).getD (Int.toNat r0) default).carry)) rfl (ldb_sc Sc3 (H.bl 1) rfl))<|d_q rfl (fun w' H=>x_fa (v:=Oq aq 1) rfl (fa_blk (o:=0) Fd109_1 Sz3))<|d_q rfl (fun w' H=>x_ld (v:=I ((((ab.getD (Int.toNat x.sec) default).rows).getD (Int.toNat (r0-1)) default).carry)) rfl (ldb_sc Sc3 (H.bl 0) rfl)) ?_;obtain ⟨bJ,hM⟩:=M.e_gd hM;refine d_q rfl (fun w' H=>x_ari (r:=((((ab.getD (Int.toNat x.sec) default).rows).getD (Int.toNat r0) default).carry)-((((ab.getD (Int.toNat x.sec) default).rows).getD (Int.toNat (r0-1)) default).carry)) rfl rfl rfl (by omega))<|d_q rfl (fun w' H=>x_fa (v:=Oq ag 1) rfl (fa_blk (o:=0) Fd160_1 Sz3))<|d_q rfl (fun w' H=>x_ld (v:=I x.stage) rfl (ldb_sc Sc3 (H.bl 2) rfl))<|d_q rfl (fun w' H=>x_fa (v:=Pq aq) rfl (fa_blk (o:=0) Fd109_0 Sz3))<|d_q rfl (fun w' H=>x_ld (v:=I ((((ab.getD (Int.toNat x.sec) default).rows).getD (Int.toNat (r0-1)) default).stage)) rfl (ldb_sc Sc3 (H.bl 0) rfl)) ?_;obtain ⟨bK,hM⟩:=M.e_gd hM;refine d_q rfl (fun w' H=>x_ari (r:=x.stage-((((ab.getD (Int.toNat x.sec) default).rows).getD (Int.toNat (r0-1)) default).stage)) rfl rfl rfl (by omega)) ?_;obtain ⟨bL,hM⟩:=M.e_gd hM;refine d_q rfl (fun w' H=>x_ari (r:=(((((ab.getD (Int.toNat x.sec) default).rows).getD (Int.toNat r0) default).carry)-((((ab.getD (Int.toNat x.sec) default).rows).getD (Int.toNat (r0-1)) default).carry))*(x.stage-((((ab.getD (Int.toNat x.sec) default).rows).getD (Int.toNat (r0-1)) default).stage))) rfl rfl rfl (by omega))<|d_q rfl (fun w' H=>x_fa (v:=Pq ay) rfl (fa_blk (o:=0) Fd109_0 Sz3))<|d_q rfl (fun w' H=>x_ld (v:=I ((((ab.getD (Int.toNat x.sec) default).rows).getD (Int.toNat r0) default).stage)) rfl (ldb_sc Sc3 (H.bl 1) rfl))<|d_q rfl (fun w' H=>x_fa (v:=Pq aq) rfl (fa_blk (o:=0) Fd109_0 Sz3))<|d_q rfl (fun w' H=>x_ld (v:=I ((((ab.getD (Int.toNat x.sec) default).rows).getD (Int.toNat (r0-1)) default).stage)) rfl (ldb_sc Sc3 (H.bl 0) rfl)) ?_;obtain ⟨bM,hM⟩:=M.e_gd hM;refine d_q rfl (fun w' H=>x_ari (r:=((((ab.getD (Int.toNat x.sec) default).rows).getD (Int.toNat r0) default).stage)-((((ab.getD (Int.toNat x.sec) default).rows).getD (Int.toNat (r0-1)) default).stage)) rfl rfl rfl (by omega)) ?_;obtain ⟨bN,hM⟩:=M.e_gd hM;refine d_q rfl (fun w' H=>x_quo (a:=(((((ab.getD (Int.toNat x.sec) default).rows).getD (Int.toNat r0) default).carry)-((((ab.getD (Int.toNat x.sec) default).rows).getD (Int.toNat (r0-1)) default).carry))*(x.stage-((((ab.getD (Int.toNat x.sec) default).rows).getD (Int.toNat (r0-1)) default).stage))) (b:=((((ab.getD (Int.toNat x.sec) default).rows).getD (Int.toNat r0) default).stage)-((((ab.getD (Int.toNat x.sec) default).rows).getD (Int.toNat (r0-1)) default).stage)) rfl rfl (by omega)) ?_;obtain ⟨bO,hM⟩:=M.e_gd hM;refine d_q rfl (fun w' H=>x_ari (r:=((((ab.getD (Int.toNat x.sec) default).rows).getD (Int.toNat (r0-1)) default).carry)+(((((((ab.getD (Int.toNat x.sec) default).rows).getD (Int.toNat r0) default).carry)-((((ab.getD (Int.toNat x.sec) default).rows).getD (Int.toNat (r0-1)) default).carry))*(x.stage-((((ab.getD (Int.toNat x.sec) default).rows).getD (Int.toNat (r0-1)) default).stage))) / (((((ab.getD (Int.toNat x.sec) default).rows).getD (Int.toNat r0) default).stage)-((((ab.getD (Int.toNat x.sec) default).rows).getD (Int.toNat (r0-1)) default).stage)))) rfl rfl rfl (by omega))<|d_q rfl (fun w' H=>x_as (v:=I (((((ab.getD (Int.toNat x.sec) default).rows).getD (Int.toNat (r0-1)) default).carry)+(((((((ab.getD (Int.toNat x.sec) default).rows).getD (Int.toNat r0) default).carry)-((((ab.getD (Int.toNat x.sec) default).rows).getD (Int.toNat (r0-1)) default).carry))*(x.stage-((((ab.getD (Int.toNat x.sec) default).rows).getD (Int.toNat (r0-1)) default).stage))) / (((((ab.getD (Int.toNat x.sec) default).rows).getD (Int.toNat r0) default).stage)-((((ab.getD (Int.toNat x.sec) default).rows).getD (Int.toNat (r0-1)) default).stage))))) rfl) ?_;refine d_nil ?_;replace H:=H.pk [2,3];refine W.seq ?_;refine W.draw (fun W=>St w W [cBlk ag [I x.sec,I x.stage] 160] R) [(0,true),(1,true),(2,true),(3,true),(4,true),(5,true),(6,false)] mixed (by decide +kernel) rfl ?_;intro bP ac;replace H:=H.ext ac;clear ac
   refine ⟨(H.pk [0]),?_⟩
   refine d_q rfl (fun w' H=>x_mv (v:=Pq ae) rfl)<|d_q rfl (fun w' H=>x_nc (a:=⟨ae,0,none⟩) rfl)<|d_q rfl (fun w' H=>x_fa (v:=Oq ae 3) rfl (fa_blk (o:=0) Fd177_1 Sz175))<|d_q rfl (fun w' H=>x_ld (v:=.map (some ai)) rfl (ldb_sc Sc175 (au.blk H) rfl))<|d_q rfl (fun w' H=>x_ld (v:=.agg #[I x.sec,I x.stage]) rfl (ldb_ag (ds:=[I x.sec,I x.stage]) Ag160 Sz160 (H.bl 0) rfl rfl))<|d_q rfl (fun w' H=>x_mv (v:=I (((((ab.getD (Int.toNat x.sec) default).rows).getD (Int.toNat (r0-1)) default).carry)+(((((((ab.getD (Int.toNat x.sec) default).rows).getD (Int.toNat r0) default).carry)-((((ab.getD (Int.toNat x.sec) default).rows).getD (Int.toNat (r0-1)) default).carry))*(x.stage-((((ab.getD (Int.toNat x.sec) default).rows).getD (Int.toNat (r0-1)) default).stage))) / (((((ab.getD (Int.toNat x.sec) default).rows).getD (Int.toNat r0) default).stage)-((((ab.getD (Int.toNat x.sec) default).rows).getD (Int.toNat (r0-1)) default).stage))))) rfl)<|d_l rfl ?_;refine t_mapu (i:=1) (kenc:=encSpt) (venc:=I) (f:=aj) (k:=x) (v:=((((ab.getD (Int.toNat x.sec) default).rows).getD (Int.toNat (r0-1)) default).carry)+(((((((ab.getD (Int.toNat x.sec) default).rows).getD (Int.toNat r0) default).carry)-((((ab.getD (Int.toNat x.sec) default).rows).getD (Int.toNat (r0-1)) default).carry))*(x.stage-((((ab.getD (Int.toNat x.sec) default).rows).getD (Int.toNat (r0-1)) default).stage))) / (((((ab.getD (Int.toNat x.sec) default).rows).getD (Int.toNat r0) default).stage)-((((ab.getD (Int.toNat x.sec) default).rows).getD (Int.toNat (r0-1)) default).stage)))) (L':=[cBlk ag [I x.sec,I x.stage] 160,cMap encSpt I ai (updF aj x (((((ab.getD (Int.toNat x.sec) default).rows).getD (Int.toNat (r0-1)) default).carry)+(((((((ab.getD (Int.toNat x.sec) default).rows).getD (Int.toNat r0) default).carry)-((((ab.getD (Int.toNat x.sec) default).rows).getD (Int.toNat (r0-1)) default).carry))*(x.stage-((((ab.getD (Int.toNat x.sec) default).rows).getD (Int.toNat (r0-1)) default).stage))) / (((((ab.getD (Int.toNat x.sec) default).rows).getD (Int.toNat r0) default).stage)-((((ab.getD (Int.toNat x.sec) default).rows).getD (Int.toNat (r0-1)) default).stage)))))]) keySpot Tryz.underlying175 H rfl rfl rfl rfl rfl ?_;intro bQ H
   refine s_nil ⟨(H.pk [0]),?_⟩
   refine d_nil<|W.seq<|W.region rfl<|zM (I (((((ab.getD (Int.toNat x.sec) default).rows).getD (Int.toNat (r0-1)) default).carry)+(((((((ab.getD (Int.toNat x.sec) default).rows).getD (Int.toNat r0) default).carry)-((((ab.getD (Int.toNat x.sec) default).rows).getD (Int.toNat (r0-1)) default).carry))*(x.stage-((((ab.getD (Int.toNat x.sec) default).rows).getD (Int.toNat (r0-1)) default).stage))) / (((((ab.getD (Int.toNat x.sec) default).rows).getD (Int.toNat r0) default).stage)-((((ab.getD (Int.toNat x.sec) default).rows).getD (Int.toNat (r0-1)) default).stage))))) rfl<|zA (I (((((ab.getD (Int.toNat x.sec) default).rows).getD (Int.toNat (r0-1)) default).carry)+(((((((ab.getD (Int.toNat x.sec) default).rows).getD (Int.toNat r0) default).carry)-((((ab.getD (Int.toNat x.sec) default).rows).getD (Int.toNat (r0-1)) default).carry))*(x.stage-((((ab.getD (Int.toNat x.sec) default).rows).getD (Int.toNat (r0-1)) default).stage))) / (((((ab.getD (Int.toNat x.sec) default).rows).getD (Int.toNat r0) default).stage)-((((ab.getD (Int.toNat x.sec) default).rows).getD (Int.toNat (r0-1)) default).stage))))) rfl<|s_nil ?_;refine W.ret ?_
   replace H:=St.memShutI H (i:=1) rfl (memIput av (by rw [M.e_pure hM]; exact hM0))
   replace H:=H.nf
   have ap:=M.e_pure hM
   exact ⟨_,resE_tmp rfl,⟨(((((ab.getD (Int.toNat x.sec) default).rows).getD (Int.toNat (r0-1)) default).carry)+(((((((ab.getD (Int.toNat x.sec) default).rows).getD (Int.toNat r0) default).carry)-((((ab.getD (Int.toNat x.sec) default).rows).getD (Int.toNat (r0-1)) default).carry))*(x.stage-((((ab.getD (Int.toNat x.sec) default).rows).getD (Int.toNat (r0-1)) default).stage))) / (((((ab.getD (Int.toNat x.sec) default).rows).getD (Int.toNat r0) default).stage)-((((ab.getD (Int.toNat x.sec) default).rows).getD (Int.toNat (r0-1)) default).stage)))),ap,rfl,(H.pk [1])⟩⟩
  replace hM:=M.e_f hM ax
  replace ax:=dI ax
  refine W.skip<|W.seq ?_;refine W.draw (fun W=>St w W [cBlk ag [I x.sec,I x.stage] 160] R) [(0,true),(1,true),(2,true),(3,true),(4,true),(5,true),(6,false)] mixed (by decide +kernel) rfl ?_;intro bR ac;replace H:=H.ext ac;clear ac
  refine ⟨(H.pk [0]),?_⟩
  refine d_q rfl (fun w' H=>x_mv (v:=Pq ae) rfl)<|d_q rfl (fun w' H=>x_nc (a:=⟨ae,0,none⟩) rfl)<|d_q rfl (fun w' H=>x_fa (v:=Oq ae 3) rfl (fa_blk (o:=0) Fd177_1 Sz175))<|d_q rfl (fun w' H=>x_ld (v:=.map (some ai)) rfl (ldb_sc Sc175 (au.blk H) rfl))<|d_q rfl (fun w' H=>x_ld (v:=.agg #[I x.sec,I x.stage]) rfl (ldb_ag (ds:=[I x.sec,I x.stage]) Ag160 Sz160 (H.bl 0) rfl rfl))<|d_q rfl (fun w' H=>x_mv (v:=I 0) rfl)<|d_l rfl ?_;refine t_mapu (i:=1) (kenc:=encSpt) (venc:=I) (f:=aj) (k:=x) (v:=0) (L':=[cBlk ag [I x.sec,I x.stage] 160,cMap encSpt I ai (updF aj x 0)]) keySpot Tryz.underlying175 H rfl rfl rfl rfl rfl ?_;intro bS H
  refine s_nil ⟨(H.pk [0]),?_⟩
  refine d_nil<|W.seq<|W.region rfl<|zM (I 0) rfl<|zA (I 0) rfl<|s_nil ?_;refine W.ret ?_
  replace H:=St.memShutI H (i:=1) rfl (memIput av (by rw [M.e_pure hM]; exact hM0))
  replace H:=H.nf
  have ap:=M.e_pure hM
  exact ⟨_,resE_tmp rfl,⟨0,ap,rfl,(H.pk [1])⟩⟩
 | some ao =>
  have aQ:=M.Ends.det (av x ao aE) hM0
  subst aQ
  replace hM:(M.pure ao).Ends ao:=M.i_pure
  refine W.seq<|W.region rfl ?_;refine t_bx [I x.sec,I x.stage] H rfl ?_;intro ag bT H;refine zA (I 0) rfl<|s_nil<|W.seq<|W.seq ?_;refine W.draw (fun W=>St w W [cBlk ag [I x.sec,I x.stage] 160] R) [(0,true),(1,true),(2,true),(3,true),(4,true),(5,false),(6,true),(7,true),(8,true),(9,true),(10,true)] mixed (by decide +kernel) rfl ?_;intro bU ac;replace H:=H.ext ac;clear ac
  refine ⟨(H.pk [0]),?_⟩
  refine d_q rfl (fun w' H=>x_mv (v:=Pq ae) rfl)<|d_q rfl (fun w' H=>x_nc (a:=⟨ae,0,none⟩) rfl)<|d_q rfl (fun w' H=>x_fa (v:=Oq ae 3) rfl (fa_blk (o:=0) Fd177_1 Sz175))<|d_q rfl (fun w' H=>x_ld (v:=.map (some ai)) rfl (ldb_sc Sc175 (au.blk H) rfl))<|d_q rfl (fun w' H=>x_ld (v:=.agg #[I x.sec,I x.stage]) rfl (ldb_ag (ds:=[I x.sec,I x.stage]) Ag160 Sz160 (H.bl 0) rfl rfl))<|d_l rfl<|s_val (q_look (kenc:=encSpt) (venc:=I) (f:=aj) (k:=x) (z:=I 0) (v:=.tuple #[I ao,B true]) keySpot Tryz.underlying175 Al3 rfl rfl (H.get (k:=1) rfl) true (by simp [aE])) ?_
  refine s_nil ⟨(H.pk [0]),?_⟩
  refine d_q rfl (fun w' H=>x_mv (v:=.tuple #[I ao,B true]) rfl)<|d_q rfl (fun w' H=>x_ext (vs:=[I ao,B true]) (v:=I ao) rfl rfl)<|d_q rfl (fun w' H=>x_ext (vs:=[I ao,B true]) (v:=B true) rfl rfl)<|d_q rfl (fun w' H=>x_as (v:=I ao) rfl)<|d_q rfl (fun w' H=>x_as (v:=B true) rfl) ?_;refine d_nil<|W.seq<|W.region rfl<|zM (B true) rfl<|s_nil ?_
  refine W.cond true rfl (fun aN=>?_) (fun aN=>?_)
  ·skip
   refine W.seq<|W.region rfl<|zM (I ao) rfl<|zA (I ao) rfl<|s_nil ?_;refine W.ret ?_
   replace H:=St.memShutI H (i:=1) rfl av
   replace H:=H.nf
   have ap:=M.e_pure hM
   exact ⟨_,resE_tmp rfl,⟨ao,ap,rfl,(H.pk [1])⟩⟩
  skip
  exact absurd aN (by decide)

def zca (n:Int):(Int × Int)->M ((Int × Int) ⊕ Int):=fun (low,high) =>
  bif decide (low<high) then (
  M.grd (decide ((-9223372036854775808:Int)<=(high-low))&&decide ((high-low)<=(9223372036854775807:Int))) <|
  M.grd (decide ((-9223372036854775808:Int)<=((high-low)+1))&&decide (((high-low)+1)<=(9223372036854775807:Int))) <|
  M.grd (decide (0<=((high-low)+1))&&decide (((high-low)+1)<=(9223372036854775807:Int))&&decide ((0:Int)<2)) <|
  M.grd (decide ((-9223372036854775808:Int)<=(low+(((high-low)+1) / 2)))&&decide ((low+(((high-low)+1) / 2))<=(9223372036854775807:Int))) <|
  M.grd (decide ((-9223372036854775808:Int)<=((low+(((high-low)+1) / 2))*(low+(((high-low)+1) / 2))))&&decide (((low+(((high-low)+1) / 2))*(low+(((high-low)+1) / 2)))<=(9223372036854775807:Int))) <|
  bif decide (((low+(((high-low)+1) / 2))*(low+(((high-low)+1) / 2)))<=n) then (
  M.pure (.inl (low+(((high-low)+1) / 2),high)))
  else (
  M.grd (decide ((-9223372036854775808:Int)<=((low+(((high-low)+1) / 2))-1))&&decide (((low+(((high-low)+1) / 2))-1)<=(9223372036854775807:Int))) <|
  M.pure (.inl (low,(low+(((high-low)+1) / 2))-1))))
  else (
  M.pure (.inr low))
def zcE (n:Int):M Int :=
  M.bind (M.iter (zca n) (0,2147483648)) fun low2 =>
  M.pure low2
theorem zd3 {R:List Chunk}  (n:Int)  {r:Int} (hM:(zcE n).Ends r) (w:World) (H:St w w [] R):Ret Tryz.prog 108 #[I n] w fun v w'=>∃ (y0:Int),y0=r/\v=I y0/\St w w' [] R:=by
 refine ret_of_W Tryz.func108 rfl rfl rfl<|W.seq<|W.region rfl<|zA (I 0) rfl<|s_nil<|W.seq<|W.region rfl<|zA (I 0) rfl<|zA (I 2147483648) rfl<|s_nil<|W.seq ?_;refine W.block ?_;obtain ⟨am,ae,ao⟩:=M.e_bind hM
 obtain ⟨au,ae⟩:=M.e_iter ae
 refine W.loop (fun m σ W=>∃ (low:Int) (high:Int) (ρ:Env),σ=upds ρ [(0,I n),(3,I low),(4,I high)]/\M.iterN (zca n) m (low,high)=some am/\St w W [] R) ?_ ?_
 ·exact ⟨_,0,2147483648,_,upds_of _ _ ⟨rfl,rfl,rfl,trivial⟩,ae,H⟩
 rintro av σ aw ⟨low,high,ρ,rfl,ai,H⟩
 obtain ⟨aj,ak,ax,hM,ag⟩:=M.e_iterN ai
 simp only [zca] at hM
 clear ai;refine W.seq<|W.seq<|W.region rfl<|zM (I low) rfl<|zM (I high) rfl<|zC low high (decide (low<high)) rfl rfl rfl<|s_nil ?_
 refine W.cond (decide (low<high)) rfl (fun ab=>?_) (fun ab=>?_)
 ·replace hM:=M.e_t hM ab
  replace ab:=dI ab
  refine W.skip<|W.block<|W.seq<|W.region rfl<|zM (I low) rfl<|zM (I high) rfl<|zM (I low) rfl ?_;obtain ⟨ay,hM⟩:=M.e_gd hM;refine zR high low (high-low) rfl rfl rfl (by omega) ?_;obtain ⟨az,hM⟩:=M.e_gd hM;refine zR (high-low) 1 ((high-low)+1) rfl rfl rfl (by omega) ?_;obtain ⟨aA,hM⟩:=M.e_gd hM;refine s_val (x_quo (a:=(high-low)+1) (b:=2) rfl rfl (by omega)) ?_;obtain ⟨aB,hM⟩:=M.e_gd hM;refine zR low (((high-low)+1) / 2) (low+(((high-low)+1) / 2)) rfl rfl rfl (by omega)<|zA (I (low+(((high-low)+1) / 2))) rfl<|s_nil<|W.seq<|W.region rfl<|zM (I (low+(((high-low)+1) / 2))) rfl<|zM (I (low+(((high-low)+1) / 2))) rfl ?_;obtain ⟨aC,hM⟩:=M.e_gd hM;refine zR (low+(((high-low)+1) / 2)) (low+(((high-low)+1) / 2)) ((low+(((high-low)+1) / 2))*(low+(((high-low)+1) / 2))) rfl rfl rfl (by omega)<|zM (I n) rfl<|zC ((low+(((high-low)+1) / 2))*(low+(((high-low)+1) / 2))) n (decide (((low+(((high-low)+1) / 2))*(low+(((high-low)+1) / 2)))<=n)) rfl rfl rfl<|s_nil ?_
  refine W.cond (decide (((low+(((high-low)+1) / 2))*(low+(((high-low)+1) / 2)))<=n)) rfl (fun ac=>?_) (fun ac=>?_)
  ·replace hM:=M.e_t hM ac
   replace ac:=dI ac
   refine W.region rfl<|zM (I (low+(((high-low)+1) / 2))) rfl<|zA (I (low+(((high-low)+1) / 2))) rfl<|s_nil ?_
   exact ⟨aj,ak,low+(((high-low)+1) / 2),high,_,upds_of _ _ ⟨rfl,rfl,rfl,trivial⟩,M.e_inl hM ag,H⟩
  replace hM:=M.e_f hM ac
  replace ac:=dI ac
  refine W.region rfl<|zM (I (low+(((high-low)+1) / 2))) rfl ?_;obtain ⟨aD,hM⟩:=M.e_gd hM;refine zR (low+(((high-low)+1) / 2)) 1 ((low+(((high-low)+1) / 2))-1) rfl rfl rfl (by omega)<|zA (I ((low+(((high-low)+1) / 2))-1)) rfl<|s_nil ?_
  exact ⟨aj,ak,low,(low+(((high-low)+1) / 2))-1,_,upds_of _ _ ⟨rfl,rfl,rfl,trivial⟩,M.e_inl hM ag,H⟩
 replace hM:=M.e_f hM ab
 replace ab:=dI ab
 refine W.exit ?_
 have ap:=M.e_inr hM ag
 subst ap;replace hM:=ao;(try dsimp only at hM);refine W.seq<|W.region rfl<|zM (I low) rfl<|zA (I low) rfl<|s_nil ?_;refine W.ret ?_
 have aq:=M.e_pure hM
 exact ⟨_,resE_tmp rfl,⟨low,aq,rfl,H⟩⟩

def zaP (ab:List Sect) (ac:List Mrk) (ae:List Rch) (r_:Rch) (c:Cas) (r3 s a:Int):M Int :=
  M.grd (decide ((0:Int)<=r_.down)&&decide (r_.down<(ab.length:Int))) <|
  M.grd (decide ((0:Int)<=r_.up)&&decide (r_.up<(ab.length:Int))) <|
  M.grd (decide ((-9223372036854775808:Int)<=(((ab.getD (Int.toNat r_.down) default).place)-((ab.getD (Int.toNat r_.up) default).place)))&&decide ((((ab.getD (Int.toNat r_.down) default).place)-((ab.getD (Int.toNat r_.up) default).place))<=(9223372036854775807:Int))) <|
  M.grd (decide ((-9223372036854775808:Int)<=(10000*a))&&decide ((10000*a)<=(9223372036854775807:Int))) <|
  M.grd (decide ((-9223372036854775808:Int)<=((10000*a)*r3))&&decide (((10000*a)*r3)<=(9223372036854775807:Int))) <|
  M.grd (decide ((-9223372036854775808:Int)<=(c.up-c.down))&&decide ((c.up-c.down)<=(9223372036854775807:Int))) <|
  M.grd (decide ((-9223372036854775808:Int)<=(((10000*a)*r3)*(c.up-c.down)))&&decide ((((10000*a)*r3)*(c.up-c.down))<=(9223372036854775807:Int))) <|
  M.grd (decide ((-9223372036854775808:Int)<=(s*c.roughdown))&&decide ((s*c.roughdown)<=(9223372036854775807:Int))) <|
  M.grd (decide ((-9223372036854775808:Int)<=((s*c.roughdown)*(((ab.getD (Int.toNat r_.down) default).place)-((ab.getD (Int.toNat r_.up) default).place))))&&decide (((s*c.roughdown)*(((ab.getD (Int.toNat r_.down) default).place)-((ab.getD (Int.toNat r_.up) default).place)))<=(9223372036854775807:Int))) <|
  M.grd (decide (0<=(((10000*a)*r3)*(c.up-c.down)))&&decide ((((10000*a)*r3)*(c.up-c.down))<=(9223372036854775807:Int))&&decide ((0:Int)<((s*c.roughdown)*(((ab.getD (Int.toNat r_.down) default).place)-((ab.getD (Int.toNat r_.up) default).place))))) <|
  M.bind (zcE ((((10000*a)*r3)*(c.up-c.down)) / ((s*c.roughdown)*(((ab.getD (Int.toNat r_.down) default).place)-((ab.getD (Int.toNat r_.up) default).place))))) fun r4 =>
  M.pure r4
def zaZ (ab:List Sect) (ac:List Mrk) (ae:List Rch) (r_:Rch) (c:Cas):M Int :=
  M.bind (zaa ab ac ae (⟨(r_.up:Int),(c.up:Int)⟩:Spot)) fun r2 =>
  M.bind (zaa ab ac ae (⟨(r_.down:Int),(c.down:Int)⟩:Spot)) fun r3 =>
  bif r_.narrow then (
  zaP ab ac ae r_ c r3 c.roughdown r3)
  else (
  zaP ab ac ae r_ c r3 c.roughup r2)
theorem zcR {R:List Chunk} {ac:Nat} {ax:Cells} {ak:Value} {ay:Cells} {az:Value} {aA:Cells} {aB:Value} {aq:Nat} (ab:List Sect) (ag:List Mrk) (ai:List Rch) (r_:Rch) (c:Cas) (au:Reads R ax) (am:Sl ax ak ab) (aC:Reads R ay) (aD:Sl ay az ag) (aE:Reads R aA) (aF:Sl aA aB ai) (av:Has R (cBlk ac [ak,az,aB,.map (some aq)] 177)) {r:Int} (hM:(zaZ ab ag ai r_ c).Ends r) (w:World) (H:St w w [cMemI encSpt aq (zaa ab ag ai)] R):Ret Tryz.prog 72 #[Pq ac,.agg #[I r_.up,I r_.down,I r_.lo,I r_.hi,B r_.narrow],.agg #[I c.up,I c.down,I c.roughup,I c.roughdown]] w fun v w'=>∃ (y0:Int),y0=r/\v=I y0/\St w w' [cMemI encSpt aq (zaa ab ag ai)] R:=by
 refine ret_of_W Tryz.func72 rfl rfl rfl<|W.seq<|W.region rfl ?_;refine t_bx [I r_.up,I r_.down,I r_.lo,I r_.hi,B r_.narrow] H rfl ?_;intro aj aK H;refine t_bx [I c.up,I c.down,I c.roughup,I c.roughdown] H rfl ?_;intro ae aL H;refine zA (I 0) rfl<|s_nil<|W.seq ?_;refine W.draw (fun W=>St w W [cBlk ae [I c.up,I c.down,I c.roughup,I c.roughdown] 61,cBlk aj [I r_.up,I r_.down,I r_.lo,I r_.hi,B r_.narrow] 58] R) [(0,true),(1,true),(2,true),(3,true),(4,true),(5,true),(7,true),(8,true),(9,true),(10,true),(11,true),(12,true),(6,false),(13,false),(14,true),(15,true)] mixed (by decide +kernel) rfl ?_;intro aM ao;replace H:=H.ext ao;clear ao
 refine ⟨(H.pk [0,1]),?_⟩
 refine d_q rfl (fun w' H=>x_mv (v:=Pq ac) rfl)<|d_q rfl (fun w' H=>x_fa (v:=Pq aj) rfl (fa_blk (o:=0) Fd58_0 Sz3))<|d_q rfl (fun w' H=>x_ld (v:=I r_.up) rfl (ldb_sc Sc3 (H.bl 1) rfl))<|d_q rfl (fun w' H=>x_fa (v:=Pq ae) rfl (fa_blk (o:=0) Fd61_0 Sz3))<|d_q rfl (fun w' H=>x_ld (v:=I c.up) rfl (ldb_sc Sc3 (H.bl 0) rfl))<|d_q rfl (fun w' H=>x_bld (ps:=[(0,I r_.up),(1,I c.up)]) (zs:=[I 0,I 0]) (L':=[I r_.up,I c.up]) rfl Tryz.underlying160 Al160 rfl (Bd160 Tryz.underlying160) (.cons (cs:=[I r_.up]) rfl rfl rfl rfl rfl<|.cons (cs:=[I c.up]) rfl rfl rfl rfl rfl<|.nil))<|d_q rfl (fun w' H=>x_mv (v:=Pq ac) rfl)<|d_q rfl (fun w' H=>x_fa (v:=Oq aj 1) rfl (fa_blk (o:=0) Fd58_1 Sz3))<|d_q rfl (fun w' H=>x_ld (v:=I r_.down) rfl (ldb_sc Sc3 (H.bl 1) rfl))<|d_q rfl (fun w' H=>x_fa (v:=Oq ae 1) rfl (fa_blk (o:=0) Fd61_1 Sz3)) ?_;refine d_q rfl (fun w' H=>x_ld (v:=I c.down) rfl (ldb_sc Sc3 (H.bl 0) rfl))<|d_q rfl (fun w' H=>x_bld (ps:=[(0,I r_.down),(1,I c.down)]) (zs:=[I 0,I 0]) (L':=[I r_.down,I c.down]) rfl Tryz.underlying160 Al160 rfl (Bd160 Tryz.underlying160) (.cons (cs:=[I r_.down]) rfl rfl rfl rfl rfl<|.cons (cs:=[I c.down]) rfl rfl rfl rfl rfl<|.nil))<|d_l rfl ?_;obtain ⟨aN,aG,hM⟩:=M.e_bind hM;refine s_call cf83 [Pq ac,.agg #[I r_.up,I c.up]] rfl (zdE ab ag ai (⟨(r_.up:Int),(c.up:Int)⟩:Spot) (au.app _) am (aC.app _) aD (aE.app _) aF (av.app _) aG _ ((H.pk [2,0,1]).gt 2)) ?_
 rintro vq aO ⟨r2,rfl,hvq,ap⟩
 subst vq;(try dsimp only at hM)
 replace H:=H.pk [2,0,1] |>.bk ap
 clear ap
 refine s_nil ⟨(H.pk [1,2]),?_⟩
 refine d_l rfl ?_;obtain ⟨aP,aH,hM⟩:=M.e_bind hM;refine s_call cf83 [Pq ac,.agg #[I r_.down,I c.down]] rfl (zdE ab ag ai (⟨(r_.down:Int),(c.down:Int)⟩:Spot) (au.app _) am (aC.app _) aD (aE.app _) aF (av.app _) aH _ (H.gt 2)) ?_
 rintro vq aQ ⟨r3,rfl,hvq,ap⟩
 subst vq;(try dsimp only at hM);replace H:=H.bk ap;clear ap
 refine s_nil ⟨(H.pk [1,2]),?_⟩
 refine d_q rfl (fun w' H=>x_as (v:=I r2) rfl)<|d_q rfl (fun w' H=>x_as (v:=I r3) rfl) ?_;refine d_nil ?_;refine W.seqJ (fun σ W=>∃ (s:Int) (a:Int) (ρ:Env),σ=upds ρ [(0,Pq ac),(4,Pq aj),(5,Pq ae),(7,I a),(8,I r3)]/\(zaP ab ag ai r_ c r3 s a).Ends r/\St w W [cMemI encSpt aq (zaa ab ag ai),cBlk ae [I c.up,I c.down,I s,I c.roughdown] 61,cBlk aj [I r_.up,I r_.down,I r_.lo,I r_.hi,B r_.narrow] 58] R) ?_ ?_
 ·skip
  refine W.seq<|W.region rfl<|s_val (x_fa (v:=Oq aj 4) rfl (fa_blk (o:=0) Fd58_3 Sz4))<|s_val (x_ld (v:=B r_.narrow) rfl (ldb_sc Sc4 (H.bl 2) rfl))<|s_nil ?_
  refine W.cond r_.narrow rfl (fun aw=>?_) (fun aw=>?_)
  ·replace hM:=M.e_t hM aw;refine W.draw (fun W=>St w W [cMemI encSpt aq (zaa ab ag ai),cBlk aj [I r_.up,I r_.down,I r_.lo,I r_.hi,B r_.narrow] 58] R) [(0,true),(1,true),(3,true),(2,false),(4,true),(5,false)] mixed (by decide +kernel) rfl ?_;intro aR ao;replace H:=H.ext ao;clear ao
   refine ⟨(H.pk [0,2]),?_⟩
   refine d_q rfl (fun w' H=>x_mv (v:=I r3) rfl)<|d_q rfl (fun w' H=>x_fa (v:=Oq ae 3) rfl (fa_blk (o:=0) Fd61_3 Sz3))<|d_q rfl (fun w' H=>x_as (v:=I r3) rfl)<|d_l rfl<|s_val (x_ld (v:=I c.roughdown) rfl (ldb_sc Sc3 (H.bl 1) rfl)) ?_
   refine s_nil ⟨(H.pk [0,2]),?_⟩
   refine d_q rfl (fun w' H=>x_fa (v:=Oq ae 2) rfl (fa_blk (o:=0) Fd61_2 Sz3))<|d_l rfl ?_;refine t_sw 1 2 [I c.roughdown] (I c.roughdown) H rfl rfl Sz3 rfl rfl rfl rfl ?_;intro aS H
   refine s_nil ⟨(H.pk [0,2]),?_⟩
   refine d_nil ?_
   exact ⟨c.roughdown,r3,_,upds_of _ _ ⟨rfl,rfl,rfl,rfl,rfl,trivial⟩,hM,H⟩
  replace hM:=M.e_f hM aw;refine W.skip ?_
  exact ⟨c.roughup,r2,_,upds_of _ _ ⟨rfl,rfl,rfl,rfl,rfl,trivial⟩,hM,H⟩
 rintro _ aT ⟨s,a,ρ,rfl,hM,H⟩
 unfold zaP at hM
 refine W.seq ?_;refine W.draw (fun W=>St w W [cMemI encSpt aq (zaa ab ag ai),cBlk ae [I c.up,I c.down,I s,I c.roughdown] 61,cBlk aj [I r_.up,I r_.down,I r_.lo,I r_.hi,B r_.narrow] 58] R) [(0,true),(1,true),(2,true),(3,true),(4,true),(5,true),(6,true),(7,true),(8,true),(9,true),(10,true),(11,true),(12,true),(13,true),(14,true),(15,true),(16,true),(17,true),(18,true),(19,true),(20,true),(21,true)] mixed (by decide +kernel) rfl ?_;intro aU ao;replace H:=H.ext ao;clear ao
 refine ⟨(H.pk [0,1,2]),?_⟩
 refine d_q rfl (fun w' H=>x_mv (v:=Pq ac) rfl)<|d_q rfl (fun w' H=>x_nc (a:=⟨ac,0,none⟩) rfl)<|d_q rfl (fun w' H=>x_fa (v:=Pq ac) rfl (fa_blk (o:=0) Fd177_0 Sz27))<|d_q rfl (fun w' H=>x_fa (v:=Pq ac) rfl (fa_blk (o:=0) Fd27_0 Sz23))<|d_q rfl (fun w' H=>x_ld (v:=ak) rfl (ldb_sc Sc23 (av.blk H) rfl))<|d_q rfl (fun w' H=>x_fa (v:=Oq aj 1) rfl (fa_blk (o:=0) Fd58_1 Sz3))<|d_q rfl (fun w' H=>x_ld (v:=I r_.down) rfl (ldb_sc Sc3 (H.bl 2) rfl)) ?_;obtain ⟨aV,hM⟩:=M.e_gd hM;refine d_q rfl (fun w' H=>x_ix (v:=vat ak 2 (Int.toNat r_.down)) rfl rfl (Sl.ix (α:=Sect) T23.und T23.size am (by omega) (by omega)))<|d_q rfl (fun w' H=>x_fa (v:=fat (vat ak 2 (Int.toNat r_.down)) 0) rfl (fa_pl Fd68_0 Sz3 (Sl.pl (i:=r_.down) am (by omega) (by omega))))<|d_q rfl (fun w' H=>x_ld (v:=I ((ab.getD (Int.toNat r_.down) default).place)) rfl (ld_sc Sc3 (At.mono (Sect_at0 am (i:=r_.down) (by omega) (by omega)) (au.at H))))<|d_q rfl (fun w' H=>x_mv (v:=Pq ac) rfl)<|d_q rfl (fun w' H=>x_nc (a:=⟨ac,0,none⟩) rfl)<|d_q rfl (fun w' H=>x_fa (v:=Pq ac) rfl (fa_blk (o:=0) Fd177_0 Sz27))<|d_q rfl (fun w' H=>x_fa (v:=Pq ac) rfl (fa_blk (o:=0) Fd27_0 Sz23))<|d_q rfl (fun w' H=>x_ld (v:=ak) rfl (ldb_sc Sc23 (av.blk H) rfl))<|d_q rfl (fun w' H=>x_fa (v:=Pq aj) rfl (fa_blk (o:=0) Fd58_0 Sz3))<|d_q rfl (fun w' H=>x_ld (v:=I r_.up) rfl (ldb_sc Sc3 (H.bl 2) rfl)) ?_;obtain ⟨aW,hM⟩:=M.e_gd hM;refine d_q rfl (fun w' H=>x_ix (v:=vat ak 2 (Int.toNat r_.up)) rfl rfl (Sl.ix (α:=Sect) T23.und T23.size am (by omega) (by omega)))<|d_q rfl (fun w' H=>x_fa (v:=fat (vat ak 2 (Int.toNat r_.up)) 0) rfl (fa_pl Fd68_0 Sz3 (Sl.pl (i:=r_.up) am (by omega) (by omega))))<|d_q rfl (fun w' H=>x_ld (v:=I ((ab.getD (Int.toNat r_.up) default).place)) rfl (ld_sc Sc3 (At.mono (Sect_at0 am (i:=r_.up) (by omega) (by omega)) (au.at H)))) ?_;obtain ⟨aX,hM⟩:=M.e_gd hM;refine d_q rfl (fun w' H=>x_ari (r:=((ab.getD (Int.toNat r_.down) default).place)-((ab.getD (Int.toNat r_.up) default).place)) rfl rfl rfl (by omega))<|d_q rfl (fun w' H=>x_as (v:=I (((ab.getD (Int.toNat r_.down) default).place)-((ab.getD (Int.toNat r_.up) default).place))) rfl) ?_;refine d_nil<|W.seq<|W.region rfl<|zM (I a) rfl ?_;obtain ⟨aY,hM⟩:=M.e_gd hM;refine zR 10000 a (10000*a) rfl rfl rfl (by omega)<|zM (I r3) rfl ?_;obtain ⟨aZ,hM⟩:=M.e_gd hM;refine zR (10000*a) r3 ((10000*a)*r3) rfl rfl rfl (by omega)<|s_val (x_fa (v:=Pq ae) rfl (fa_blk (o:=0) Fd61_0 Sz3))<|s_val (x_ld (v:=I c.up) rfl (ldb_sc Sc3 (H.bl 1) rfl))<|s_val (x_fa (v:=Oq ae 1) rfl (fa_blk (o:=0) Fd61_1 Sz3))<|s_val (x_ld (v:=I c.down) rfl (ldb_sc Sc3 (H.bl 1) rfl)) ?_;obtain ⟨a6,hM⟩:=M.e_gd hM;refine zR c.up c.down (c.up-c.down) rfl rfl rfl (by omega) ?_;obtain ⟨a7,hM⟩:=M.e_gd hM;refine zR ((10000*a)*r3) (c.up-c.down) (((10000*a)*r3)*(c.up-c.down)) rfl rfl rfl (by omega)<|s_val (x_fa (v:=Oq ae 2) rfl (fa_blk (o:=0) Fd61_2 Sz3))<|s_val (x_ld (v:=I s) rfl (ldb_sc Sc3 (H.bl 1) rfl))<|s_val (x_fa (v:=Oq ae 3) rfl (fa_blk (o:=0) Fd61_3 Sz3))<|s_val (x_ld (v:=I c.roughdown) rfl (ldb_sc Sc3 (H.bl 1) rfl)) ?_;obtain ⟨a8,hM⟩:=M.e_gd hM;refine zR s c.roughdown (s*c.roughdown) rfl rfl rfl (by omega)<|zM (I (((ab.getD (Int.toNat r_.down) default).place)-((ab.getD (Int.toNat r_.up) default).place))) rfl ?_;obtain ⟨ba,hM⟩:=M.e_gd hM;refine zR (s*c.roughdown) (((ab.getD (Int.toNat r_.down) default).place)-((ab.getD (Int.toNat r_.up) default).place)) ((s*c.roughdown)*(((ab.getD (Int.toNat r_.down) default).place)-((ab.getD (Int.toNat r_.up) default).place))) rfl rfl rfl (by omega) ?_;obtain ⟨bb,hM⟩:=M.e_gd hM;refine s_val (x_quo (a:=((10000*a)*r3)*(c.up-c.down)) (b:=(s*c.roughdown)*(((ab.getD (Int.toNat r_.down) default).place)-((ab.getD (Int.toNat r_.up) default).place))) rfl rfl (by omega)) ?_;obtain ⟨bc,aI,hM⟩:=M.e_bind hM;refine s_call cf108 [I ((((10000*a)*r3)*(c.up-c.down)) / ((s*c.roughdown)*(((ab.getD (Int.toNat r_.down) default).place)-((ab.getD (Int.toNat r_.up) default).place))))] rfl (zd3 ((((10000*a)*r3)*(c.up-c.down)) / ((s*c.roughdown)*(((ab.getD (Int.toNat r_.down) default).place)-((ab.getD (Int.toNat r_.up) default).place)))) aI _ (H.gt 3)) ?_
 rintro vq bf ⟨r4,rfl,hvq,ap⟩
 subst vq;(try dsimp only at hM);replace H:=H.bk ap;clear ap;refine zA (I r4) rfl<|s_nil ?_;replace H:=H.pk [0];refine W.ret ?_
 have aJ:=M.e_pure hM
 exact ⟨_,resE_tmp rfl,⟨r4,aJ,rfl,H⟩⟩

def zbu  : M Unit :=
  M.pure ()
theorem zc1 {R:List Chunk}    {r:Unit} (hM:(zbu).Ends r) (w:World) (H:St w w [] R):Ret Tryz.prog 67 #[] w fun v w'=>()=r/\v = .agg #[.func (.func 106) #[] #[]]/\St w w' [] R:=by
 refine ret_of_W Tryz.func67 rfl rfl rfl<|W.seq<|W.region rfl ?_;refine t_alloc (cs:=[.nilFunc]) H Al138 rfl ?_;intro ae ag H;refine s_nil<|W.seq<|W.region rfl<|s_val (x_bld (ps:=[(0,.func (.func 106) #[] #[])]) (zs:=[.nilFunc]) (L':=[.func (.func 106) #[] #[]]) rfl Tryz.underlying138 Al138 rfl (Bd138 Tryz.underlying138) (.cons (cs:=[.func (.func 106) #[] #[]]) rfl rfl rfl rfl rfl<|.nil)) ?_;refine t_sw 0 0 [.func (.func 106) #[] #[]] (.agg #[.func (.func 106) #[] #[]]) H rfl rfl Sz138 rfl rfl rfl rfl ?_;intro ai H;refine s_nil ?_;refine W.ret ?_
 have ab:=(H.bl 0)
 have ac:=M.e_pure hM
 exact ⟨_,(resE_of1 (v:=.agg #[.func (.func 106) #[] #[]]) rfl (.cell (v:=.agg #[.func (.func 106) #[] #[]]) rfl (run_loadVar_ag (ds:=[.func (.func 106) #[] #[]]) Ag138 Sz138 ab rfl rfl)<|.nil)),⟨ac,rfl,(H.pk [])⟩⟩

def zbi (l:List Int):(Int × Nat)->M ((Int × Nat) ⊕ Int):=fun (first2,s) =>
  bif decide ((s:Int)<(l.length:Int)) then (
  M.grd (decide ((s:Int)<(l.length:Int))) <|
  M.pure (.inl (min first2 (l.getD s 0),s+1)))
  else (
  M.pure (.inr first2))
def zay (first:Int) (l:List Int):M Int :=
  M.bind (M.iter (zbi l) (first,0)) fun first3 =>
  M.pure first3
theorem zag {R:List Chunk} {ai:Cells} {ac:Value} (first:Int) (l:List Int) (am:Reads R ai) (ae:Sl ai ac l) {r:Int} (hM:(zay first l).Ends r) (w:World) (H:St w w [] R):Ret Tryz.prog 73 #[I first,ac] w fun v w'=>∃ (y0:Int),y0=r/\v=I y0/\St w w' [] R:=by
 refine ret_of_W Tryz.func73 rfl rfl rfl<|W.seq<|W.region rfl<|zA (I 0) rfl<|s_nil<|W.seq<|W.seq<|W.region rfl<|zM ac rfl ?_
 have ax:=(ae).len_le
 refine s_val (x_lenS T28.und rfl ae)<|zM (I 0) rfl<|s_nil<|W.block ?_;obtain ⟨ao,ag,ap⟩:=M.e_bind hM
 obtain ⟨ay,ag⟩:=M.e_iter ag
 refine W.loop (fun m σ W=>∃ (first2:Int) (s:Nat) (ρ:Env),σ=upds ρ [(0,I first2),(7,ac),(8,I (l.length:Int)),(9,I (s:Int))]/\M.iterN (zbi l) m (first2,s)=some ao/\St w W [] R) ?_ ?_
 ·exact ⟨_,first,0,_,upds_of _ _ ⟨rfl,rfl,rfl,rfl,trivial⟩,ag,H⟩
 rintro az σ aA ⟨first2,s,ρ,rfl,aj,H⟩
 obtain ⟨aq,au,aB,hM,ak⟩:=M.e_iterN aj
 simp only [zbi] at hM
 clear aj;refine W.seq<|W.region rfl<|zC (s:Int) (l.length:Int) (decide ((s:Int)<(l.length:Int))) rfl rfl rfl<|s_nil<|W.seq ?_
 refine W.cond (decide ((s:Int)<(l.length:Int))) rfl (fun ab=>?_) (fun ab=>?_)
 ·replace hM:=M.e_t hM ab
  replace ab:=dI ab
  refine W.skip<|W.seq<|W.block<|W.seq<|W.region rfl ?_;obtain ⟨aC,hM⟩:=M.e_gd hM;refine s_val (x_ix (v:=vat ac 1 (Int.toNat (s:Int))) rfl rfl (Sl.ix (α:=Int) T28.und T28.size ae (by omega) (by omega)))<|s_val (x_ld (v:=I (l.getD s 0)) rfl (ld_sc Sc3 (At.mono (Int_at ae (i:=(s:Int)) (by omega) (by omega)) (am.at H))))<|zA (I (l.getD s 0)) rfl<|s_nil<|W.region rfl<|zM (I first2) rfl<|zM (I (l.getD s 0)) rfl<|s_val (x_min (kd:=.i64) (a:=first2) (b:=l.getD s 0) rfl rfl)<|zA (I (min first2 (l.getD s 0))) rfl<|s_nil ?_;refine W.region rfl<|zR (s:Int) 1 ((s:Int)+1) rfl rfl rfl (by omega)<|zM (I ((s:Int)+1)) rfl<|s_nil ?_
  exact ⟨aq,au,min first2 (l.getD s 0),s+1,_,upds_of _ _ ⟨rfl,rfl,rfl,rfl,trivial⟩,M.e_inl hM ak,H⟩
 replace hM:=M.e_f hM ab
 replace ab:=dI ab
 refine W.exit ?_
 have av:=M.e_inr hM ak
 subst av;replace hM:=ap;(try dsimp only at hM);refine W.seq<|W.region rfl<|zM (I first2) rfl<|zA (I first2) rfl<|s_nil ?_;refine W.ret ?_
 have aw:=M.e_pure hM
 exact ⟨_,resE_tmp rfl,⟨first2,aw,rfl,H⟩⟩

def zbC (ae:List Sect) (ab:List Mrk) (marks:List Int) (ac:Int):(Int × Int × Nat)->M ((Int × Int × Nat) ⊕ (Int × Int)):=fun (s2,s3,s4) =>
  bif decide ((s4:Int)<(marks.length:Int)) then (
  M.grd (decide ((s4:Int)<(marks.length:Int))) <|
  M.grd (decide ((0:Int)<=(marks.getD s4 0))&&decide ((marks.getD s4 0)<(ab.length:Int))) <|
  M.grd (decide ((0:Int)<=ac)&&decide (ac<(ae.length:Int))) <|
  bif decide (((ab.getD (Int.toNat (marks.getD s4 0)) default).place)<=((ae.getD (Int.toNat ac) default).place)) then (
  M.bind (zay s3 ([((ab.getD (Int.toNat (marks.getD s4 0)) default).hi:Int)])) fun r2 =>
  bif decide (((ae.getD (Int.toNat ac) default).place)<=((ab.getD (Int.toNat (marks.getD s4 0)) default).place)) then (
  M.pure (.inl (max s2 ((ab.getD (Int.toNat (marks.getD s4 0)) default).lo),r2,s4+1)))
  else (
  M.pure (.inl (s2,r2,s4+1))))
  else (
  bif decide (((ae.getD (Int.toNat ac) default).place)<=((ab.getD (Int.toNat (marks.getD s4 0)) default).place)) then (
  M.pure (.inl (max s2 ((ab.getD (Int.toNat (marks.getD s4 0)) default).lo),s3,s4+1)))
  else (
  M.pure (.inl (s2,s3,s4+1)))))
  else (
  M.pure (.inr (s2,s3)))
def zap (ab:List Sect) (ac:List Mrk) (ag:List Rch) (marks:List Int) (ae:Int):M (Int × Int) :=
  M.bind (M.iter (zbC ab ac marks ae) (0,2000,0)) fun (s5,s6) =>
  M.pure (s5,s6)
theorem zbF {R:List Chunk} {ae:Nat} {aG:Cells} {aj:Value} {aH:Cells} {az:Value} {aI:Cells} {aJ:Value} {aQ:Nat} {aK:Cells} {aw:Value} (ag:List Sect) (ab:List Mrk) (aL:List Rch) (marks:List Int) (ac:Int) (aE:Reads R aG) (am:Sl aG aj ag) (aR:Reads R aH) (aM:Sl aH az ab) (aZ:Reads R aI) (a6:Sl aI aJ aL) (aA:Has R (cBlk ae [aj,az,aJ,.map (some aQ)] 177)) (aS:Reads R aK) (aB:Sl aK aw marks) {r:(Int × Int)} (hM:(zap ag ab aL marks ac).Ends r) (w:World) (H:St w w [] R):Ret Tryz.prog 59 #[Pq ae,aw,I ac] w fun v w'=>∃ (y0:Int) (y1:Int),(y0,y1)=r/\v = .agg #[I y0,I y1]/\St w w' [] R:=by
 refine ret_of_W Tryz.func59 rfl rfl rfl<|W.seq<|W.region rfl ?_;refine t_alloc (cs:=[I 0,I 0]) H Al54 rfl ?_;intro ax a7 H;refine s_nil<|W.seq<|W.region rfl<|s_val (x_bld (ps:=[(1,I 2000)]) (zs:=[I 0,I 0]) (L':=[I 0,I 2000]) rfl Tryz.underlying54 Al54 rfl (Bd54 Tryz.underlying54) (.cons (cs:=[I 2000]) rfl rfl rfl rfl rfl<|.nil)) ?_;refine t_alloc (cs:=[I 0,I 0]) H Al54 rfl ?_;intro ak a8 H;refine t_sw 0 0 [I 0,I 2000] (.agg #[I 0,I 2000]) H rfl rfl Sz54 rfl rfl rfl rfl ?_;intro ba H;refine s_nil<|W.seq<|W.seq<|W.region rfl<|zM aw rfl ?_
 have bb:=(aB).len_le
 refine s_val (x_lenS T28.und rfl aB)<|zM (I 0) rfl<|s_nil<|W.block ?_;obtain ⟨aT,aF,aU⟩:=M.e_bind hM
 obtain ⟨bc,aF⟩:=M.e_iter aF
 refine W.loop (fun m σ W=>∃ (s2:Int) (s3:Int) (s4:Nat) (ρ:Env),σ=upds ρ [(0,Pq ae),(2,I ac),(6,Pq ax),(7,Pq ak),(12,aw),(13,I (marks.length:Int)),(14,I (s4:Int))]/\M.iterN (zbC ag ab marks ac) m (s2,s3,s4)=some aT/\St w W [cBlk ak [I s2,I s3] 54,cBlk ax [I 0,I 0] 54] R) ?_ ?_
 ·exact ⟨_,0,2000,0,_,upds_of _ _ ⟨rfl,rfl,rfl,rfl,rfl,rfl,rfl,trivial⟩,aF,H⟩
 rintro bf σ bg ⟨s2,s3,s4,ρ,rfl,aN,H⟩
 obtain ⟨aC,aD,bh,hM,ay⟩:=M.e_iterN aN
 simp only [zbC] at hM
 clear aN;refine W.seq<|W.region rfl<|zC (s4:Int) (marks.length:Int) (decide ((s4:Int)<(marks.length:Int))) rfl rfl rfl<|s_nil<|W.seq ?_
 refine W.cond (decide ((s4:Int)<(marks.length:Int))) rfl (fun ap=>?_) (fun ap=>?_)
 ·replace hM:=M.e_t hM ap
  replace ap:=dI ap
  refine W.skip<|W.seq<|W.block<|W.seq<|W.region rfl ?_;obtain ⟨bi,hM⟩:=M.e_gd hM;refine s_val (x_ix (v:=vat aw 1 (Int.toNat (s4:Int))) rfl rfl (Sl.ix (α:=Int) T28.und T28.size aB (by omega) (by omega)))<|s_val (x_ld (v:=I (marks.getD s4 0)) rfl (ld_sc Sc3 (At.mono (Int_at aB (i:=(s4:Int)) (by omega) (by omega)) (aS.at H))))<|zA (I (marks.getD s4 0)) rfl<|s_nil<|W.seq<|W.region rfl<|zM (Pq ae) rfl<|s_val (x_nc (a:=⟨ae,0,none⟩) rfl)<|s_val (x_fa (v:=Pq ae) rfl (fa_blk (o:=0) Fd177_0 Sz27))<|s_val (x_fa (v:=Oq ae 1) rfl (fa_blk (o:=0) Fd27_1 Sz24)) ?_;refine s_val (x_ld (v:=az) rfl (ldb_sc Sc24 (aA.blk H) rfl))<|zM (I (marks.getD s4 0)) rfl ?_;obtain ⟨bj,hM⟩:=M.e_gd hM;refine s_val (x_ix (v:=vat az 3 (Int.toNat (marks.getD s4 0))) rfl rfl (Sl.ix (α:=Mrk) T24.und T24.size aM (by omega) (by omega)))<|s_val (x_ld (v:=.agg #[I ((ab.getD (Int.toNat (marks.getD s4 0)) default).place),I ((ab.getD (Int.toNat (marks.getD s4 0)) default).lo),I ((ab.getD (Int.toNat (marks.getD s4 0)) default).hi)]) rfl (ld_ag Ag70 Sz70 (At.mono (Mrk_atA aM (i:=marks.getD s4 0) (by omega) (by omega)) (aR.at H)))) ?_;refine t_alloc (cs:=[I 0,I 0,I 0]) H Al70 rfl ?_;intro ai bm H;refine t_sw 0 0 [I ((ab.getD (Int.toNat (marks.getD s4 0)) default).place),I ((ab.getD (Int.toNat (marks.getD s4 0)) default).lo),I ((ab.getD (Int.toNat (marks.getD s4 0)) default).hi)] (.agg #[I ((ab.getD (Int.toNat (marks.getD s4 0)) default).place),I ((ab.getD (Int.toNat (marks.getD s4 0)) default).lo),I ((ab.getD (Int.toNat (marks.getD s4 0)) default).hi)]) H rfl rfl Sz70 rfl rfl rfl rfl ?_;intro bn H;refine s_nil<|W.seq<|W.seq ?_;refine W.draw (fun W=>St w W [cBlk ai [I ((ab.getD (Int.toNat (marks.getD s4 0)) default).place),I ((ab.getD (Int.toNat (marks.getD s4 0)) default).lo),I ((ab.getD (Int.toNat (marks.getD s4 0)) default).hi)] 70,cBlk ak [I s2,I s3] 54,cBlk ax [I 0,I 0] 54] R) [(0,true),(1,true),(2,true),(3,true),(4,true),(5,true),(6,true),(7,true),(8,true),(9,true),(10,true),(11,true)] mixed (by decide +kernel) rfl ?_;intro bo ao;replace H:=H.ext ao;clear ao
  refine ⟨(H.pk [0,1,2]),?_⟩
  refine d_q rfl (fun w' H=>x_fa (v:=Pq ai) rfl (fa_blk (o:=0) Fd70_0 Sz3))<|d_q rfl (fun w' H=>x_ld (v:=I ((ab.getD (Int.toNat (marks.getD s4 0)) default).place)) rfl (ldb_sc Sc3 (H.bl 0) rfl))<|d_q rfl (fun w' H=>x_mv (v:=Pq ae) rfl)<|d_q rfl (fun w' H=>x_nc (a:=⟨ae,0,none⟩) rfl)<|d_q rfl (fun w' H=>x_fa (v:=Pq ae) rfl (fa_blk (o:=0) Fd177_0 Sz27))<|d_q rfl (fun w' H=>x_fa (v:=Pq ae) rfl (fa_blk (o:=0) Fd27_0 Sz23))<|d_q rfl (fun w' H=>x_ld (v:=aj) rfl (ldb_sc Sc23 (aA.blk H) rfl))<|d_q rfl (fun w' H=>x_mv (v:=I ac) rfl) ?_;obtain ⟨bp,hM⟩:=M.e_gd hM;refine d_q rfl (fun w' H=>x_ix (v:=vat aj 2 (Int.toNat ac)) rfl rfl (Sl.ix (α:=Sect) T23.und T23.size am (by omega) (by omega)))<|d_q rfl (fun w' H=>x_fa (v:=fat (vat aj 2 (Int.toNat ac)) 0) rfl (fa_pl Fd68_0 Sz3 (Sl.pl (i:=ac) am (by omega) (by omega))))<|d_q rfl (fun w' H=>x_ld (v:=I ((ag.getD (Int.toNat ac) default).place)) rfl (ld_sc Sc3 (At.mono (Sect_at0 am (i:=ac) (by omega) (by omega)) (aE.at H))))<|d_q rfl (fun w' H=>x_cmp (kd:=.i64) (r:=decide (((ab.getD (Int.toNat (marks.getD s4 0)) default).place)<=((ag.getD (Int.toNat ac) default).place))) rfl rfl rfl) ?_;refine d_nil ?_
  refine W.cond (decide (((ab.getD (Int.toNat (marks.getD s4 0)) default).place)<=((ag.getD (Int.toNat ac) default).place))) rfl (fun aq=>?_) (fun aq=>?_)
  ·replace hM:=M.e_t hM aq
   replace aq:=dI aq
   refine W.region rfl<|s_val (x_fa (v:=Oq ak 1) rfl (fa_blk (o:=0) Fd54_1 Sz3))<|s_val (x_ld (v:=I s3) rfl (ldb_sc Sc3 (H.bl 1) rfl))<|s_val (x_fa (v:=Oq ai 1) rfl (fa_blk (o:=0) Fd70_1 Sz54))<|s_val (x_fa (v:=Oq ai 2) rfl (fa_blk (o:=1) Fd54_1 Sz3))<|s_val (x_ld (v:=I ((ab.getD (Int.toNat (marks.getD s4 0)) default).hi)) rfl (ldb_sc Sc3 (H.bl 0) rfl)) ?_;refine t_bs (α:=Int) T28 [I ((ab.getD (Int.toNat (marks.getD s4 0)) default).hi)] [((ab.getD (Int.toNat (marks.getD s4 0)) default).hi:Int)] H rfl (.cons rfl (Flat.rep_enc _ ((ab.getD (Int.toNat (marks.getD s4 0)) default).hi:Int))<|.nil) rfl rfl rfl ?_;intro aO bq H;obtain ⟨br,aV,hM⟩:=M.e_bind hM;refine s_call cf73 [I s3,aO] rfl (zag s3 ([((ab.getD (Int.toNat (marks.getD s4 0)) default).hi:Int)]) (rdo 0) (H.os 0) aV _ (H.gt 4)) ?_
   rintro vq bt ⟨r2,rfl,hvq,aP⟩
   subst vq;(try dsimp only at hM);replace H:=H.bk aP;clear aP;refine s_val (x_fa (v:=Oq ak 1) rfl (fa_blk (o:=0) Fd54_1 Sz3)) ?_;refine t_sw 2 1 [I r2] (I r2) H rfl rfl Sz3 rfl rfl rfl rfl ?_;intro bu H;refine s_nil<|W.seq ?_;refine W.draw (fun W=>St w W [cOwn (α:=Int) 3 aO ([((ab.getD (Int.toNat (marks.getD s4 0)) default).hi:Int)]),cBlk ai [I ((ab.getD (Int.toNat (marks.getD s4 0)) default).place),I ((ab.getD (Int.toNat (marks.getD s4 0)) default).lo),I ((ab.getD (Int.toNat (marks.getD s4 0)) default).hi)] 70,cBlk ak [I s2,I r2] 54,cBlk ax [I 0,I 0] 54] R) [(0,true),(1,true),(2,true),(3,true),(4,true),(5,true),(6,true),(7,true),(8,true),(9,true),(10,true),(11,true)] mixed (by decide +kernel) rfl ?_;intro bv ao;replace H:=H.ext ao;clear ao
   refine ⟨(H.pk [0,1,2,3]),?_⟩
   refine d_q rfl (fun w' H=>x_fa (v:=Pq ai) rfl (fa_blk (o:=0) Fd70_0 Sz3))<|d_q rfl (fun w' H=>x_ld (v:=I ((ab.getD (Int.toNat (marks.getD s4 0)) default).place)) rfl (ldb_sc Sc3 (H.bl 1) rfl))<|d_q rfl (fun w' H=>x_mv (v:=Pq ae) rfl)<|d_q rfl (fun w' H=>x_nc (a:=⟨ae,0,none⟩) rfl)<|d_q rfl (fun w' H=>x_fa (v:=Pq ae) rfl (fa_blk (o:=0) Fd177_0 Sz27))<|d_q rfl (fun w' H=>x_fa (v:=Pq ae) rfl (fa_blk (o:=0) Fd27_0 Sz23))<|d_q rfl (fun w' H=>x_ld (v:=aj) rfl (ldb_sc Sc23 (aA.blk H) rfl))<|d_q rfl (fun w' H=>x_mv (v:=I ac) rfl)<|d_q rfl (fun w' H=>x_ix (v:=vat aj 2 (Int.toNat ac)) rfl rfl (Sl.ix (α:=Sect) T23.und T23.size am (by omega) (by omega)))<|d_q rfl (fun w' H=>x_fa (v:=fat (vat aj 2 (Int.toNat ac)) 0) rfl (fa_pl Fd68_0 Sz3 (Sl.pl (i:=ac) am (by omega) (by omega)))) ?_;refine d_q rfl (fun w' H=>x_ld (v:=I ((ag.getD (Int.toNat ac) default).place)) rfl (ld_sc Sc3 (At.mono (Sect_at0 am (i:=ac) (by omega) (by omega)) (aE.at H))))<|d_q rfl (fun w' H=>x_cmp (kd:=.i64) (r:=decide (((ag.getD (Int.toNat ac) default).place)<=((ab.getD (Int.toNat (marks.getD s4 0)) default).place))) rfl rfl rfl) ?_;refine d_nil ?_
   refine W.cond (decide (((ag.getD (Int.toNat ac) default).place)<=((ab.getD (Int.toNat (marks.getD s4 0)) default).place))) rfl (fun au=>?_) (fun au=>?_)
   ·replace hM:=M.e_t hM au
    replace au:=dI au
    refine W.region rfl<|s_val (x_fa (v:=Pq ak) rfl (fa_blk (o:=0) Fd54_0 Sz3))<|s_val (x_ld (v:=I s2) rfl (ldb_sc Sc3 (H.bl 2) rfl))<|s_val (x_fa (v:=Oq ai 1) rfl (fa_blk (o:=0) Fd70_1 Sz54))<|s_val (x_fa (v:=Oq ai 1) rfl (fa_blk (o:=1) Fd54_0 Sz3))<|s_val (x_ld (v:=I ((ab.getD (Int.toNat (marks.getD s4 0)) default).lo)) rfl (ldb_sc Sc3 (H.bl 1) rfl))<|s_val (x_max (kd:=.i64) (a:=s2) (b:=(ab.getD (Int.toNat (marks.getD s4 0)) default).lo) rfl rfl)<|s_val (x_fa (v:=Pq ak) rfl (fa_blk (o:=0) Fd54_0 Sz3)) ?_;refine t_sw 2 0 [I (max s2 ((ab.getD (Int.toNat (marks.getD s4 0)) default).lo))] (I (max s2 ((ab.getD (Int.toNat (marks.getD s4 0)) default).lo))) H rfl rfl Sz3 rfl rfl rfl rfl ?_;intro bw H;refine s_nil ?_;replace H:=H.pk [2,3];refine W.region rfl<|zR (s4:Int) 1 ((s4:Int)+1) rfl rfl rfl (by omega)<|zM (I ((s4:Int)+1)) rfl<|s_nil ?_
    exact ⟨aC,aD,max s2 ((ab.getD (Int.toNat (marks.getD s4 0)) default).lo),r2,s4+1,_,upds_of _ _ ⟨rfl,rfl,rfl,rfl,rfl,rfl,rfl,trivial⟩,M.e_inl hM ay,H⟩
   replace hM:=M.e_f hM au
   replace au:=dI au
   refine W.skip ?_;replace H:=H.pk [2,3];refine W.region rfl<|zR (s4:Int) 1 ((s4:Int)+1) rfl rfl rfl (by omega)<|zM (I ((s4:Int)+1)) rfl<|s_nil ?_
   exact ⟨aC,aD,s2,r2,s4+1,_,upds_of _ _ ⟨rfl,rfl,rfl,rfl,rfl,rfl,rfl,trivial⟩,M.e_inl hM ay,H⟩
  replace hM:=M.e_f hM aq
  replace aq:=dI aq
  refine W.skip<|W.seq ?_;refine W.draw (fun W=>St w W [cBlk ai [I ((ab.getD (Int.toNat (marks.getD s4 0)) default).place),I ((ab.getD (Int.toNat (marks.getD s4 0)) default).lo),I ((ab.getD (Int.toNat (marks.getD s4 0)) default).hi)] 70,cBlk ak [I s2,I s3] 54,cBlk ax [I 0,I 0] 54] R) [(0,true),(1,true),(2,true),(3,true),(4,true),(5,true),(6,true),(7,true),(8,true),(9,true),(10,true),(11,true)] mixed (by decide +kernel) rfl ?_;intro bx ao;replace H:=H.ext ao;clear ao
  refine ⟨(H.pk [0,1,2]),?_⟩
  refine d_q rfl (fun w' H=>x_fa (v:=Pq ai) rfl (fa_blk (o:=0) Fd70_0 Sz3))<|d_q rfl (fun w' H=>x_ld (v:=I ((ab.getD (Int.toNat (marks.getD s4 0)) default).place)) rfl (ldb_sc Sc3 (H.bl 0) rfl))<|d_q rfl (fun w' H=>x_mv (v:=Pq ae) rfl)<|d_q rfl (fun w' H=>x_nc (a:=⟨ae,0,none⟩) rfl)<|d_q rfl (fun w' H=>x_fa (v:=Pq ae) rfl (fa_blk (o:=0) Fd177_0 Sz27))<|d_q rfl (fun w' H=>x_fa (v:=Pq ae) rfl (fa_blk (o:=0) Fd27_0 Sz23))<|d_q rfl (fun w' H=>x_ld (v:=aj) rfl (ldb_sc Sc23 (aA.blk H) rfl))<|d_q rfl (fun w' H=>x_mv (v:=I ac) rfl)<|d_q rfl (fun w' H=>x_ix (v:=vat aj 2 (Int.toNat ac)) rfl rfl (Sl.ix (α:=Sect) T23.und T23.size am (by omega) (by omega)))<|d_q rfl (fun w' H=>x_fa (v:=fat (vat aj 2 (Int.toNat ac)) 0) rfl (fa_pl Fd68_0 Sz3 (Sl.pl (i:=ac) am (by omega) (by omega)))) ?_;refine d_q rfl (fun w' H=>x_ld (v:=I ((ag.getD (Int.toNat ac) default).place)) rfl (ld_sc Sc3 (At.mono (Sect_at0 am (i:=ac) (by omega) (by omega)) (aE.at H))))<|d_q rfl (fun w' H=>x_cmp (kd:=.i64) (r:=decide (((ag.getD (Int.toNat ac) default).place)<=((ab.getD (Int.toNat (marks.getD s4 0)) default).place))) rfl rfl rfl) ?_;refine d_nil ?_
  refine W.cond (decide (((ag.getD (Int.toNat ac) default).place)<=((ab.getD (Int.toNat (marks.getD s4 0)) default).place))) rfl (fun av=>?_) (fun av=>?_)
  ·replace hM:=M.e_t hM av
   replace av:=dI av
   refine W.region rfl<|s_val (x_fa (v:=Pq ak) rfl (fa_blk (o:=0) Fd54_0 Sz3))<|s_val (x_ld (v:=I s2) rfl (ldb_sc Sc3 (H.bl 1) rfl))<|s_val (x_fa (v:=Oq ai 1) rfl (fa_blk (o:=0) Fd70_1 Sz54))<|s_val (x_fa (v:=Oq ai 1) rfl (fa_blk (o:=1) Fd54_0 Sz3))<|s_val (x_ld (v:=I ((ab.getD (Int.toNat (marks.getD s4 0)) default).lo)) rfl (ldb_sc Sc3 (H.bl 0) rfl))<|s_val (x_max (kd:=.i64) (a:=s2) (b:=(ab.getD (Int.toNat (marks.getD s4 0)) default).lo) rfl rfl)<|s_val (x_fa (v:=Pq ak) rfl (fa_blk (o:=0) Fd54_0 Sz3)) ?_;refine t_sw 1 0 [I (max s2 ((ab.getD (Int.toNat (marks.getD s4 0)) default).lo))] (I (max s2 ((ab.getD (Int.toNat (marks.getD s4 0)) default).lo))) H rfl rfl Sz3 rfl rfl rfl rfl ?_;intro bz H;refine s_nil<|W.region rfl<|zR (s4:Int) 1 ((s4:Int)+1) rfl rfl rfl (by omega)<|zM (I ((s4:Int)+1)) rfl<|s_nil ?_
   exact ⟨aC,aD,max s2 ((ab.getD (Int.toNat (marks.getD s4 0)) default).lo),s3,s4+1,_,upds_of _ _ ⟨rfl,rfl,rfl,rfl,rfl,rfl,rfl,trivial⟩,M.e_inl hM ay,(H.pk [1,2])⟩
  replace hM:=M.e_f hM av
  replace av:=dI av
  refine W.skip<|W.region rfl<|zR (s4:Int) 1 ((s4:Int)+1) rfl rfl rfl (by omega)<|zM (I ((s4:Int)+1)) rfl<|s_nil ?_
  exact ⟨aC,aD,s2,s3,s4+1,_,upds_of _ _ ⟨rfl,rfl,rfl,rfl,rfl,rfl,rfl,trivial⟩,M.e_inl hM ay,(H.pk [1,2])⟩
 replace hM:=M.e_f hM ap
 replace ap:=dI ap
 refine W.exit ?_
 have aW:=M.e_inr hM ay
 subst aW;replace hM:=aU;(try dsimp only at hM);refine W.seq<|W.region rfl<|s_val (x_ld (v:=.agg #[I s2,I s3]) rfl (ldb_ag (ds:=[I s2,I s3]) Ag54 Sz54 (H.bl 0) rfl rfl)) ?_;refine t_sw 1 0 [I s2,I s3] (.agg #[I s2,I s3]) H rfl rfl Sz54 rfl rfl rfl rfl ?_;intro bA H;refine s_nil ?_;refine W.ret ?_
 have aX:=(H.bl 1)
 have aY:=M.e_pure hM
 exact ⟨_,(resE_of1 (v:=.agg #[I s2,I s3]) rfl (.cell (v:=.agg #[I s2,I s3]) rfl (run_loadVar_ag (ds:=[I s2,I s3]) Ag54 Sz54 aX rfl rfl)<|.nil)),⟨s2,s3,aY,rfl,(H.pk [])⟩⟩

def zbg (a b:Int):M Bool :=
  M.pure (decide (a<b))
theorem zdv {R:List Chunk}  (a:Int) (b:Int)  {r:Bool} (hM:(zbg a b).Ends r) (w:World) (H:St w w [] R):Ret Tryz.prog 106 #[I a,I b] w fun v w'=>∃ (y0:Bool),y0=r/\v=B y0/\St w w' [] R:=by
 refine ret_of_W Tryz.func106 rfl rfl rfl<|W.seq<|W.region rfl<|zA (B false) rfl<|s_nil<|W.seq<|W.region rfl<|zM (I a) rfl<|zM (I b) rfl<|zC a b (decide (a<b)) rfl rfl rfl<|zA (B (decide (a<b))) rfl ?_;refine s_nil ?_;refine W.ret ?_
 have ab:=M.e_pure hM
 exact ⟨_,resE_tmp rfl,⟨(decide (a<b)),ab,rfl,H⟩⟩

def zau (s:Span):M (Int × Int) :=
  M.pure (s.lo,s.hi)
theorem zcV {R:List Chunk}  (s:Span)  {r:(Int × Int)} (hM:(zau s).Ends r) (w:World) (H:St w w [] R):Ret Tryz.prog 95 #[.agg #[I s.lo,I s.hi]] w fun v w'=>∃ (y0:Int) (y1:Int) (ac:Nat),(y0,y1)=r/\v = .func (.func 119) #[] #[Pq ac]/\St w w' [cBlk ac [I y0,I y1] 54] R:=by
 refine ret_of_W Tryz.func95 rfl rfl rfl<|W.seq<|W.region rfl ?_;refine t_bx [I s.lo,I s.hi] H rfl ?_;intro ab ag H;refine zA .nilFunc rfl<|s_nil<|W.seq<|W.region rfl<|s_val (x_mf (fs:=[]) (cs:=[Pq ab]) rfl rfl)<|zA (.func (.func 119) #[] #[Pq ab]) rfl<|s_nil ?_;refine W.ret ?_
 have ae:=M.e_pure hM
 exact ⟨_,resE_tmp rfl,⟨s.lo,s.hi,ab,ae,rfl,H⟩⟩

def za5 {T_:Type} (ab:T_->Int->M (Bool × T_)) (ac:Int):(Int × T_)->M ((Int × T_) ⊕ (T_ ⊕ T_)):=fun (n,t2) =>
  bif decide (n<=ac) then (
  M.bind (ab t2 n) fun (go,t) =>
  bif !go then (
  M.pure (.inr (.inl t)))
  else (
  M.grd (decide ((-9223372036854775808:Int)<=(n+1))&&decide ((n+1)<=(9223372036854775807:Int))) <|
  M.pure (.inl (n+1,t))))
  else (
  M.pure (.inr (.inr t2)))
def zak {T_:Type} (ab:T_->Int->M (Bool × T_)) (t_:T_) (ac ae:Int):M T_ :=
  M.bind (M.iter (za5 ab ae) (ac,t_)) fun x_=>match x_ with
  | (.inl t3)=>(
  M.pure t3)
  | (.inr t4)=>(
  M.pure t4)
theorem zc0 {R:List Chunk} {T_:Type} {Y_:T_->List Chunk->Prop} {ai:Value} {aj:List Chunk} {ae:Nat} (ak:T_->Int->M (Bool × T_)) (t_:T_) (ag:Int) (ab:Int) (az:YieldC Tryz.prog R arI Y_ ai ak) (aA:Y_ t_ aj) (au:Has R (cBlk ae [I ag,I ab] 54)) {r:T_} (hM:(zak ak t_ ag ab).Ends r) (w:World) (H:St w w [cAll aj] R):Ret Tryz.prog 119 #[ai,Pq ae] w fun v w'=>∃ (y0:T_) (Ls0:List Chunk),y0=r/\v = .tuple #[]/\St w w' [cAll Ls0] R/\Y_ y0 Ls0:=by
 refine ret_of_W Tryz.func119 rfl rfl rfl<|W.seq<|W.region rfl<|s_val (x_fa (v:=Pq ae) rfl (fa_blk (o:=0) Fd54_0 Sz3))<|s_val (x_ld (v:=I ag) rfl (ldb_sc Sc3 (au.blk H) rfl))<|zA (I ag) rfl<|s_nil<|W.block ?_;obtain ⟨aB,am,av⟩:=M.e_bind hM
 obtain ⟨aH,am⟩:=M.e_iter am
 refine W.loop (fun m σ W=>∃ (n:Int) (t2:T_) (Ls_t2:List Chunk) (ρ:Env),σ=upds ρ [(0,ai),(1,Pq ae),(3,I n)]/\M.iterN (za5 ak ab) m (n,t2)=some aB/\St w W [cAll Ls_t2] R/\Y_ t2 Ls_t2) ?_ ?_
 ·exact ⟨_,ag,t_,aj,_,upds_of _ _ ⟨rfl,rfl,rfl,trivial⟩,am,H,aA⟩
 rintro aI σ aJ ⟨n,t2,Ls_t2,ρ,rfl,aw,H,hY_t2⟩
 obtain ⟨aC,aD,aK,hM,ao⟩:=M.e_iterN aw
 simp only [za5] at hM
 clear aw;refine W.seq<|W.seq<|W.region rfl<|zM (I n) rfl<|s_val (x_fa (v:=Oq ae 1) rfl (fa_blk (o:=0) Fd54_1 Sz3))<|s_val (x_ld (v:=I ab) rfl (ldb_sc Sc3 (au.blk H) rfl))<|zC n ab (decide (n<=ab)) rfl rfl rfl<|s_nil ?_
 refine W.cond (decide (n<=ab)) rfl (fun ac=>?_) (fun ac=>?_)
 ·replace hM:=M.e_t hM ac
  replace ac:=dI ac
  refine W.skip<|W.seq<|W.block<|W.seq<|W.region rfl<|zM ai rfl<|zM (I n) rfl ?_
  obtain ⟨⟨go,t⟩,aE,hM⟩:=M.e_bind hM
  (try dsimp only at hM);refine t_yield (L:=[]) H az hY_t2 rfl [I n] rfl n Reads.none rfl aE ?_;intro ax aL ay H;replace H:=H.nf;refine s_val (x_not (b:=go) rfl)<|s_nil ?_
  refine W.cond (!go) rfl (fun ap=>?_) (fun ap=>?_)
  ·replace hM:=M.e_t hM ap;refine W.ret ?_
   have aF:=M.e_inr hM ao
   subst aF;replace hM:=av;(try dsimp only at hM)
   have aq:=M.e_pure hM
   exact ⟨_,resE_tmp0 rfl,⟨t,ax,aq,rfl,H,ay⟩⟩
  replace hM:=M.e_f hM ap;refine W.skip<|W.region rfl<|zM (I n) rfl ?_;obtain ⟨aM,hM⟩:=M.e_gd hM;refine zR n 1 (n+1) rfl rfl rfl (by omega)<|zA (I (n+1)) rfl<|s_nil ?_
  exact ⟨aC,aD,n+1,t,ax,_,upds_of _ _ ⟨rfl,rfl,rfl,trivial⟩,M.e_inl hM ao,H,ay⟩
 replace hM:=M.e_f hM ac
 replace ac:=dI ac
 refine W.exit ?_
 have aG:=M.e_inr hM ao
 subst aG;replace hM:=av;(try dsimp only at hM)
 have aq:=M.e_pure hM
 exact ⟨_,resE_tmp0 rfl,⟨t2,Ls_t2,aq,rfl,H,hY_t2⟩⟩
theorem zdZ {T_:Type} {n_:Nat} {y y':T_->Int->M (Bool × T_)} (h:∀ s a,M.LeN n_ (y s a) (y' s a)) (t_:T_) (ab ac:Int):M.LeN n_ (zak y t_ ab ac) (zak y' t_ ab ac):=by
  simp only [zak,za5]
  repeat' (first | exact M.le_same _ _ | exact h _ _ | refine M.le_grd ?_ | refine M.le_if ?_ ?_ | refine M.le_bind ?_ (fun x=>?_) | refine M.le_opt ?_ | refine M.le_iter (fun x=>?_) _ | (rename_i x; cases x) | (rename_i x; obtain ⟨_,_⟩:=x))

end Go.Proofs.YtlemgioaakecpaaGreat
end
section
set_option maxRecDepth 100000
set_option maxHeartbeats 16000000
namespace Go.Proofs.YtlemgioaakecpaaGreat
open Go Go.Nm
def zaE (ab:List Sect) (ac:List Mrk) (ae:List Rch) (r_:Rch) (r0:Int) (r2:Bool):(Int × Int × Int × Int × Int)->Int->M ((Int × Int × Int × Int × Int) ⊕ Unit):=fun (s,s2,s3,s4,s5) x =>
  bif r2 then (
  M.fail)
  else (
  M.bind (zaZ ab ac ae r_ (⟨(max r0 x:Int),(x:Int),(r_.hi:Int),(r_.hi:Int)⟩:Cas)) fun r4 =>
  M.bind (M.opt (!(decide ((⟨(s2:Int),(s3:Int),(s4:Int),(s5:Int)⟩:Cas)=(⟨(0:Int),(0:Int),(0:Int),(0:Int)⟩:Cas)))) (zbg r4 s) false) fun r5 =>
  bif ((decide ((⟨(s2:Int),(s3:Int),(s4:Int),(s5:Int)⟩:Cas)=(⟨(0:Int),(0:Int),(0:Int),(0:Int)⟩:Cas)))||r5) then (
  M.pure (.inl (r4,max r0 x,x,r_.hi,r_.hi)))
  else (
  M.pure (.inl (s,s2,s3,s4,s5))))
def zaS (ab:List Sect) (ac:List Mrk) (ae:List Rch) (marks:List Int) (r_:Rch):M (Int × Int × Int × Int × Int) :=
  M.bind (zap ab ac ae marks r_.up) fun (r0,r1) =>
  M.bind (zap ab ac ae marks r_.down) fun (ag,ai) =>
  M.bind (zbg 1 0) fun r2 =>
  bif !r2 then (
  M.bind (zay ai ([(r1:Int)])) fun r3 =>
  M.bind (zau (⟨(ag:Int),(r3:Int)⟩:Span)) fun (aj,ak) =>
  M.bind (zak (M.yl (zaE ab ac ae r_ r0 r2)) (.inl (0,0,0,0,0)) aj ak) fun x_=>match x_ with
  | .inl (s,s2,s3,s4,s5)=>(
  M.pure (s2,s3,s4,s5,s))
  | .inr _=>M.fail)
  else (
  M.fail)
theorem zcb {R:List Chunk} {ag:Nat} {a6:Cells} {a7:Value} {a8:Cells} {ba:Value} {bb:Cells} {bc:Value} {ai:Nat} {bf:Cells} {aC:Value} (ab:List Sect) (ac:List Mrk) (ae:List Rch) (marks:List Int) (r_:Rch) (aG:Reads R a6) (aM:Sl a6 a7 ab) (aH:Reads R a8) (aN:Sl a8 ba ac) (aI:Reads R bb) (aO:Sl bb bc ae) (aJ:Has R (cBlk ag [a7,ba,bc,.map (some ai)] 177)) (aP:Reads R bf) (aT:Sl bf aC marks) {r:(Int × Int × Int × Int × Int)} (hM:(zaS ab ac ae marks r_).Ends r) (w:World) (H:St w w [cMemI encSpt ai (zaa ab ac ae)] R):Ret Tryz.prog 69 #[Pq ag,aC,.agg #[I r_.up,I r_.down,I r_.lo,I r_.hi,B r_.narrow],.agg #[.func (.func 106) #[] #[]]] w fun v w'=>∃ (y0:Int) (y1:Int) (y2:Int) (y3:Int) (y4:Int),(y0,y1,y2,y3,y4)=r/\v = .tuple #[.agg #[I y0,I y1,I y2,I y3],I y4]/\St w w' [cMemI encSpt ai (zaa ab ac ae)] R:=by
 refine ret_of_WD Tryz.func69 rfl rfl rfl ?_
 replace H:St w w [cMk ([]),cMemI encSpt ai (zaa ab ac ae)] R:=H.mk0
 have bI:=aM.len_le
 have bJ:=aN.len_le
 have bK:=aO.len_le
 have bL:=aT.len_le
 unfold zaS at hM
 refine WD.seq<|WD.of<|W.region rfl ?_;refine t_b1 (Pq ag) H rfl rfl ?_;intro ao bM H;refine t_bx [I r_.up,I r_.down,I r_.lo,I r_.hi,B r_.narrow] H rfl ?_;intro ak bN H;refine t_bx [.func (.func 106) #[] #[]] H rfl ?_;intro am bO H;refine t_alloc (cs:=[I 0,I 0,I 0,I 0]) H Al61 rfl ?_;intro ap bP H;refine zA (I 0) rfl<|s_nil<|WD.seq<|WD.of ?_;refine W.drawA (fun W=>St w W [cBlk ap [I 0,I 0,I 0,I 0] 61,cBlk am [.func (.func 106) #[] #[]] 138,cBlk ak [I r_.up,I r_.down,I r_.lo,I r_.hi,B r_.narrow] 58,cBlk ao [Pq ag] 112,cMk ([]),cMemI encSpt ai (zaa ab ac ae)] R) [(0,true),(1,true),(2,true),(3,true),(5,true),(6,true),(7,true),(8,true),(4,false),(9,false)] [(10,10,54,[I 0,I 0]),(11,11,54,[I 0,I 0])] (.l 12 (.l 13 .nil)) 2 mixed (by decide +kernel) rfl (by intro x hx; simp only [List.mem_cons,List.not_mem_nil,or_false] at hx; rcases hx with rfl | rfl <;> first | exact ⟨_,_,_,rfl,_,Al54,rfl⟩) (by decide) (by decide) H ?_;refine sa_q (fun aj w_ H=>(St.pick H [0,1,2,3,4,5] (by decide) rfl)) rfl rfl (fun g_ w' H=>x_ld (v:=Pq ag) rfl (ldb_sc Sc112 (H.bl 3) rfl)) ?_;refine sa_q (fun aj w_ H=>(St.pick H [0,1,2,3,4,5] (by decide) rfl)) rfl rfl (fun g_ w' H=>x_mv (v:=aC) rfl) ?_;refine sa_q (fun aj w_ H=>(St.pick H [0,1,2,3,4,5] (by decide) rfl)) rfl rfl (fun g_ w' H=>x_fa (v:=Pq ak) rfl (fa_blk (o:=0) Fd58_0 Sz3)) ?_;refine sa_q (fun aj w_ H=>(St.pick H [0,1,2,3,4,5] (by decide) rfl)) rfl rfl (fun g_ w' H=>x_ld (v:=I r_.up) rfl (ldb_sc Sc3 (H.bl 2) rfl)) ?_;refine sa_q (fun aj w_ H=>(St.pick H [0,1,2,3,4,5] (by decide) rfl)) rfl rfl (fun g_ w' H=>x_ld (v:=Pq ag) rfl (ldb_sc Sc112 (H.bl 3) rfl)) ?_;refine sa_q (fun aj w_ H=>(St.pick H [0,1,2,3,4,5] (by decide) rfl)) rfl rfl (fun g_ w' H=>x_mv (v:=aC) rfl) ?_;refine sa_q (fun aj w_ H=>(St.pick H [0,1,2,3,4,5] (by decide) rfl)) rfl rfl (fun g_ w' H=>x_fa (v:=Oq ak 1) rfl (fa_blk (o:=0) Fd58_1 Sz3)) ?_;refine sa_q (fun aj w_ H=>(St.pick H [0,1,2,3,4,5] (by decide) rfl)) rfl rfl (fun g_ w' H=>x_ld (v:=I r_.down) rfl (ldb_sc Sc3 (H.bl 2) rfl)) ?_;refine sa_l (fun aj w_ H=>(St.pick H [0,1,2,3,4,5] (by decide) rfl)) rfl ?_;intro g_ aj bh H
 replace H:St w bh (cBlk ap [I 0,I 0,I 0,I 0] 61 :: cBlk am [.func (.func 106) #[] #[]] 138 :: cBlk ak [I r_.up,I r_.down,I r_.lo,I r_.hi,B r_.narrow] 58 :: cBlk ao [Pq ag] 112 :: cMk ([]) :: cMemI encSpt ai (zaa ab ac ae) :: aj) R:=H
 obtain ⟨bQ,bi,hM⟩:=M.e_bind hM;refine s_call cf59 [Pq ag,aC,I r_.up] rfl (zbF ab ac ae marks r_.up (aG.app _) aM (aH.app _) aN (aI.app _) aO (aJ.app _) (aP.app _) aT bi _ (St.give (T:=(cBlk ap [I 0,I 0,I 0,I 0] 61 :: cBlk am [.func (.func 106) #[] #[]] 138 :: cBlk ak [I r_.up,I r_.down,I r_.lo,I r_.hi,B r_.narrow] 58 :: cBlk ao [Pq ag] 112 :: cMk ([]) :: cMemI encSpt ai (zaa ab ac ae) :: aj)) H rfl)) ?_
 rintro vq bj ⟨r0,r1,rfl,hvq,aq⟩
 subst vq;(try dsimp only at hM)
 replace H:St w bj (cBlk ap [I 0,I 0,I 0,I 0] 61 :: cBlk am [.func (.func 106) #[] #[]] 138 :: cBlk ak [I r_.up,I r_.down,I r_.lo,I r_.hi,B r_.narrow] 58 :: cBlk ao [Pq ag] 112 :: cMk ([]) :: cMemI encSpt ai (zaa ab ac ae) :: aj) R:=H.back aq rfl
 clear aq
 refine s_nil ⟨(St.pick H [0,1,2,3,4,5] (by decide) rfl),_,[cBlk ap [I 0,I 0,I 0,I 0] 61,cBlk am [.func (.func 106) #[] #[]] 138,cBlk ak [I r_.up,I r_.down,I r_.lo,I r_.hi,B r_.narrow] 58,cBlk ao [Pq ag] 112,cMk ([]),cMemI encSpt ai (zaa ab ac ae)],mix_upd rfl,H,?_⟩
 refine sa_l (fun aj w_ H=>(St.pick H [0,1,2,3,4,5] (by decide) rfl)) rfl ?_;intro g_ aj bm H
 replace H:St w bm (cBlk ap [I 0,I 0,I 0,I 0] 61 :: cBlk am [.func (.func 106) #[] #[]] 138 :: cBlk ak [I r_.up,I r_.down,I r_.lo,I r_.hi,B r_.narrow] 58 :: cBlk ao [Pq ag] 112 :: cMk ([]) :: cMemI encSpt ai (zaa ab ac ae) :: aj) R:=H
 obtain ⟨bR,bn,hM⟩:=M.e_bind hM;refine s_call cf59 [Pq ag,aC,I r_.down] rfl (zbF ab ac ae marks r_.down (aG.app _) aM (aH.app _) aN (aI.app _) aO (aJ.app _) (aP.app _) aT bn _ (St.give (T:=(cBlk ap [I 0,I 0,I 0,I 0] 61 :: cBlk am [.func (.func 106) #[] #[]] 138 :: cBlk ak [I r_.up,I r_.down,I r_.lo,I r_.hi,B r_.narrow] 58 :: cBlk ao [Pq ag] 112 :: cMk ([]) :: cMemI encSpt ai (zaa ab ac ae) :: aj)) H rfl)) ?_
 rintro vq bo ⟨au,aw,rfl,hvq,aq⟩
 subst vq;(try dsimp only at hM)
 replace H:St w bo (cBlk ap [I 0,I 0,I 0,I 0] 61 :: cBlk am [.func (.func 106) #[] #[]] 138 :: cBlk ak [I r_.up,I r_.down,I r_.lo,I r_.hi,B r_.narrow] 58 :: cBlk ao [Pq ag] 112 :: cMk ([]) :: cMemI encSpt ai (zaa ab ac ae) :: aj) R:=H.back aq rfl
 clear aq
 refine s_nil ⟨(St.pick H [0,1,2,3,4,5] (by decide) rfl),_,[cBlk ap [I 0,I 0,I 0,I 0] 61,cBlk am [.func (.func 106) #[] #[]] 138,cBlk ak [I r_.up,I r_.down,I r_.lo,I r_.hi,B r_.narrow] 58,cBlk ao [Pq ag] 112,cMk ([]),cMemI encSpt ai (zaa ab ac ae)],mix_upd rfl,H,?_⟩
 refine sa_nil (fun aj w_ H=>(St.pick H [0,1,2,3,4,5] (by decide) rfl)) ?_;intro av ax bp H
 replace H:St w bp [cBlk ap [I 0,I 0,I 0,I 0] 61,cBlk am [.func (.func 106) #[] #[]] 138,cBlk ak [I r_.up,I r_.down,I r_.lo,I r_.hi,B r_.narrow] 58,cBlk ao [Pq ag] 112,cMk ([]),cMemI encSpt ai (zaa ab ac ae),cBlk av [I 0,I 0] 54,cBlk ax [I 0,I 0] 54] R:=(H)
 refine t_l rfl ?_;refine t_sw 6 0 [I r0,I r1] (.agg #[I r0,I r1]) H rfl rfl Sz54 rfl rfl rfl rfl ?_;intro bS H
 refine s_nil ⟨(St.pick H [0,1,2,3,4,5] (by decide) rfl),?_⟩
 refine t_l rfl ?_;refine t_sw 7 0 [I au,I aw] (.agg #[I au,I aw]) H rfl rfl Sz54 rfl rfl rfl rfl ?_;intro bT H
 refine s_nil ⟨(St.pick H [0,1,2,3,4,5] (by decide) rfl),?_⟩
 refine t_nil<|WD.seq<|WD.of ?_;refine W.drawA (fun W=>St w W [cBlk ap [I 0,I 0,I 0,I 0] 61,cBlk am [.func (.func 106) #[] #[]] 138,cBlk ak [I r_.up,I r_.down,I r_.lo,I r_.hi,B r_.narrow] 58,cBlk ao [Pq ag] 112,cMk ([]),cMemI encSpt ai (zaa ab ac ae),cBlk av [I r0,I r1] 54,cBlk ax [I au,I aw] 54] R) [(0,true),(1,true),(2,true),(3,true),(4,true),(5,false)] [(6,12,3,[I 0]),(7,13,4,[B false])] (.l 8 (.l 9 .nil)) 2 mixed (by decide +kernel) rfl (by intro x hx; simp only [List.mem_cons,List.not_mem_nil,or_false] at hx; rcases hx with rfl | rfl <;> first | exact ⟨_,_,_,rfl,_,Al3,rfl⟩ | exact ⟨_,_,_,rfl,_,Al4,rfl⟩) (by decide) (by decide) H ?_;refine sa_q (fun aj w_ H=>(St.pick H [0,1,2,3,4,5,6,7] (by decide) rfl)) rfl rfl (fun g_ w' H=>x_fa (v:=Oq ak 2) rfl (fa_blk (o:=0) Fd58_2 Sz54)) ?_;refine sa_q (fun aj w_ H=>(St.pick H [0,1,2,3,4,5,6,7] (by decide) rfl)) rfl rfl (fun g_ w' H=>x_fa (v:=Oq ak 2) rfl (fa_blk (o:=2) Fd54_0 Sz3)) ?_;refine sa_q (fun aj w_ H=>(St.pick H [0,1,2,3,4,5,6,7] (by decide) rfl)) rfl rfl (fun g_ w' H=>x_ld (v:=I r_.lo) rfl (ldb_sc Sc3 (H.bl 2) rfl)) ?_;refine sa_q (fun aj w_ H=>(St.pick H [0,1,2,3,4,5,6,7] (by decide) rfl)) rfl rfl (fun g_ w' H=>x_fa (v:=Pq am) rfl (fa_blk (o:=0) Fd138_0 Sz116)) ?_;refine sa_q (fun aj w_ H=>(St.pick H [0,1,2,3,4,5,6,7] (by decide) rfl)) rfl rfl (fun g_ w' H=>x_ld (v:=.func (.func 106) #[] #[]) rfl (ldb_sc Sc116 (H.bl 1) rfl)) ?_;refine sa_l (fun aj w_ H=>(St.pick H [0,1,2,3,4,5,6,7] (by decide) rfl)) rfl ?_;intro g_ aj bq H
 replace H:St w bq (cBlk ap [I 0,I 0,I 0,I 0] 61 :: cBlk am [.func (.func 106) #[] #[]] 138 :: cBlk ak [I r_.up,I r_.down,I r_.lo,I r_.hi,B r_.narrow] 58 :: cBlk ao [Pq ag] 112 :: cMk ([]) :: cMemI encSpt ai (zaa ab ac ae) :: cBlk av [I r0,I r1] 54 :: cBlk ax [I au,I aw] 54 :: aj) R:=H
 obtain ⟨bU,br,hM⟩:=M.e_bind hM;refine s_callv (f:=106) rfl cf106 [I 1,I 0] rfl (zdv 1 0 br _ (St.give (T:=(cBlk ap [I 0,I 0,I 0,I 0] 61 :: cBlk am [.func (.func 106) #[] #[]] 138 :: cBlk ak [I r_.up,I r_.down,I r_.lo,I r_.hi,B r_.narrow] 58 :: cBlk ao [Pq ag] 112 :: cMk ([]) :: cMemI encSpt ai (zaa ab ac ae) :: cBlk av [I r0,I r1] 54 :: cBlk ax [I au,I aw] 54 :: aj)) H rfl)) ?_
 rintro vq bt ⟨r2,rfl,hvq,aq⟩
 subst vq;(try dsimp only at hM)
 replace H:St w bt (cBlk ap [I 0,I 0,I 0,I 0] 61 :: cBlk am [.func (.func 106) #[] #[]] 138 :: cBlk ak [I r_.up,I r_.down,I r_.lo,I r_.hi,B r_.narrow] 58 :: cBlk ao [Pq ag] 112 :: cMk ([]) :: cMemI encSpt ai (zaa ab ac ae) :: cBlk av [I r0,I r1] 54 :: cBlk ax [I au,I aw] 54 :: aj) R:=H.back aq rfl
 clear aq
 refine s_nil ⟨(St.pick H [0,1,2,3,4,5,6,7] (by decide) rfl),_,[cBlk ap [I 0,I 0,I 0,I 0] 61,cBlk am [.func (.func 106) #[] #[]] 138,cBlk ak [I r_.up,I r_.down,I r_.lo,I r_.hi,B r_.narrow] 58,cBlk ao [Pq ag] 112,cMk ([]),cMemI encSpt ai (zaa ab ac ae),cBlk av [I r0,I r1] 54,cBlk ax [I au,I aw] 54],mix_upd rfl,H,?_⟩
 refine sa_nil (fun aj w_ H=>(St.pick H [0,1,2,3,4,5,6,7] (by decide) rfl)) ?_;intro aA aB bu H
 replace H:St w bu [cBlk ap [I 0,I 0,I 0,I 0] 61,cBlk am [.func (.func 106) #[] #[]] 138,cBlk ak [I r_.up,I r_.down,I r_.lo,I r_.hi,B r_.narrow] 58,cBlk ao [Pq ag] 112,cMk ([]),cMemI encSpt ai (zaa ab ac ae),cBlk av [I r0,I r1] 54,cBlk ax [I au,I aw] 54,cBlk aA [I 0] 3,cBlk aB [B false] 4] R:=(H)
 refine t_l rfl ?_;refine t_sw 8 0 [I r_.lo] (I r_.lo) H rfl rfl Sz3 rfl rfl rfl rfl ?_;intro bV H
 refine s_nil ⟨(St.pick H [0,1,2,3,4,5,6,7] (by decide) rfl),?_⟩
 refine t_l rfl ?_;refine t_sw 9 0 [B r2] (B r2) H rfl rfl Sz4 rfl rfl rfl rfl ?_;intro bW H
 refine s_nil ⟨(St.pick H [0,1,2,3,4,5,6,7] (by decide) rfl),?_⟩
 refine t_nil<|WD.seq<|WD.seq<|WD.of<|W.region rfl<|s_val (x_ld (v:=B r2) rfl (ldb_sc Sc4 (H.bl 9) rfl))<|s_val (x_not (b:=r2) rfl)<|s_nil ?_
 refine WD.cond (!r2) rfl (fun aU=>?_) (fun aU=>?_)
 ·replace hM:=M.e_t hM aU;refine WD.of<|W.region rfl<|s_val (x_fa (v:=Oq ak 2) rfl (fa_blk (o:=0) Fd58_2 Sz54))<|s_val (x_fa (v:=Oq ak 3) rfl (fa_blk (o:=2) Fd54_1 Sz3))<|s_val (x_ld (v:=I r_.hi) rfl (ldb_sc Sc3 (H.bl 2) rfl)) ?_;refine t_sw 8 0 [I r_.hi] (I r_.hi) H rfl rfl Sz3 rfl rfl rfl rfl ?_;intro bX H;refine s_nil<|WD.seq<|WD.of<|W.region rfl ?_;refine t_alloc (cs:=[I 0,I 0,I 0,I 0]) H Al61 rfl ?_;intro ay bY H;refine s_nil<|WD.seq<|WD.of<|W.region rfl ?_;refine t_alloc (cs:=[I 0]) H Al3 rfl ?_;intro az bZ H;refine t_sw 0 0 [I 0] (I 0) H rfl rfl Sz3 rfl rfl rfl rfl ?_;intro b4 H;refine s_nil<|WD.seq<|WD.seq<|WD.of ?_;refine W.draw (fun W=>St w W [cBlk az [I 0] 3,cBlk ay [I 0,I 0,I 0,I 0] 61,cBlk ap [I 0,I 0,I 0,I 0] 61,cBlk am [.func (.func 106) #[] #[]] 138,cBlk ak [I r_.up,I r_.down,I r_.lo,I r_.hi,B r_.narrow] 58,cBlk ao [Pq ag] 112,cMk ([]),cMemI encSpt ai (zaa ab ac ae),cBlk av [I r0,I r1] 54,cBlk ax [I au,I aw] 54,cBlk aA [I r_.hi] 3,cBlk aB [B r2] 4] R) [(0,true),(1,true),(2,true),(3,true),(4,true),(5,true),(6,false),(7,false),(8,true),(9,false)] mixed (by decide +kernel) rfl ?_;intro b5 aK;replace H:=H.ext aK;clear aK
  refine ⟨(H.pk [0,1,2,3,4,5,6,7,8,9,10,11]),?_⟩
  refine d_q rfl (fun w' H=>x_fa (v:=Pq ax) rfl (fa_blk (o:=0) Fd54_0 Sz3))<|d_q rfl (fun w' H=>x_ld (v:=I au) rfl (ldb_sc Sc3 (H.bl 9) rfl))<|d_q rfl (fun w' H=>x_fa (v:=Oq ax 1) rfl (fa_blk (o:=0) Fd54_1 Sz3))<|d_q rfl (fun w' H=>x_ld (v:=I aw) rfl (ldb_sc Sc3 (H.bl 9) rfl))<|d_q rfl (fun w' H=>x_fa (v:=Oq av 1) rfl (fa_blk (o:=0) Fd54_1 Sz3))<|d_q rfl (fun w' H=>x_ld (v:=I r1) rfl (ldb_sc Sc3 (H.bl 8) rfl))<|d_l rfl ?_;refine t_bs (α:=Int) T28 [I r1] [(r1:Int)] H rfl (.cons rfl (Flat.rep_enc _ (r1:Int))<|.nil) rfl rfl rfl ?_;intro bv b6 H
  have b7:=Sl.cells (H.os 0)
  have b8:=Sl.oc (H.os 0)
  refine s_nil ⟨(H.pk [1,2,3,4,5,6,7,8,9,10,11,12]),?_⟩
  refine d_l rfl ?_;obtain ⟨b9,bw,hM⟩:=M.e_bind hM;refine s_call cf73 [I aw,bv] rfl (zag aw ([(r1:Int)]) (rdo 0) (H.os 0) bw _ (H.gt 13)) ?_
  rintro vq cb ⟨r3,rfl,hvq,aq⟩
  subst vq;(try dsimp only at hM);replace H:=H.bk aq;clear aq
  refine s_nil ⟨(H.pk [1,2,3,4,5,6,7,8,9,10,11,12]),?_⟩
  refine d_q rfl (fun w' H=>x_bld (ps:=[(0,I au),(1,I r3)]) (zs:=[I 0,I 0]) (L':=[I au,I r3]) rfl Tryz.underlying54 Al54 rfl (Bd54 Tryz.underlying54) (.cons (cs:=[I au]) rfl rfl rfl rfl rfl<|.cons (cs:=[I r3]) rfl rfl rfl rfl rfl<|.nil))<|d_l rfl ?_;obtain ⟨cc,bx,hM⟩:=M.e_bind hM;refine s_call cf95 [.agg #[I au,I r3]] rfl (zcV (⟨(au:Int),(r3:Int)⟩:Span) bx _ (H.gt 13)) ?_
  rintro vq cd ⟨aD,aE,aF,rfl,hvq,aq⟩
  subst vq;(try dsimp only at hM);replace H:=H.bk aq;clear aq
  refine s_nil ⟨(H.pk [2,3,4,5,6,7,8,9,10,11,12,13]),?_⟩
  refine d_nil ?_;replace H:=H.pk [0,2,3,4,5,6,7,8,9,10,12,13];refine WD.block ?_;obtain ⟨ce,bz,hM⟩:=M.e_bind hM;refine WD.range (L:=[cBlk az [I 0] 3,cBlk ay [I 0,I 0,I 0,I 0] 61,cMemI encSpt ai (zaa ab ac ae),cBlk aF [I aD,I aE] 54,cBlk ap [I 0,I 0,I 0,I 0] 61,cBlk am [.func (.func 106) #[] #[]] 138,cBlk ak [I r_.up,I r_.down,I r_.lo,I r_.hi,B r_.narrow] 58,cBlk ao [Pq ag] 112,cBlk av [I r0,I r1] 54,cBlk aA [I r_.hi] 3,cBlk aB [B r2] 4]) [Pq aF] (H.pk [7,1,2,8,0,3,4,5,6,9,10,11]) rfl cf119 ?_;intro aQ aR aV bA aW H
  have hYC:YieldC Tryz.prog ([cMk (aR :: ([])),cBlk aF [I aD,I aE] 54,cBlk ap [I 0,I 0,I 0,I 0] 61,cBlk am [.func (.func 106) #[] #[]] 138,cBlk ak [I r_.up,I r_.down,I r_.lo,I r_.hi,B r_.narrow] 58,cBlk ao [Pq ag] 112,cBlk av [I r0,I r1] 54,cBlk aA [I r_.hi] 3,cBlk aB [B r2] 4]++R) arI (yJ aQ aV (fun (s,s2,s3,s4,s5) aS=>aS=[cBlk az [I s] 3,cBlk ay [I s2,I s3,I s4,I s5] 61,cMemI encSpt ai (zaa ab ac ae)]) (fun (_:Unit) _=>False) (fun _=>.ret)) (.func (.yield aQ) #[] #[]) (M.yl (zaE ab ac ae r_ r0 r2)):=by
   refine YieldC.mk aW (fun (s,s2,s3,s4,s5) aS=>aS=[cBlk az [I s] 3,cBlk ay [I s2,I s3,I s4,I s5] 61,cMemI encSpt ai (zaa ab ac ae)]) (fun (_:Unit) _=>False) (fun _=>.ret) (zaE ab ac ae r_ r0 r2) (by rintro ⟨s,s2,s3,s4,s5⟩ _ h_; obtain ⟨rfl⟩:=h_; rfl) (fun _ _ h_=>h_.elim) rfl (arI_len rfl) ?_;intro C_ cf x W_ bB
   obtain rfl:=bB
   refine W.region rfl<|zA (I x) rfl<|s_nil ?_
   refine ⟨rfl,rfl,?_⟩
   intro w R aL aS s_ r bC hM H
   obtain ⟨s,s2,s3,s4,s5⟩:=s_
   obtain ⟨rfl⟩:=bC
   replace aG:=aG.sub aL
   replace aH:=aH.sub aL
   replace aI:=aI.sub aL
   replace aJ:=aJ.sub aL
   replace aP:=aP.sub aL
   replace hM:(zaE ab ac ae r_ r0 r2 (s,s2,s3,s4,s5) x).Ends r:=hM
   simp only [zaE] at hM
   replace H:=H.pk [0,1,2,4,5,6,7,8,9,10,11,3];refine W.block<|W.seq<|W.region rfl<|s_val (x_fa (v:=Pq av) rfl (fa_blk (o:=0) Fd54_0 Sz3))<|s_val (x_ld (v:=I r0) rfl (ldb_sc Sc3 (H.bl 8) rfl))<|zM (I x) rfl<|s_val (x_max (kd:=.i64) (a:=r0) (b:=x) rfl rfl)<|zM (I x) rfl<|s_val (x_ld (v:=I r_.hi) rfl (ldb_sc Sc3 (H.bl 9) rfl))<|s_val (x_ld (v:=I r_.hi) rfl (ldb_sc Sc3 (H.bl 9) rfl)) ?_;refine s_val (x_bld (ps:=[(0,I (max r0 x)),(1,I x),(2,I r_.hi),(3,I r_.hi)]) (zs:=[I 0,I 0,I 0,I 0]) (L':=[I (max r0 x),I x,I r_.hi,I r_.hi]) rfl Tryz.underlying61 Al61 rfl (Bd61 Tryz.underlying61) (.cons (cs:=[I (max r0 x)]) rfl rfl rfl rfl rfl<|.cons (cs:=[I x]) rfl rfl rfl rfl rfl<|.cons (cs:=[I r_.hi]) rfl rfl rfl rfl rfl<|.cons (cs:=[I r_.hi]) rfl rfl rfl rfl rfl<|.nil)) ?_;refine t_alloc (cs:=[I 0,I 0,I 0,I 0]) H Al61 rfl ?_;intro cg cj H;refine t_sw 0 0 [I (max r0 x),I x,I r_.hi,I r_.hi] (.agg #[I (max r0 x),I x,I r_.hi,I r_.hi]) H rfl rfl Sz61 rfl rfl rfl rfl ?_;intro co H;refine s_nil<|W.seq<|W.seq<|W.region rfl<|s_val (x_ld (v:=B r2) rfl (ldb_sc Sc4 (H.bl 11) rfl))<|s_nil ?_
   refine W.cond r2 rfl (fun aX=>?_) (fun aX=>?_)
   ·replace hM:=M.e_t hM aX
    exact (M.e_fail hM).elim
   replace hM:=M.e_f hM aX;refine W.skip<|W.seq<|W.region rfl<|s_val (x_ld (v:=Pq ag) rfl (ldb_sc Sc112 (H.bl 8) rfl))<|s_val (x_ld (v:=.agg #[I r_.up,I r_.down,I r_.lo,I r_.hi,B r_.narrow]) rfl (ldb_ag (ds:=[I r_.up,I r_.down,I r_.lo,I r_.hi,B r_.narrow]) Ag58 Sz58 (H.bl 7) rfl rfl))<|s_val (x_ld (v:=.agg #[I (max r0 x),I x,I r_.hi,I r_.hi]) rfl (ldb_ag (ds:=[I (max r0 x),I x,I r_.hi,I r_.hi]) Ag61 Sz61 (H.bl 0) rfl rfl)) ?_;obtain ⟨cp,bD,hM⟩:=M.e_bind hM;refine s_call cf72 [Pq ag,.agg #[I r_.up,I r_.down,I r_.lo,I r_.hi,B r_.narrow],.agg #[I (max r0 x),I x,I r_.hi,I r_.hi]] rfl (zcR ab ac ae r_ (⟨(max r0 x:Int),(x:Int),(r_.hi:Int),(r_.hi:Int)⟩:Cas) (aG.app _) aM (aH.app _) aN (aI.app _) aO (aJ.app _) bD _ ((H.pk [3,0,1,2,4,5,6,7,8,9,10,11,12]).gt 12)) ?_
   rintro vq cq ⟨r4,rfl,hvq,aq⟩
   subst vq;(try dsimp only at hM)
   replace H:=H.pk [3,0,1,2,4,5,6,7,8,9,10,11,12] |>.bk aq
   clear aq;refine zA (I r4) rfl<|s_nil<|W.seq<|W.region rfl<|s_val (x_ld (v:=.agg #[I s2,I s3,I s4,I s5]) rfl (ldb_ag (ds:=[I s2,I s3,I s4,I s5]) Ag61 Sz61 (H.bl 3) rfl rfl))<|s_val (x_bld (ps:=[]) (zs:=[I 0,I 0,I 0,I 0]) (L':=[I 0,I 0,I 0,I 0]) rfl Tryz.underlying61 Al61 rfl (Bd61 Tryz.underlying61) (.nil))<|s_val (x_eqS (eqT61 (⟨(s2:Int),(s3:Int),(s4:Int),(s5:Int)⟩:Cas) (⟨(0:Int),(0:Int),(0:Int),(0:Int)⟩:Cas) _) gdT61 rfl rfl)<|zM (B (decide ((⟨(s2:Int),(s3:Int),(s4:Int),(s5:Int)⟩:Cas)=(⟨(0:Int),(0:Int),(0:Int),(0:Int)⟩:Cas)))) rfl<|g_val (!(decide ((⟨(s2:Int),(s3:Int),(s4:Int),(s5:Int)⟩:Cas)=(⟨(0:Int),(0:Int),(0:Int),(0:Int)⟩:Cas)))) (gy_f rfl) (fun hg=>x_fa (v:=Pq am) rfl (fa_blk (o:=0) Fd138_0 Sz116))<|g_val (!(decide ((⟨(s2:Int),(s3:Int),(s4:Int),(s5:Int)⟩:Cas)=(⟨(0:Int),(0:Int),(0:Int),(0:Int)⟩:Cas)))) (gy_f rfl) (fun hg=>x_ld (v:=.func (.func 106) #[] #[]) (gd_of hg (Pq am)) (ldb_sc Sc116 (H.bl 6) rfl)) ?_;refine g_val (!(decide ((⟨(s2:Int),(s3:Int),(s4:Int),(s5:Int)⟩:Cas)=(⟨(0:Int),(0:Int),(0:Int),(0:Int)⟩:Cas)))) (gy_f rfl) (fun hg=>x_mv (v:=I r4) rfl)<|g_val (!(decide ((⟨(s2:Int),(s3:Int),(s4:Int),(s5:Int)⟩:Cas)=(⟨(0:Int),(0:Int),(0:Int),(0:Int)⟩:Cas)))) (gy_f rfl) (fun hg=>x_ld (v:=I s) rfl (ldb_sc Sc3 (H.bl 2) rfl)) ?_;obtain ⟨r5,bE,hM⟩:=M.e_bind hM;refine t_gcallv (cap:=[]) (!(decide ((⟨(s2:Int),(s3:Int),(s4:Int),(s5:Int)⟩:Cas)=(⟨(0:Int),(0:Int),(0:Int),(0:Int)⟩:Cas)))) (gy_f rfl) cf106 (fun hg=>(gd_of hg (.func (.func 106) #[] #[]))) (B r5) (fun _=>[I r4,I s]) (fun hg=>lst2 (gd_of hg (I r4)) (gd_of hg (I s))) H (fun hg=>(zdv r4 s (M.e_opt bE hg) _ (H.give (A:=[]) rfl)).mono fun v_ w_ ⟨y_,aY,bF,H_⟩=>by subst aY; exact ⟨bF,H.via H_⟩) ?_;intro cr H;refine s_val (x_por (b:=decide ((⟨(s2:Int),(s3:Int),(s4:Int),(s5:Int)⟩:Cas)=(⟨(0:Int),(0:Int),(0:Int),(0:Int)⟩:Cas))) (r:=r5) rfl rfl (fun hb=>gd_of (c:=!(decide ((⟨(s2:Int),(s3:Int),(s4:Int),(s5:Int)⟩:Cas)=(⟨(0:Int),(0:Int),(0:Int),(0:Int)⟩:Cas)))) (by first | exact hb | (rw [hb]; rfl) | simp_all) (B r5)))<|s_nil ?_
   refine W.cond ((decide ((⟨(s2:Int),(s3:Int),(s4:Int),(s5:Int)⟩:Cas)=(⟨(0:Int),(0:Int),(0:Int),(0:Int)⟩:Cas)))||r5) rfl (fun aZ=>?_) (fun aZ=>?_)
   ·replace hM:=M.e_t hM aZ;refine W.region rfl<|s_val (x_ld (v:=.agg #[I (max r0 x),I x,I r_.hi,I r_.hi]) rfl (ldb_ag (ds:=[I (max r0 x),I x,I r_.hi,I r_.hi]) Ag61 Sz61 (H.bl 1) rfl rfl))<|zM (I r4) rfl ?_;refine t_sw 3 0 [I (max r0 x),I x,I r_.hi,I r_.hi] (.agg #[I (max r0 x),I x,I r_.hi,I r_.hi]) H rfl rfl Sz61 rfl rfl rfl rfl ?_;intro ct H;refine t_sw 2 0 [I r4] (I r4) H rfl rfl Sz3 rfl rfl rfl rfl ?_;intro cu H;refine s_nil ?_
    exact ⟨(r4,max r0 x,x,r_.hi,r_.hi),[cBlk az [I r4] 3,cBlk ay [I (max r0 x),I x,I r_.hi,I r_.hi] 61,cMemI encSpt ai (zaa ab ac ae)],(M.e_pure hM).symm,rfl,H.pick [2,3,0,12,4,5,6,7,8,9,10,11] (by decide) rfl⟩
   replace hM:=M.e_f hM aZ;refine W.skip ?_
   exact ⟨(s,s2,s3,s4,s5),[cBlk az [I s] 3,cBlk ay [I s2,I s3,I s4,I s5] 61,cMemI encSpt ai (zaa ab ac ae)],(M.e_pure hM).symm,rfl,H.pick [2,3,0,12,4,5,6,7,8,9,10,11] (by decide) rfl⟩
  replace H:St w bA (cAll (cObj aQ (.loop aV) :: [cBlk az [I 0] 3,cBlk ay [I 0,I 0,I 0,I 0] 61,cMemI encSpt ai (zaa ab ac ae)]) :: [cMk (aR :: ([])),cBlk aF [I aD,I aE] 54,cBlk ap [I 0,I 0,I 0,I 0] 61,cBlk am [.func (.func 106) #[] #[]] 138,cBlk ak [I r_.up,I r_.down,I r_.lo,I r_.hi,B r_.narrow] 58,cBlk ao [Pq ag] 112,cBlk av [I r0,I r1] 54,cBlk aA [I r_.hi] 3,cBlk aB [B r2] 4]) R:=St.bundleB (A:=cObj aQ (.loop aV) :: [cBlk az [I 0] 3,cBlk ay [I 0,I 0,I 0,I 0] 61,cMemI encSpt ai (zaa ab ac ae)]) (T:=[cMk (aR :: ([])),cBlk aF [I aD,I aE] 54,cBlk ap [I 0,I 0,I 0,I 0] 61,cBlk am [.func (.func 106) #[] #[]] 138,cBlk ak [I r_.up,I r_.down,I r_.lo,I r_.hi,B r_.narrow] 58,cBlk ao [Pq ag] 112,cBlk av [I r0,I r1] 54,cBlk aA [I r_.hi] 3,cBlk aB [B r2] 4]) rfl (H.pk [0,2,3,4,1,5,6,7,8,9,10,11,12])
  refine (zc0 (M.yl (zaE ab ac ae r_ r0 r2)) (.inl (0,0,0,0,0)) aD aE hYC ⟨_,rfl,rfl⟩ (Has.here (k:=1) rfl) bz _ (H.gt 9)).mono ?_
  rintro vq cv ⟨bG,cw,rfl,hvq,aq,bg⟩
  replace H:=H.back aq rfl
  clear aq hYC
  rcases bG with ⟨s,s2,s3,s4,s5⟩ | _
  ·(try dsimp only at hM)
   obtain ⟨_,rfl,rfl⟩:=bg
   refine ⟨_,[cBlk az [I s] 3,cBlk ay [I s2,I s3,I s4,I s5] 61,cMemI encSpt ai (zaa ab ac ae),cBlk aF [I aD,I aE] 54,cBlk ap [I 0,I 0,I 0,I 0] 61,cBlk am [.func (.func 106) #[] #[]] 138,cBlk ak [I r_.up,I r_.down,I r_.lo,I r_.hi,B r_.narrow] 58,cBlk ao [Pq ag] 112,cBlk av [I r0,I r1] 54,cBlk aA [I r_.hi] 3,cBlk aB [B r2] 4],H.unbundle.pick [0,4,1,2,3,5,6,7,8,9,10,11,12] (by decide) rfl,aW.nb,?_⟩
   intro cx H
   rw [aW.pd]
   replace H:=H.nf
   try simp only []
   replace H:=H.pk [0,1,2,3,5];refine WD.seq<|WD.of ?_;refine W.draw (fun W=>St w W [cMk (aR :: ([])),cBlk az [I s] 3,cBlk ay [I s2,I s3,I s4,I s5] 61,cMemI encSpt ai (zaa ab ac ae)] R) [(0,true),(1,true),(2,false),(3,true)] mixed (by decide +kernel) rfl ?_;intro cy aK;replace H:=H.ext aK;clear aK
   refine ⟨(H.pk [0,1,2,3]),?_⟩
   refine d_q rfl (fun w' H=>x_ld (v:=.agg #[I s2,I s3,I s4,I s5]) rfl (ldb_ag (ds:=[I s2,I s3,I s4,I s5]) Ag61 Sz61 (H.bl 2) rfl rfl))<|d_q rfl (fun w' H=>x_ld (v:=I s) rfl (ldb_sc Sc3 (H.bl 1) rfl))<|d_l rfl ?_;refine t_sw 4 0 [I s2,I s3,I s4,I s5] (.agg #[I s2,I s3,I s4,I s5]) H rfl rfl Sz61 rfl rfl rfl rfl ?_;intro cz H
   refine s_nil ⟨(H.pk [0,1,2,3]),?_⟩
   refine d_q rfl (fun w' H=>x_as (v:=I s) rfl) ?_;refine d_nil ?_;replace H:=H.pk [0,3,4];refine WD.of ?_;refine W.ret ?_;refine bodyD_r (H.pk [0,1,2]) ?_;intro cA H;replace H:=H.nf
   have bH:=(H.bl 1)
   have aY:=M.e_pure hM
   exact ⟨_,(resE_ofn (vs:=[.agg #[I s2,I s3,I s4,I s5],I s]) rfl rfl (.cell (v:=.agg #[I s2,I s3,I s4,I s5]) rfl (run_loadVar_ag (ds:=[I s2,I s3,I s4,I s5]) Ag61 Sz61 bH rfl rfl)<|.tmp (v:=I s) rfl<|.nil)),⟨s2,s3,s4,s5,s,aY,rfl,(H.pk [0])⟩⟩
  obtain ⟨_,_,h_⟩:=bg; exact h_.elim
 replace hM:=M.e_f hM aU
 exact (M.e_fail hM).elim

def zbK  : M Unit :=
  M.pure ()
theorem zaI {R:List Chunk}    {r:Unit} (hM:(zbK).Ends r) (w:World) (H:St w w [] R):Ret Tryz.prog 68 #[] w fun v w'=>()=r/\v = .agg #[.func (.func 107) #[] #[]]/\St w w' [] R:=by
 refine ret_of_W Tryz.func68 rfl rfl rfl<|W.seq<|W.region rfl ?_;refine t_alloc (cs:=[.nilFunc]) H Al138 rfl ?_;intro ae ag H;refine s_nil<|W.seq<|W.region rfl<|s_val (x_bld (ps:=[(0,.func (.func 107) #[] #[])]) (zs:=[.nilFunc]) (L':=[.func (.func 107) #[] #[]]) rfl Tryz.underlying138 Al138 rfl (Bd138 Tryz.underlying138) (.cons (cs:=[.func (.func 107) #[] #[]]) rfl rfl rfl rfl rfl<|.nil)) ?_;refine t_sw 0 0 [.func (.func 107) #[] #[]] (.agg #[.func (.func 107) #[] #[]]) H rfl rfl Sz138 rfl rfl rfl rfl ?_;intro ai H;refine s_nil ?_;refine W.ret ?_
 have ab:=(H.bl 0)
 have ac:=M.e_pure hM
 exact ⟨_,(resE_of1 (v:=.agg #[.func (.func 107) #[] #[]]) rfl (.cell (v:=.agg #[.func (.func 107) #[] #[]]) rfl (run_loadVar_ag (ds:=[.func (.func 107) #[] #[]]) Ag138 Sz138 ab rfl rfl)<|.nil)),⟨ac,rfl,(H.pk [])⟩⟩

def zbq (a b:Int):M Bool :=
  M.pure (decide (b<a))
theorem zdC {R:List Chunk}  (a:Int) (b:Int)  {r:Bool} (hM:(zbq a b).Ends r) (w:World) (H:St w w [] R):Ret Tryz.prog 107 #[I a,I b] w fun v w'=>∃ (y0:Bool),y0=r/\v=B y0/\St w w' [] R:=by
 refine ret_of_W Tryz.func107 rfl rfl rfl<|W.seq<|W.region rfl<|zA (B false) rfl<|s_nil<|W.seq<|W.region rfl<|zM (I a) rfl<|zM (I b) rfl<|zC a b (decide (b<a)) rfl rfl rfl<|zA (B (decide (b<a))) rfl ?_;refine s_nil ?_;refine W.ret ?_
 have ab:=M.e_pure hM
 exact ⟨_,resE_tmp rfl,⟨(decide (b<a)),ab,rfl,H⟩⟩

def zaF (ab:List Sect) (ac:List Mrk) (ae:List Rch) (r_:Rch) (r1:Int) (r2:Bool):(Int × Int × Int × Int × Int)->Int->M ((Int × Int × Int × Int × Int) ⊕ Unit):=fun (s,s2,s3,s4,s5) x =>
  bif r2 then (
  M.bind (zaZ ab ac ae r_ (⟨(r1:Int),(x:Int),(r_.lo:Int),(r_.lo:Int)⟩:Cas)) fun r4 =>
  M.bind (M.opt (!(decide ((⟨(s2:Int),(s3:Int),(s4:Int),(s5:Int)⟩:Cas)=(⟨(0:Int),(0:Int),(0:Int),(0:Int)⟩:Cas)))) (zbq r4 s) false) fun r5 =>
  bif ((decide ((⟨(s2:Int),(s3:Int),(s4:Int),(s5:Int)⟩:Cas)=(⟨(0:Int),(0:Int),(0:Int),(0:Int)⟩:Cas)))||r5) then (
  M.pure (.inl (r4,r1,x,r_.lo,r_.lo)))
  else (
  M.pure (.inl (s,s2,s3,s4,s5))))
  else (
  M.fail)
def zaX (ab:List Sect) (ac:List Mrk) (ae:List Rch) (marks:List Int) (r_:Rch):M (Int × Int × Int × Int × Int) :=
  M.bind (zap ab ac ae marks r_.up) fun (r0,r1) =>
  M.bind (zap ab ac ae marks r_.down) fun (ag,ai) =>
  M.bind (zbq 1 0) fun r2 =>
  bif !r2 then (
  M.fail)
  else (
  M.bind (zay ai ([(r1:Int)])) fun r3 =>
  M.bind (zau (⟨(ag:Int),(r3:Int)⟩:Span)) fun (aj,ak) =>
  M.bind (zak (M.yl (zaF ab ac ae r_ r1 r2)) (.inl (0,0,0,0,0)) aj ak) fun x_=>match x_ with
  | .inl (s,s2,s3,s4,s5)=>(
  M.pure (s2,s3,s4,s5,s))
  | .inr _=>M.fail)
theorem zaj {R:List Chunk} {ag:Nat} {a6:Cells} {a7:Value} {a8:Cells} {ba:Value} {bb:Cells} {bc:Value} {ai:Nat} {bf:Cells} {aC:Value} (ab:List Sect) (ac:List Mrk) (ae:List Rch) (marks:List Int) (r_:Rch) (aG:Reads R a6) (aM:Sl a6 a7 ab) (aH:Reads R a8) (aN:Sl a8 ba ac) (aI:Reads R bb) (aO:Sl bb bc ae) (aJ:Has R (cBlk ag [a7,ba,bc,.map (some ai)] 177)) (aP:Reads R bf) (aT:Sl bf aC marks) {r:(Int × Int × Int × Int × Int)} (hM:(zaX ab ac ae marks r_).Ends r) (w:World) (H:St w w [cMemI encSpt ai (zaa ab ac ae)] R):Ret Tryz.prog 69 #[Pq ag,aC,.agg #[I r_.up,I r_.down,I r_.lo,I r_.hi,B r_.narrow],.agg #[.func (.func 107) #[] #[]]] w fun v w'=>∃ (y0:Int) (y1:Int) (y2:Int) (y3:Int) (y4:Int),(y0,y1,y2,y3,y4)=r/\v = .tuple #[.agg #[I y0,I y1,I y2,I y3],I y4]/\St w w' [cMemI encSpt ai (zaa ab ac ae)] R:=by
 refine ret_of_WD Tryz.func69 rfl rfl rfl ?_
 replace H:St w w [cMk ([]),cMemI encSpt ai (zaa ab ac ae)] R:=H.mk0
 have bJ:=aM.len_le
 have bK:=aN.len_le
 have bL:=aO.len_le
 have bM:=aT.len_le
 unfold zaX at hM
 refine WD.seq<|WD.of<|W.region rfl ?_;refine t_b1 (Pq ag) H rfl rfl ?_;intro ao bN H;refine t_bx [I r_.up,I r_.down,I r_.lo,I r_.hi,B r_.narrow] H rfl ?_;intro ak bO H;refine t_bx [.func (.func 107) #[] #[]] H rfl ?_;intro am bP H;refine t_alloc (cs:=[I 0,I 0,I 0,I 0]) H Al61 rfl ?_;intro ap bQ H;refine zA (I 0) rfl<|s_nil<|WD.seq<|WD.of ?_;refine W.drawA (fun W=>St w W [cBlk ap [I 0,I 0,I 0,I 0] 61,cBlk am [.func (.func 107) #[] #[]] 138,cBlk ak [I r_.up,I r_.down,I r_.lo,I r_.hi,B r_.narrow] 58,cBlk ao [Pq ag] 112,cMk ([]),cMemI encSpt ai (zaa ab ac ae)] R) [(0,true),(1,true),(2,true),(3,true),(5,true),(6,true),(7,true),(8,true),(4,false),(9,false)] [(10,10,54,[I 0,I 0]),(11,11,54,[I 0,I 0])] (.l 12 (.l 13 .nil)) 2 mixed (by decide +kernel) rfl (by intro x hx; simp only [List.mem_cons,List.not_mem_nil,or_false] at hx; rcases hx with rfl | rfl <;> first | exact ⟨_,_,_,rfl,_,Al54,rfl⟩) (by decide) (by decide) H ?_;refine sa_q (fun aj w_ H=>(St.pick H [0,1,2,3,4,5] (by decide) rfl)) rfl rfl (fun g_ w' H=>x_ld (v:=Pq ag) rfl (ldb_sc Sc112 (H.bl 3) rfl)) ?_;refine sa_q (fun aj w_ H=>(St.pick H [0,1,2,3,4,5] (by decide) rfl)) rfl rfl (fun g_ w' H=>x_mv (v:=aC) rfl) ?_;refine sa_q (fun aj w_ H=>(St.pick H [0,1,2,3,4,5] (by decide) rfl)) rfl rfl (fun g_ w' H=>x_fa (v:=Pq ak) rfl (fa_blk (o:=0) Fd58_0 Sz3)) ?_;refine sa_q (fun aj w_ H=>(St.pick H [0,1,2,3,4,5] (by decide) rfl)) rfl rfl (fun g_ w' H=>x_ld (v:=I r_.up) rfl (ldb_sc Sc3 (H.bl 2) rfl)) ?_;refine sa_q (fun aj w_ H=>(St.pick H [0,1,2,3,4,5] (by decide) rfl)) rfl rfl (fun g_ w' H=>x_ld (v:=Pq ag) rfl (ldb_sc Sc112 (H.bl 3) rfl)) ?_;refine sa_q (fun aj w_ H=>(St.pick H [0,1,2,3,4,5] (by decide) rfl)) rfl rfl (fun g_ w' H=>x_mv (v:=aC) rfl) ?_;refine sa_q (fun aj w_ H=>(St.pick H [0,1,2,3,4,5] (by decide) rfl)) rfl rfl (fun g_ w' H=>x_fa (v:=Oq ak 1) rfl (fa_blk (o:=0) Fd58_1 Sz3)) ?_;refine sa_q (fun aj w_ H=>(St.pick H [0,1,2,3,4,5] (by decide) rfl)) rfl rfl (fun g_ w' H=>x_ld (v:=I r_.down) rfl (ldb_sc Sc3 (H.bl 2) rfl)) ?_;refine sa_l (fun aj w_ H=>(St.pick H [0,1,2,3,4,5] (by decide) rfl)) rfl ?_;intro g_ aj bh H
 replace H:St w bh (cBlk ap [I 0,I 0,I 0,I 0] 61 :: cBlk am [.func (.func 107) #[] #[]] 138 :: cBlk ak [I r_.up,I r_.down,I r_.lo,I r_.hi,B r_.narrow] 58 :: cBlk ao [Pq ag] 112 :: cMk ([]) :: cMemI encSpt ai (zaa ab ac ae) :: aj) R:=H
 obtain ⟨bR,bi,hM⟩:=M.e_bind hM;refine s_call cf59 [Pq ag,aC,I r_.up] rfl (zbF ab ac ae marks r_.up (aG.app _) aM (aH.app _) aN (aI.app _) aO (aJ.app _) (aP.app _) aT bi _ (St.give (T:=(cBlk ap [I 0,I 0,I 0,I 0] 61 :: cBlk am [.func (.func 107) #[] #[]] 138 :: cBlk ak [I r_.up,I r_.down,I r_.lo,I r_.hi,B r_.narrow] 58 :: cBlk ao [Pq ag] 112 :: cMk ([]) :: cMemI encSpt ai (zaa ab ac ae) :: aj)) H rfl)) ?_
 rintro vq bj ⟨r0,r1,rfl,hvq,aq⟩
 subst vq;(try dsimp only at hM)
 replace H:St w bj (cBlk ap [I 0,I 0,I 0,I 0] 61 :: cBlk am [.func (.func 107) #[] #[]] 138 :: cBlk ak [I r_.up,I r_.down,I r_.lo,I r_.hi,B r_.narrow] 58 :: cBlk ao [Pq ag] 112 :: cMk ([]) :: cMemI encSpt ai (zaa ab ac ae) :: aj) R:=H.back aq rfl
 clear aq
 refine s_nil ⟨(St.pick H [0,1,2,3,4,5] (by decide) rfl),_,[cBlk ap [I 0,I 0,I 0,I 0] 61,cBlk am [.func (.func 107) #[] #[]] 138,cBlk ak [I r_.up,I r_.down,I r_.lo,I r_.hi,B r_.narrow] 58,cBlk ao [Pq ag] 112,cMk ([]),cMemI encSpt ai (zaa ab ac ae)],mix_upd rfl,H,?_⟩
 refine sa_l (fun aj w_ H=>(St.pick H [0,1,2,3,4,5] (by decide) rfl)) rfl ?_;intro g_ aj bm H
 replace H:St w bm (cBlk ap [I 0,I 0,I 0,I 0] 61 :: cBlk am [.func (.func 107) #[] #[]] 138 :: cBlk ak [I r_.up,I r_.down,I r_.lo,I r_.hi,B r_.narrow] 58 :: cBlk ao [Pq ag] 112 :: cMk ([]) :: cMemI encSpt ai (zaa ab ac ae) :: aj) R:=H
 obtain ⟨bS,bn,hM⟩:=M.e_bind hM;refine s_call cf59 [Pq ag,aC,I r_.down] rfl (zbF ab ac ae marks r_.down (aG.app _) aM (aH.app _) aN (aI.app _) aO (aJ.app _) (aP.app _) aT bn _ (St.give (T:=(cBlk ap [I 0,I 0,I 0,I 0] 61 :: cBlk am [.func (.func 107) #[] #[]] 138 :: cBlk ak [I r_.up,I r_.down,I r_.lo,I r_.hi,B r_.narrow] 58 :: cBlk ao [Pq ag] 112 :: cMk ([]) :: cMemI encSpt ai (zaa ab ac ae) :: aj)) H rfl)) ?_
 rintro vq bo ⟨av,aw,rfl,hvq,aq⟩
 subst vq;(try dsimp only at hM)
 replace H:St w bo (cBlk ap [I 0,I 0,I 0,I 0] 61 :: cBlk am [.func (.func 107) #[] #[]] 138 :: cBlk ak [I r_.up,I r_.down,I r_.lo,I r_.hi,B r_.narrow] 58 :: cBlk ao [Pq ag] 112 :: cMk ([]) :: cMemI encSpt ai (zaa ab ac ae) :: aj) R:=H.back aq rfl
 clear aq
 refine s_nil ⟨(St.pick H [0,1,2,3,4,5] (by decide) rfl),_,[cBlk ap [I 0,I 0,I 0,I 0] 61,cBlk am [.func (.func 107) #[] #[]] 138,cBlk ak [I r_.up,I r_.down,I r_.lo,I r_.hi,B r_.narrow] 58,cBlk ao [Pq ag] 112,cMk ([]),cMemI encSpt ai (zaa ab ac ae)],mix_upd rfl,H,?_⟩
 refine sa_nil (fun aj w_ H=>(St.pick H [0,1,2,3,4,5] (by decide) rfl)) ?_;intro au ax bp H
 replace H:St w bp [cBlk ap [I 0,I 0,I 0,I 0] 61,cBlk am [.func (.func 107) #[] #[]] 138,cBlk ak [I r_.up,I r_.down,I r_.lo,I r_.hi,B r_.narrow] 58,cBlk ao [Pq ag] 112,cMk ([]),cMemI encSpt ai (zaa ab ac ae),cBlk au [I 0,I 0] 54,cBlk ax [I 0,I 0] 54] R:=(H)
 refine t_l rfl ?_;refine t_sw 6 0 [I r0,I r1] (.agg #[I r0,I r1]) H rfl rfl Sz54 rfl rfl rfl rfl ?_;intro bT H
 refine s_nil ⟨(St.pick H [0,1,2,3,4,5] (by decide) rfl),?_⟩
 refine t_l rfl ?_;refine t_sw 7 0 [I av,I aw] (.agg #[I av,I aw]) H rfl rfl Sz54 rfl rfl rfl rfl ?_;intro bU H
 refine s_nil ⟨(St.pick H [0,1,2,3,4,5] (by decide) rfl),?_⟩
 refine t_nil<|WD.seq<|WD.of ?_;refine W.drawA (fun W=>St w W [cBlk ap [I 0,I 0,I 0,I 0] 61,cBlk am [.func (.func 107) #[] #[]] 138,cBlk ak [I r_.up,I r_.down,I r_.lo,I r_.hi,B r_.narrow] 58,cBlk ao [Pq ag] 112,cMk ([]),cMemI encSpt ai (zaa ab ac ae),cBlk au [I r0,I r1] 54,cBlk ax [I av,I aw] 54] R) [(0,true),(1,true),(2,true),(3,true),(4,true),(5,false)] [(6,12,3,[I 0]),(7,13,4,[B false])] (.l 8 (.l 9 .nil)) 2 mixed (by decide +kernel) rfl (by intro x hx; simp only [List.mem_cons,List.not_mem_nil,or_false] at hx; rcases hx with rfl | rfl <;> first | exact ⟨_,_,_,rfl,_,Al3,rfl⟩ | exact ⟨_,_,_,rfl,_,Al4,rfl⟩) (by decide) (by decide) H ?_;refine sa_q (fun aj w_ H=>(St.pick H [0,1,2,3,4,5,6,7] (by decide) rfl)) rfl rfl (fun g_ w' H=>x_fa (v:=Oq ak 2) rfl (fa_blk (o:=0) Fd58_2 Sz54)) ?_;refine sa_q (fun aj w_ H=>(St.pick H [0,1,2,3,4,5,6,7] (by decide) rfl)) rfl rfl (fun g_ w' H=>x_fa (v:=Oq ak 2) rfl (fa_blk (o:=2) Fd54_0 Sz3)) ?_;refine sa_q (fun aj w_ H=>(St.pick H [0,1,2,3,4,5,6,7] (by decide) rfl)) rfl rfl (fun g_ w' H=>x_ld (v:=I r_.lo) rfl (ldb_sc Sc3 (H.bl 2) rfl)) ?_;refine sa_q (fun aj w_ H=>(St.pick H [0,1,2,3,4,5,6,7] (by decide) rfl)) rfl rfl (fun g_ w' H=>x_fa (v:=Pq am) rfl (fa_blk (o:=0) Fd138_0 Sz116)) ?_;refine sa_q (fun aj w_ H=>(St.pick H [0,1,2,3,4,5,6,7] (by decide) rfl)) rfl rfl (fun g_ w' H=>x_ld (v:=.func (.func 107) #[] #[]) rfl (ldb_sc Sc116 (H.bl 1) rfl)) ?_;refine sa_l (fun aj w_ H=>(St.pick H [0,1,2,3,4,5,6,7] (by decide) rfl)) rfl ?_;intro g_ aj bq H
 replace H:St w bq (cBlk ap [I 0,I 0,I 0,I 0] 61 :: cBlk am [.func (.func 107) #[] #[]] 138 :: cBlk ak [I r_.up,I r_.down,I r_.lo,I r_.hi,B r_.narrow] 58 :: cBlk ao [Pq ag] 112 :: cMk ([]) :: cMemI encSpt ai (zaa ab ac ae) :: cBlk au [I r0,I r1] 54 :: cBlk ax [I av,I aw] 54 :: aj) R:=H
 obtain ⟨bV,br,hM⟩:=M.e_bind hM;refine s_callv (f:=107) rfl cf107 [I 1,I 0] rfl (zdC 1 0 br _ (St.give (T:=(cBlk ap [I 0,I 0,I 0,I 0] 61 :: cBlk am [.func (.func 107) #[] #[]] 138 :: cBlk ak [I r_.up,I r_.down,I r_.lo,I r_.hi,B r_.narrow] 58 :: cBlk ao [Pq ag] 112 :: cMk ([]) :: cMemI encSpt ai (zaa ab ac ae) :: cBlk au [I r0,I r1] 54 :: cBlk ax [I av,I aw] 54 :: aj)) H rfl)) ?_
 rintro vq bt ⟨r2,rfl,hvq,aq⟩
 subst vq;(try dsimp only at hM)
 replace H:St w bt (cBlk ap [I 0,I 0,I 0,I 0] 61 :: cBlk am [.func (.func 107) #[] #[]] 138 :: cBlk ak [I r_.up,I r_.down,I r_.lo,I r_.hi,B r_.narrow] 58 :: cBlk ao [Pq ag] 112 :: cMk ([]) :: cMemI encSpt ai (zaa ab ac ae) :: cBlk au [I r0,I r1] 54 :: cBlk ax [I av,I aw] 54 :: aj) R:=H.back aq rfl
 clear aq
 refine s_nil ⟨(St.pick H [0,1,2,3,4,5,6,7] (by decide) rfl),_,[cBlk ap [I 0,I 0,I 0,I 0] 61,cBlk am [.func (.func 107) #[] #[]] 138,cBlk ak [I r_.up,I r_.down,I r_.lo,I r_.hi,B r_.narrow] 58,cBlk ao [Pq ag] 112,cMk ([]),cMemI encSpt ai (zaa ab ac ae),cBlk au [I r0,I r1] 54,cBlk ax [I av,I aw] 54],mix_upd rfl,H,?_⟩
 refine sa_nil (fun aj w_ H=>(St.pick H [0,1,2,3,4,5,6,7] (by decide) rfl)) ?_;intro aA aB bu H
 replace H:St w bu [cBlk ap [I 0,I 0,I 0,I 0] 61,cBlk am [.func (.func 107) #[] #[]] 138,cBlk ak [I r_.up,I r_.down,I r_.lo,I r_.hi,B r_.narrow] 58,cBlk ao [Pq ag] 112,cMk ([]),cMemI encSpt ai (zaa ab ac ae),cBlk au [I r0,I r1] 54,cBlk ax [I av,I aw] 54,cBlk aA [I 0] 3,cBlk aB [B false] 4] R:=(H)
 refine t_l rfl ?_;refine t_sw 8 0 [I r_.lo] (I r_.lo) H rfl rfl Sz3 rfl rfl rfl rfl ?_;intro bW H
 refine s_nil ⟨(St.pick H [0,1,2,3,4,5,6,7] (by decide) rfl),?_⟩
 refine t_l rfl ?_;refine t_sw 9 0 [B r2] (B r2) H rfl rfl Sz4 rfl rfl rfl rfl ?_;intro bX H
 refine s_nil ⟨(St.pick H [0,1,2,3,4,5,6,7] (by decide) rfl),?_⟩
 refine t_nil<|WD.seq<|WD.seq<|WD.of<|W.region rfl<|s_val (x_ld (v:=B r2) rfl (ldb_sc Sc4 (H.bl 9) rfl))<|s_val (x_not (b:=r2) rfl)<|s_nil ?_
 refine WD.cond (!r2) rfl (fun aU=>?_) (fun aU=>?_)
 ·replace hM:=M.e_t hM aU
  exact (M.e_fail hM).elim
 replace hM:=M.e_f hM aU;refine WD.of<|W.skip<|WD.seq<|WD.of<|W.region rfl ?_;refine t_alloc (cs:=[I 0,I 0,I 0,I 0]) H Al61 rfl ?_;intro ay bY H;refine s_nil<|WD.seq<|WD.of<|W.region rfl ?_;refine t_alloc (cs:=[I 0]) H Al3 rfl ?_;intro az bZ H;refine t_sw 0 0 [I 0] (I 0) H rfl rfl Sz3 rfl rfl rfl rfl ?_;intro b4 H;refine s_nil<|WD.seq<|WD.seq<|WD.of ?_;refine W.draw (fun W=>St w W [cBlk az [I 0] 3,cBlk ay [I 0,I 0,I 0,I 0] 61,cBlk ap [I 0,I 0,I 0,I 0] 61,cBlk am [.func (.func 107) #[] #[]] 138,cBlk ak [I r_.up,I r_.down,I r_.lo,I r_.hi,B r_.narrow] 58,cBlk ao [Pq ag] 112,cMk ([]),cMemI encSpt ai (zaa ab ac ae),cBlk au [I r0,I r1] 54,cBlk ax [I av,I aw] 54,cBlk aA [I r_.lo] 3,cBlk aB [B r2] 4] R) [(0,true),(1,true),(2,true),(3,true),(4,true),(5,true),(6,false),(7,false),(8,true),(9,false)] mixed (by decide +kernel) rfl ?_;intro b5 aK;replace H:=H.ext aK;clear aK
 refine ⟨(H.pk [0,1,2,3,4,5,6,7,8,9,10,11]),?_⟩
 refine d_q rfl (fun w' H=>x_fa (v:=Pq ax) rfl (fa_blk (o:=0) Fd54_0 Sz3))<|d_q rfl (fun w' H=>x_ld (v:=I av) rfl (ldb_sc Sc3 (H.bl 9) rfl))<|d_q rfl (fun w' H=>x_fa (v:=Oq ax 1) rfl (fa_blk (o:=0) Fd54_1 Sz3))<|d_q rfl (fun w' H=>x_ld (v:=I aw) rfl (ldb_sc Sc3 (H.bl 9) rfl))<|d_q rfl (fun w' H=>x_fa (v:=Oq au 1) rfl (fa_blk (o:=0) Fd54_1 Sz3))<|d_q rfl (fun w' H=>x_ld (v:=I r1) rfl (ldb_sc Sc3 (H.bl 8) rfl))<|d_l rfl ?_;refine t_bs (α:=Int) T28 [I r1] [(r1:Int)] H rfl (.cons rfl (Flat.rep_enc _ (r1:Int))<|.nil) rfl rfl rfl ?_;intro bv b6 H
 have b7:=Sl.cells (H.os 0)
 have b8:=Sl.oc (H.os 0)
 refine s_nil ⟨(H.pk [1,2,3,4,5,6,7,8,9,10,11,12]),?_⟩
 refine d_l rfl ?_;obtain ⟨b9,bw,hM⟩:=M.e_bind hM;refine s_call cf73 [I aw,bv] rfl (zag aw ([(r1:Int)]) (rdo 0) (H.os 0) bw _ (H.gt 13)) ?_
 rintro vq cb ⟨r3,rfl,hvq,aq⟩
 subst vq;(try dsimp only at hM);replace H:=H.bk aq;clear aq
 refine s_nil ⟨(H.pk [1,2,3,4,5,6,7,8,9,10,11,12]),?_⟩
 refine d_q rfl (fun w' H=>x_bld (ps:=[(0,I av),(1,I r3)]) (zs:=[I 0,I 0]) (L':=[I av,I r3]) rfl Tryz.underlying54 Al54 rfl (Bd54 Tryz.underlying54) (.cons (cs:=[I av]) rfl rfl rfl rfl rfl<|.cons (cs:=[I r3]) rfl rfl rfl rfl rfl<|.nil))<|d_l rfl ?_;obtain ⟨cc,bx,hM⟩:=M.e_bind hM;refine s_call cf95 [.agg #[I av,I r3]] rfl (zcV (⟨(av:Int),(r3:Int)⟩:Span) bx _ (H.gt 13)) ?_
 rintro vq cd ⟨aD,aE,aF,rfl,hvq,aq⟩
 subst vq;(try dsimp only at hM);replace H:=H.bk aq;clear aq
 refine s_nil ⟨(H.pk [2,3,4,5,6,7,8,9,10,11,12,13]),?_⟩
 refine d_nil ?_;replace H:=H.pk [0,2,3,4,5,6,7,8,9,10,12,13];refine WD.block ?_;obtain ⟨ce,bz,hM⟩:=M.e_bind hM;refine WD.range (L:=[cBlk az [I 0] 3,cBlk ay [I 0,I 0,I 0,I 0] 61,cMemI encSpt ai (zaa ab ac ae),cBlk aF [I aD,I aE] 54,cBlk ap [I 0,I 0,I 0,I 0] 61,cBlk am [.func (.func 107) #[] #[]] 138,cBlk ak [I r_.up,I r_.down,I r_.lo,I r_.hi,B r_.narrow] 58,cBlk ao [Pq ag] 112,cBlk au [I r0,I r1] 54,cBlk aA [I r_.lo] 3,cBlk aB [B r2] 4]) [Pq aF] (H.pk [7,1,2,8,0,3,4,5,6,9,10,11]) rfl cf119 ?_;intro aQ aR aV bA aW H
 have hYC:YieldC Tryz.prog ([cMk (aR :: ([])),cBlk aF [I aD,I aE] 54,cBlk ap [I 0,I 0,I 0,I 0] 61,cBlk am [.func (.func 107) #[] #[]] 138,cBlk ak [I r_.up,I r_.down,I r_.lo,I r_.hi,B r_.narrow] 58,cBlk ao [Pq ag] 112,cBlk au [I r0,I r1] 54,cBlk aA [I r_.lo] 3,cBlk aB [B r2] 4]++R) arI (yJ aQ aV (fun (s,s2,s3,s4,s5) aS=>aS=[cBlk az [I s] 3,cBlk ay [I s2,I s3,I s4,I s5] 61,cMemI encSpt ai (zaa ab ac ae)]) (fun (_:Unit) _=>False) (fun _=>.ret)) (.func (.yield aQ) #[] #[]) (M.yl (zaF ab ac ae r_ r1 r2)):=by
  refine YieldC.mk aW (fun (s,s2,s3,s4,s5) aS=>aS=[cBlk az [I s] 3,cBlk ay [I s2,I s3,I s4,I s5] 61,cMemI encSpt ai (zaa ab ac ae)]) (fun (_:Unit) _=>False) (fun _=>.ret) (zaF ab ac ae r_ r1 r2) (by rintro ⟨s,s2,s3,s4,s5⟩ _ h_; obtain ⟨rfl⟩:=h_; rfl) (fun _ _ h_=>h_.elim) rfl (arI_len rfl) ?_;intro C_ cf x W_ bB
  obtain rfl:=bB
  refine W.region rfl<|zA (I x) rfl<|s_nil ?_
  refine ⟨rfl,rfl,?_⟩
  intro w R aL aS s_ r bC hM H
  obtain ⟨s,s2,s3,s4,s5⟩:=s_
  obtain ⟨rfl⟩:=bC
  replace aG:=aG.sub aL
  replace aH:=aH.sub aL
  replace aI:=aI.sub aL
  replace aJ:=aJ.sub aL
  replace aP:=aP.sub aL
  replace hM:(zaF ab ac ae r_ r1 r2 (s,s2,s3,s4,s5) x).Ends r:=hM
  simp only [zaF] at hM
  replace H:=H.pk [0,1,2,4,5,6,7,8,9,10,11,3];refine W.block<|W.seq<|W.region rfl<|s_val (x_fa (v:=Pq au) rfl (fa_blk (o:=0) Fd54_0 Sz3))<|s_val (x_ld (v:=I r0) rfl (ldb_sc Sc3 (H.bl 8) rfl))<|zM (I x) rfl<|s_val (x_max (kd:=.i64) (a:=r0) (b:=x) rfl rfl)<|zM (I x) rfl<|s_val (x_ld (v:=I r_.lo) rfl (ldb_sc Sc3 (H.bl 9) rfl))<|s_val (x_ld (v:=I r_.lo) rfl (ldb_sc Sc3 (H.bl 9) rfl)) ?_;refine s_val (x_bld (ps:=[(0,I (max r0 x)),(1,I x),(2,I r_.lo),(3,I r_.lo)]) (zs:=[I 0,I 0,I 0,I 0]) (L':=[I (max r0 x),I x,I r_.lo,I r_.lo]) rfl Tryz.underlying61 Al61 rfl (Bd61 Tryz.underlying61) (.cons (cs:=[I (max r0 x)]) rfl rfl rfl rfl rfl<|.cons (cs:=[I x]) rfl rfl rfl rfl rfl<|.cons (cs:=[I r_.lo]) rfl rfl rfl rfl rfl<|.cons (cs:=[I r_.lo]) rfl rfl rfl rfl rfl<|.nil)) ?_;refine t_alloc (cs:=[I 0,I 0,I 0,I 0]) H Al61 rfl ?_;intro bD cg H;refine t_sw 0 0 [I (max r0 x),I x,I r_.lo,I r_.lo] (.agg #[I (max r0 x),I x,I r_.lo,I r_.lo]) H rfl rfl Sz61 rfl rfl rfl rfl ?_;intro cj H;refine s_nil<|W.seq<|W.seq<|W.region rfl<|s_val (x_ld (v:=B r2) rfl (ldb_sc Sc4 (H.bl 11) rfl))<|s_nil ?_
  refine W.cond r2 rfl (fun aX=>?_) (fun aX=>?_)
  ·replace hM:=M.e_t hM aX;refine W.region rfl<|s_val (x_fa (v:=Oq au 1) rfl (fa_blk (o:=0) Fd54_1 Sz3))<|s_val (x_ld (v:=I r1) rfl (ldb_sc Sc3 (H.bl 9) rfl))<|s_val (x_fa (v:=Pq bD) rfl (fa_blk (o:=0) Fd61_0 Sz3)) ?_;refine t_sw 0 0 [I r1] (I r1) H rfl rfl Sz3 rfl rfl rfl rfl ?_;intro co H;refine s_nil<|W.seq<|W.region rfl<|s_val (x_ld (v:=Pq ag) rfl (ldb_sc Sc112 (H.bl 8) rfl))<|s_val (x_ld (v:=.agg #[I r_.up,I r_.down,I r_.lo,I r_.hi,B r_.narrow]) rfl (ldb_ag (ds:=[I r_.up,I r_.down,I r_.lo,I r_.hi,B r_.narrow]) Ag58 Sz58 (H.bl 7) rfl rfl))<|s_val (x_ld (v:=.agg #[I r1,I x,I r_.lo,I r_.lo]) rfl (ldb_ag (ds:=[I r1,I x,I r_.lo,I r_.lo]) Ag61 Sz61 (H.bl 0) rfl rfl)) ?_;obtain ⟨cp,bE,hM⟩:=M.e_bind hM;refine s_call cf72 [Pq ag,.agg #[I r_.up,I r_.down,I r_.lo,I r_.hi,B r_.narrow],.agg #[I r1,I x,I r_.lo,I r_.lo]] rfl (zcR ab ac ae r_ (⟨(r1:Int),(x:Int),(r_.lo:Int),(r_.lo:Int)⟩:Cas) (aG.app _) aM (aH.app _) aN (aI.app _) aO (aJ.app _) bE _ ((H.pk [3,0,1,2,4,5,6,7,8,9,10,11,12]).gt 12)) ?_
   rintro vq cq ⟨r4,rfl,hvq,aq⟩
   subst vq;(try dsimp only at hM)
   replace H:=H.pk [3,0,1,2,4,5,6,7,8,9,10,11,12] |>.bk aq
   clear aq;refine zA (I r4) rfl<|s_nil<|W.seq<|W.region rfl<|s_val (x_ld (v:=.agg #[I s2,I s3,I s4,I s5]) rfl (ldb_ag (ds:=[I s2,I s3,I s4,I s5]) Ag61 Sz61 (H.bl 3) rfl rfl))<|s_val (x_bld (ps:=[]) (zs:=[I 0,I 0,I 0,I 0]) (L':=[I 0,I 0,I 0,I 0]) rfl Tryz.underlying61 Al61 rfl (Bd61 Tryz.underlying61) (.nil))<|s_val (x_eqS (eqT61 (⟨(s2:Int),(s3:Int),(s4:Int),(s5:Int)⟩:Cas) (⟨(0:Int),(0:Int),(0:Int),(0:Int)⟩:Cas) _) gdT61 rfl rfl)<|zM (B (decide ((⟨(s2:Int),(s3:Int),(s4:Int),(s5:Int)⟩:Cas)=(⟨(0:Int),(0:Int),(0:Int),(0:Int)⟩:Cas)))) rfl<|g_val (!(decide ((⟨(s2:Int),(s3:Int),(s4:Int),(s5:Int)⟩:Cas)=(⟨(0:Int),(0:Int),(0:Int),(0:Int)⟩:Cas)))) (gy_f rfl) (fun hg=>x_fa (v:=Pq am) rfl (fa_blk (o:=0) Fd138_0 Sz116))<|g_val (!(decide ((⟨(s2:Int),(s3:Int),(s4:Int),(s5:Int)⟩:Cas)=(⟨(0:Int),(0:Int),(0:Int),(0:Int)⟩:Cas)))) (gy_f rfl) (fun hg=>x_ld (v:=.func (.func 107) #[] #[]) (gd_of hg (Pq am)) (ldb_sc Sc116 (H.bl 6) rfl)) ?_;refine g_val (!(decide ((⟨(s2:Int),(s3:Int),(s4:Int),(s5:Int)⟩:Cas)=(⟨(0:Int),(0:Int),(0:Int),(0:Int)⟩:Cas)))) (gy_f rfl) (fun hg=>x_mv (v:=I r4) rfl)<|g_val (!(decide ((⟨(s2:Int),(s3:Int),(s4:Int),(s5:Int)⟩:Cas)=(⟨(0:Int),(0:Int),(0:Int),(0:Int)⟩:Cas)))) (gy_f rfl) (fun hg=>x_ld (v:=I s) rfl (ldb_sc Sc3 (H.bl 2) rfl)) ?_;obtain ⟨r5,bF,hM⟩:=M.e_bind hM;refine t_gcallv (cap:=[]) (!(decide ((⟨(s2:Int),(s3:Int),(s4:Int),(s5:Int)⟩:Cas)=(⟨(0:Int),(0:Int),(0:Int),(0:Int)⟩:Cas)))) (gy_f rfl) cf107 (fun hg=>(gd_of hg (.func (.func 107) #[] #[]))) (B r5) (fun _=>[I r4,I s]) (fun hg=>lst2 (gd_of hg (I r4)) (gd_of hg (I s))) H (fun hg=>(zdC r4 s (M.e_opt bF hg) _ (H.give (A:=[]) rfl)).mono fun v_ w_ ⟨y_,aY,bG,H_⟩=>by subst aY; exact ⟨bG,H.via H_⟩) ?_;intro cr H;refine s_val (x_por (b:=decide ((⟨(s2:Int),(s3:Int),(s4:Int),(s5:Int)⟩:Cas)=(⟨(0:Int),(0:Int),(0:Int),(0:Int)⟩:Cas))) (r:=r5) rfl rfl (fun hb=>gd_of (c:=!(decide ((⟨(s2:Int),(s3:Int),(s4:Int),(s5:Int)⟩:Cas)=(⟨(0:Int),(0:Int),(0:Int),(0:Int)⟩:Cas)))) (by first | exact hb | (rw [hb]; rfl) | simp_all) (B r5)))<|s_nil ?_
   refine W.cond ((decide ((⟨(s2:Int),(s3:Int),(s4:Int),(s5:Int)⟩:Cas)=(⟨(0:Int),(0:Int),(0:Int),(0:Int)⟩:Cas)))||r5) rfl (fun aZ=>?_) (fun aZ=>?_)
   ·replace hM:=M.e_t hM aZ;refine W.region rfl<|s_val (x_ld (v:=.agg #[I r1,I x,I r_.lo,I r_.lo]) rfl (ldb_ag (ds:=[I r1,I x,I r_.lo,I r_.lo]) Ag61 Sz61 (H.bl 1) rfl rfl))<|zM (I r4) rfl ?_;refine t_sw 3 0 [I r1,I x,I r_.lo,I r_.lo] (.agg #[I r1,I x,I r_.lo,I r_.lo]) H rfl rfl Sz61 rfl rfl rfl rfl ?_;intro ct H;refine t_sw 2 0 [I r4] (I r4) H rfl rfl Sz3 rfl rfl rfl rfl ?_;intro cu H;refine s_nil ?_
    exact ⟨(r4,r1,x,r_.lo,r_.lo),[cBlk az [I r4] 3,cBlk ay [I r1,I x,I r_.lo,I r_.lo] 61,cMemI encSpt ai (zaa ab ac ae)],(M.e_pure hM).symm,rfl,H.pick [2,3,0,12,4,5,6,7,8,9,10,11] (by decide) rfl⟩
   replace hM:=M.e_f hM aZ;refine W.skip ?_
   exact ⟨(s,s2,s3,s4,s5),[cBlk az [I s] 3,cBlk ay [I s2,I s3,I s4,I s5] 61,cMemI encSpt ai (zaa ab ac ae)],(M.e_pure hM).symm,rfl,H.pick [2,3,0,12,4,5,6,7,8,9,10,11] (by decide) rfl⟩
  replace hM:=M.e_f hM aX
  exact (M.e_fail hM).elim
 replace H:St w bA (cAll (cObj aQ (.loop aV) :: [cBlk az [I 0] 3,cBlk ay [I 0,I 0,I 0,I 0] 61,cMemI encSpt ai (zaa ab ac ae)]) :: [cMk (aR :: ([])),cBlk aF [I aD,I aE] 54,cBlk ap [I 0,I 0,I 0,I 0] 61,cBlk am [.func (.func 107) #[] #[]] 138,cBlk ak [I r_.up,I r_.down,I r_.lo,I r_.hi,B r_.narrow] 58,cBlk ao [Pq ag] 112,cBlk au [I r0,I r1] 54,cBlk aA [I r_.lo] 3,cBlk aB [B r2] 4]) R:=St.bundleB (A:=cObj aQ (.loop aV) :: [cBlk az [I 0] 3,cBlk ay [I 0,I 0,I 0,I 0] 61,cMemI encSpt ai (zaa ab ac ae)]) (T:=[cMk (aR :: ([])),cBlk aF [I aD,I aE] 54,cBlk ap [I 0,I 0,I 0,I 0] 61,cBlk am [.func (.func 107) #[] #[]] 138,cBlk ak [I r_.up,I r_.down,I r_.lo,I r_.hi,B r_.narrow] 58,cBlk ao [Pq ag] 112,cBlk au [I r0,I r1] 54,cBlk aA [I r_.lo] 3,cBlk aB [B r2] 4]) rfl (H.pk [0,2,3,4,1,5,6,7,8,9,10,11,12])
 refine (zc0 (M.yl (zaF ab ac ae r_ r1 r2)) (.inl (0,0,0,0,0)) aD aE hYC ⟨_,rfl,rfl⟩ (Has.here (k:=1) rfl) bz _ (H.gt 9)).mono ?_
 rintro vq cv ⟨bH,cw,rfl,hvq,aq,bg⟩
 replace H:=H.back aq rfl
 clear aq hYC
 rcases bH with ⟨s,s2,s3,s4,s5⟩ | _
 ·(try dsimp only at hM)
  obtain ⟨_,rfl,rfl⟩:=bg
  refine ⟨_,[cBlk az [I s] 3,cBlk ay [I s2,I s3,I s4,I s5] 61,cMemI encSpt ai (zaa ab ac ae),cBlk aF [I aD,I aE] 54,cBlk ap [I 0,I 0,I 0,I 0] 61,cBlk am [.func (.func 107) #[] #[]] 138,cBlk ak [I r_.up,I r_.down,I r_.lo,I r_.hi,B r_.narrow] 58,cBlk ao [Pq ag] 112,cBlk au [I r0,I r1] 54,cBlk aA [I r_.lo] 3,cBlk aB [B r2] 4],H.unbundle.pick [0,4,1,2,3,5,6,7,8,9,10,11,12] (by decide) rfl,aW.nb,?_⟩
  intro cx H
  rw [aW.pd]
  replace H:=H.nf
  try simp only []
  replace H:=H.pk [0,1,2,3,5];refine WD.seq<|WD.of ?_;refine W.draw (fun W=>St w W [cMk (aR :: ([])),cBlk az [I s] 3,cBlk ay [I s2,I s3,I s4,I s5] 61,cMemI encSpt ai (zaa ab ac ae)] R) [(0,true),(1,true),(2,false),(3,true)] mixed (by decide +kernel) rfl ?_;intro cy aK;replace H:=H.ext aK;clear aK
  refine ⟨(H.pk [0,1,2,3]),?_⟩
  refine d_q rfl (fun w' H=>x_ld (v:=.agg #[I s2,I s3,I s4,I s5]) rfl (ldb_ag (ds:=[I s2,I s3,I s4,I s5]) Ag61 Sz61 (H.bl 2) rfl rfl))<|d_q rfl (fun w' H=>x_ld (v:=I s) rfl (ldb_sc Sc3 (H.bl 1) rfl))<|d_l rfl ?_;refine t_sw 4 0 [I s2,I s3,I s4,I s5] (.agg #[I s2,I s3,I s4,I s5]) H rfl rfl Sz61 rfl rfl rfl rfl ?_;intro cz H
  refine s_nil ⟨(H.pk [0,1,2,3]),?_⟩
  refine d_q rfl (fun w' H=>x_as (v:=I s) rfl) ?_;refine d_nil ?_;replace H:=H.pk [0,3,4];refine WD.of ?_;refine W.ret ?_;refine bodyD_r (H.pk [0,1,2]) ?_;intro cA H;replace H:=H.nf
  have bI:=(H.bl 1)
  have aY:=M.e_pure hM
  exact ⟨_,(resE_ofn (vs:=[.agg #[I s2,I s3,I s4,I s5],I s]) rfl rfl (.cell (v:=.agg #[I s2,I s3,I s4,I s5]) rfl (run_loadVar_ag (ds:=[I s2,I s3,I s4,I s5]) Ag61 Sz61 bI rfl rfl)<|.tmp (v:=I s) rfl<|.nil)),⟨s2,s3,s4,s5,s,aY,rfl,(H.pk [0])⟩⟩
 obtain ⟨_,_,h_⟩:=bg; exact h_.elim

def zan (ab:List Sect) (ac:List Mrk) (ae:List Rch) (marks:List Int) (r_:Rch):M (Int × Int) :=
  M.bind (zbu) fun (_:Unit) =>
  M.bind (zaS ab ac ae marks r_) fun (ai,aj,ak,am,r1) =>
  M.bind (zbK) fun (_:Unit) =>
  M.bind (zaX ab ac ae marks r_) fun (ao,ap,aq,au,ag) =>
  M.pure (r1,ag)
theorem zcA {R:List Chunk} {aq:Nat} {aO:Cells} {aP:Value} {aQ:Cells} {aR:Value} {aS:Cells} {aT:Value} {aN:Nat} {aU:Cells} {au:Value} (aw:List Sect) (ax:List Mrk) (ay:List Rch) (marks:List Int) (r_:Rch) (az:Reads R aO) (aA:Sl aO aP aw) (aB:Reads R aQ) (aC:Sl aQ aR ax) (aD:Reads R aS) (aE:Sl aS aT ay) (aF:Has R (cBlk aq [aP,aR,aT,.map (some aN)] 177)) (aG:Reads R aU) (aH:Sl aU au marks) {r:(Int × Int)} (hM:(zan aw ax ay marks r_).Ends r) (w:World) (H:St w w [cMemI encSpt aN (zaa aw ax ay)] R):Ret Tryz.prog 66 #[Pq aq,au,.agg #[I r_.up,I r_.down,I r_.lo,I r_.hi,B r_.narrow]] w fun v w'=>∃ (y0:Int) (y1:Int),(y0,y1)=r/\v = .agg #[I y0,I y1]/\St w w' [cMemI encSpt aN (zaa aw ax ay)] R:=by
 refine ret_of_W Tryz.func66 rfl rfl rfl<|W.seq<|W.region rfl ?_;refine t_bx [I r_.up,I r_.down,I r_.lo,I r_.hi,B r_.narrow] H rfl ?_;intro aL bB H;refine t_alloc (cs:=[I 0,I 0]) H Al54 rfl ?_;intro aM bC H;refine s_nil<|W.seq ?_;refine W.drawT (fun W=>St w W [cBlk aM [I 0,I 0] 54,cBlk aL [I r_.up,I r_.down,I r_.lo,I r_.hi,B r_.narrow] 58] R) (.q 0 (.q 1 (.q 2 (.l2 3 (.l2 4 (.q 5 (.q 6 (.q 7 (.l 8 (.l 9 (.q 10 .nil)))))) 8 (.l 4 (.q 5 (.q 6 (.q 7 (.l 9 (.q 10 .nil))))))) 8 (.l 3 (.l 4 (.q 5 (.q 6 (.q 7 (.l 9 (.q 10 .nil))))))))))) mixed (by decide +kernel) rfl ?_;intro bD aI;replace H:=H.ext aI;clear aI
 refine ⟨(H.pk [0,1]),?_⟩
 refine t_q rfl (fun w' H=>x_mv (v:=Pq aq) rfl)<|t_q rfl (fun w' H=>x_mv (v:=au) rfl)<|t_q rfl (fun w' H=>x_ld (v:=.agg #[I r_.up,I r_.down,I r_.lo,I r_.hi,B r_.narrow]) rfl (ldb_ag (ds:=[I r_.up,I r_.down,I r_.lo,I r_.hi,B r_.narrow]) Ag58 Sz58 (H.bl 1) rfl rfl)) ?_;refine t_l2 rfl rfl ?_ ?_
 ·skip
  obtain ⟨bE,aV,hM⟩:=M.e_bind hM;refine s_call cf67 [] rfl (zc1 aV _ (H.gt 3)) ?_
  rintro vq bF ⟨rfl,hvq,aj⟩
  subst vq;(try dsimp only at hM);replace H:=H.bk aj;clear aj
  refine s_nil ⟨(H.pk [0,1]),?_⟩
  refine t_l2 rfl rfl ?_ ?_
  ·skip
   obtain ⟨bG,aW,hM⟩:=M.e_bind hM;refine s_call cf69 [Pq aq,au,.agg #[I r_.up,I r_.down,I r_.lo,I r_.hi,B r_.narrow],.agg #[.func (.func 106) #[] #[]]] rfl (zcb aw ax ay marks r_ (az.app _) aA (aB.app _) aC (aD.app _) aE (aF.app _) (aG.app _) aH aW _ ((H.pk [2,0,1]).gt 2)) ?_
   rintro vq bH ⟨ak,am,ao,ap,r1,rfl,hvq,aj⟩
   subst vq;(try dsimp only at hM)
   replace H:=H.pk [2,0,1] |>.bk aj
   clear aj
   refine s_nil ⟨(H.pk [1,2]),?_⟩
   refine t_q rfl (fun w' H=>x_mv (v:=.tuple #[.agg #[I ak,I am,I ao,I ap],I r1]) rfl)<|t_q rfl (fun w' H=>x_ext (vs:=[.agg #[I ak,I am,I ao,I ap],I r1]) (v:=.agg #[I ak,I am,I ao,I ap]) rfl rfl)<|t_q rfl (fun w' H=>x_ext (vs:=[.agg #[I ak,I am,I ao,I ap],I r1]) (v:=I r1) rfl rfl)<|t_l rfl ?_;refine t_alloc (cs:=[I 0,I 0,I 0,I 0]) H Al61 rfl ?_;intro aK bI H
   refine s_nil ⟨(H.pk [2,3]),?_⟩
   refine t_l rfl ?_;refine t_sw 0 0 [I ak,I am,I ao,I ap] (.agg #[I ak,I am,I ao,I ap]) H rfl rfl Sz61 rfl rfl rfl rfl ?_;intro bJ H
   refine s_nil ⟨(H.pk [2,3]),?_⟩
   refine t_q rfl (fun w' H=>x_as (v:=I r1) rfl) ?_;refine t_nil<|W.seq ?_;refine W.drawT (fun W=>St w W [cBlk aK [I ak,I am,I ao,I ap] 61,cBlk aM [I 0,I 0] 54,cBlk aL [I r_.up,I r_.down,I r_.lo,I r_.hi,B r_.narrow] 58] R) (.q 0 (.q 1 (.q 2 (.l2 3 (.l2 4 (.q 5 (.q 6 (.q 7 (.l 8 (.l 9 (.q 10 .nil)))))) 8 (.l 4 (.q 5 (.q 6 (.q 7 (.l 9 (.q 10 .nil))))))) 8 (.l 3 (.l 4 (.q 5 (.q 6 (.q 7 (.l 9 (.q 10 .nil))))))))))) mixed (by decide +kernel) rfl ?_;intro bK aI;replace H:=H.ext aI;clear aI
   refine ⟨(H.pk [0,2,3]),?_⟩
   refine t_q rfl (fun w' H=>x_mv (v:=Pq aq) rfl)<|t_q rfl (fun w' H=>x_mv (v:=au) rfl)<|t_q rfl (fun w' H=>x_ld (v:=.agg #[I r_.up,I r_.down,I r_.lo,I r_.hi,B r_.narrow]) rfl (ldb_ag (ds:=[I r_.up,I r_.down,I r_.lo,I r_.hi,B r_.narrow]) Ag58 Sz58 (H.bl 2) rfl rfl)) ?_;refine t_l2 rfl rfl ?_ ?_
   ·skip
    obtain ⟨bL,aX,hM⟩:=M.e_bind hM;refine s_call cf68 [] rfl (zaI aX _ (H.gt 4)) ?_
    rintro vq bM ⟨rfl,hvq,aj⟩
    subst vq;(try dsimp only at hM);replace H:=H.bk aj;clear aj
    refine s_nil ⟨(H.pk [0,2,3]),?_⟩
    refine t_l2 rfl rfl ?_ ?_
    ·skip
     obtain ⟨bN,aY,hM⟩:=M.e_bind hM;refine s_call cf69 [Pq aq,au,.agg #[I r_.up,I r_.down,I r_.lo,I r_.hi,B r_.narrow],.agg #[.func (.func 107) #[] #[]]] rfl (zaj aw ax ay marks r_ (az.app _) aA (aB.app _) aC (aD.app _) aE (aF.app _) (aG.app _) aH aY _ ((H.pk [1,0,2,3]).gt 3)) ?_
     rintro vq bO ⟨ac,ae,ag,ai,ab,rfl,hvq,aj⟩
     subst vq;(try dsimp only at hM)
     replace H:=H.pk [1,0,2,3] |>.bk aj
     clear aj
     refine s_nil ⟨(H.pk [1,2,3]),?_⟩
     refine t_q rfl (fun w' H=>x_mv (v:=.tuple #[.agg #[I ac,I ae,I ag,I ai],I ab]) rfl)<|t_q rfl (fun w' H=>x_ext (vs:=[.agg #[I ac,I ae,I ag,I ai],I ab]) (v:=.agg #[I ac,I ae,I ag,I ai]) rfl rfl)<|t_q rfl (fun w' H=>x_ext (vs:=[.agg #[I ac,I ae,I ag,I ai],I ab]) (v:=I ab) rfl rfl)<|t_l rfl ?_;refine t_alloc (cs:=[I 0,I 0,I 0,I 0]) H Al61 rfl ?_;intro aJ bP H
     refine s_nil ⟨(H.pk [2,3,4]),?_⟩
     refine t_l rfl ?_;refine t_sw 0 0 [I ac,I ae,I ag,I ai] (.agg #[I ac,I ae,I ag,I ai]) H rfl rfl Sz61 rfl rfl rfl rfl ?_;intro bQ H
     refine s_nil ⟨(H.pk [2,3,4]),?_⟩
     refine t_q rfl (fun w' H=>x_as (v:=I ab) rfl) ?_;refine t_nil ?_;replace H:=H.pk [1,3];refine W.seq<|W.region rfl<|zM (I r1) rfl<|zM (I ab) rfl<|s_val (x_bld (ps:=[(0,I r1),(1,I ab)]) (zs:=[I 0,I 0]) (L':=[I r1,I ab]) rfl Tryz.underlying54 Al54 rfl (Bd54 Tryz.underlying54) (.cons (cs:=[I r1]) rfl rfl rfl rfl rfl<|.cons (cs:=[I ab]) rfl rfl rfl rfl rfl<|.nil)) ?_;refine t_sw 1 0 [I r1,I ab] (.agg #[I r1,I ab]) H rfl rfl Sz54 rfl rfl rfl rfl ?_;intro bR H;refine s_nil ?_;refine W.ret ?_
     have aZ:=(H.bl 1)
     have av:=M.e_pure hM
     exact ⟨_,(resE_of1 (v:=.agg #[I r1,I ab]) rfl (.cell (v:=.agg #[I r1,I ab]) rfl (run_loadVar_ag (ds:=[I r1,I ab]) Ag54 Sz54 aZ rfl rfl)<|.nil)),⟨r1,ab,av,rfl,(H.pk [0])⟩⟩
    skip
    refine t_alloc (cs:=[I 0,I 0,I 0,I 0]) H Al61 rfl ?_;intro aJ bS H
    refine s_nil ⟨(H.pk [1,3,4]),?_⟩
    refine t_l rfl ?_;obtain ⟨bT,a6,hM⟩:=M.e_bind hM;refine s_call cf69 [Pq aq,au,.agg #[I r_.up,I r_.down,I r_.lo,I r_.hi,B r_.narrow],.agg #[.func (.func 107) #[] #[]]] rfl (zaj aw ax ay marks r_ (az.app _) aA (aB.app _) aC (aD.app _) aE (aF.app _) (aG.app _) aH a6 _ ((H.pk [2,0,1,3,4]).gt 4)) ?_
    rintro vq bU ⟨ac,ae,ag,ai,ab,rfl,hvq,aj⟩
    subst vq;(try dsimp only at hM)
    replace H:=H.pk [2,0,1,3,4] |>.bk aj
    clear aj
    refine s_nil ⟨(H.pk [2,3,4]),?_⟩
    refine t_q rfl (fun w' H=>x_mv (v:=.tuple #[.agg #[I ac,I ae,I ag,I ai],I ab]) rfl)<|t_q rfl (fun w' H=>x_ext (vs:=[.agg #[I ac,I ae,I ag,I ai],I ab]) (v:=.agg #[I ac,I ae,I ag,I ai]) rfl rfl)<|t_q rfl (fun w' H=>x_ext (vs:=[.agg #[I ac,I ae,I ag,I ai],I ab]) (v:=I ab) rfl rfl)<|t_l rfl ?_;refine t_sw 1 0 [I ac,I ae,I ag,I ai] (.agg #[I ac,I ae,I ag,I ai]) H rfl rfl Sz61 rfl rfl rfl rfl ?_;intro bV H
    refine s_nil ⟨(H.pk [2,3,4]),?_⟩
    refine t_q rfl (fun w' H=>x_as (v:=I ab) rfl) ?_;refine t_nil ?_;replace H:=H.pk [0,3];refine W.seq<|W.region rfl<|zM (I r1) rfl<|zM (I ab) rfl<|s_val (x_bld (ps:=[(0,I r1),(1,I ab)]) (zs:=[I 0,I 0]) (L':=[I r1,I ab]) rfl Tryz.underlying54 Al54 rfl (Bd54 Tryz.underlying54) (.cons (cs:=[I r1]) rfl rfl rfl rfl rfl<|.cons (cs:=[I ab]) rfl rfl rfl rfl rfl<|.nil)) ?_;refine t_sw 1 0 [I r1,I ab] (.agg #[I r1,I ab]) H rfl rfl Sz54 rfl rfl rfl rfl ?_;intro bW H;refine s_nil ?_;refine W.ret ?_
    have a7:=(H.bl 1)
    have av:=M.e_pure hM
    exact ⟨_,(resE_of1 (v:=.agg #[I r1,I ab]) rfl (.cell (v:=.agg #[I r1,I ab]) rfl (run_loadVar_ag (ds:=[I r1,I ab]) Ag54 Sz54 a7 rfl rfl)<|.nil)),⟨r1,ab,av,rfl,(H.pk [0])⟩⟩
   skip
   refine t_alloc (cs:=[I 0,I 0,I 0,I 0]) H Al61 rfl ?_;intro aJ bX H
   refine s_nil ⟨(H.pk [1,3,4]),?_⟩
   refine t_l rfl ?_;obtain ⟨bY,a8,hM⟩:=M.e_bind hM;refine s_call cf68 [] rfl (zaI a8 _ (H.gt 5)) ?_
   rintro vq bZ ⟨rfl,hvq,aj⟩
   subst vq;(try dsimp only at hM);replace H:=H.bk aj;clear aj
   refine s_nil ⟨(H.pk [1,3,4]),?_⟩
   refine t_l rfl ?_;obtain ⟨b4,ba,hM⟩:=M.e_bind hM;refine s_call cf69 [Pq aq,au,.agg #[I r_.up,I r_.down,I r_.lo,I r_.hi,B r_.narrow],.agg #[.func (.func 107) #[] #[]]] rfl (zaj aw ax ay marks r_ (az.app _) aA (aB.app _) aC (aD.app _) aE (aF.app _) (aG.app _) aH ba _ ((H.pk [2,0,1,3,4]).gt 4)) ?_
   rintro vq b5 ⟨ac,ae,ag,ai,ab,rfl,hvq,aj⟩
   subst vq;(try dsimp only at hM)
   replace H:=H.pk [2,0,1,3,4] |>.bk aj
   clear aj
   refine s_nil ⟨(H.pk [2,3,4]),?_⟩
   refine t_q rfl (fun w' H=>x_mv (v:=.tuple #[.agg #[I ac,I ae,I ag,I ai],I ab]) rfl)<|t_q rfl (fun w' H=>x_ext (vs:=[.agg #[I ac,I ae,I ag,I ai],I ab]) (v:=.agg #[I ac,I ae,I ag,I ai]) rfl rfl)<|t_q rfl (fun w' H=>x_ext (vs:=[.agg #[I ac,I ae,I ag,I ai],I ab]) (v:=I ab) rfl rfl)<|t_l rfl ?_;refine t_sw 1 0 [I ac,I ae,I ag,I ai] (.agg #[I ac,I ae,I ag,I ai]) H rfl rfl Sz61 rfl rfl rfl rfl ?_;intro b6 H
   refine s_nil ⟨(H.pk [2,3,4]),?_⟩
   refine t_q rfl (fun w' H=>x_as (v:=I ab) rfl) ?_;refine t_nil ?_;replace H:=H.pk [0,3];refine W.seq<|W.region rfl<|zM (I r1) rfl<|zM (I ab) rfl<|s_val (x_bld (ps:=[(0,I r1),(1,I ab)]) (zs:=[I 0,I 0]) (L':=[I r1,I ab]) rfl Tryz.underlying54 Al54 rfl (Bd54 Tryz.underlying54) (.cons (cs:=[I r1]) rfl rfl rfl rfl rfl<|.cons (cs:=[I ab]) rfl rfl rfl rfl rfl<|.nil)) ?_;refine t_sw 1 0 [I r1,I ab] (.agg #[I r1,I ab]) H rfl rfl Sz54 rfl rfl rfl rfl ?_;intro b7 H;refine s_nil ?_;refine W.ret ?_
   have bb:=(H.bl 1)
   have av:=M.e_pure hM
   exact ⟨_,(resE_of1 (v:=.agg #[I r1,I ab]) rfl (.cell (v:=.agg #[I r1,I ab]) rfl (run_loadVar_ag (ds:=[I r1,I ab]) Ag54 Sz54 bb rfl rfl)<|.nil)),⟨r1,ab,av,rfl,(H.pk [0])⟩⟩
  skip
  refine t_alloc (cs:=[I 0,I 0,I 0,I 0]) H Al61 rfl ?_;intro aK b8 H
  refine s_nil ⟨(H.pk [1,2]),?_⟩
  refine t_l rfl ?_;obtain ⟨b9,bc,hM⟩:=M.e_bind hM;refine s_call cf69 [Pq aq,au,.agg #[I r_.up,I r_.down,I r_.lo,I r_.hi,B r_.narrow],.agg #[.func (.func 106) #[] #[]]] rfl (zcb aw ax ay marks r_ (az.app _) aA (aB.app _) aC (aD.app _) aE (aF.app _) (aG.app _) aH bc _ ((H.pk [3,0,1,2]).gt 3)) ?_
  rintro vq cb ⟨ak,am,ao,ap,r1,rfl,hvq,aj⟩
  subst vq;(try dsimp only at hM)
  replace H:=H.pk [3,0,1,2] |>.bk aj
  clear aj
  refine s_nil ⟨(H.pk [2,3]),?_⟩
  refine t_q rfl (fun w' H=>x_mv (v:=.tuple #[.agg #[I ak,I am,I ao,I ap],I r1]) rfl)<|t_q rfl (fun w' H=>x_ext (vs:=[.agg #[I ak,I am,I ao,I ap],I r1]) (v:=.agg #[I ak,I am,I ao,I ap]) rfl rfl)<|t_q rfl (fun w' H=>x_ext (vs:=[.agg #[I ak,I am,I ao,I ap],I r1]) (v:=I r1) rfl rfl)<|t_l rfl ?_;refine t_sw 1 0 [I ak,I am,I ao,I ap] (.agg #[I ak,I am,I ao,I ap]) H rfl rfl Sz61 rfl rfl rfl rfl ?_;intro cc H
  refine s_nil ⟨(H.pk [2,3]),?_⟩
  refine t_q rfl (fun w' H=>x_as (v:=I r1) rfl) ?_;refine t_nil<|W.seq ?_;refine W.drawT (fun W=>St w W [cBlk aK [I ak,I am,I ao,I ap] 61,cBlk aM [I 0,I 0] 54,cBlk aL [I r_.up,I r_.down,I r_.lo,I r_.hi,B r_.narrow] 58] R) (.q 0 (.q 1 (.q 2 (.l2 3 (.l2 4 (.q 5 (.q 6 (.q 7 (.l 8 (.l 9 (.q 10 .nil)))))) 8 (.l 4 (.q 5 (.q 6 (.q 7 (.l 9 (.q 10 .nil))))))) 8 (.l 3 (.l 4 (.q 5 (.q 6 (.q 7 (.l 9 (.q 10 .nil))))))))))) mixed (by decide +kernel) rfl ?_;intro cd aI;replace H:=H.ext aI;clear aI
  refine ⟨(H.pk [1,2,3]),?_⟩
  refine t_q rfl (fun w' H=>x_mv (v:=Pq aq) rfl)<|t_q rfl (fun w' H=>x_mv (v:=au) rfl)<|t_q rfl (fun w' H=>x_ld (v:=.agg #[I r_.up,I r_.down,I r_.lo,I r_.hi,B r_.narrow]) rfl (ldb_ag (ds:=[I r_.up,I r_.down,I r_.lo,I r_.hi,B r_.narrow]) Ag58 Sz58 (H.bl 2) rfl rfl)) ?_;refine t_l2 rfl rfl ?_ ?_
  ·skip
   obtain ⟨ce,bf,hM⟩:=M.e_bind hM;refine s_call cf68 [] rfl (zaI bf _ (H.gt 4)) ?_
   rintro vq cf ⟨rfl,hvq,aj⟩
   subst vq;(try dsimp only at hM);replace H:=H.bk aj;clear aj
   refine s_nil ⟨(H.pk [1,2,3]),?_⟩
   refine t_l2 rfl rfl ?_ ?_
   ·skip
    obtain ⟨cg,bg,hM⟩:=M.e_bind hM;refine s_call cf69 [Pq aq,au,.agg #[I r_.up,I r_.down,I r_.lo,I r_.hi,B r_.narrow],.agg #[.func (.func 107) #[] #[]]] rfl (zaj aw ax ay marks r_ (az.app _) aA (aB.app _) aC (aD.app _) aE (aF.app _) (aG.app _) aH bg _ (H.gt 3)) ?_
    rintro vq cj ⟨ac,ae,ag,ai,ab,rfl,hvq,aj⟩
    subst vq;(try dsimp only at hM);replace H:=H.bk aj;clear aj
    refine s_nil ⟨(H.pk [1,2,3]),?_⟩
    refine t_q rfl (fun w' H=>x_mv (v:=.tuple #[.agg #[I ac,I ae,I ag,I ai],I ab]) rfl)<|t_q rfl (fun w' H=>x_ext (vs:=[.agg #[I ac,I ae,I ag,I ai],I ab]) (v:=.agg #[I ac,I ae,I ag,I ai]) rfl rfl)<|t_q rfl (fun w' H=>x_ext (vs:=[.agg #[I ac,I ae,I ag,I ai],I ab]) (v:=I ab) rfl rfl)<|t_l rfl ?_;refine t_alloc (cs:=[I 0,I 0,I 0,I 0]) H Al61 rfl ?_;intro aJ co H
    refine s_nil ⟨(H.pk [2,3,4]),?_⟩
    refine t_l rfl ?_;refine t_sw 0 0 [I ac,I ae,I ag,I ai] (.agg #[I ac,I ae,I ag,I ai]) H rfl rfl Sz61 rfl rfl rfl rfl ?_;intro cp H
    refine s_nil ⟨(H.pk [2,3,4]),?_⟩
    refine t_q rfl (fun w' H=>x_as (v:=I ab) rfl) ?_;refine t_nil ?_;replace H:=H.pk [1,3];refine W.seq<|W.region rfl<|zM (I r1) rfl<|zM (I ab) rfl<|s_val (x_bld (ps:=[(0,I r1),(1,I ab)]) (zs:=[I 0,I 0]) (L':=[I r1,I ab]) rfl Tryz.underlying54 Al54 rfl (Bd54 Tryz.underlying54) (.cons (cs:=[I r1]) rfl rfl rfl rfl rfl<|.cons (cs:=[I ab]) rfl rfl rfl rfl rfl<|.nil)) ?_;refine t_sw 1 0 [I r1,I ab] (.agg #[I r1,I ab]) H rfl rfl Sz54 rfl rfl rfl rfl ?_;intro cq H;refine s_nil ?_;refine W.ret ?_
    have bh:=(H.bl 1)
    have av:=M.e_pure hM
    exact ⟨_,(resE_of1 (v:=.agg #[I r1,I ab]) rfl (.cell (v:=.agg #[I r1,I ab]) rfl (run_loadVar_ag (ds:=[I r1,I ab]) Ag54 Sz54 bh rfl rfl)<|.nil)),⟨r1,ab,av,rfl,(H.pk [0])⟩⟩
   skip
   refine t_alloc (cs:=[I 0,I 0,I 0,I 0]) H Al61 rfl ?_;intro aJ cr H
   refine s_nil ⟨(H.pk [2,3,4]),?_⟩
   refine t_l rfl ?_;obtain ⟨ct,bi,hM⟩:=M.e_bind hM;refine s_call cf69 [Pq aq,au,.agg #[I r_.up,I r_.down,I r_.lo,I r_.hi,B r_.narrow],.agg #[.func (.func 107) #[] #[]]] rfl (zaj aw ax ay marks r_ (az.app _) aA (aB.app _) aC (aD.app _) aE (aF.app _) (aG.app _) aH bi _ ((H.pk [1,0,2,3,4]).gt 4)) ?_
   rintro vq cu ⟨ac,ae,ag,ai,ab,rfl,hvq,aj⟩
   subst vq;(try dsimp only at hM)
   replace H:=H.pk [1,0,2,3,4] |>.bk aj
   clear aj
   refine s_nil ⟨(H.pk [2,3,4]),?_⟩
   refine t_q rfl (fun w' H=>x_mv (v:=.tuple #[.agg #[I ac,I ae,I ag,I ai],I ab]) rfl)<|t_q rfl (fun w' H=>x_ext (vs:=[.agg #[I ac,I ae,I ag,I ai],I ab]) (v:=.agg #[I ac,I ae,I ag,I ai]) rfl rfl)<|t_q rfl (fun w' H=>x_ext (vs:=[.agg #[I ac,I ae,I ag,I ai],I ab]) (v:=I ab) rfl rfl)<|t_l rfl ?_;refine t_sw 1 0 [I ac,I ae,I ag,I ai] (.agg #[I ac,I ae,I ag,I ai]) H rfl rfl Sz61 rfl rfl rfl rfl ?_;intro cv H
   refine s_nil ⟨(H.pk [2,3,4]),?_⟩
   refine t_q rfl (fun w' H=>x_as (v:=I ab) rfl) ?_;refine t_nil ?_;replace H:=H.pk [0,3];refine W.seq<|W.region rfl<|zM (I r1) rfl<|zM (I ab) rfl<|s_val (x_bld (ps:=[(0,I r1),(1,I ab)]) (zs:=[I 0,I 0]) (L':=[I r1,I ab]) rfl Tryz.underlying54 Al54 rfl (Bd54 Tryz.underlying54) (.cons (cs:=[I r1]) rfl rfl rfl rfl rfl<|.cons (cs:=[I ab]) rfl rfl rfl rfl rfl<|.nil)) ?_;refine t_sw 1 0 [I r1,I ab] (.agg #[I r1,I ab]) H rfl rfl Sz54 rfl rfl rfl rfl ?_;intro cw H;refine s_nil ?_;refine W.ret ?_
   have bj:=(H.bl 1)
   have av:=M.e_pure hM
   exact ⟨_,(resE_of1 (v:=.agg #[I r1,I ab]) rfl (.cell (v:=.agg #[I r1,I ab]) rfl (run_loadVar_ag (ds:=[I r1,I ab]) Ag54 Sz54 bj rfl rfl)<|.nil)),⟨r1,ab,av,rfl,(H.pk [0])⟩⟩
  skip
  refine t_alloc (cs:=[I 0,I 0,I 0,I 0]) H Al61 rfl ?_;intro aJ cx H
  refine s_nil ⟨(H.pk [2,3,4]),?_⟩
  refine t_l rfl ?_;obtain ⟨cy,bm,hM⟩:=M.e_bind hM;refine s_call cf68 [] rfl (zaI bm _ (H.gt 5)) ?_
  rintro vq cz ⟨rfl,hvq,aj⟩
  subst vq;(try dsimp only at hM);replace H:=H.bk aj;clear aj
  refine s_nil ⟨(H.pk [2,3,4]),?_⟩
  refine t_l rfl ?_;obtain ⟨cA,bn,hM⟩:=M.e_bind hM;refine s_call cf69 [Pq aq,au,.agg #[I r_.up,I r_.down,I r_.lo,I r_.hi,B r_.narrow],.agg #[.func (.func 107) #[] #[]]] rfl (zaj aw ax ay marks r_ (az.app _) aA (aB.app _) aC (aD.app _) aE (aF.app _) (aG.app _) aH bn _ ((H.pk [1,0,2,3,4]).gt 4)) ?_
  rintro vq cB ⟨ac,ae,ag,ai,ab,rfl,hvq,aj⟩
  subst vq;(try dsimp only at hM)
  replace H:=H.pk [1,0,2,3,4] |>.bk aj
  clear aj
  refine s_nil ⟨(H.pk [2,3,4]),?_⟩
  refine t_q rfl (fun w' H=>x_mv (v:=.tuple #[.agg #[I ac,I ae,I ag,I ai],I ab]) rfl)<|t_q rfl (fun w' H=>x_ext (vs:=[.agg #[I ac,I ae,I ag,I ai],I ab]) (v:=.agg #[I ac,I ae,I ag,I ai]) rfl rfl)<|t_q rfl (fun w' H=>x_ext (vs:=[.agg #[I ac,I ae,I ag,I ai],I ab]) (v:=I ab) rfl rfl)<|t_l rfl ?_;refine t_sw 1 0 [I ac,I ae,I ag,I ai] (.agg #[I ac,I ae,I ag,I ai]) H rfl rfl Sz61 rfl rfl rfl rfl ?_;intro cC H
  refine s_nil ⟨(H.pk [2,3,4]),?_⟩
  refine t_q rfl (fun w' H=>x_as (v:=I ab) rfl) ?_;refine t_nil ?_;replace H:=H.pk [0,3];refine W.seq<|W.region rfl<|zM (I r1) rfl<|zM (I ab) rfl<|s_val (x_bld (ps:=[(0,I r1),(1,I ab)]) (zs:=[I 0,I 0]) (L':=[I r1,I ab]) rfl Tryz.underlying54 Al54 rfl (Bd54 Tryz.underlying54) (.cons (cs:=[I r1]) rfl rfl rfl rfl rfl<|.cons (cs:=[I ab]) rfl rfl rfl rfl rfl<|.nil)) ?_;refine t_sw 1 0 [I r1,I ab] (.agg #[I r1,I ab]) H rfl rfl Sz54 rfl rfl rfl rfl ?_;intro cD H;refine s_nil ?_;refine W.ret ?_
  have bo:=(H.bl 1)
  have av:=M.e_pure hM
  exact ⟨_,(resE_of1 (v:=.agg #[I r1,I ab]) rfl (.cell (v:=.agg #[I r1,I ab]) rfl (run_loadVar_ag (ds:=[I r1,I ab]) Ag54 Sz54 bo rfl rfl)<|.nil)),⟨r1,ab,av,rfl,(H.pk [0])⟩⟩
 skip
 refine t_alloc (cs:=[I 0,I 0,I 0,I 0]) H Al61 rfl ?_;intro aK cE H
 refine s_nil ⟨(H.pk [1,2]),?_⟩
 refine t_l rfl ?_;obtain ⟨cF,bp,hM⟩:=M.e_bind hM;refine s_call cf67 [] rfl (zc1 bp _ (H.gt 4)) ?_
 rintro vq cG ⟨rfl,hvq,aj⟩
 subst vq;(try dsimp only at hM);replace H:=H.bk aj;clear aj
 refine s_nil ⟨(H.pk [1,2]),?_⟩
 refine t_l rfl ?_;obtain ⟨cH,bq,hM⟩:=M.e_bind hM;refine s_call cf69 [Pq aq,au,.agg #[I r_.up,I r_.down,I r_.lo,I r_.hi,B r_.narrow],.agg #[.func (.func 106) #[] #[]]] rfl (zcb aw ax ay marks r_ (az.app _) aA (aB.app _) aC (aD.app _) aE (aF.app _) (aG.app _) aH bq _ ((H.pk [3,0,1,2]).gt 3)) ?_
 rintro vq cI ⟨ak,am,ao,ap,r1,rfl,hvq,aj⟩
 subst vq;(try dsimp only at hM)
 replace H:=H.pk [3,0,1,2] |>.bk aj
 clear aj
 refine s_nil ⟨(H.pk [2,3]),?_⟩
 refine t_q rfl (fun w' H=>x_mv (v:=.tuple #[.agg #[I ak,I am,I ao,I ap],I r1]) rfl)<|t_q rfl (fun w' H=>x_ext (vs:=[.agg #[I ak,I am,I ao,I ap],I r1]) (v:=.agg #[I ak,I am,I ao,I ap]) rfl rfl)<|t_q rfl (fun w' H=>x_ext (vs:=[.agg #[I ak,I am,I ao,I ap],I r1]) (v:=I r1) rfl rfl)<|t_l rfl ?_;refine t_sw 1 0 [I ak,I am,I ao,I ap] (.agg #[I ak,I am,I ao,I ap]) H rfl rfl Sz61 rfl rfl rfl rfl ?_;intro cJ H
 refine s_nil ⟨(H.pk [2,3]),?_⟩
 refine t_q rfl (fun w' H=>x_as (v:=I r1) rfl) ?_;refine t_nil<|W.seq ?_;refine W.drawT (fun W=>St w W [cBlk aK [I ak,I am,I ao,I ap] 61,cBlk aM [I 0,I 0] 54,cBlk aL [I r_.up,I r_.down,I r_.lo,I r_.hi,B r_.narrow] 58] R) (.q 0 (.q 1 (.q 2 (.l2 3 (.l2 4 (.q 5 (.q 6 (.q 7 (.l 8 (.l 9 (.q 10 .nil)))))) 8 (.l 4 (.q 5 (.q 6 (.q 7 (.l 9 (.q 10 .nil))))))) 8 (.l 3 (.l 4 (.q 5 (.q 6 (.q 7 (.l 9 (.q 10 .nil))))))))))) mixed (by decide +kernel) rfl ?_;intro cK aI;replace H:=H.ext aI;clear aI
 refine ⟨(H.pk [1,2,3]),?_⟩
 refine t_q rfl (fun w' H=>x_mv (v:=Pq aq) rfl)<|t_q rfl (fun w' H=>x_mv (v:=au) rfl)<|t_q rfl (fun w' H=>x_ld (v:=.agg #[I r_.up,I r_.down,I r_.lo,I r_.hi,B r_.narrow]) rfl (ldb_ag (ds:=[I r_.up,I r_.down,I r_.lo,I r_.hi,B r_.narrow]) Ag58 Sz58 (H.bl 2) rfl rfl)) ?_;refine t_l2 rfl rfl ?_ ?_
 ·skip
  obtain ⟨cL,br,hM⟩:=M.e_bind hM;refine s_call cf68 [] rfl (zaI br _ (H.gt 4)) ?_
  rintro vq cM ⟨rfl,hvq,aj⟩
  subst vq;(try dsimp only at hM);replace H:=H.bk aj;clear aj
  refine s_nil ⟨(H.pk [1,2,3]),?_⟩
  refine t_l2 rfl rfl ?_ ?_
  ·skip
   obtain ⟨cN,bt,hM⟩:=M.e_bind hM;refine s_call cf69 [Pq aq,au,.agg #[I r_.up,I r_.down,I r_.lo,I r_.hi,B r_.narrow],.agg #[.func (.func 107) #[] #[]]] rfl (zaj aw ax ay marks r_ (az.app _) aA (aB.app _) aC (aD.app _) aE (aF.app _) (aG.app _) aH bt _ (H.gt 3)) ?_
   rintro vq cO ⟨ac,ae,ag,ai,ab,rfl,hvq,aj⟩
   subst vq;(try dsimp only at hM);replace H:=H.bk aj;clear aj
   refine s_nil ⟨(H.pk [1,2,3]),?_⟩
   refine t_q rfl (fun w' H=>x_mv (v:=.tuple #[.agg #[I ac,I ae,I ag,I ai],I ab]) rfl)<|t_q rfl (fun w' H=>x_ext (vs:=[.agg #[I ac,I ae,I ag,I ai],I ab]) (v:=.agg #[I ac,I ae,I ag,I ai]) rfl rfl)<|t_q rfl (fun w' H=>x_ext (vs:=[.agg #[I ac,I ae,I ag,I ai],I ab]) (v:=I ab) rfl rfl)<|t_l rfl ?_;refine t_alloc (cs:=[I 0,I 0,I 0,I 0]) H Al61 rfl ?_;intro aJ cP H
   refine s_nil ⟨(H.pk [2,3,4]),?_⟩
   refine t_l rfl ?_;refine t_sw 0 0 [I ac,I ae,I ag,I ai] (.agg #[I ac,I ae,I ag,I ai]) H rfl rfl Sz61 rfl rfl rfl rfl ?_;intro cQ H
   refine s_nil ⟨(H.pk [2,3,4]),?_⟩
   refine t_q rfl (fun w' H=>x_as (v:=I ab) rfl) ?_;refine t_nil ?_;replace H:=H.pk [1,3];refine W.seq<|W.region rfl<|zM (I r1) rfl<|zM (I ab) rfl<|s_val (x_bld (ps:=[(0,I r1),(1,I ab)]) (zs:=[I 0,I 0]) (L':=[I r1,I ab]) rfl Tryz.underlying54 Al54 rfl (Bd54 Tryz.underlying54) (.cons (cs:=[I r1]) rfl rfl rfl rfl rfl<|.cons (cs:=[I ab]) rfl rfl rfl rfl rfl<|.nil)) ?_;refine t_sw 1 0 [I r1,I ab] (.agg #[I r1,I ab]) H rfl rfl Sz54 rfl rfl rfl rfl ?_;intro cR H;refine s_nil ?_;refine W.ret ?_
   have bu:=(H.bl 1)
   have av:=M.e_pure hM
   exact ⟨_,(resE_of1 (v:=.agg #[I r1,I ab]) rfl (.cell (v:=.agg #[I r1,I ab]) rfl (run_loadVar_ag (ds:=[I r1,I ab]) Ag54 Sz54 bu rfl rfl)<|.nil)),⟨r1,ab,av,rfl,(H.pk [0])⟩⟩
  skip
  refine t_alloc (cs:=[I 0,I 0,I 0,I 0]) H Al61 rfl ?_;intro aJ cS H
  refine s_nil ⟨(H.pk [2,3,4]),?_⟩
  refine t_l rfl ?_;obtain ⟨cT,bv,hM⟩:=M.e_bind hM;refine s_call cf69 [Pq aq,au,.agg #[I r_.up,I r_.down,I r_.lo,I r_.hi,B r_.narrow],.agg #[.func (.func 107) #[] #[]]] rfl (zaj aw ax ay marks r_ (az.app _) aA (aB.app _) aC (aD.app _) aE (aF.app _) (aG.app _) aH bv _ ((H.pk [1,0,2,3,4]).gt 4)) ?_
  rintro vq cU ⟨ac,ae,ag,ai,ab,rfl,hvq,aj⟩
  subst vq;(try dsimp only at hM)
  replace H:=H.pk [1,0,2,3,4] |>.bk aj
  clear aj
  refine s_nil ⟨(H.pk [2,3,4]),?_⟩
  refine t_q rfl (fun w' H=>x_mv (v:=.tuple #[.agg #[I ac,I ae,I ag,I ai],I ab]) rfl)<|t_q rfl (fun w' H=>x_ext (vs:=[.agg #[I ac,I ae,I ag,I ai],I ab]) (v:=.agg #[I ac,I ae,I ag,I ai]) rfl rfl)<|t_q rfl (fun w' H=>x_ext (vs:=[.agg #[I ac,I ae,I ag,I ai],I ab]) (v:=I ab) rfl rfl)<|t_l rfl ?_;refine t_sw 1 0 [I ac,I ae,I ag,I ai] (.agg #[I ac,I ae,I ag,I ai]) H rfl rfl Sz61 rfl rfl rfl rfl ?_;intro cV H
  refine s_nil ⟨(H.pk [2,3,4]),?_⟩
  refine t_q rfl (fun w' H=>x_as (v:=I ab) rfl) ?_;refine t_nil ?_;replace H:=H.pk [0,3];refine W.seq<|W.region rfl<|zM (I r1) rfl<|zM (I ab) rfl<|s_val (x_bld (ps:=[(0,I r1),(1,I ab)]) (zs:=[I 0,I 0]) (L':=[I r1,I ab]) rfl Tryz.underlying54 Al54 rfl (Bd54 Tryz.underlying54) (.cons (cs:=[I r1]) rfl rfl rfl rfl rfl<|.cons (cs:=[I ab]) rfl rfl rfl rfl rfl<|.nil)) ?_;refine t_sw 1 0 [I r1,I ab] (.agg #[I r1,I ab]) H rfl rfl Sz54 rfl rfl rfl rfl ?_;intro cW H;refine s_nil ?_;refine W.ret ?_
  have bw:=(H.bl 1)
  have av:=M.e_pure hM
  exact ⟨_,(resE_of1 (v:=.agg #[I r1,I ab]) rfl (.cell (v:=.agg #[I r1,I ab]) rfl (run_loadVar_ag (ds:=[I r1,I ab]) Ag54 Sz54 bw rfl rfl)<|.nil)),⟨r1,ab,av,rfl,(H.pk [0])⟩⟩
 skip
 refine t_alloc (cs:=[I 0,I 0,I 0,I 0]) H Al61 rfl ?_;intro aJ cX H
 refine s_nil ⟨(H.pk [2,3,4]),?_⟩
 refine t_l rfl ?_;obtain ⟨cY,bx,hM⟩:=M.e_bind hM;refine s_call cf68 [] rfl (zaI bx _ (H.gt 5)) ?_
 rintro vq cZ ⟨rfl,hvq,aj⟩
 subst vq;(try dsimp only at hM);replace H:=H.bk aj;clear aj
 refine s_nil ⟨(H.pk [2,3,4]),?_⟩
 refine t_l rfl ?_;obtain ⟨c8,bz,hM⟩:=M.e_bind hM;refine s_call cf69 [Pq aq,au,.agg #[I r_.up,I r_.down,I r_.lo,I r_.hi,B r_.narrow],.agg #[.func (.func 107) #[] #[]]] rfl (zaj aw ax ay marks r_ (az.app _) aA (aB.app _) aC (aD.app _) aE (aF.app _) (aG.app _) aH bz _ ((H.pk [1,0,2,3,4]).gt 4)) ?_
 rintro vq c9 ⟨ac,ae,ag,ai,ab,rfl,hvq,aj⟩
 subst vq;(try dsimp only at hM)
 replace H:=H.pk [1,0,2,3,4] |>.bk aj
 clear aj
 refine s_nil ⟨(H.pk [2,3,4]),?_⟩
 refine t_q rfl (fun w' H=>x_mv (v:=.tuple #[.agg #[I ac,I ae,I ag,I ai],I ab]) rfl)<|t_q rfl (fun w' H=>x_ext (vs:=[.agg #[I ac,I ae,I ag,I ai],I ab]) (v:=.agg #[I ac,I ae,I ag,I ai]) rfl rfl)<|t_q rfl (fun w' H=>x_ext (vs:=[.agg #[I ac,I ae,I ag,I ai],I ab]) (v:=I ab) rfl rfl)<|t_l rfl ?_;refine t_sw 1 0 [I ac,I ae,I ag,I ai] (.agg #[I ac,I ae,I ag,I ai]) H rfl rfl Sz61 rfl rfl rfl rfl ?_;intro da H
 refine s_nil ⟨(H.pk [2,3,4]),?_⟩
 refine t_q rfl (fun w' H=>x_as (v:=I ab) rfl) ?_;refine t_nil ?_;replace H:=H.pk [0,3];refine W.seq<|W.region rfl<|zM (I r1) rfl<|zM (I ab) rfl<|s_val (x_bld (ps:=[(0,I r1),(1,I ab)]) (zs:=[I 0,I 0]) (L':=[I r1,I ab]) rfl Tryz.underlying54 Al54 rfl (Bd54 Tryz.underlying54) (.cons (cs:=[I r1]) rfl rfl rfl rfl rfl<|.cons (cs:=[I ab]) rfl rfl rfl rfl rfl<|.nil)) ?_;refine t_sw 1 0 [I r1,I ab] (.agg #[I r1,I ab]) H rfl rfl Sz54 rfl rfl rfl rfl ?_;intro db H;refine s_nil ?_;refine W.ret ?_
 have bA:=(H.bl 1)
 have av:=M.e_pure hM
 exact ⟨_,(resE_of1 (v:=.agg #[I r1,I ab]) rfl (.cell (v:=.agg #[I r1,I ab]) rfl (run_loadVar_ag (ds:=[I r1,I ab]) Ag54 Sz54 bA rfl rfl)<|.nil)),⟨r1,ab,av,rfl,(H.pk [0])⟩⟩

def zab (n ab greatest:Int):M Bool :=
  M.pure ((decide (ab<=n))&&(decide (n<=greatest)))
theorem zac {R:List Chunk}  (n:Int) (ab:Int) (greatest:Int)  {r:Bool} (hM:(zab n ab greatest).Ends r) (w:World) (H:St w w [] R):Ret Tryz.prog 70 #[I n,I ab,I greatest] w fun v w'=>∃ (y0:Bool),y0=r/\v=B y0/\St w w' [] R:=by
 refine ret_of_W Tryz.func70 rfl rfl rfl<|W.seq<|W.region rfl<|zA (B false) rfl<|s_nil<|W.seq<|W.region rfl<|zM (I n) rfl<|zM (I ab) rfl<|zC n ab (decide (ab<=n)) rfl rfl rfl<|zM (B (decide (ab<=n))) rfl ?_;refine g_val (decide (ab<=n)) (gy_t rfl) (fun hg=>x_mv (v:=I n) rfl)<|g_val (decide (ab<=n)) (gy_t rfl) (fun hg=>x_mv (v:=I greatest) rfl)<|g_val (decide (ab<=n)) (gy_t rfl) (fun hg=>x_cmp (kd:=.i64) (r:=decide (n<=greatest)) (gd_of hg (I n)) (gd_of hg (I greatest)) rfl)<|s_val (x_pand (b:=decide (ab<=n)) (r:=decide (n<=greatest)) rfl (fun hb=>gd_of (c:=decide (ab<=n)) (by first | exact hb | (rw [hb]; rfl) | simp_all) (B (decide (n<=greatest)))) rfl)<|zA (B ((decide (ab<=n))&&(decide (n<=greatest)))) rfl<|s_nil ?_;refine W.ret ?_
 have ac:=M.e_pure hM
 exact ⟨_,resE_tmp rfl,⟨((decide (ab<=n))&&(decide (n<=greatest))),ac,rfl,H⟩⟩

def zat (s:List Sect) (f:Sect->M Bool):Nat->M (Nat ⊕ (Int ⊕ Unit)):=fun s2 =>
  bif decide ((s2:Int)<(s.length:Int)) then (
  M.grd (decide ((s2:Int)<(s.length:Int))) <|
  M.bind (f (s.getD s2 default)) fun r2 =>
  bif r2 then (
  M.pure (.inr (.inl (s2:Int))))
  else (
  M.pure (.inl (s2+1))))
  else (
  M.pure (.inr (.inr ())))
def zci (s:List Sect) (f:Sect->M Bool):M Int :=
  M.bind (M.iter (zat s f) 0) fun x_=>match x_ with
  | (.inl s3)=>(
  M.pure s3)
  | (.inr (_:Unit))=>(
  M.pure (-1))
theorem zel {R:List Chunk} {ap:Cells} {ac:Value} {ae:Value} (s:List Sect) (f:Sect->M Bool) (aq:Reads R ap) (ag:Sl ap ac s) (ax:FnM Tryz.prog R ae f) {r:Int} (hM:(zci s f).Ends r) (w:World) (H:St w w [] R):Ret Tryz.prog 135 #[ac,ae] w fun v w'=>∃ (y0:Int),y0=r/\v=I y0/\St w w' [] R:=by
 refine ret_of_W Tryz.func135 rfl rfl rfl<|W.seq<|W.region rfl<|zA (I 0) rfl<|s_nil<|W.seq<|W.seq<|W.region rfl<|zM ac rfl ?_
 have aF:=(ag).len_le
 refine s_val (x_lenS T23.und rfl ag)<|zM (I 0) rfl<|s_nil<|W.block ?_;obtain ⟨ay,aj,au⟩:=M.e_bind hM
 obtain ⟨aG,aj⟩:=M.e_iter aj
 refine W.loop (fun m σ W=>∃ (s2:Nat) (ρ:Env),σ=upds ρ [(0,ac),(1,ae),(7,I (s.length:Int)),(8,I (s2:Int))]/\M.iterN (zat s f) m s2=some ay/\St w W [] R) ?_ ?_
 ·exact ⟨_,0,_,upds_of _ _ ⟨rfl,rfl,rfl,rfl,trivial⟩,aj,H⟩
 rintro aH σ aI ⟨s2,ρ,rfl,av,H⟩
 obtain ⟨az,aA,aJ,hM,ak⟩:=M.e_iterN av
 simp only [zat] at hM
 clear av;refine W.seq<|W.region rfl<|zC (s2:Int) (s.length:Int) (decide ((s2:Int)<(s.length:Int))) rfl rfl rfl<|s_nil<|W.seq ?_
 refine W.cond (decide ((s2:Int)<(s.length:Int))) rfl (fun ab=>?_) (fun ab=>?_)
 ·replace hM:=M.e_t hM ab
  replace ab:=dI ab
  refine W.skip<|W.seq<|W.block<|W.seq<|W.region rfl<|zM (I (s2:Int)) rfl<|zA (I (s2:Int)) rfl<|s_nil<|W.seq<|W.region rfl ?_;refine zM ae rfl<|zM ac rfl<|zM (I (s2:Int)) rfl ?_;obtain ⟨aK,hM⟩:=M.e_gd hM;refine s_val (x_ix (v:=vat ac 2 (Int.toNat (s2:Int))) rfl rfl (Sl.ix (α:=Sect) T23.und T23.size ag (by omega) (by omega))) ?_
  obtain ⟨aw,aB,ai⟩:=Sect_atA ag (i:=(s2:Int)) (by omega) (by omega)
  replace ai:Sl _ aw (s.getD s2 default).rows:=ai
  have aL:=ai.len_le
  refine s_val (x_ld (v:=.agg #[I ((s.getD s2 default).place),aw]) rfl (ld_ag Ag68 Sz68 (At.mono aB (aq.at H)))) ?_;obtain ⟨r2,aC,hM⟩:=M.e_bind hM;refine t_callM H ax rfl rfl (s.getD s2 default) (aq.app _) ⟨_,Sect_mk ai,rfl⟩ aC ?_;intro aM H;refine s_nil ?_
  refine W.cond r2 rfl (fun am=>?_) (fun am=>?_)
  ·replace hM:=M.e_t hM am;refine W.seq<|W.region rfl<|zM (I (s2:Int)) rfl<|zA (I (s2:Int)) rfl<|s_nil ?_;refine W.ret ?_
   have aD:=M.e_inr hM ak
   subst aD;replace hM:=au;(try dsimp only at hM)
   have ao:=M.e_pure hM
   exact ⟨_,resE_tmp rfl,⟨(s2:Int),ao,rfl,H⟩⟩
  replace hM:=M.e_f hM am;refine W.skip<|W.region rfl<|zR (s2:Int) 1 ((s2:Int)+1) rfl rfl rfl (by omega)<|zM (I ((s2:Int)+1)) rfl<|s_nil ?_
  exact ⟨az,aA,s2+1,_,upds_of _ _ ⟨rfl,rfl,rfl,rfl,trivial⟩,M.e_inl hM ak,H⟩
 replace hM:=M.e_f hM ab
 replace ab:=dI ab
 refine W.exit ?_
 have aE:=M.e_inr hM ak
 subst aE;replace hM:=au;(try dsimp only at hM);refine W.seq<|W.region rfl<|zA (I (-1)) rfl<|s_nil ?_;refine W.ret ?_
 have ao:=M.e_pure hM
 exact ⟨_,resE_tmp rfl,⟨(-1),ao,rfl,H⟩⟩

def zct (s:List Sect) (f:Sect->M Bool):M Bool :=
  M.bind (zci s f) fun r2 =>
  M.pure (decide (0<=r2))
theorem zdN {R:List Chunk} {ae:Cells} {ab:Value} {ac:Value} (s:List Sect) (f:Sect->M Bool) (ai:Reads R ae) (aj:Sl ae ab s) (ak:FnM Tryz.prog R ac f) {r:Bool} (hM:(zct s f).Ends r) (w:World) (H:St w w [] R):Ret Tryz.prog 109 #[ab,ac] w fun v w'=>∃ (y0:Bool),y0=r/\v=B y0/\St w w' [] R:=by
 refine ret_of_W Tryz.func109 rfl rfl rfl<|W.seq<|W.region rfl<|zA (B false) rfl<|s_nil<|W.seq<|W.region rfl<|zM ab rfl<|zM ac rfl ?_;obtain ⟨ap,am,hM⟩:=M.e_bind hM;refine s_call cf135 [ab,ac] rfl (zel s f (ai.app _) aj (ak.app _) am _ (H.gt 0)) ?_
 rintro vq aq ⟨r2,rfl,hvq,ag⟩
 subst vq;(try dsimp only at hM);replace H:=H.bk ag;clear ag;refine zC r2 0 (decide (0<=r2)) rfl rfl rfl<|zA (B (decide (0<=r2))) rfl<|s_nil ?_;refine W.ret ?_
 have ao:=M.e_pure hM
 exact ⟨_,resE_tmp rfl,⟨(decide (0<=r2)),ao,rfl,H⟩⟩

def zbb (x:Sect) (ab:Sect->M Bool):M Bool :=
  M.bind (ab x) fun r2 =>
  M.pure (!r2)
theorem zdJ {R:List Chunk} {ae:Cells} {ab:Value} {ag:Nat} {ac:Value} (x:Sect) (ai:Sect->M Bool) (aj:Reads R ae) (ak:Sl ae ab x.rows) (am:FnM Tryz.prog R ac ai) (ao:Has R (cBlk ag [ac] 152)) {r:Bool} (hM:(zbb x ai).Ends r) (w:World) (H:St w w [] R):Ret Tryz.prog 110 #[.agg #[I x.place,ab],Pq ag] w fun v w'=>∃ (y0:Bool),y0=r/\v=B y0/\St w w' [] R:=by
 refine ret_of_W Tryz.func110 rfl rfl rfl<|W.seq<|W.region rfl ?_;refine t_bx [I x.place,ab] H rfl ?_;intro au av H;refine zA (B false) rfl<|s_nil<|W.seq<|W.region rfl<|s_val (x_ld (v:=ac) rfl (ldb_sc Sc152 (ao.blk H) rfl))<|s_val (x_ld (v:=.agg #[I x.place,ab]) rfl (ldb_ag (ds:=[I x.place,ab]) Ag68 Sz68 (H.bl 0) rfl rfl)) ?_;obtain ⟨r2,ap,hM⟩:=M.e_bind hM;refine t_callM H am rfl rfl x (aj.app _) ⟨_,Sect_mk ak,rfl⟩ ap ?_;intro aw H;refine s_val (x_not (b:=r2) rfl)<|zA (B (!r2)) rfl<|s_nil ?_;refine W.ret ?_
 have aq:=M.e_pure hM
 exact ⟨_,resE_tmp rfl,⟨(!r2),aq,rfl,(H.pk [])⟩⟩

def za3 (l:List Sect) (so:Sect->M Bool):M Bool :=
  M.bind (zct l (fun ab=>zbb ab so)) fun r2 =>
  M.pure (!r2)
theorem zeB {R:List Chunk} {ai:Cells} {ab:Value} {ac:Value} (l:List Sect) (so:Sect->M Bool) (ao:Reads R ai) (ap:Sl ai ab l) (aj:FnM Tryz.prog R ac so) {r:Bool} (hM:(za3 l so).Ends r) (w:World) (H:St w w [] R):Ret Tryz.prog 75 #[ab,ac] w fun v w'=>∃ (y0:Bool),y0=r/\v=B y0/\St w w' [] R:=by
 refine ret_of_W Tryz.func75 rfl rfl rfl<|W.seq<|W.region rfl ?_;refine t_box (v:=ac) (cs:=[ac]) H rfl (FnM.cells aj) ?_;intro ae aE H;refine zA (B false) rfl<|s_nil<|W.seq<|W.region rfl<|zM ab rfl<|s_val (x_mf (fs:=[]) (cs:=[Pq ae]) rfl rfl) ?_;obtain ⟨aF,aq,hM⟩:=M.e_bind hM;refine s_call cf109 [ab,.func (.func 110) #[] #[Pq ae]] rfl (zdN l (fun ag=>zbb ag so) (ao.app _) ap ⟨110,[Pq ae],rfl,cf110,fun ak aG aH au ag aI av aw ax ay=>by obtain ⟨aJ,rfl,az⟩:=Sect_arg ax; exact (zdJ ag so aw az (FnM.app (aj.app _) _) (Has.app (Has.here (k:=0) rfl) _) ay ak (St.refl av)).mono fun au ak ⟨aK,aA,aB,aC⟩=>by subst aA; exact ⟨aB,aC⟩⟩ aq _ (H.gt 1)) ?_
 rintro vq aL ⟨r2,rfl,hvq,am⟩
 subst vq;(try dsimp only at hM);replace H:=H.bk am;clear am;refine s_val (x_not (b:=r2) rfl)<|zA (B (!r2)) rfl<|s_nil ?_;refine W.ret ?_
 have aD:=M.e_pure hM
 exact ⟨_,resE_tmp rfl,⟨(!r2),aD,rfl,(H.pk [])⟩⟩

def zaW (x:Sect):M Bool :=
  M.bind (zab (x.rows.length:Int) 2 8) fun r2 =>
  M.pure r2
theorem zey {R:List Chunk} {ac:Cells} {ab:Value} (x:Sect) (am:Reads R ac) (ae:Sl ac ab x.rows) {r:Bool} (hM:(zaW x).Ends r) (w:World) (H:St w w [] R):Ret Tryz.prog 74 #[.agg #[I x.place,ab]] w fun v w'=>∃ (y0:Bool),y0=r/\v=B y0/\St w w' [] R:=by
 refine ret_of_W Tryz.func74 rfl rfl rfl<|W.seq<|W.region rfl ?_;refine t_bx [I x.place,ab] H rfl ?_;intro ai ao H;refine zA (B false) rfl<|s_nil<|W.seq<|W.region rfl<|s_val (x_fa (v:=Oq ai 1) rfl (fa_blk (o:=0) Fd68_1 Sz66))<|s_val (x_ld (v:=ab) rfl (ldb_sc Sc66 (H.bl 0) rfl)) ?_
 have ap:=(ae).len_le
 refine s_val (x_lenS T66.und rfl ae) ?_;obtain ⟨aq,aj,hM⟩:=M.e_bind hM;refine s_call cf70 [I (x.rows.length:Int),I 2,I 8] rfl (zac (x.rows.length:Int) 2 8 aj _ (H.gt 1)) ?_
 rintro vq au ⟨r2,rfl,hvq,ag⟩
 subst vq;(try dsimp only at hM);replace H:=H.bk ag;clear ag;refine zA (B r2) rfl<|s_nil ?_;refine W.ret ?_
 have ak:=M.e_pure hM
 exact ⟨_,resE_tmp rfl,⟨r2,ak,rfl,(H.pk [])⟩⟩

def zaz (x:Sect):(Int × Int × Nat)->M ((Int × Int × Nat) ⊕ ((Int × Int) ⊕ (Int × Int))):=fun (s,s2,s3) =>
  bif decide ((s3:Int)<(x.rows.length:Int)) then (
  M.grd (decide ((s3:Int)<(x.rows.length:Int))) <|
  M.grd (decide ((-9223372036854775808:Int)<=(s+1))&&decide ((s+1)<=(9223372036854775807:Int))) <|
  M.bind (zab ((x.rows.getD s3 default).stage) (s+1) 2000) fun r2 =>
  M.bind (M.opt (!(!r2)) (zab ((x.rows.getD s3 default).carry) s2 100000) false) fun r3 =>
  bif ((!r2)||(!r3)) then (
  M.pure (.inr (.inl (s,s2))))
  else (
  M.pure (.inl ((x.rows.getD s3 default).stage,(x.rows.getD s3 default).carry,s3+1))))
  else (
  M.pure (.inr (.inr (s,s2))))
def za2 (x:Sect):M Bool :=
  M.bind (M.iter (zaz x) (-1,0,0)) fun x_=>match x_ with
  | (.inl (s4,s5))=>(
  M.pure false)
  | (.inr (s6,s7))=>(
  M.bind (zab x.place 0 10000) fun r4 =>
  M.pure r4)
theorem zdX {R:List Chunk} {au:Cells} {ab:Value} (x:Sect) (ax:Reads R au) (aj:Sl au ab x.rows) {r:Bool} (hM:(za2 x).Ends r) (w:World) (H:St w w [] R):Ret Tryz.prog 76 #[.agg #[I x.place,ab]] w fun v w'=>∃ (y0:Bool),y0=r/\v=B y0/\St w w' [] R:=by
 refine ret_of_W Tryz.func76 rfl rfl rfl<|W.seq<|W.region rfl ?_;refine t_bx [I x.place,ab] H rfl ?_;intro ak aH H;refine zA (B false) rfl<|s_nil<|W.seq<|W.region rfl<|s_val (x_bld (ps:=[(0,I (-1))]) (zs:=[I 0,I 0]) (L':=[I (-1),I 0]) rfl Tryz.underlying109 Al109 rfl (Bd109 Tryz.underlying109) (.cons (cs:=[I (-1)]) rfl rfl rfl rfl rfl<|.nil)) ?_;refine t_alloc (cs:=[I 0,I 0]) H Al109 rfl ?_;intro ae aI H;refine t_sw 0 0 [I (-1),I 0] (.agg #[I (-1),I 0]) H rfl rfl Sz109 rfl rfl rfl rfl ?_;intro aJ H;refine s_nil<|W.seq<|W.seq<|W.region rfl<|s_val (x_fa (v:=Oq ak 1) rfl (fa_blk (o:=0) Fd68_1 Sz66))<|s_val (x_ld (v:=ab) rfl (ldb_sc Sc66 (H.bl 1) rfl)) ?_
 have aK:=(aj).len_le
 refine s_val (x_lenS T66.und rfl aj)<|zM (I 0) rfl<|s_nil<|W.block ?_;obtain ⟨ay,am,av⟩:=M.e_bind hM
 obtain ⟨aL,am⟩:=M.e_iter am
 refine W.loop (fun m σ W=>∃ (s:Int) (s2:Int) (s3:Nat) (ρ:Env),σ=upds ρ [(1,Pq ak),(3,Pq ae),(8,ab),(9,I (x.rows.length:Int)),(10,I (s3:Int))]/\M.iterN (zaz x) m (s,s2,s3)=some ay/\St w W [cBlk ae [I s,I s2] 109,cBlk ak [I x.place,ab] 68] R) ?_ ?_
 ·exact ⟨_,-1,0,0,_,upds_of _ _ ⟨rfl,rfl,rfl,rfl,rfl,trivial⟩,am,H⟩
 rintro aM σ aN ⟨s,s2,s3,ρ,rfl,aw,H⟩
 obtain ⟨az,aA,aO,hM,ao⟩:=M.e_iterN aw
 simp only [zaz] at hM
 clear aw;refine W.seq<|W.region rfl<|zC (s3:Int) (x.rows.length:Int) (decide ((s3:Int)<(x.rows.length:Int))) rfl rfl rfl<|s_nil<|W.seq ?_
 refine W.cond (decide ((s3:Int)<(x.rows.length:Int))) rfl (fun ac=>?_) (fun ac=>?_)
 ·replace hM:=M.e_t hM ac
  replace ac:=dI ac
  refine W.skip<|W.seq<|W.block<|W.seq<|W.region rfl ?_;obtain ⟨aP,hM⟩:=M.e_gd hM;refine s_val (x_ix (v:=vat ab 2 (Int.toNat (s3:Int))) rfl rfl (Sl.ix (α:=FRow) T66.und T66.size aj (by omega) (by omega)))<|s_val (x_ld (v:=.agg #[I ((x.rows.getD s3 default).stage),I ((x.rows.getD s3 default).carry)]) rfl (ld_ag Ag109 Sz109 (At.mono (FRow_atA aj (i:=(s3:Int)) (by omega) (by omega)) (ax.at H)))) ?_;refine t_alloc (cs:=[I 0,I 0]) H Al109 rfl ?_;intro ap aQ H;refine t_sw 0 0 [I ((x.rows.getD s3 default).stage),I ((x.rows.getD s3 default).carry)] (.agg #[I ((x.rows.getD s3 default).stage),I ((x.rows.getD s3 default).carry)]) H rfl rfl Sz109 rfl rfl rfl rfl ?_;intro aR H;refine s_nil<|W.seq<|W.seq<|W.region rfl<|s_val (x_fa (v:=Pq ap) rfl (fa_blk (o:=0) Fd109_0 Sz3))<|s_val (x_ld (v:=I ((x.rows.getD s3 default).stage)) rfl (ldb_sc Sc3 (H.bl 0) rfl))<|s_val (x_fa (v:=Pq ae) rfl (fa_blk (o:=0) Fd109_0 Sz3))<|s_val (x_ld (v:=I s) rfl (ldb_sc Sc3 (H.bl 1) rfl)) ?_;obtain ⟨aS,hM⟩:=M.e_gd hM;refine zR s 1 (s+1) rfl rfl rfl (by omega) ?_;obtain ⟨aT,aB,hM⟩:=M.e_bind hM;refine s_call cf70 [I ((x.rows.getD s3 default).stage),I (s+1),I 2000] rfl (zac ((x.rows.getD s3 default).stage) (s+1) 2000 aB _ (H.gt 3)) ?_
  rintro vq aU ⟨r2,rfl,hvq,ag⟩
  subst vq;(try dsimp only at hM);replace H:=H.bk ag;clear ag;refine s_val (x_not (b:=r2) rfl)<|zM (B (!r2)) rfl<|g_val (!(!r2)) (gy_f rfl) (fun hg=>x_fa (v:=Oq ap 1) rfl (fa_blk (o:=0) Fd109_1 Sz3))<|g_val (!(!r2)) (gy_f rfl) (fun hg=>x_ld (v:=I ((x.rows.getD s3 default).carry)) (gd_of hg (Oq ap 1)) (ldb_sc Sc3 (H.bl 0) rfl))<|g_val (!(!r2)) (gy_f rfl) (fun hg=>x_fa (v:=Oq ae 1) rfl (fa_blk (o:=0) Fd109_1 Sz3))<|g_val (!(!r2)) (gy_f rfl) (fun hg=>x_ld (v:=I s2) (gd_of hg (Oq ae 1)) (ldb_sc Sc3 (H.bl 1) rfl)) ?_;obtain ⟨r3,aC,hM⟩:=M.e_bind hM;refine t_gcall (!(!r2)) (gy_f rfl) cf70 (B r3) (fun _=>[I ((x.rows.getD s3 default).carry),I s2,I 100000]) (fun hg=>lst3 (gd_of hg (I ((x.rows.getD s3 default).carry))) (gd_of hg (I s2)) rfl) H (fun hg=>(zac ((x.rows.getD s3 default).carry) s2 100000 (M.e_opt aC hg) _ (H.give (A:=[]) rfl)).mono fun v_ w_ ⟨y_,ai,aD,H_⟩=>by subst ai; exact ⟨aD,H.via H_⟩) ?_;intro aV H;refine g_val (!(!r2)) (gy_f rfl) (fun hg=>x_not (b:=r3) (gd_of hg (B r3)))<|s_val (x_por (b:=!r2) (r:=!r3) rfl rfl (fun hb=>gd_of (c:=!(!r2)) (by first | exact hb | (rw [hb]; rfl) | simp_all) (B (!r3))))<|s_nil ?_
  refine W.cond ((!r2)||(!r3)) rfl (fun aq=>?_) (fun aq=>?_)
  ·replace hM:=M.e_t hM aq;refine W.seq<|W.region rfl<|zA (B false) rfl<|s_nil ?_;refine W.ret ?_
   have aE:=M.e_inr hM ao
   subst aE;replace hM:=av;(try dsimp only at hM)
   have ai:=M.e_pure hM
   exact ⟨_,resE_tmp rfl,⟨false,ai,rfl,(H.pk [])⟩⟩
  replace hM:=M.e_f hM aq;refine W.skip<|W.region rfl<|s_val (x_ld (v:=.agg #[I ((x.rows.getD s3 default).stage),I ((x.rows.getD s3 default).carry)]) rfl (ldb_ag (ds:=[I ((x.rows.getD s3 default).stage),I ((x.rows.getD s3 default).carry)]) Ag109 Sz109 (H.bl 0) rfl rfl)) ?_;refine t_sw 1 0 [I ((x.rows.getD s3 default).stage),I ((x.rows.getD s3 default).carry)] (.agg #[I ((x.rows.getD s3 default).stage),I ((x.rows.getD s3 default).carry)]) H rfl rfl Sz109 rfl rfl rfl rfl ?_;intro aW H;refine s_nil<|W.region rfl<|zR (s3:Int) 1 ((s3:Int)+1) rfl rfl rfl (by omega)<|zM (I ((s3:Int)+1)) rfl<|s_nil ?_
  exact ⟨az,aA,(x.rows.getD s3 default).stage,(x.rows.getD s3 default).carry,s3+1,_,upds_of _ _ ⟨rfl,rfl,rfl,rfl,rfl,trivial⟩,M.e_inl hM ao,(H.pk [1,2])⟩
 replace hM:=M.e_f hM ac
 replace ac:=dI ac
 refine W.exit ?_
 have aF:=M.e_inr hM ao
 subst aF;replace hM:=av;(try dsimp only at hM);refine W.seq<|W.region rfl<|s_val (x_fa (v:=Pq ak) rfl (fa_blk (o:=0) Fd68_0 Sz3))<|s_val (x_ld (v:=I x.place) rfl (ldb_sc Sc3 (H.bl 1) rfl)) ?_;obtain ⟨aX,aG,hM⟩:=M.e_bind hM;refine s_call cf70 [I x.place,I 0,I 10000] rfl (zac x.place 0 10000 aG _ (H.gt 2)) ?_
 rintro vq aY ⟨r4,rfl,hvq,ag⟩
 subst vq;(try dsimp only at hM);replace H:=H.bk ag;clear ag;refine zA (B r4) rfl<|s_nil ?_;replace H:=H.pk [];refine W.ret ?_
 have ai:=M.e_pure hM
 exact ⟨_,resE_tmp rfl,⟨r4,ai,rfl,H⟩⟩

def zaD (s:List Mrk) (f:Mrk->M Bool):Nat->M (Nat ⊕ (Int ⊕ Unit)):=fun s2 =>
  bif decide ((s2:Int)<(s.length:Int)) then (
  M.grd (decide ((s2:Int)<(s.length:Int))) <|
  M.bind (f (s.getD s2 default)) fun r2 =>
  bif r2 then (
  M.pure (.inr (.inl (s2:Int))))
  else (
  M.pure (.inl (s2+1))))
  else (
  M.pure (.inr (.inr ())))
def zb8 (s:List Mrk) (f:Mrk->M Bool):M Int :=
  M.bind (M.iter (zaD s f) 0) fun x_=>match x_ with
  | (.inl s3)=>(
  M.pure s3)
  | (.inr (_:Unit))=>(
  M.pure (-1))
theorem zd2 {R:List Chunk} {ao:Cells} {ac:Value} {ae:Value} (s:List Mrk) (f:Mrk->M Bool) (au:Reads R ao) (ag:Sl ao ac s) (av:FnM Tryz.prog R ae f) {r:Int} (hM:(zb8 s f).Ends r) (w:World) (H:St w w [] R):Ret Tryz.prog 136 #[ac,ae] w fun v w'=>∃ (y0:Int),y0=r/\v=I y0/\St w w' [] R:=by
 refine ret_of_W Tryz.func136 rfl rfl rfl<|W.seq<|W.region rfl<|zA (I 0) rfl<|s_nil<|W.seq<|W.seq<|W.region rfl<|zM ac rfl ?_
 have aC:=(ag).len_le
 refine s_val (x_lenS T24.und rfl ag)<|zM (I 0) rfl<|s_nil<|W.block ?_;obtain ⟨aw,ai,ap⟩:=M.e_bind hM
 obtain ⟨aD,ai⟩:=M.e_iter ai
 refine W.loop (fun m σ W=>∃ (s2:Nat) (ρ:Env),σ=upds ρ [(0,ac),(1,ae),(7,I (s.length:Int)),(8,I (s2:Int))]/\M.iterN (zaD s f) m s2=some aw/\St w W [] R) ?_ ?_
 ·exact ⟨_,0,_,upds_of _ _ ⟨rfl,rfl,rfl,rfl,trivial⟩,ai,H⟩
 rintro aE σ aF ⟨s2,ρ,rfl,aq,H⟩
 obtain ⟨ax,ay,aG,hM,aj⟩:=M.e_iterN aq
 simp only [zaD] at hM
 clear aq;refine W.seq<|W.region rfl<|zC (s2:Int) (s.length:Int) (decide ((s2:Int)<(s.length:Int))) rfl rfl rfl<|s_nil<|W.seq ?_
 refine W.cond (decide ((s2:Int)<(s.length:Int))) rfl (fun ab=>?_) (fun ab=>?_)
 ·replace hM:=M.e_t hM ab
  replace ab:=dI ab
  refine W.skip<|W.seq<|W.block<|W.seq<|W.region rfl<|zM (I (s2:Int)) rfl<|zA (I (s2:Int)) rfl<|s_nil<|W.seq<|W.region rfl ?_;refine zM ae rfl<|zM ac rfl<|zM (I (s2:Int)) rfl ?_;obtain ⟨aH,hM⟩:=M.e_gd hM;refine s_val (x_ix (v:=vat ac 3 (Int.toNat (s2:Int))) rfl rfl (Sl.ix (α:=Mrk) T24.und T24.size ag (by omega) (by omega)))<|s_val (x_ld (v:=.agg #[I ((s.getD s2 default).place),I ((s.getD s2 default).lo),I ((s.getD s2 default).hi)]) rfl (ld_ag Ag70 Sz70 (At.mono (Mrk_atA ag (i:=(s2:Int)) (by omega) (by omega)) (au.at H)))) ?_;obtain ⟨r2,az,hM⟩:=M.e_bind hM;refine t_callM H av rfl rfl (s.getD s2 default) Reads.none ⟨_,rfl,rfl⟩ az ?_;intro aI H;refine s_nil ?_
  refine W.cond r2 rfl (fun ak=>?_) (fun ak=>?_)
  ·replace hM:=M.e_t hM ak;refine W.seq<|W.region rfl<|zM (I (s2:Int)) rfl<|zA (I (s2:Int)) rfl<|s_nil ?_;refine W.ret ?_
   have aA:=M.e_inr hM aj
   subst aA;replace hM:=ap;(try dsimp only at hM)
   have am:=M.e_pure hM
   exact ⟨_,resE_tmp rfl,⟨(s2:Int),am,rfl,H⟩⟩
  replace hM:=M.e_f hM ak;refine W.skip<|W.region rfl<|zR (s2:Int) 1 ((s2:Int)+1) rfl rfl rfl (by omega)<|zM (I ((s2:Int)+1)) rfl<|s_nil ?_
  exact ⟨ax,ay,s2+1,_,upds_of _ _ ⟨rfl,rfl,rfl,rfl,trivial⟩,M.e_inl hM aj,H⟩
 replace hM:=M.e_f hM ab
 replace ab:=dI ab
 refine W.exit ?_
 have aB:=M.e_inr hM aj
 subst aB;replace hM:=ap;(try dsimp only at hM);refine W.seq<|W.region rfl<|zA (I (-1)) rfl<|s_nil ?_;refine W.ret ?_
 have am:=M.e_pure hM
 exact ⟨_,resE_tmp rfl,⟨(-1),am,rfl,H⟩⟩

def zcw (s:List Mrk) (f:Mrk->M Bool):M Bool :=
  M.bind (zb8 s f) fun r2 =>
  M.pure (decide (0<=r2))
theorem zeb {R:List Chunk} {ae:Cells} {ab:Value} {ac:Value} (s:List Mrk) (f:Mrk->M Bool) (ai:Reads R ae) (aj:Sl ae ab s) (ak:FnM Tryz.prog R ac f) {r:Bool} (hM:(zcw s f).Ends r) (w:World) (H:St w w [] R):Ret Tryz.prog 111 #[ab,ac] w fun v w'=>∃ (y0:Bool),y0=r/\v=B y0/\St w w' [] R:=by
 refine ret_of_W Tryz.func111 rfl rfl rfl<|W.seq<|W.region rfl<|zA (B false) rfl<|s_nil<|W.seq<|W.region rfl<|zM ab rfl<|zM ac rfl ?_;obtain ⟨ap,am,hM⟩:=M.e_bind hM;refine s_call cf136 [ab,ac] rfl (zd2 s f (ai.app _) aj (ak.app _) am _ (H.gt 0)) ?_
 rintro vq aq ⟨r2,rfl,hvq,ag⟩
 subst vq;(try dsimp only at hM);replace H:=H.bk ag;clear ag;refine zC r2 0 (decide (0<=r2)) rfl rfl rfl<|zA (B (decide (0<=r2))) rfl<|s_nil ?_;refine W.ret ?_
 have ao:=M.e_pure hM
 exact ⟨_,resE_tmp rfl,⟨(decide (0<=r2)),ao,rfl,H⟩⟩

end Go.Proofs.YtlemgioaakecpaaGreat
end
namespace Go.Nm
namespace Fl
theorem Rows.pw:∀ {l:List FRow},Rows l->l.Pairwise (fun a b=>a.stage<b.stage)
  | [],_=>List.Pairwise.nil
  | [a],_=>List.pairwise_singleton _ _
  | a :: b :: r,h=>by
    obtain ⟨h1,h2,h3,h4,h5⟩:=h
    have ih:=h5.pw
    refine List.Pairwise.cons (fun x hx=>?_) ih
    rcases List.mem_cons.1 hx with rfl | hx
    · exact h2
    · have:=(List.pairwise_cons.1 ih).1 x hx
      omega
theorem Rows.lt {l:List FRow} (h:Rows l) {i j:Nat} (hij:i<j) (hj:j<l.length):(l.getD i default).stage<(l.getD j default).stage:=by
  rw [getD_el l (by omega),getD_el l hj]
  exact (List.pairwise_iff_getElem.1 h.pw) i j (by omega) hj hij
theorem Rows.el:∀ {l:List FRow},Rows l->∀ j,j<l.length->0<=(l.getD j default).stage/\(l.getD j default).stage<=2000/\0<=(l.getD j default).carry/\(l.getD j default).carry<=100000
  | [],_,j,hj=>by simp at hj
  | a :: r,h,0,_=>h.head
  | [a],_,j+1,hj=>by simp at hj
  | a :: b :: r,h,j+1,hj=>h.2.2.2.2.el j (by simp at hj ⊢; omega)
theorem Rows.cm:∀ {l:List FRow},Rows l->∀ j,j+1<l.length->(l.getD j default).carry<=(l.getD (j+1) default).carry
  | [],_,j,hj=>by simp at hj
  | [a],_,j,hj=>by simp at hj
  | a :: b :: r,h,0,_=>h.2.2.2.1
  | a :: b :: r,h,j+1,hj=>h.2.2.2.2.cm j (by simp at hj ⊢; omega)
theorem go_btw:∀ (r:List FRow) (a:FRow),Rows (a :: r)->∀ (k:Nat) (s:Int),k+1<(a :: r).length->((a :: r).getD k default).stage<=s->s<((a :: r).getD (k+1) default).stage →
    go a r s=ip ((a :: r).getD k default) ((a :: r).getD (k+1) default) s
  | [],_,_,k,_,hk,_,_=>by simp at hk
  | b :: r,a,h,0,s,_,h1,h2=>by
    exact if_pos (show s<b.stage from h2)
  | b :: r,a,h,k+1,s,hk,h1,h2=>by
    have hb:b.stage<=s:=by
      cases k with
      | zero=>exact h1
      | succ k =>
        have:=Rows.lt h (i:=1) (j:=k+2) (by omega) (by simp at hk ⊢; omega)
        have e:((a :: b :: r).getD 1 default).stage=b.stage:=rfl
        have e2:((a :: b :: r).getD (k+2) default).stage<=s:=h1
        omega
    show (if s<b.stage then ip a b s else go b r s)=_
    rw [if_neg (by omega)]
    exact go_btw r b h.2.2.2.2 k s (by simp at hk ⊢; omega) h1 h2
theorem go_last:∀ (r:List FRow) (a:FRow),Rows (a :: r)->∀ (s:Int),((a :: r).getD r.length default).stage<=s->go a r s=((a :: r).getD r.length default).carry
  | [],_,_,_,_=>rfl
  | b :: r,a,h,s,h1=>by
    have hb:b.stage<=s:=by
      cases r with
      | nil=>exact h1
      | cons c r =>
        have:=Rows.lt h (i:=1) (j:=r.length+2) (by omega) (by simp)
        have e:((a :: b :: c :: r).getD 1 default).stage=b.stage:=rfl
        have e2:((a :: b :: c :: r).getD (r.length+2) default).stage<=s:=h1
        omega
    show (if s<b.stage then ip a b s else go b r s)=_
    rw [if_neg (by omega)]
    exact go_last r b h.2.2.2.2 s h1
theorem car_zero {l:List FRow} {s:Int} (h:l ≠ []) (h1:s<(l.getD 0 default).stage):car l s=0:=by
  cases l with
  | nil=>exact absurd rfl h
  | cons a r=>exact if_pos h1
theorem car_btw {l:List FRow} (h:Rows l) {k:Nat} {s:Int} (hk:k+1<l.length) (h1:(l.getD k default).stage<=s) (h2:s<(l.getD (k+1) default).stage):car l s=ip (l.getD k default) (l.getD (k+1) default) s:=by
  cases l with
  | nil=>simp at hk
  | cons a r =>
    have h0:a.stage<=s:=by
      cases k with
      | zero=>exact h1
      | succ k =>
        have:=Rows.lt h (i:=0) (j:=k+1) (by omega) (by omega)
        have e:((a :: r).getD 0 default).stage=a.stage:=rfl
        omega
    exact (if_neg (by omega)).trans (go_btw r a h k s hk h1 h2)
theorem car_last {l:List FRow} (h:Rows l) {k:Nat} {s:Int} (hk:k+1=l.length) (h1:(l.getD k default).stage<=s):car l s=(l.getD k default).carry:=by
  cases l with
  | nil=>simp at hk
  | cons a r =>
    have hk':k=r.length:=by simp at hk; omega
    subst hk'
    have h0:a.stage<=s:=by
      rcases Nat.eq_zero_or_pos r.length with e | e
      · rw [e] at h1; exact h1
      · have:=Rows.lt h (i:=0) (j:=r.length) e (by simp)
        have e:((a :: r).getD 0 default).stage=a.stage:=rfl
        omega
    exact (if_neg (by omega)).trans (go_last r a h s h1)
theorem car_met {l:List FRow} (h:Rows l) {k:Nat} {s:Int} (hk:k<l.length) (h1:(l.getD k default).stage=s):car l s=(l.getD k default).carry:=by
  by_cases e:k+1<l.length
  · have:=Rows.lt h (i:=k) (j:=k+1) (by omega) e
    rw [car_btw h e (by omega) (by omega)]
    unfold ip
    rw [h1,Int.sub_self,Int.mul_zero,Int.zero_ediv,Int.add_zero]
  · exact car_last h (by omega) (by omega)
end Fl
end Go.Nm
namespace Go.Proofs.YtlemgioaakecpaaGreat
open Go Go.Nm
theorem root_ends {n:Int} (h0:0<=n) (h1:n<4611686018427387904):(zcE n).Ends (Fl.rt n):=by
  unfold zcE
  refine M.i_bind (M.Out.ends ?_) M.i_pure
  refine M.o_iter (fun m (s:Int × Int)=>0<=s.1/\s.1<=s.2/\s.2<=2147483648/\m=(s.2-s.1).toNat/\s.1*s.1<=n/\n<(s.2+1)*(s.2+1)) ?_ _ (0,2147483648) ⟨by decide,by decide,by decide,rfl,by simpa using h0,Int.lt_trans h1 (by decide)⟩
  rintro m ⟨l,h⟩ ⟨a,b,c,rfl,e,f⟩
  dsimp only at a b c e f ⊢
  simp only [zca]
  refine M.o_if (fun hb=>?_) (fun hb=>?_)
  · have hb:=of_decide_eq_true hb
    have q1:l<l+(h-l+1) / 2:=by omega
    have q2:l+(h-l+1) / 2<=h:=by omega
    refine M.o_grd (gA2 (by omega) (by omega)) (M.o_grd (gA2 (by omega) (by omega)) (M.o_grd (gA3 (by omega) (by omega) (by decide)) ?_))
    generalize l+(h-l+1) / 2=q at q1 q2 ⊢
    have s1:0<=q*q:=Int.mul_nonneg (by omega) (by omega)
    have s2:q*q<=2147483648*2147483648:=Fl.sq_mono (by omega) (by omega)
    refine M.o_grd (gA2 (by omega) (by omega)) (M.o_grd (gA2 (by omega) (by omega)) (M.o_if (fun hc=>?_) (fun hc=>?_)))
    · have hc:=of_decide_eq_true hc
      exact M.o_pure ⟨(h-q).toNat,by omega,by dsimp only; omega,by dsimp only; omega,by dsimp only; omega,rfl,hc,f⟩
    · have hc:=of_decide_eq_false hc
      refine M.o_grd (gA2 (by omega) (by omega)) (M.o_pure ⟨(q-1-l).toNat,by omega,by dsimp only; omega,by dsimp only; omega,by dsimp only; omega,rfl,e,?_⟩)
      dsimp only
      rw [show q-1+1=q by omega]
      omega
  · have hb:=of_decide_eq_false hb
    obtain rfl:l=h:=by omega
    exact M.o_pure (Fl.rt_uniq a e f).symm
theorem cmp_ends (x y:Int):(m_cmp_Compare_int x y).Ends (if x<y then -1 else if y<x then 1 else 0):=by
  unfold m_cmp_Compare_int m_cmp_isNaN_int
  refine M.i_bind (a:=false) (by rw [show false=(x != x) by simp]; exact M.i_pure) (M.i_bind (a:=false) (by rw [show false=(y != y) by simp]; exact M.i_pure) (M.i_f rfl (M.i_f rfl ?_)))
  by_cases h:x<y
  · rw [if_pos h]
    exact M.i_t (decide_eq_true h) M.i_pure
  · rw [if_neg h]
    refine M.i_f (decide_eq_false h) ?_
    by_cases h':y<x
    · rw [if_pos h']
      exact M.i_t (decide_eq_true h') M.i_pure
    · rw [if_neg h']
      exact M.i_f (decide_eq_false h') M.i_pure
theorem cmp1_ends (r:FRow) (s:Int):(zbt r s).Ends (if r.stage<s then -1 else if s<r.stage then 1 else 0):=by
  unfold zbt
  exact M.i_bind (cmp_ends _ _) M.i_pure
theorem bs_out {rows:List FRow} (hr:Fl.Rows rows) (hl:rows.length<=1000) (s:Int):(zck rows s).Out (fun x=>∃ k:Nat,x.1=k/\k<=rows.length ∧
    (∀ j,j<k->(rows.getD j default).stage<s)/\(∀ j,k<=j->j<rows.length->s<=(rows.getD j default).stage)/\(x.2=true->k<rows.length/\(rows.getD k default).stage=s)/\(x.2=false->k<rows.length->s<(rows.getD k default).stage)):=by
  unfold zck
  refine M.o_bind (P:=fun (i:Int)=>∃ k:Nat,i=(k:Int)/\k<=rows.length/\(∀ j,j<k->(rows.getD j default).stage<s)/\(∀ j,k<=j->j<rows.length->s<=(rows.getD j default).stage)) ?_ ?_
  · refine M.o_iter (fun m (x:Int × Int)=>∃ i j:Nat,x=((i:Int),(j:Int))/\i<=j/\j<=rows.length/\m=j-i/\(∀ q,q<i->(rows.getD q default).stage<s)/\(∀ q,j<=q->q<rows.length->s<=(rows.getD q default).stage)) ?_ _ (0,(rows.length:Int)) ⟨0,rows.length,rfl,Nat.zero_le _,Nat.le_refl _,rfl,fun q hq=>by omega,fun q h1 h2=>by omega⟩
    rintro m _ ⟨i,j,rfl,hij,hj,rfl,lo,hi⟩
    simp only [zcc]
    refine M.o_if (fun hb=>?_) (fun hb=>?_)
    · have hb:=of_decide_eq_true hb
      have e:((i:Int)+(j:Int)) / 2=(((i+j) / 2:Nat):Int):=by omega
      have k1:i<=(i+j) / 2:=by omega
      have k2:(i+j) / 2<j:=by omega
      rw [e]
      generalize (i+j) / 2=k at k1 k2 ⊢
      refine M.o_grd (gA2 (by omega) (by omega)) (M.o_grd (gA2 (by omega) (by omega)) (M.o_grd (gA2 (by omega) (by omega)) (M.o_grd (gA2 (by omega) (by omega)) (M.o_bindE (cmp1_ends _ s) ?_))))
      rw [Int.toNat_natCast]
      by_cases hs:(rows.getD k default).stage<s
      · rw [if_pos hs]
        refine M.o_t rfl (M.o_pure ⟨j-(k+1),by omega,k+1,j,rfl,by omega,hj,rfl,fun q hq=>?_,hi⟩)
        rcases Nat.lt_or_eq_of_le (Nat.le_of_lt_succ hq) with e | rfl
        · have:=hr.lt e (by omega)
          omega
        · exact hs
      · rw [if_neg hs]
        refine M.o_f (by split <;> decide) (M.o_pure ⟨k-i,by omega,i,k,rfl,k1,by omega,rfl,lo,fun q h1 h2=>?_⟩)
        rcases Nat.lt_or_eq_of_le h1 with e | rfl
        · have:=hr.lt e h2
          omega
        · omega
    · have hb:=of_decide_eq_false hb
      exact M.o_pure ⟨i,rfl,by omega,lo,fun q h1 h2=>hi q (by omega) h2⟩
  · rintro _ ⟨k,rfl,hk,lo,hi⟩
    by_cases hl':k<rows.length
    · have hd:decide ((k:Int)<(rows.length:Int))=true:=decide_eq_true (by omega)
      refine M.o_grd (gOr2 (by omega) (by omega)) (M.o_bindE (M.i_opt (fun _=>cmp1_ends _ s) (fun h=>by rw [hd] at h; cases h)) (M.o_pure ⟨k,rfl,hk,lo,hi,fun h=>?_,fun h _=>?_⟩))
      · dsimp only at h
        rw [hd,Bool.true_and,Int.toNat_natCast,beq_iff_eq] at h
        have:=hi k (Nat.le_refl _) hl'
        refine ⟨hl',?_⟩
        split at h
        · cases h
        · split at h
          · cases h
          · omega
      · dsimp only at h
        rw [hd,Bool.true_and,Int.toNat_natCast,beq_eq_false_iff_ne] at h
        have:=hi k (Nat.le_refl _) hl'
        split at h
        · omega
        · split at h
          · assumption
          · exact absurd rfl h
    · have hd:decide ((k:Int)<(rows.length:Int))=false:=decide_eq_false (by omega)
      refine M.o_grd (by rw [hd]; rfl) (M.o_bindE (M.i_opt (fun h=>by rw [hd] at h; cases h) (fun _=>rfl)) (M.o_pure ⟨k,rfl,hk,lo,hi,fun h=>?_,fun _ h=>absurd h hl'⟩))
      dsimp only at h
      rw [hd] at h
      cases h
theorem carry_ends {S:List Sect} {M':List Mrk} {R':List Rch} {i s:Int} (h0:0<=i) (h1:i<S.length) (hr:Fl.Rows (S.getD (Int.toNat i) default).rows) (hn:(S.getD (Int.toNat i) default).rows ≠ []) (hl:(S.getD (Int.toNat i) default).rows.length<=1000) (hs:-2000000<=s/\s<=2000000) :
    (zaa S M' R' ⟨i,s⟩).Ends (Fl.car (S.getD (Int.toNat i) default).rows s):=by
  refine M.Out.ends ?_
  unfold zaa
  dsimp only
  generalize hrr:(S.getD (Int.toNat i) default).rows=rows at hr hn hl ⊢
  refine M.o_grd (gA2 h0 h1) (M.o_bind (bs_out hr hl s) ?_)
  rintro ⟨_,met⟩ ⟨k,rfl,hk,lo,hi,m1,m2⟩
  dsimp only at m1 m2 ⊢
  have hpos:0<rows.length:=List.length_pos_iff.2 hn
  refine M.o_if (fun hm=>?_) (fun hm=>?_)
  · obtain ⟨k1,k2⟩:=m1 hm
    refine M.o_grd (gA2 (by omega) (by omega)) (M.o_pure ?_)
    rw [Int.toNat_natCast,Fl.car_met hr k1 k2]
  refine M.o_if (fun he=>?_) (fun he=>?_)
  · rw [beq_iff_eq] at he
    have hk':k=rows.length:=by omega
    have e:Int.toNat ((k:Int)-1)=k-1:=by omega
    refine M.o_grd (gA2 (by omega) (by omega)) (M.o_grd (gA2 (by omega) (by omega)) (M.o_pure ?_))
    rw [e]
    exact (Fl.car_last hr (k:=k-1) (by omega) (by have:=lo (k-1) (by omega); omega)).symm
  · rw [beq_eq_false_iff_ne] at he
    have hk':k<rows.length:=by omega
    have hgt:=m2 hm hk'
    refine M.o_if (fun hp=>?_) (fun hp=>?_)
    · have hp:=of_decide_eq_true hp
      obtain ⟨q,rfl⟩:∃ q,k=q+1:=⟨k-1,by omega⟩
      have e:Int.toNat (((q+1:Nat):Int)-1)=q:=by omega
      have hlo:=lo q (by omega)
      rw [e,Int.toNat_natCast,Fl.car_btw hr hk' (by omega) hgt]
      have ea:=hr.el q (by omega)
      have eb:=hr.el (q+1) hk'
      have ec:=hr.cm q hk'
      have es:=hr.lt (i:=q) (j:=q+1) (by omega) hk'
      generalize rows.getD q default=a at ea ec es hlo ⊢
      generalize rows.getD (q+1) default=b at eb ec es hgt ⊢
      have n1:0<=(b.carry-a.carry)*(s-a.stage):=Int.mul_nonneg (by omega) (by omega)
      have n2:(b.carry-a.carry)*(s-a.stage)<=100000*2000:=Int.mul_le_mul (by omega) (by omega) (by omega) (by omega)
      have k1:=Fl.ip_mono (a:=a) (b:=b) (s:=s) (t:=s) (by omega) (Int.le_refl _) (by omega) es ec
      unfold Fl.ip at k1 ⊢
      exact M.o_grd (gA2 (by omega) (by omega)) (M.o_grd (gA2 (by omega) (by omega)) (M.o_grd (gA2 (by omega) (by omega)) (M.o_grd (gA2 (by omega) (by omega)) (M.o_grd (gA2 (by omega) (by omega)) (M.o_grd (gA2 (by omega) (by omega)) (M.o_grd (gA2 (by omega) (by omega)) (M.o_grd (gA3 (by omega) (by omega) (by omega)) (M.o_grd (gA2 (by omega) (by omega)) (M.o_pure rfl)))))))))
    · have hp:=of_decide_eq_false hp
      obtain rfl:k=0:=by omega
      exact M.o_pure (Fl.car_zero hn hgt).symm
end Go.Proofs.YtlemgioaakecpaaGreat
