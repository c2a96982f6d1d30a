/- Part 5 of the texts on which the proof rests. Conditions: none. -/
import Derived.KernelRfl
import Derived.Test.YtbldmjejckjflabGreatZA4
set_option linter.unusedVariables false
set_option linter.unusedSimpArgs false
set_option linter.unusedSectionVars false
namespace Go.Proofs.YtbldmjejckjflabGreat
open Go Go.Nm
set_option maxRecDepth 100000 in
set_option maxHeartbeats 16000000 in
theorem zeU {R:List Chunk} (lead:Int) (w:World) (H:St w w [] R):Ret Tryz.prog 4 #[I lead] w fun v w'=>∃ (v2z v16z v18z v20z v26z v28z v30z v48z:Value) (rw44z rw45z rw46z:Raw 1),rw44z.cs=[I 0,v26z]/\rw45z.cs=[I 1,v28z]/\rw46z.cs=[I 0,v30z]/\v = .agg #[v2z,v16z,v18z,v20z,I 1,I 2,v48z]/\St w w' [cOwn (α:=Raw 1) 38 v48z [rw44z,rw45z,rw46z],cOwn (α:=Int) 3 v30z [(100:Int),(260:Int),(300:Int)],cOwn (α:=Int) 3 v28z [(280:Int),(240:Int),(290:Int)],cOwn (α:=Int) 3 v26z [(200:Int),(250:Int),(310:Int)],cOwn (α:=Town) 36 v20z [(⟨(3:Int),(lead:Int),(300:Int)⟩:Town)],cOwn (α:=Int) 3 v18z [(0:Int),(1:Int)],cOwn (α:=Span) 26 v16z [(⟨(5:Int),(6:Int)⟩:Span),(⟨(2:Int),(4:Int)⟩:Span),(⟨(3:Int),(5:Int)⟩:Span),(⟨(0:Int),(0:Int)⟩:Span)],cOwn (α:=Int) 3 v2z [(2:Int),(2:Int),(3:Int),(-1:Int)]] R:=by
 refine ret_of_W Tryz.func4 rfl rfl rfl ?_
 refine W.seq ?_
 refine W.region rfl ?_
 refine t_alloc (cs:=[.slice none 0 0,.slice none 0 0,.slice none 0 0,.slice none 0 0,I 0,I 0,.slice none 0 0]) H Al29 rfl ?_
 intro b_1 w1z H
 refine s_nil ?_
 refine W.seq ?_
 refine W.region rfl ?_
 refine t_bs (α:=Int) T22 [I 2,I 2,I 3,I (-1)] [(2:Int),(2:Int),(3:Int),(-1:Int)] H rfl (.cons rfl (Flat.rep_enc _ (2:Int))<|.cons rfl (Flat.rep_enc _ (2:Int))<|.cons rfl (Flat.rep_enc _ (3:Int))<|.cons rfl (Flat.rep_enc _ (-1:Int))<|.nil) rfl rfl rfl ?_
 intro v2z w3z H
 have hx4z:(zak 5 6).Ends (5,6):=M.i_pure
 refine s_call cf8 [I 5,I 6] rfl (zah 5 6 hx4z _ (H.gt 2)) ?_
 rintro vq w6z ⟨r0,r1,hr7z,hvq,H2_⟩
 obtain ⟨rfl,rfl⟩:=Prod.mk.inj hr7z
 subst vq
 replace H:=H.bk H2_
 clear H2_
 have hx8z:(zak 2 4).Ends (2,4):=M.i_pure
 refine s_call cf8 [I 2,I 4] rfl (zah 2 4 hx8z _ (H.gt 2)) ?_
 rintro vq w10z ⟨r02,r12,hr11z,hvq,H2_⟩
 obtain ⟨rfl,rfl⟩:=Prod.mk.inj hr11z
 subst vq
 replace H:=H.bk H2_
 clear H2_
 have hx12z:(zak 3 5).Ends (3,5):=M.i_pure
 refine s_call cf8 [I 3,I 5] rfl (zah 3 5 hx12z _ (H.gt 2)) ?_
 rintro vq w14z ⟨r03,r13,hr15z,hvq,H2_⟩
 obtain ⟨rfl,rfl⟩:=Prod.mk.inj hr15z
 subst vq
 replace H:=H.bk H2_
 clear H2_
 refine s_val (x_bld (ps:=[]) (zs:=[I 0,I 0]) (L':=[I 0,I 0]) rfl Tryz.underlying26 Al26 rfl (Bd26 Tryz.underlying26) (.nil)) ?_
 refine t_bs (α:=Span) T23 [.agg #[I 5,I 6],.agg #[I 2,I 4],.agg #[I 3,I 5],.agg #[I 0,I 0]] [(⟨(5:Int),(6:Int)⟩:Span),(⟨(2:Int),(4:Int)⟩:Span),(⟨(3:Int),(5:Int)⟩:Span),(⟨(0:Int),(0:Int)⟩:Span)] H rfl (.cons rfl (Flat.rep_enc _ (⟨(5:Int),(6:Int)⟩:Span))<|.cons rfl (Flat.rep_enc _ (⟨(2:Int),(4:Int)⟩:Span))<|.cons rfl (Flat.rep_enc _ (⟨(3:Int),(5:Int)⟩:Span))<|.cons rfl (Flat.rep_enc _ (⟨(0:Int),(0:Int)⟩:Span))<|.nil) rfl rfl rfl ?_
 intro v16z w17z H
 refine t_bs (α:=Int) T22 [I 0,I 1] [(0:Int),(1:Int)] H rfl (.cons rfl (Flat.rep_enc _ (0:Int))<|.cons rfl (Flat.rep_enc _ (1:Int))<|.nil) rfl rfl rfl ?_
 intro v18z w19z H
 refine zM (I lead) rfl ?_
 refine s_val (x_bld (ps:=[(0,I 3),(1,I lead),(2,I 300)]) (zs:=[I 0,I 0,I 0]) (L':=[I 3,I lead,I 300]) rfl Tryz.underlying36 Al36 rfl (Bd36 Tryz.underlying36) (.cons (cs:=[I 3]) rfl rfl rfl rfl rfl<|.cons (cs:=[I lead]) rfl rfl rfl rfl rfl<|.cons (cs:=[I 300]) rfl rfl rfl rfl rfl<|.nil)) ?_
 refine t_bs (α:=Town) T24 [.agg #[I 3,I lead,I 300]] [(⟨(3:Int),(lead:Int),(300:Int)⟩:Town)] H rfl (.cons rfl (Flat.rep_enc _ (⟨(3:Int),(lead:Int),(300:Int)⟩:Town))<|.nil) rfl rfl rfl ?_
 intro v20z w21z H
 have hx22z:(zak 1 2).Ends (1,2):=M.i_pure
 refine s_call cf8 [I 1,I 2] rfl (zah 1 2 hx22z _ (H.gt 5)) ?_
 rintro vq w24z ⟨r04,r14,hr25z,hvq,H2_⟩
 obtain ⟨rfl,rfl⟩:=Prod.mk.inj hr25z
 subst vq
 replace H:=H.bk H2_
 clear H2_
 refine t_bs (α:=Int) T22 [I 200,I 250,I 310] [(200:Int),(250:Int),(310:Int)] H rfl (.cons rfl (Flat.rep_enc _ (200:Int))<|.cons rfl (Flat.rep_enc _ (250:Int))<|.cons rfl (Flat.rep_enc _ (310:Int))<|.nil) rfl rfl rfl ?_
 intro v26z w27z H
 refine s_val (x_bld (ps:=[(0,I 0),(1,v26z)]) (zs:=[I 0,.slice none 0 0]) (L':=[I 0,v26z]) rfl Tryz.underlying38 Al38 rfl (Bd38 Tryz.underlying38) (.cons (cs:=[I 0]) rfl rfl rfl rfl rfl<|.cons (cs:=[v26z]) (Sl.cells (H.os 0)) rfl rfl rfl rfl<|.nil)) ?_
 refine t_bs (α:=Int) T22 [I 280,I 240,I 290] [(280:Int),(240:Int),(290:Int)] H rfl (.cons rfl (Flat.rep_enc _ (280:Int))<|.cons rfl (Flat.rep_enc _ (240:Int))<|.cons rfl (Flat.rep_enc _ (290:Int))<|.nil) rfl rfl rfl ?_
 intro v28z w29z H
 refine s_val (x_bld (ps:=[(0,I 1),(1,v28z)]) (zs:=[I 0,.slice none 0 0]) (L':=[I 1,v28z]) rfl Tryz.underlying38 Al38 rfl (Bd38 Tryz.underlying38) (.cons (cs:=[I 1]) rfl rfl rfl rfl rfl<|.cons (cs:=[v28z]) (Sl.cells (H.os 0)) rfl rfl rfl rfl<|.nil)) ?_
 refine t_bs (α:=Int) T22 [I 100,I 260,I 300] [(100:Int),(260:Int),(300:Int)] H rfl (.cons rfl (Flat.rep_enc _ (100:Int))<|.cons rfl (Flat.rep_enc _ (260:Int))<|.cons rfl (Flat.rep_enc _ (300:Int))<|.nil) rfl rfl rfl ?_
 intro v30z w31z H
 refine s_val (x_bld (ps:=[(0,I 0),(1,v30z)]) (zs:=[I 0,.slice none 0 0]) (L':=[I 0,v30z]) rfl Tryz.underlying38 Al38 rfl (Bd38 Tryz.underlying38) (.cons (cs:=[I 0]) rfl rfl rfl rfl rfl<|.cons (cs:=[v30z]) (Sl.cells (H.os 0)) rfl rfl rfl rfl<|.nil)) ?_
 obtain ⟨rw44z,hrw_rw44z⟩:∃ r:Raw 1,r.cs=[I 0,v26z]:=⟨Raw.of [I 0,v26z] rfl (by simp only [List.all_cons,List.all_nil,Bool.true_and,Bool.and_true,Sl.oc (H.os 2)]; try rfl),rfl⟩
 obtain ⟨rw45z,hrw_rw45z⟩:∃ r:Raw 1,r.cs=[I 1,v28z]:=⟨Raw.of [I 1,v28z] rfl (by simp only [List.all_cons,List.all_nil,Bool.true_and,Bool.and_true,Sl.oc (H.os 1)]; try rfl),rfl⟩
 obtain ⟨rw46z,hrw_rw46z⟩:∃ r:Raw 1,r.cs=[I 0,v30z]:=⟨Raw.of [I 0,v30z] rfl (by simp only [List.all_cons,List.all_nil,Bool.true_and,Bool.and_true,Sl.oc (H.os 0)]; try rfl),rfl⟩
 refine t_bs (α:=Raw 1) T27 [.agg #[I 0,v26z],.agg #[I 1,v28z],.agg #[I 0,v30z]] [rw44z,rw45z,rw46z] H rfl (.cons (by rw [show (Flat.enc rw44z:List Value)=rw44z.cs from rfl,hrw_rw44z]; rfl) (Flat.rep_enc _ _)<|.cons (by rw [show (Flat.enc rw45z:List Value)=rw45z.cs from rfl,hrw_rw45z]; rfl) (Flat.rep_enc _ _)<|.cons (by rw [show (Flat.enc rw46z:List Value)=rw46z.cs from rfl,hrw_rw46z]; rfl) (Flat.rep_enc _ _)<|.nil) rfl rfl rfl ?_
 intro v48z w49z H
 refine s_val (x_bld (ps:=[(0,v2z),(1,v16z),(2,v18z),(3,v20z),(4,.agg #[I 1,I 2]),(5,v48z)]) (zs:=[.slice none 0 0,.slice none 0 0,.slice none 0 0,.slice none 0 0,I 0,I 0,.slice none 0 0]) (L':=[v2z,v16z,v18z,v20z,I 1,I 2,v48z]) rfl Tryz.underlying29 Al29 rfl (Bd29 Tryz.underlying29) (.cons (cs:=[v2z]) (Sl.cells (H.os 7)) rfl rfl rfl rfl<|.cons (cs:=[v16z]) (Sl.cells (H.os 6)) rfl rfl rfl rfl<|.cons (cs:=[v18z]) (Sl.cells (H.os 5)) rfl rfl rfl rfl<|.cons (cs:=[v20z]) (Sl.cells (H.os 4)) rfl rfl rfl rfl<|.cons (cs:=[I 1,I 2]) rfl rfl rfl rfl rfl<|.cons (cs:=[v48z]) (Sl.cells (H.os 0)) rfl rfl rfl rfl<|.nil)) ?_
 refine t_sw 8 0 [v2z,v16z,v18z,v20z,I 1,I 2,v48z] (.agg #[v2z,v16z,v18z,v20z,I 1,I 2,v48z]) H rfl rfl Sz29 rfl rfl rfl (by simp only [List.all_cons,List.all_nil,Bool.true_and,Bool.and_true,Sl.oc (H.os 7),Sl.oc (H.os 6),Sl.oc (H.os 5),Sl.oc (H.os 4),Sl.oc (H.os 0)]; try rfl) ?_
 intro w50z H
 refine s_nil ?_
 refine W.ret ?_
 have hb51z:=(H.bl 8)
 exact ⟨_,(resE_of1 (v:=.agg #[v2z,v16z,v18z,v20z,I 1,I 2,v48z]) rfl (.cell (v:=.agg #[v2z,v16z,v18z,v20z,I 1,I 2,v48z]) rfl (run_loadVar_ag (ds:=[v2z,v16z,v18z,v20z,I 1,I 2,v48z]) Ag29 Sz29 hb51z rfl rfl)<|.nil)),⟨v2z,v16z,v18z,v20z,v26z,v28z,v30z,v48z,rw44z,rw45z,rw46z,hrw_rw44z,hrw_rw45z,hrw_rw46z,rfl,(H.pk [0,1,2,3,4,5,6,7])⟩⟩
end Go.Proofs.YtbldmjejckjflabGreat
namespace Go.Nm
open Go
theorem lst5 {a a' b b' c c' d d' e e':Value} (h1:a=a') (h2:b=b') (h3:c=c') (h4:d=d') (h5:e=e'):[a,b,c,d,e]=[a',b',c',d',e']:=by rw [h1,h2,h3,h4,h5]
end Go.Nm
namespace Go.Nm
open Go
theorem perm_sub {α:Type} [DecidableEq α]:∀ (a b:List α),a.Nodup->(∀ x∈a,x∈b)->b.length<=a.length->a.Perm b
  | [],b,_,_,h=>by
    have:b=[]:=List.length_eq_zero_iff.1 (by simpa using h)
    rw [this]
  | x :: a,b,hn,hs,h=>by
    rw [List.nodup_cons] at hn
    have hx:=hs x (by simp)
    refine List.Perm.trans (List.Perm.cons x (perm_sub a (b.erase x) hn.2 (fun y hy=>?_) ?_)) (List.perm_cons_erase hx).symm
    · exact (List.mem_erase_of_ne (fun e:y=x=>hn.1 (by rw [← e]; exact hy))).2 (hs y (by simp [hy]))
    · rw [List.length_erase_of_mem hx]
      rw [List.length_cons] at h
      omega
theorem St.perm {w0 w:World} {L L' R:List Chunk} (h:St w0 w L R) (p:L.Perm L'):St w0 w L' R:=by
  refine ⟨h.kp,?_⟩
  have hS:=h.sep
  rw [Sep.iff] at hS ⊢
  have q:(L++R).Perm (L'++R):=p.append_right R
  exact ⟨fun c hc=>hS.1 c (q.mem_iff.2 hc),(q.pairwise_iff fun h=>Apart.symm h).1 hS.2⟩
/-- What is allocated: where its pointer goes, its type, its cells. -/
abbrev Alc:=Nat × TypeId × List Value
def mixE (ds:List Nat) (g:Nat->Value) (σ:Env):Env:=fun t=>bif ds.contains t then g t else σ t
theorem beqF {t d:Nat} (e:t ≠ d):Nat.beq t d=false:=by
  rw [← Bool.not_eq_true]
  exact fun hb=>e (Nat.eq_of_beq_eq_true hb)
def ptrOf (b:Nat):Value:=.pointer (some ⟨b,0,none⟩)
/-- Behind all of them: each has its block. -/
def FinA:List Alc->List Chunk->Env->(List Chunk->Env->Prop)->Prop
  | [],acc,σ,K=>K acc σ
  | (d,t,z) :: r,acc,σ,K=>∀ b,FinA r (acc++[cBlk b z t]) (upd σ d (.pointer (some ⟨b,0,none⟩))) K
theorem FinA.go {K:List Chunk->Env->Prop} (b:Nat->Nat):∀ (sp:List Alc) (acc:List Chunk) (σ:Env),FinA sp acc σ K->K (acc++sp.map fun x=>cBlk (b x.1) x.2.2 x.2.1) (sp.foldl (fun σ x=>upd σ x.1 (ptrOf (b x.1))) σ)
  | [],acc,σ,h=>by simpa [FinA] using h
  | (d,t,z) :: r,acc,σ,h=>by
    have:=FinA.go b r _ _ (h (b d))
    rw [List.append_assoc] at this
    exact this
section
variable (P:Program) (all:List Oper) (C:World->Prop) (w0:World) (R:List Chunk) (ds:List Nat) (Fin:Env->List Chunk->Prop)
/-- The row, whatever blocks there are beside. -/
def SLA:List (Nat × Bool)->Env->List Chunk->Prop
  | [],σ,L=>(∀ Lx w,St w0 w (L++Lx) R->C w)/\Fin σ L
  | (k,true) :: r,σ,L=>(∀ Lx w,St w0 w (L++Lx) R->C w)/\∃ o d v,all[k]?=some o/\o.dst=some d/\o.guard=none/\ds.contains d=false/\(∀ g w',C w'->(execOp (ev (mixE ds g σ)) o).run P w' = .ok (.value v) w')/\SLA r (upd σ d v) L
  | (k,false) :: r,σ,L=>(∀ Lx w,St w0 w (L++Lx) R->C w)/\∃ o,all[k]?=some o/\∀ g Lx w,St w0 w (L++Lx) R->SL P all (loudQ C fun σ' w'=>∃ σ'' L',σ'=mixE ds g σ''/\St w0 w' (L'++Lx) R/\SLA r σ'' L') [o] (mixE ds g σ) w
end
theorem SLA.cl {P:Program} {all:List Oper} {C:World->Prop} {w0:World} {R:List Chunk} {ds:List Nat} {Fin:Env->List Chunk->Prop} {r:List (Nat × Bool)} {σ:Env} {L:List Chunk} (h:SLA P all C w0 R ds Fin r σ L):∀ Lx w,St w0 w (L++Lx) R->C w:=by
  match r,h with
  | [],h=>exact h.1
  | (k,true) :: r,h=>exact h.1
  | (k,false) :: r,h=>exact h.1
/-- How far the allocations are. -/
structure AlS (P:Program) (all:List Oper) (sp:List (Nat × Alc)) (done:List Alc) (g:Nat->Value) (Lx:List Chunk):Prop where
  ex:∃ b:Nat->Nat,(∀ x∈done,g x.1=ptrOf (b x.1))/\Lx.Perm (done.map fun x=>cBlk (b x.1) x.2.2 x.2.1)
section
variable {P:Program} {all:List Oper} {C:World->Prop} {w0:World} {R:List Chunk} {ds:List Nat} {Fin:Env->List Chunk->Prop} {r:List (Nat × Bool)} {σ:Env} {L:List Chunk}
end
end Go.Nm
namespace Go.Nm
open Go
structure River where
  down:List Int
  travel:List Span
  springs:List Int
  towns:List Town
  dlo:Int
  dhi:Int
  floods:List Flood
deriving DecidableEq,Inhabited
instance:Elt River where
  rep C cs x:=∃ sv0 sv1 sv2 sv3 sv6,cs=[sv0,sv1,sv2,sv3,I x.dlo,I x.dhi,sv6]/\Sl C sv0 x.down/\Sl C sv1 x.travel/\Sl C sv2 x.springs/\Sl C sv3 x.towns/\Sl C sv6 x.floods
  sz:=7
  agg:=true
  sz_pos:=by decide
  len:=fun ⟨_,_,_,_,_,h,_⟩=>by subst h; rfl
  mono:=fun hle ⟨sv0,sv1,sv2,sv3,sv6,h,hs0,hs1,hs2,hs3,hs6⟩=>⟨sv0,sv1,sv2,sv3,sv6,h,hs0.mono hle,hs1.mono hle,hs2.mono hle,hs3.mono hle,hs6.mono hle⟩
  one:=fun ⟨sv0,sv1,sv2,sv3,sv6,h,hs0,hs1,hs2,hs3,hs6⟩ v hv=>by
    subst h; simp at hv
    rcases hv with rfl | rfl | rfl | rfl | rfl | rfl | rfl
    · exact sl_one hs0
    · exact sl_one hs1
    · exact sl_one hs2
    · exact sl_one hs3
    · rfl
    · rfl
    · exact sl_one hs6
class DropR (l:List Chunk) (k:Nat) (o:outParam (List Chunk)):Prop where
  is:l.drop k=o
instance {l:List Chunk}:DropR l 0 l:=⟨rfl⟩
instance {x:Chunk} {l o:List Chunk} {k:Nat} [h:DropR l k o]:DropR (x :: l) (k+1) o:=⟨by rw [List.drop_succ_cons,h.is]⟩
class ErR (l:List Chunk) (k:Nat) (o:outParam (List Chunk)):Prop where
  is:l.eraseIdx k=o
instance {x:Chunk} {l:List Chunk}:ErR (x :: l) 0 l:=⟨rfl⟩
instance {x:Chunk} {l o:List Chunk} {k:Nat} [h:ErR l k o]:ErR (x :: l) (k+1) (x :: o):=⟨by rw [List.eraseIdx_cons_succ,h.is]⟩
section
variable {w0 w:World} {L L' L1 R:List Chunk}
theorem St.sub (h:St w0 w L R) (s:L'.Sublist L):St w0 w L' R:=by
  refine ⟨h.kp,?_⟩
  have hS:=h.sep
  rw [Sep.iff] at hS ⊢
  have q:(L'++R).Sublist (L++R):=s.append (List.Sublist.refl R)
  exact ⟨fun c hc=>hS.1 c (q.subset hc),hS.2.sublist q⟩
theorem perm_er:∀ {l:List Chunk} {k:Nat} {c:Chunk},l[k]?=some c->l.Perm (c :: l.eraseIdx k)
  | [],k,c,h=>by simp at h
  | x :: l,0,c,h=>by
    simp only [List.getElem?_cons_zero,Option.some.injEq] at h
    subst h
    exact List.Perm.refl _
  | x :: l,k+1,c,h=>by
    simp only [List.getElem?_cons_succ] at h
    rw [List.eraseIdx_cons_succ]
    exact (List.Perm.cons x (perm_er h)).trans (List.Perm.swap c x _)
theorem St.dp (h:St w0 w L R) (k:Nat) [n:NfR L L1] [d:DropR L1 k L']:St w0 w L' R:=h.nf.sub (by rw [← d.is]; exact List.drop_sublist _ _)
theorem St.er (h:St w0 w L R) (k:Nat) [n:NfR L L1] [d:ErR L1 k L']:St w0 w L' R:=h.nf.sub (by rw [← d.is]; exact List.eraseIdx_sublist _ _)
theorem St.mv {c:Chunk} (h:St w0 w L R) (k:Nat) [n:NfR L L1] [x:NthR L1 k c] [d:ErR L1 k L']:St w0 w (c :: L') R:=by
  rw [← d.is]
  exact h.nf.perm (perm_er x.is)
end
end Go.Nm
namespace Go.Nm
open Go
def updN (b:Nat->Value) (i:Nat) (v:Value):Nat->Value:=fun k=>bif Nat.beq k i then v else b k
def resN (S:List Nat) (b:Nat->Value):Nat->Value:=fun k=>bif S.contains k then b k else undef
/-- The block of a pointer. -/
def ptb:Value->Nat
  | .pointer (some a)=>a.block
  | _=>0
/-- What is told of an operation: the names that it speaks of, the operations that it needs, where its value goes, its value, a fact, its parts of memory. -/
structure GEnt where
  S:List Nat
  D:List Nat
  d:Nat
  val:(Nat->Value)->Value
  fact:(Nat->Value)->Prop
  ch:(Nat->Value)->List Chunk
instance:Inhabited GEnt:=⟨⟨[],[],0,fun _=>undef,fun _=>True,fun _=>[]⟩⟩
def GEnt.v (e:GEnt) (b:Nat->Value):Value:=e.val (resN e.S b)
def GEnt.f (e:GEnt) (b:Nat->Value):Prop:=e.fact (resN e.S b)
def GEnt.c (e:GEnt) (b:Nat->Value):List Chunk:=e.ch (resN e.S b)
def entG (es:List GEnt) (j:Nat):GEnt:=es.getD j default
def envG (es:List GEnt) (b:Nat->Value):List Nat->Env->Env
  | [],σ=>σ
  | j :: D,σ=>upd (envG es b D σ) (entG es j).d ((entG es j).v b)
def chG (es:List GEnt) (b:Nat->Value) (D:List Nat):List Chunk:=D.flatMap fun j=>(entG es j).c b
def fcG (es:List GEnt) (b:Nat->Value):List Nat->Prop
  | []=>True
  | j :: D=>(entG es j).f b/\fcG es b D
theorem fcG.of {es:List GEnt} {b:Nat->Value}:∀ {D:List Nat},(∀ j∈D,(entG es j).f b)->fcG es b D
  | [],_=>trivial
  | _ :: _,h=>⟨h _ (by simp),fcG.of fun j hj=>h j (by simp [hj])⟩
theorem resN_eq {S:List Nat} {b b':Nat->Value} (h:∀ k∈S,b k=b' k):resN S b=resN S b':=by
  funext k
  unfold resN
  by_cases e:S.contains k=true
  · rw [e]
    exact h k (List.contains_iff_mem.1 e)
  · rw [Bool.not_eq_true] at e
    rw [e]
    rfl
theorem updN_ne {b:Nat->Value} {i k:Nat} {v:Value} (h:k ≠ i):updN b i v k=b k:=by
  unfold updN
  rw [beqF h]
  rfl
theorem envG_self {es:List GEnt} {b:Nat->Value} {τ:Env}:∀ {D:List Nat},(∀ j∈D,τ (entG es j).d=(entG es j).v b)->envG es b D τ=τ
  | [],_=>rfl
  | j :: D,h=>by
    unfold envG
    rw [envG_self fun k hk=>h k (by simp [hk])]
    funext t
    unfold upd
    by_cases e:t=(entG es j).d
    · rw [e,Nat.beq_refl]
      exact (h j (by simp)).symm
    · rw [beqF e]
      rfl
theorem mix_self {ds:List Nat} {τ σ:Env} (h:∀ t,ds.contains t=false->τ t=σ t):mixE ds τ σ=τ:=by
  funext t
  unfold mixE
  by_cases e:ds.contains t=true
  · rw [e]
    rfl
  · rw [Bool.not_eq_true] at e
    rw [e]
    exact (h t e).symm
def bindOn (o:Oper):List Nat:=(o.after.toList.filter fun e=>Region.binds .any e).map (·.on)
theorem bindOn_mem {o:Oper} {j:Nat}:j∈bindOn o↔∃ e∈o.after,Region.binds .any e=true/\e.on=j:=by
  unfold bindOn
  simp only [List.mem_map,List.mem_filter,Array.mem_toList_iff]
  constructor
  · rintro ⟨e,⟨h1,h2⟩,rfl⟩
    exact ⟨e,h1,h2,rfl⟩
  · rintro ⟨e,h1,h2,rfl⟩
    exact ⟨e,⟨h1,h2⟩,rfl⟩
/-- One operation's row. -/
def chkO (es:List GEnt) (i:Nat) (o:Oper):Bool :=
  let e:=entG es i
  let bs:=bindOn o
  bs.all (fun j=>Nat.blt j i)&&e.D.all (fun j=>bs.contains j||bs.any fun k=>(entG es k).D.contains j)&&decide e.D.Nodup&&e.S.all (fun s=>Nat.beq s i||e.D.contains s||e.D.any fun j=>(entG es j).S.contains s)
def chkL (es:List GEnt):Nat->List Oper->Bool
  | _,[]=>true
  | i,o :: r=>(bif Nat.blt i es.length then chkO es i o else (bindOn o).all (fun j=>Nat.blt j i)&&(List.range es.length).all fun j=>(bindOn o).contains j)&&chkL es (i+1) r
theorem chkL_get {es:List GEnt}:∀ {l:List Oper} {i k:Nat} {o:Oper},chkL es i l=true->l[k]?=some o->(bif Nat.blt (i+k) es.length then chkO es (i+k) o else (bindOn o).all (fun j=>Nat.blt j (i+k))&&(List.range es.length).all fun j=>(bindOn o).contains j)=true
  | [],_,_,_,_,h=>by simp at h
  | x :: r,i,0,o,hB,h=>by
    simp only [List.getElem?_cons_zero,Option.some.injEq] at h
    subst h
    unfold chkL at hB
    rw [Bool.and_eq_true] at hB
    exact hB.1
  | x :: r,i,k+1,o,hB,h=>by
    unfold chkL at hB
    rw [Bool.and_eq_true] at hB
    rw [List.getElem?_cons_succ] at h
    have:=chkL_get hB.2 h
    rw [show i+1+k=i+(k+1) by omega] at this
    exact this
section
variable (P:Program) (all:List Oper) (es:List GEnt) (σ0:Env) (ds:List Nat) (w0:World) (L0 R:List Chunk)
/-- What has to be shown of one operation. -/
def ObG (i:Nat) (e:GEnt):Prop:=∃ o,all[i]?=some o/\∀ b g Lx w,fcG es b e.D->St w0 w (chG es b e.D++(L0++Lx)) R →
  SL P all (loudQ (fun _=>True) fun σ' w'=>∃ v,σ'=upd (envG es b e.D (mixE ds g σ0)) e.d v/\e.v (updN b i v)=v/\e.f (updN b i v)/\St w0 w' (e.c (updN b i v)++(chG es b e.D++(L0++Lx))) R) [o] (envG es b e.D (mixE ds g σ0)) w
def OblG:Nat->List GEnt->Prop
  | _,[]=>True
  | i,e :: r=>ObG P all es σ0 ds w0 L0 R i e/\OblG (i+1) r
end
theorem OblG.get {P:Program} {all:List Oper} {es:List GEnt} {σ0:Env} {ds:List Nat} {w0:World} {L0 R:List Chunk}:∀ {l:List GEnt} {i k:Nat},OblG P all es σ0 ds w0 L0 R i l->k<l.length->ObG P all es σ0 ds w0 L0 R (i+k) (l.getD k default)
  | [],_,_,_,h=>by simp at h
  | e :: r,i,0,h,_=>h.1
  | e :: r,i,k+1,h,hk=>by
    have:=OblG.get (i:=i+1) (k:=k) h.2 (by simpa using hk)
    rw [show i+1+k=i+(k+1) by omega] at this
    exact this
structure InvG (es:List GEnt) (σ0:Env) (b:Nat->Value) (done:List Nat) (listed:Array Bool) (σ:Env):Prop where
  nd:done.Nodup
  lt:∀ j∈done,j<es.length
  ls:∀ j,j<es.length->(listed.getD j true=true↔j∈done)
  tl:∀ j,es.length<=j->j<listed.size->listed.getD j true=false
  cl:∀ j∈done,∀ s∈(entG es j).D,s∈done
  cs:∀ j∈done,∀ s∈(entG es j).S,s∈done
  out:∀ t,(es.map (·.d)).contains t=false->σ t=σ0 t
  val:∀ j∈done,σ (entG es j).d=(entG es j).v b
  fc:∀ j∈done,(entG es j).f b
theorem entG_mem {es:List GEnt} {j:Nat} (h:j<es.length):entG es j=es[j]:=by
  unfold entG
  rw [List.getD_eq_getElem?_getD,List.getElem?_eq_getElem h]
  rfl
theorem entG_d {es:List GEnt} {j:Nat} (h:j<es.length):(es.map (·.d)).contains (entG es j).d=true:=by
  rw [entG_mem h]
  exact List.contains_iff_mem.2 (List.mem_map.2 ⟨_,List.getElem_mem h,rfl⟩)
theorem entG_inj {es:List GEnt} (hn:(es.map (·.d)).Nodup) {i j:Nat} (hi:i<es.length) (hj:j<es.length) (h:(entG es i).d=(entG es j).d):i=j:=by
  rw [entG_mem hi,entG_mem hj] at h
  unfold List.Nodup at hn
  rw [List.pairwise_iff_getElem] at hn
  rcases Nat.lt_trichotomy i j with c | c | c
  · exact absurd (by rw [List.getElem_map,List.getElem_map]; exact h) (hn i j (by simpa using hi) (by simpa using hj) c)
  · exact c
  · exact absurd (by rw [List.getElem_map,List.getElem_map]; exact h.symm) (hn j i (by simpa using hj) (by simpa using hi) c)
theorem full_of {l:List Nat} {m:Nat} (hn:l.Nodup) (hl:∀ j∈l,j<m) (h:m<=l.length):l.Perm (List.range m):=by
  classical
  exact perm_sub l (List.range m) hn (fun j hj=>List.mem_range.2 (hl j hj)) (by rw [List.length_range]; exact h)
theorem least_out {l:List Nat}:∀ {m:Nat},(∃ j,j<m/\j ∉ l)->∃ j,j<m/\j ∉ l/\∀ k,k<j->k∈l
  | 0,h=>by
    obtain ⟨j,h,_⟩:=h
    omega
  | m+1,h=>by
    by_cases c:∃ j,j<m/\j ∉ l
    · obtain ⟨j,h1,h2,h3⟩:=least_out c
      exact ⟨j,by omega,h2,h3⟩
    · obtain ⟨j,h1,h2⟩:=h
      refine ⟨j,h1,h2,fun k hk=>?_⟩
      by_cases e:k∈l
      · exact e
      · exact absurd ⟨k,by omega,e⟩ c
theorem some_out {l:List Nat} {m:Nat} (h:l.length<m):∃ j,j<m/\j ∉ l:=by
  by_cases c:∃ j,j<m/\j ∉ l
  · exact c
  · have hs:List.range m ⊆ l:=fun j hj=>by
      by_cases e:j∈l
      · exact e
      · exact absurd ⟨j,List.mem_range.1 hj,e⟩ c
    have:=(perm_sub (List.range m) l List.nodup_range (fun x hx=>hs hx) (by rw [List.length_range]; omega)).length_eq
    rw [List.length_range] at this
    omega
theorem perm_out {D done:List Nat} (hD:D.Nodup) (hn:done.Nodup) (h:∀ j∈D,j∈done):done.Perm (D++done.filter fun j=>!D.contains j):=by
  refine (List.perm_ext_iff_of_nodup hn ?_).2 ?_
  · rw [List.nodup_append]
    refine ⟨hD,hn.filter _,fun a ha b hb e=>?_⟩
    subst e
    have:=(List.mem_filter.1 hb).2
    rw [List.contains_iff_mem.2 ha] at this
    cases this
  · intro j
    rw [List.mem_append,List.mem_filter]
    constructor
    · intro hj
      by_cases e:D.contains j=true
      · exact .inl (List.contains_iff_mem.1 e)
      · rw [Bool.not_eq_true] at e
        exact .inr ⟨hj,by rw [e]; rfl⟩
    · rintro (hj | ⟨hj,_⟩)
      · exact h j hj
      · exact hj
theorem chG_perm {es:List GEnt} {b:Nat->Value} {D D':List Nat} (h:D.Perm D'):(chG es b D).Perm (chG es b D'):=h.flatMap_right _
theorem perm_mid {α:Type} (L A B:List α):(L++(A++B)).Perm (A++(L++B)):=by
  rw [← List.append_assoc,← List.append_assoc]
  exact List.perm_append_comm.append_right B
theorem v_upd {e:GEnt} {b:Nat->Value} {i:Nat} {v:Value} (h:i ∉ e.S):resN e.S (updN b i v)=resN e.S b:=resN_eq fun k hk=>updN_ne fun e'=>h (by rw [← e']; exact hk)
theorem chG_upd {es:List GEnt} {b:Nat->Value} {i:Nat} {v:Value} {D:List Nat} (h:∀ j∈D,i ∉ (entG es j).S):chG es (updN b i v) D=chG es b D:=by
  unfold chG
  rw [List.flatMap_def,List.flatMap_def]
  refine congrArg List.flatten (List.map_congr_left fun j hj=>?_)
  unfold GEnt.c
  rw [v_upd (h j hj)]
def listedG (m nt:Nat):Array Bool:=(List.replicate m true++List.replicate nt false).toArray
theorem listedG_get {m nt i:Nat} (h:i<(listedG m nt).size):(listedG m nt)[i]=decide (i<m):=by
  have h':i<m+nt:=by simpa [listedG] using h
  have:(listedG m nt)[i]?=some (decide (i<m)):=by
    unfold listedG
    rw [List.getElem?_toArray]
    by_cases c:i<m
    · rw [List.getElem?_append_left (by simpa using c),List.getElem?_replicate,if_pos c,decide_eq_true c]
    · rw [List.getElem?_append_right (by simpa using c),List.getElem?_replicate,if_pos (by simp; omega),decide_eq_false c]
  rw [Array.getElem?_eq_getElem h] at this
  exact Option.some.inj this
theorem chkO_D {es:List GEnt} {i:Nat} {o:Oper} (h:chkO es i o=true):(∀ j∈bindOn o,j<i)/\(∀ j∈(entG es i).D,j∈bindOn o∨∃ k∈bindOn o,j∈(entG es k).D)/\(entG es i).D.Nodup/\∀ s∈(entG es i).S,s=i∨s∈(entG es i).D∨∃ j∈(entG es i).D,s∈(entG es j).S:=by
  unfold chkO at h
  simp only [Bool.and_eq_true,List.all_eq_true,Bool.or_eq_true,List.any_eq_true,List.contains_iff_mem,decide_eq_true_eq,Nat.blt_eq] at h
  obtain ⟨⟨⟨h1,h2⟩,h3⟩,h4⟩:=h
  refine ⟨h1,h2,h3,fun s hs=>?_⟩
  rcases h4 s hs with (h | h) | h
  · exact .inl (Nat.eq_of_beq_eq_true h)
  · exact .inr (.inl h)
  · exact .inr (.inr h)
theorem wpAnyC_G {P:Program} {dsf:List Deferred} {n:Nat} {Q:Post} (all:List Oper) (hok:∀ o∈all,∀ d,o.dst=some d->d<n) (hs:Region.noSelect all.toArray=true) {es:List GEnt} {σ0:Env} {w0:World} {L0 R:List Chunk} (tail:Ord) (nt:Nat) (hlen:all.length=es.length+nt)
    (hC:chkL es 0 all=true) (hN:(es.map (·.d)).Nodup) (hT:canonT .any all.toArray tail nt (listedG es.length nt)=true) (hO:OblG P all es σ0 (es.map (·.d)) w0 L0 R 0 es)
    (hF:∀ b g w,fcG es b (List.range es.length)->St w0 w (L0++chG es b (List.range es.length)) R->SLT P all (fun _=>True) Q tail (envG es b (List.range es.length) (mixE (es.map (·.d)) g σ0)) w) :
    ∀ (k:Nat) (done:List Nat) (listed:Array Bool) (a:Act) (w:World) (σ:Env) (b:Nat->Value),k+done.length=es.length->listed.size=all.length->InvG es σ0 b done listed σ->Fr dsf n σ a->St w0 w (L0++chG es b done) R →
      wpAnyC P .any all.toArray (fun _=>True) (fun a' w'=>∃ σ',Fr dsf n σ' a'/\Q .normal σ' w') (k+nt) listed a w:=by
  intro k
  have get:=fun (i:Nat) (o:Oper) (h:all[i]?=some o)=>chkL_get hC h
  induction k with
  | zero =>
    intro done listed a w σ b hk hsz hI ha H
    rw [Nat.zero_add] at hk
    have hp:=full_of hI.nd hI.lt (by omega)
    have hm:∀ j,j<es.length->j∈done:=fun j hj=>hp.mem_iff.2 (List.mem_range.2 hj)
    have hl:listed=listedG es.length nt:=by
      refine Array.ext (by rw [hsz,hlen]; simp [listedG]) fun i h1 h2=>?_
      have e1:listed.getD i true=listed[i]:=by simp [Array.getD_eq_getD_getElem?,h1]
      have e2:=listedG_get h2
      rw [e2,← e1]
      by_cases c:i<es.length
      · rw [decide_eq_true c]
        exact (hI.ls i c).2 (hm i c)
      · rw [decide_eq_false c]
        exact hI.tl i (by omega) h1
    rw [hl,Nat.zero_add]
    have hσ:envG es b (List.range es.length) (mixE (es.map (·.d)) σ σ0)=σ:=by
      rw [mix_self hI.out]
      exact envG_self fun j hj=>hI.val j (hm j (List.mem_range.1 hj))
    have hf:=hF b σ w (fcG.of fun j hj=>hI.fc j (hm j (List.mem_range.1 hj))) (H.perm ((chG_perm hp).append_left L0))
    rw [hσ] at hf
    exact wpAnyC_canonT hs tail nt _ a w trivial hT (SLT_runT all hok tail σ w a ha hf)
  | succ k ih =>
    intro done listed a w σ b hk hsz hI ha H
    rw [show k+1+nt=(k+nt)+1 by omega]
    obtain ⟨z,hz1,hz2,hz3⟩:=least_out (some_out (l:=done) (m:=es.length) (by omega))
    refine ⟨fun h0=>?_,fun i hi=>?_⟩
    · exfalso
      have:z∈Region.ready .any all.toArray listed:=by
        have hza:z<all.length:=by omega
        refine mem_ready.2 ⟨?_,all[z],by simp [hza],fun e he hb=>?_⟩
        · cases hv:listed.getD z true with
          | false=>rfl
          | true=>exact absurd ((hI.ls z hz1).1 hv) hz2
        · have hc:=get z all[z] (by simp [hza])
          rw [Nat.zero_add,show Nat.blt z es.length=true from by simpa [Nat.blt_eq] using hz1] at hc
          have hlt:=(chkO_D hc).1 e.on (bindOn_mem.2 ⟨e,he,hb,rfl⟩)
          have:=(hI.ls e.on (by omega)).2 (hz3 _ hlt)
          rw [Array.getD_eq_getD_getElem?] at this ⊢
          rw [Array.getElem?_eq_getElem (show e.on<listed.size by omega)] at this ⊢
          exact this
      rw [h0] at this
      cases this
    · obtain ⟨hun,o,ho',hall⟩:=mem_ready.1 hi
      have ho:all[i]?=some o:=by simpa using ho'
      have hia:i<all.length:=(List.getElem?_eq_some_iff.1 ho).1
      have lst:∀ j,j<es.length->j∈bindOn o->j∈done:=fun j hj hb=>by
        obtain ⟨e,he,hbd,rfl⟩:=bindOn_mem.1 hb
        have:=hall e he hbd
        refine (hI.ls e.on hj).1 ?_
        rw [Array.getD_eq_getD_getElem?] at this ⊢
        rw [Array.getElem?_eq_getElem (show e.on<listed.size by omega)] at this ⊢
        exact this
      have hc:=get i o ho
      rw [Nat.zero_add] at hc
      by_cases him:i<es.length
      · rw [show Nat.blt i es.length=true from by simpa [Nat.blt_eq] using him] at hc
        obtain ⟨c1,c2,c3,c4⟩:=chkO_D hc
        have hin:i ∉ done:=fun h=>by
          rw [(hI.ls i him).2 h] at hun
          cases hun
        have hD:∀ j∈(entG es i).D,j∈done:=fun j hj=>by
          rcases c2 j hj with h | ⟨q,h,h'⟩
          · exact lst j (by have:=c1 j h; omega) h
          · exact hI.cl q (lst q (by have:=c1 q h; omega) h) j h'
        have hS:∀ s∈(entG es i).S,s=i∨s∈done:=fun s hs'=>by
          rcases c4 s hs' with h | h | ⟨j,h,h'⟩
          · exact .inl h
          · exact .inr (hD s h)
          · exact .inr (hI.cs j (hD j h) s h')
        have nS:∀ j∈done,i ∉ (entG es j).S:=fun j hj h=>hin (hI.cs j hj i h)
        obtain ⟨o2,ho2,hob⟩:=OblG.get (i:=0) (k:=i) hO him
        rw [Nat.zero_add] at ho2
        rw [ho] at ho2
        obtain rfl:=Option.some.inj ho2
        have hen:es.getD i default=entG es i:=rfl
        rw [hen] at hob
        have hσ:envG es b (entG es i).D (mixE (es.map (·.d)) σ σ0)=σ:=by
          rw [mix_self hI.out]
          exact envG_self fun j hj=>hI.val j (hD j hj)
        have hp:=perm_out c3 hI.nd hD
        have hq:(chG es b done).Perm (chG es b (entG es i).D++chG es b (done.filter fun j=>!(entG es i).D.contains j)):=by
          have:=chG_perm (es:=es) (b:=b) hp
          unfold chG at this ⊢
          rw [List.flatMap_append] at this
          exact this
        have hSL:=hob b σ (chG es b (done.filter fun j=>!(entG es i).D.contains j)) w (fcG.of fun j hj=>hI.fc j (hD j hj)) (H.perm ((hq.append_left L0).trans (perm_mid _ _ _)))
        rw [hσ] at hSL
        simp only [Nat.zero_add] at hSL
        refine SL_lOp (C:=fun _=>True) (K':=fun a' w'=>wpAnyC P .any all.toArray (fun _=>True) (fun a' w'=>∃ σ',Fr dsf n σ' a'/\Q .normal σ' w') (k+nt) (listed.setIfInBounds i true) a' w') all hok ?_ ho ha hSL
        rintro σ' w' a' ha' ⟨v,rfl,hv,hf,H'⟩
        have his:i<listed.size:=by omega
        have gi:(listed.setIfInBounds i true).getD i true=true:=by rw [Array.getD_eq_getD_getElem?,Array.getElem?_setIfInBounds_self_of_lt his]; rfl
        refine ih (i :: done) _ a' w' _ (updN b i v) (by rw [List.length_cons]; omega) (by rw [Array.size_setIfInBounds]; exact hsz) ?_ ha' ?_
        · refine ⟨List.nodup_cons.2 ⟨hin,hI.nd⟩,fun j hj=>?_,fun j hj=>?_,fun j h1 h2=>?_,fun j hj s hs'=>?_,fun j hj s hs'=>?_,fun t ht=>?_,fun j hj=>?_,fun j hj=>?_⟩
          · rcases List.mem_cons.1 hj with rfl | hj
            · exact him
            · exact hI.lt j hj
          · by_cases e:i=j
            · subst e
              exact ⟨fun _=>by simp,fun _=>gi⟩
            · rw [getD_set_ne true e,hI.ls j hj]
              exact ⟨fun h=>by simp [h],fun h=>by
                rcases List.mem_cons.1 h with h | h
                · exact absurd h.symm e
                · exact h⟩
          · rw [Array.size_setIfInBounds] at h2
            rw [getD_set_ne true (show i ≠ j by omega)]
            exact hI.tl j h1 h2
          · rcases List.mem_cons.1 hj with rfl | hj
            · exact List.mem_cons_of_mem _ (hD s hs')
            · exact List.mem_cons_of_mem _ (hI.cl j hj s hs')
          · rcases List.mem_cons.1 hj with rfl | hj
            · rcases hS s hs' with rfl | h
              · simp
              · exact List.mem_cons_of_mem _ h
            · exact List.mem_cons_of_mem _ (hI.cs j hj s hs')
          · have hne:t ≠ (entG es i).d:=fun e=>by
              rw [e,entG_d him] at ht
              cases ht
            show (bif Nat.beq t (entG es i).d then v else σ t)=σ0 t
            rw [beqF hne]
            exact hI.out t ht
          · rcases List.mem_cons.1 hj with rfl | hj
            · show (bif Nat.beq _ _ then v else _)=_
              rw [Nat.beq_refl]
              exact hv.symm
            · have hne:(entG es j).d ≠ (entG es i).d:=fun e=>hin (by rw [← entG_inj hN (hI.lt j hj) him e]; exact hj)
              show (bif Nat.beq _ _ then v else _)=_
              rw [beqF hne]
              unfold GEnt.v
              rw [v_upd (nS j hj)]
              exact hI.val j hj
          · rcases List.mem_cons.1 hj with rfl | hj
            · exact hf
            · unfold GEnt.f
              rw [v_upd (nS j hj)]
              exact hI.fc j hj
        · have e1:chG es (updN b i v) (i :: done)=(entG es i).c (updN b i v)++chG es b done:=by
            show _++chG es (updN b i v) done=_
            rw [chG_upd nS]
          rw [e1]
          refine H'.perm (List.Perm.trans ?_ (perm_mid _ _ _).symm)
          exact List.Perm.append_left _ ((perm_mid _ _ _).symm.trans (hq.symm.append_left L0))
      · exfalso
        rw [show Nat.blt i es.length=false from by rw [← Bool.not_eq_true,Nat.blt_eq]; exact him] at hc
        have h2:((List.range es.length).all fun j=>(bindOn o).contains j)=true:=by
          simp only [cond_false,Bool.and_eq_true] at hc
          exact hc.2
        have:=List.all_eq_true.1 h2 z (List.mem_range.2 hz1)
        exact hz2 (lst z hz1 (List.contains_iff_mem.1 this))
theorem W.drawG {r:Option Nat} {P:Program} {n:Nat} {Q:Post} {σ:Env} {w w0:World} {id:Nat} {l:List Oper} {L R:List Chunk} (es:List GEnt) (tail:Ord) (nt:Nat) (hm:P.follows .mixedOrders=true)
    (hB:(Region.noSelect l.toArray&&Nat.beq l.length (es.length+nt)&&chkL es 0 l&&decide (es.map (·.d)).Nodup&&canonT .any l.toArray tail nt (listedG es.length nt))=true)
    (hok:okDst n l=true) (H:St w0 w L R) (hO:OblG P l es σ (es.map (·.d)) w0 L R 0 es)
    (hF:∀ b g w,fcG es b (List.range es.length)->St w0 w (L++chG es b (List.range es.length)) R->SLT P l (fun _=>True) Q tail (envG es b (List.range es.length) (mixE (es.map (·.d)) g σ)) w):WR r P n (.region id l.toArray true) Q σ w:=by
  intro ds a ha
  simp only [Bool.and_eq_true,decide_eq_true_eq] at hB
  obtain ⟨⟨⟨⟨hs,hl⟩,hC⟩,hN⟩,hT⟩:=hB
  have hl':=Nat.eq_of_beq_eq_true hl
  refine wpIn_region_any hm (wpAny_of_C (C:=fun _=>True) (Q:=fun a' w'=>∃ σ',Fr ds n σ' a'/\Q .normal σ' w') (fun _ _ h=>h) _ _ _ _ ?_)
  have:=wpAnyC_G (P:=P) (Q:=Q) (dsf:=ds) (n:=n) l (okDst_spec hok) hs tail nt hl' hC hN hT hO hF es.length [] (Array.replicate l.length false) a w.drew σ (fun _=>undef) (by simp) (by simp) ?_ ha (by simpa [chG] using H.ext (.drew w))
  · rw [← hl'] at this
    simpa using this
  · refine ⟨List.nodup_nil,by simp,fun j hj=>?_,fun j h1 h2=>?_,by simp,by simp,fun _ _=>rfl,by simp,by simp⟩
    · have:(Array.replicate l.length false).getD j true=false:=by
        rw [Array.getD_eq_getD_getElem?,Array.getElem?_replicate,if_pos (by omega)]
        rfl
      rw [this]
      simp
    · rw [Array.getD_eq_getD_getElem?,Array.getElem?_replicate,if_pos (by simpa using h2)]
      rfl
theorem slt_gen {P:Program} {all:List Oper} {C:World->Prop} {Q:Post} {r:Ord} {σ:Env} {w:World} (l:List (Nat × Value)) (h:Agree σ l) (k:∀ ρ,SLT P all C Q r (upds ρ l) w):SLT P all C Q r σ w:=by
  rw [upds_of σ l h]
  exact k σ
section
variable {P:Program} {all:List Oper} {es r:List GEnt} {σ0:Env} {ds:List Nat} {w0:World} {L0 R:List Chunk} {i d:Nat} {S D:List Nat} {op:Op} {ty:TypeId} {pos:String} {af:Array Edge}
theorem og_nil:OblG P all es σ0 ds w0 L0 R i []:=trivial
/-- An operation that reads no memory. -/
theorem og_f {val:(Nat->Value)->Value} (ho:all[i]?=some ⟨some d,op,ty,pos,af,none⟩) (hi:S.contains i=false)
    (h:∀ b g w',(execOp (ev (envG es b D (mixE ds g σ0))) ⟨some d,op,ty,pos,af,none⟩).run P w' = .ok (.value (val (resN S b))) w') (hk:OblG P all es σ0 ds w0 L0 R (i+1) r):OblG P all es σ0 ds w0 L0 R i (⟨S,D,d,val,fun _=>True,fun _=>[]⟩ :: r):=by
  refine ⟨⟨_,ho,fun b g Lx w _ H=>?_⟩,hk⟩
  have e:=v_upd (e:=(⟨S,D,d,val,fun _=>True,fun _=>[]⟩:GEnt)) (b:=b) (i:=i) (v:=val (resN S b)) (fun h'=>by rw [List.contains_iff_mem.2 h'] at hi; cases hi)
  refine s_val (h b g w) (s_nil ⟨trivial,_,rfl,?_,trivial,H⟩)
  unfold GEnt.v
  rw [e]
/-- An operation. -/
theorem og_l {val:(Nat->Value)->Value} {fact:(Nat->Value)->Prop} {ch:(Nat->Value)->List Chunk} {o:Oper} (ho:all[i]?=some o)
    (h:∀ b g Lx w,fcG es b D->St w0 w (chG es b D++(L0++Lx)) R->SL P all (loudQ (fun _=>True) fun σ' w'=>∃ v,σ'=upd (envG es b D (mixE ds g σ0)) d v/\val (resN S (updN b i v))=v/\fact (resN S (updN b i v))/\St w0 w' (ch (resN S (updN b i v))++(chG es b D++(L0++Lx))) R) [o] (envG es b D (mixE ds g σ0)) w)
    (hk:OblG P all es σ0 ds w0 L0 R (i+1) r):OblG P all es σ0 ds w0 L0 R i (⟨S,D,d,val,fact,ch⟩ :: r):=⟨⟨o,ho,h⟩,hk⟩
end
end Go.Nm
section
set_option maxRecDepth 100000
set_option maxHeartbeats 16000000
namespace Go.Proofs.YtbldmjejckjflabGreat
open Go Go.Nm
abbrev vl29:List Int:=[(-2:Int),(-1:Int),(0:Int),(1:Int),(2:Int),(3:Int),(4:Int),(5:Int),(6:Int),(7:Int),(8:Int),(11:Int),(12:Int),(63:Int),(64:Int),(65:Int),(240:Int),(250:Int),(251:Int),(300:Int),(301:Int),(310:Int),(1000:Int),(1001:Int),(2000:Int),(2001:Int),(2002:Int),(9223372036854775807:Int),(-9223372036854775808:Int)]
abbrev vl14:List Int:=[(0:Int),(1:Int),(2:Int),(7:Int),(8:Int),(9:Int),(10:Int),(12:Int),(13:Int),(14:Int),(19:Int),(20:Int),(21:Int),(22:Int)]
abbrev fF:List Flood:=[(⟨(0:Int),([(200:Int),(250:Int),(310:Int)])⟩:Flood),(⟨(1:Int),([(280:Int),(240:Int),(290:Int)])⟩:Flood),(⟨(0:Int),([(100:Int),(260:Int),(300:Int)])⟩:Flood)]
abbrev fT:List Span:=[(⟨(5:Int),(6:Int)⟩:Span),(⟨(2:Int),(4:Int)⟩:Span),(⟨(3:Int),(5:Int)⟩:Span),(⟨(0:Int),(0:Int)⟩:Span)]
def zab (n:Nat) (l:List Int) (l2:List Span) (l3:List Int) (l4:List Town) (s s2:Int) (l5:List Flood) (s3 s4 s5 s6 s7:Int) (l6:List Int) (s8:Int) (l7:List Dem) (s9:Int) (l8:List Int):M (Nat ⊕ (Unit ⊕ Unit)) :=
  M.bind (M.opt (decide ((n:Int)<19)) (zaX l l2 l3 l4 s s2 l5 s3 s4 s5) false) fun r2 =>
  M.bind (M.opt ((!((decide ((n:Int)<19))&&(!r2)))&&((decide ((n:Int)<15))||((decide (18<(n:Int)))&&(decide ((n:Int)<26))))) (zau l l2 l3 l4 s s2 l5 (⟨(s6:Int),(s7:Int)⟩:Dem) l6 s8 l7) false) fun r3 =>
  M.bind (M.opt ((!(((decide ((n:Int)<19))&&(!r2))||(((decide ((n:Int)<15))||((decide (18<(n:Int)))&&(decide ((n:Int)<26))))&&(!r3))))&&(((decide ((n:Int)<16))||((decide (20<(n:Int)))&&(decide ((n:Int)<23))))||(decide (25<(n:Int))))) (zaT l l2 l3 l4 s s2 l5 l6 s9 l8) false) fun r4 =>
  bif ((((decide ((n:Int)<19))&&(!r2))||(((decide ((n:Int)<15))||((decide (18<(n:Int)))&&(decide ((n:Int)<26))))&&(!r3)))||((((decide ((n:Int)<16))||((decide (20<(n:Int)))&&(decide ((n:Int)<23))))||(decide (25<(n:Int))))&&(!r4))) then (
  M.pure (.inr (.inl ())))
  else (
  M.pure (.inl (n+1)))
def zcZ (aa:Nat):Nat->M (Nat ⊕ (Unit ⊕ Unit)):=fun n =>
  bif decide ((n:Int)<31) then (
  M.grd (decide ((0:Int)<=(n:Int))&&decide ((0:Int)<3)) <|
  M.grd (decide ((-9223372036854775808:Int)<=(1+((n:Int) % 3)))&&decide ((1+((n:Int) % 3))<=(9223372036854775807:Int))) <|
  M.grd (decide (0<(([(2:Int),(2:Int),(3:Int),(-1:Int)]).length:Int))) <|
  M.grd (decide (2<(([(2:Int),(2:Int),(3:Int),(-1:Int)]).length:Int))) <|
  M.grd (decide (3<(([(2:Int),(2:Int),(3:Int),(-1:Int)]).length:Int))) <|
  M.grd (decide (0<(fT.length:Int))) <|
  M.grd (decide (1<(fT.length:Int))) <|
  M.grd (decide (2<(fT.length:Int))) <|
  M.grd (decide (3<(fT.length:Int))) <|
  M.grd (decide (0<(([(0:Int),(1:Int)]).length:Int))) <|
  M.grd (decide (1<(([(0:Int),(1:Int)]).length:Int))) <|
  M.grd (decide (0<(([(⟨(3:Int),((1+((n:Int) % 3)):Int),(300:Int)⟩:Town)]).length:Int))) <|
  M.grd (decide (0<(fF.length:Int))) <|
  M.grd (decide (1<(fF.length:Int))) <|
  M.grd (decide (1<(([(280:Int),(240:Int),(290:Int)]).length:Int))) <|
  M.grd (decide (0<(([(0:Int),(2:Int)]).length:Int))) <|
  M.grd (decide (1<(([(0:Int),(2:Int)]).length:Int))) <|
  M.grd (decide (0<(([(⟨(0:Int),(0:Int)⟩:Dem),(⟨(1:Int),(0:Int)⟩:Dem)]).length:Int))) <|
  M.grd (decide (1<(([(⟨(0:Int),(0:Int)⟩:Dem),(⟨(1:Int),(0:Int)⟩:Dem)]).length:Int))) <|
  M.grd (decide (0<(([(150:Int),(250:Int)]).length:Int))) <|
  M.grd (decide (1<(([(150:Int),(250:Int)]).length:Int))) <|
  M.grd (decide (2<(fF.length:Int))) <|
  M.grd (decide (2<(([(100:Int),(260:Int),(300:Int)]).length:Int))) <|
  M.grd (decide (0<(([(100:Int),(260:Int),(300:Int)]).length:Int))) <|
  bif (n:Int)==0 then (
  M.grd (decide ((n:Int)<(31:Int))) <|
  zab n (([(2:Int),(2:Int),(3:Int),(-1:Int)]).set 0 (vl29.getD aa 0:Int)) fT ([(0:Int),(1:Int)]) ([(⟨(3:Int),((1+((n:Int) % 3)):Int),(300:Int)⟩:Town)]) 1 2 fF 0 3 0 1 0 ([(0:Int),(2:Int)]) 2 ([(⟨(0:Int),(0:Int)⟩:Dem),(⟨(1:Int),(0:Int)⟩:Dem)]) 1 ([(150:Int),(250:Int)]))
  else (
  bif (n:Int)==1 then (
  M.grd (decide ((n:Int)<(31:Int))) <|
  zab n (([(2:Int),(2:Int),(3:Int),(-1:Int)]).set 2 (vl29.getD aa 0:Int)) fT ([(0:Int),(1:Int)]) ([(⟨(3:Int),((1+((n:Int) % 3)):Int),(300:Int)⟩:Town)]) 1 2 fF 0 3 0 1 0 ([(0:Int),(2:Int)]) 2 ([(⟨(0:Int),(0:Int)⟩:Dem),(⟨(1:Int),(0:Int)⟩:Dem)]) 1 ([(150:Int),(250:Int)]))
  else (
  bif (n:Int)==2 then (
  M.grd (decide ((n:Int)<(31:Int))) <|
  zab n (([(2:Int),(2:Int),(3:Int),(-1:Int)]).set 3 (vl29.getD aa 0:Int)) fT ([(0:Int),(1:Int)]) ([(⟨(3:Int),((1+((n:Int) % 3)):Int),(300:Int)⟩:Town)]) 1 2 fF 0 3 0 1 0 ([(0:Int),(2:Int)]) 2 ([(⟨(0:Int),(0:Int)⟩:Dem),(⟨(1:Int),(0:Int)⟩:Dem)]) 1 ([(150:Int),(250:Int)]))
  else (
  bif (n:Int)==3 then (
  M.grd (decide ((n:Int)<(31:Int))) <|
  zab n ([(2:Int),(2:Int),(3:Int),(-1:Int)]) (fT.set 0 ({ (fT.getD 0 default) with lo:=vl29.getD aa 0 })) ([(0:Int),(1:Int)]) ([(⟨(3:Int),((1+((n:Int) % 3)):Int),(300:Int)⟩:Town)]) 1 2 fF 0 3 0 1 0 ([(0:Int),(2:Int)]) 2 ([(⟨(0:Int),(0:Int)⟩:Dem),(⟨(1:Int),(0:Int)⟩:Dem)]) 1 ([(150:Int),(250:Int)]))
  else (
  bif (n:Int)==4 then (
  M.grd (decide ((n:Int)<(31:Int))) <|
  zab n ([(2:Int),(2:Int),(3:Int),(-1:Int)]) (fT.set 1 ({ (fT.getD 1 default) with hi:=vl29.getD aa 0 })) ([(0:Int),(1:Int)]) ([(⟨(3:Int),((1+((n:Int) % 3)):Int),(300:Int)⟩:Town)]) 1 2 fF 0 3 0 1 0 ([(0:Int),(2:Int)]) 2 ([(⟨(0:Int),(0:Int)⟩:Dem),(⟨(1:Int),(0:Int)⟩:Dem)]) 1 ([(150:Int),(250:Int)]))
  else (
  bif (n:Int)==5 then (
  M.grd (decide ((n:Int)<(31:Int))) <|
  zab n ([(2:Int),(2:Int),(3:Int),(-1:Int)]) (fT.set 2 ({ (fT.getD 2 default) with lo:=vl29.getD aa 0 })) ([(0:Int),(1:Int)]) ([(⟨(3:Int),((1+((n:Int) % 3)):Int),(300:Int)⟩:Town)]) 1 2 fF 0 3 0 1 0 ([(0:Int),(2:Int)]) 2 ([(⟨(0:Int),(0:Int)⟩:Dem),(⟨(1:Int),(0:Int)⟩:Dem)]) 1 ([(150:Int),(250:Int)]))
  else (
  bif (n:Int)==6 then (
  M.grd (decide ((n:Int)<(31:Int))) <|
  zab n ([(2:Int),(2:Int),(3:Int),(-1:Int)]) (fT.set 3 ({ (fT.getD 3 default) with hi:=vl29.getD aa 0 })) ([(0:Int),(1:Int)]) ([(⟨(3:Int),((1+((n:Int) % 3)):Int),(300:Int)⟩:Town)]) 1 2 fF 0 3 0 1 0 ([(0:Int),(2:Int)]) 2 ([(⟨(0:Int),(0:Int)⟩:Dem),(⟨(1:Int),(0:Int)⟩:Dem)]) 1 ([(150:Int),(250:Int)]))
  else (
  bif (n:Int)==7 then (
  M.grd (decide ((n:Int)<(31:Int))) <|
  zab n ([(2:Int),(2:Int),(3:Int),(-1:Int)]) fT (([(0:Int),(1:Int)]).set 0 (vl29.getD aa 0:Int)) ([(⟨(3:Int),((1+((n:Int) % 3)):Int),(300:Int)⟩:Town)]) 1 2 fF 0 3 0 1 0 ([(0:Int),(2:Int)]) 2 ([(⟨(0:Int),(0:Int)⟩:Dem),(⟨(1:Int),(0:Int)⟩:Dem)]) 1 ([(150:Int),(250:Int)]))
  else (
  bif (n:Int)==8 then (
  M.grd (decide ((n:Int)<(31:Int))) <|
  zab n ([(2:Int),(2:Int),(3:Int),(-1:Int)]) fT (([(0:Int),(1:Int)]).set 1 (vl29.getD aa 0:Int)) ([(⟨(3:Int),((1+((n:Int) % 3)):Int),(300:Int)⟩:Town)]) 1 2 fF 0 3 0 1 0 ([(0:Int),(2:Int)]) 2 ([(⟨(0:Int),(0:Int)⟩:Dem),(⟨(1:Int),(0:Int)⟩:Dem)]) 1 ([(150:Int),(250:Int)]))
  else (
  bif (n:Int)==9 then (
  M.grd (decide ((n:Int)<(31:Int))) <|
  zab n ([(2:Int),(2:Int),(3:Int),(-1:Int)]) fT ([(0:Int),(1:Int)]) (([(⟨(3:Int),((1+((n:Int) % 3)):Int),(300:Int)⟩:Town)]).set 0 ({ (([(⟨(3:Int),((1+((n:Int) % 3)):Int),(300:Int)⟩:Town)]).getD 0 default) with station:=vl29.getD aa 0 })) 1 2 fF 0 3 0 1 0 ([(0:Int),(2:Int)]) 2 ([(⟨(0:Int),(0:Int)⟩:Dem),(⟨(1:Int),(0:Int)⟩:Dem)]) 1 ([(150:Int),(250:Int)]))
  else (
  bif (n:Int)==10 then (
  M.grd (decide ((n:Int)<(31:Int))) <|
  zab n ([(2:Int),(2:Int),(3:Int),(-1:Int)]) fT ([(0:Int),(1:Int)]) (([(⟨(3:Int),((1+((n:Int) % 3)):Int),(300:Int)⟩:Town)]).set 0 ({ (([(⟨(3:Int),((1+((n:Int) % 3)):Int),(300:Int)⟩:Town)]).getD 0 default) with lead:=vl29.getD aa 0 })) 1 2 fF 0 3 0 1 0 ([(0:Int),(2:Int)]) 2 ([(⟨(0:Int),(0:Int)⟩:Dem),(⟨(1:Int),(0:Int)⟩:Dem)]) 1 ([(150:Int),(250:Int)]))
  else (
  bif (n:Int)==11 then (
  M.grd (decide ((n:Int)<(31:Int))) <|
  zab n ([(2:Int),(2:Int),(3:Int),(-1:Int)]) fT ([(0:Int),(1:Int)]) (([(⟨(3:Int),((1+((n:Int) % 3)):Int),(300:Int)⟩:Town)]).set 0 ({ (([(⟨(3:Int),((1+((n:Int) % 3)):Int),(300:Int)⟩:Town)]).getD 0 default) with alarm:=vl29.getD aa 0 })) 1 2 fF 0 3 0 1 0 ([(0:Int),(2:Int)]) 2 ([(⟨(0:Int),(0:Int)⟩:Dem),(⟨(1:Int),(0:Int)⟩:Dem)]) 1 ([(150:Int),(250:Int)]))
  else (
  bif (n:Int)==12 then (
  M.grd (decide ((n:Int)<(31:Int))) <|
  zab n ([(2:Int),(2:Int),(3:Int),(-1:Int)]) fT ([(0:Int),(1:Int)]) ([(⟨(3:Int),((1+((n:Int) % 3)):Int),(300:Int)⟩:Town)]) (vl29.getD aa 0) 2 fF 0 3 0 1 0 ([(0:Int),(2:Int)]) 2 ([(⟨(0:Int),(0:Int)⟩:Dem),(⟨(1:Int),(0:Int)⟩:Dem)]) 1 ([(150:Int),(250:Int)]))
  else (
  bif (n:Int)==13 then (
  M.grd (decide ((n:Int)<(31:Int))) <|
  zab n ([(2:Int),(2:Int),(3:Int),(-1:Int)]) fT ([(0:Int),(1:Int)]) ([(⟨(3:Int),((1+((n:Int) % 3)):Int),(300:Int)⟩:Town)]) 1 (vl29.getD aa 0) fF 0 3 0 1 0 ([(0:Int),(2:Int)]) 2 ([(⟨(0:Int),(0:Int)⟩:Dem),(⟨(1:Int),(0:Int)⟩:Dem)]) 1 ([(150:Int),(250:Int)]))
  else (
  bif (n:Int)==14 then (
  M.grd (decide ((n:Int)<(31:Int))) <|
  zab n ([(2:Int),(2:Int),(3:Int),(-1:Int)]) fT ([(0:Int),(1:Int)]) ([(⟨(3:Int),((1+((n:Int) % 3)):Int),(300:Int)⟩:Town)]) 1 2 ([(⟨(vl29.getD aa 0:Int),([(200:Int),(250:Int),(310:Int)])⟩:Flood),(⟨(1:Int),([(280:Int),(240:Int),(290:Int)])⟩:Flood),(⟨(0:Int),([(100:Int),(260:Int),(300:Int)])⟩:Flood)]) 0 3 0 1 0 ([(0:Int),(2:Int)]) 2 ([(⟨(0:Int),(0:Int)⟩:Dem),(⟨(1:Int),(0:Int)⟩:Dem)]) 1 ([(150:Int),(250:Int)]))
  else (
  bif (n:Int)==15 then (
  M.grd (decide ((n:Int)<(31:Int))) <|
  zab n ([(2:Int),(2:Int),(3:Int),(-1:Int)]) fT ([(0:Int),(1:Int)]) ([(⟨(3:Int),((1+((n:Int) % 3)):Int),(300:Int)⟩:Town)]) 1 2 ([(⟨(0:Int),([(200:Int),(250:Int),(310:Int)])⟩:Flood),(⟨(1:Int),(([(280:Int),(240:Int),(290:Int)]).set 1 (vl29.getD aa 0:Int))⟩:Flood),(⟨(0:Int),([(100:Int),(260:Int),(300:Int)])⟩:Flood)]) 0 3 0 1 0 ([(0:Int),(2:Int)]) 2 ([(⟨(0:Int),(0:Int)⟩:Dem),(⟨(1:Int),(0:Int)⟩:Dem)]) 1 ([(150:Int),(250:Int)]))
  else (
  bif (n:Int)==16 then (
  M.grd (decide ((n:Int)<(31:Int))) <|
  zab n ([(2:Int),(2:Int),(3:Int),(-1:Int)]) fT ([(0:Int),(1:Int)]) ([(⟨(3:Int),((1+((n:Int) % 3)):Int),(300:Int)⟩:Town)]) 1 2 fF (vl29.getD aa 0) 3 0 1 0 ([(0:Int),(2:Int)]) 2 ([(⟨(0:Int),(0:Int)⟩:Dem),(⟨(1:Int),(0:Int)⟩:Dem)]) 1 ([(150:Int),(250:Int)]))
  else (
  bif (n:Int)==17 then (
  M.grd (decide ((n:Int)<(31:Int))) <|
  zab n ([(2:Int),(2:Int),(3:Int),(-1:Int)]) fT ([(0:Int),(1:Int)]) ([(⟨(3:Int),((1+((n:Int) % 3)):Int),(300:Int)⟩:Town)]) 1 2 fF 0 (vl29.getD aa 0) 0 1 0 ([(0:Int),(2:Int)]) 2 ([(⟨(0:Int),(0:Int)⟩:Dem),(⟨(1:Int),(0:Int)⟩:Dem)]) 1 ([(150:Int),(250:Int)]))
  else (
  bif (n:Int)==18 then (
  M.grd (decide ((n:Int)<(31:Int))) <|
  zab n ([(2:Int),(2:Int),(3:Int),(-1:Int)]) fT ([(0:Int),(1:Int)]) ([(⟨(3:Int),((1+((n:Int) % 3)):Int),(300:Int)⟩:Town)]) 1 2 fF 0 3 (vl29.getD aa 0) 1 0 ([(0:Int),(2:Int)]) 2 ([(⟨(0:Int),(0:Int)⟩:Dem),(⟨(1:Int),(0:Int)⟩:Dem)]) 1 ([(150:Int),(250:Int)]))
  else (
  bif (n:Int)==19 then (
  M.grd (decide ((n:Int)<(31:Int))) <|
  zab n ([(2:Int),(2:Int),(3:Int),(-1:Int)]) fT ([(0:Int),(1:Int)]) ([(⟨(3:Int),((1+((n:Int) % 3)):Int),(300:Int)⟩:Town)]) 1 2 fF 0 3 0 (vl29.getD aa 0) 0 ([(0:Int),(2:Int)]) 2 ([(⟨(0:Int),(0:Int)⟩:Dem),(⟨(1:Int),(0:Int)⟩:Dem)]) 1 ([(150:Int),(250:Int)]))
  else (
  bif (n:Int)==20 then (
  M.grd (decide ((n:Int)<(31:Int))) <|
  zab n ([(2:Int),(2:Int),(3:Int),(-1:Int)]) fT ([(0:Int),(1:Int)]) ([(⟨(3:Int),((1+((n:Int) % 3)):Int),(300:Int)⟩:Town)]) 1 2 fF 0 3 0 1 (vl29.getD aa 0) ([(0:Int),(2:Int)]) 2 ([(⟨(0:Int),(0:Int)⟩:Dem),(⟨(1:Int),(0:Int)⟩:Dem)]) 1 ([(150:Int),(250:Int)]))
  else (
  bif (n:Int)==21 then (
  M.grd (decide ((n:Int)<(31:Int))) <|
  zab n ([(2:Int),(2:Int),(3:Int),(-1:Int)]) fT ([(0:Int),(1:Int)]) ([(⟨(3:Int),((1+((n:Int) % 3)):Int),(300:Int)⟩:Town)]) 1 2 fF 0 3 0 1 0 (([(0:Int),(2:Int)]).set 0 (vl29.getD aa 0:Int)) 2 ([(⟨(0:Int),(0:Int)⟩:Dem),(⟨(1:Int),(0:Int)⟩:Dem)]) 1 ([(150:Int),(250:Int)]))
  else (
  bif (n:Int)==22 then (
  M.grd (decide ((n:Int)<(31:Int))) <|
  zab n ([(2:Int),(2:Int),(3:Int),(-1:Int)]) fT ([(0:Int),(1:Int)]) ([(⟨(3:Int),((1+((n:Int) % 3)):Int),(300:Int)⟩:Town)]) 1 2 fF 0 3 0 1 0 (([(0:Int),(2:Int)]).set 1 (vl29.getD aa 0:Int)) 2 ([(⟨(0:Int),(0:Int)⟩:Dem),(⟨(1:Int),(0:Int)⟩:Dem)]) 1 ([(150:Int),(250:Int)]))
  else (
  bif (n:Int)==23 then (
  M.grd (decide ((n:Int)<(31:Int))) <|
  zab n ([(2:Int),(2:Int),(3:Int),(-1:Int)]) fT ([(0:Int),(1:Int)]) ([(⟨(3:Int),((1+((n:Int) % 3)):Int),(300:Int)⟩:Town)]) 1 2 fF 0 3 0 1 0 ([(0:Int),(2:Int)]) (vl29.getD aa 0) ([(⟨(0:Int),(0:Int)⟩:Dem),(⟨(1:Int),(0:Int)⟩:Dem)]) 1 ([(150:Int),(250:Int)]))
  else (
  bif (n:Int)==24 then (
  M.grd (decide ((n:Int)<(31:Int))) <|
  zab n ([(2:Int),(2:Int),(3:Int),(-1:Int)]) fT ([(0:Int),(1:Int)]) ([(⟨(3:Int),((1+((n:Int) % 3)):Int),(300:Int)⟩:Town)]) 1 2 fF 0 3 0 1 0 ([(0:Int),(2:Int)]) 2 (([(⟨(0:Int),(0:Int)⟩:Dem),(⟨(1:Int),(0:Int)⟩:Dem)]).set 0 ({ (([(⟨(0:Int),(0:Int)⟩:Dem),(⟨(1:Int),(0:Int)⟩:Dem)]).getD 0 default) with spring:=vl29.getD aa 0 })) 1 ([(150:Int),(250:Int)]))
  else (
  bif (n:Int)==25 then (
  M.grd (decide ((n:Int)<(31:Int))) <|
  zab n ([(2:Int),(2:Int),(3:Int),(-1:Int)]) fT ([(0:Int),(1:Int)]) ([(⟨(3:Int),((1+((n:Int) % 3)):Int),(300:Int)⟩:Town)]) 1 2 fF 0 3 0 1 0 ([(0:Int),(2:Int)]) 2 (([(⟨(0:Int),(0:Int)⟩:Dem),(⟨(1:Int),(0:Int)⟩:Dem)]).set 1 ({ (([(⟨(0:Int),(0:Int)⟩:Dem),(⟨(1:Int),(0:Int)⟩:Dem)]).getD 1 default) with town:=vl29.getD aa 0 })) 1 ([(150:Int),(250:Int)]))
  else (
  bif (n:Int)==26 then (
  M.grd (decide ((n:Int)<(31:Int))) <|
  zab n ([(2:Int),(2:Int),(3:Int),(-1:Int)]) fT ([(0:Int),(1:Int)]) ([(⟨(3:Int),((1+((n:Int) % 3)):Int),(300:Int)⟩:Town)]) 1 2 fF 0 3 0 1 0 ([(0:Int),(2:Int)]) 2 ([(⟨(0:Int),(0:Int)⟩:Dem),(⟨(1:Int),(0:Int)⟩:Dem)]) (vl29.getD aa 0) ([(150:Int),(250:Int)]))
  else (
  bif (n:Int)==27 then (
  M.grd (decide ((n:Int)<(31:Int))) <|
  zab n ([(2:Int),(2:Int),(3:Int),(-1:Int)]) fT ([(0:Int),(1:Int)]) ([(⟨(3:Int),((1+((n:Int) % 3)):Int),(300:Int)⟩:Town)]) 1 2 fF 0 3 0 1 0 ([(0:Int),(2:Int)]) 2 ([(⟨(0:Int),(0:Int)⟩:Dem),(⟨(1:Int),(0:Int)⟩:Dem)]) 1 (([(150:Int),(250:Int)]).set 0 (vl29.getD aa 0:Int)))
  else (
  bif (n:Int)==28 then (
  M.grd (decide ((n:Int)<(31:Int))) <|
  zab n ([(2:Int),(2:Int),(3:Int),(-1:Int)]) fT ([(0:Int),(1:Int)]) ([(⟨(3:Int),((1+((n:Int) % 3)):Int),(300:Int)⟩:Town)]) 1 2 fF 0 3 0 1 0 ([(0:Int),(2:Int)]) 2 ([(⟨(0:Int),(0:Int)⟩:Dem),(⟨(1:Int),(0:Int)⟩:Dem)]) 1 (([(150:Int),(250:Int)]).set 1 (vl29.getD aa 0:Int)))
  else (
  bif (n:Int)==29 then (
  M.grd (decide ((n:Int)<(31:Int))) <|
  zab n ([(2:Int),(2:Int),(3:Int),(-1:Int)]) fT ([(0:Int),(1:Int)]) ([(⟨(3:Int),((1+((n:Int) % 3)):Int),(300:Int)⟩:Town)]) 1 2 ([(⟨(0:Int),([(200:Int),(250:Int),(310:Int)])⟩:Flood),(⟨(1:Int),([(280:Int),(240:Int),(290:Int)])⟩:Flood),(⟨(0:Int),(([(100:Int),(260:Int),(300:Int)]).set 2 (vl29.getD aa 0:Int))⟩:Flood)]) 0 3 0 1 0 ([(0:Int),(2:Int)]) 2 ([(⟨(0:Int),(0:Int)⟩:Dem),(⟨(1:Int),(0:Int)⟩:Dem)]) 1 ([(150:Int),(250:Int)]))
  else (
  bif (n:Int)==30 then (
  M.grd (decide ((n:Int)<(31:Int))) <|
  zab n ([(2:Int),(2:Int),(3:Int),(-1:Int)]) fT ([(0:Int),(1:Int)]) ([(⟨(3:Int),((1+((n:Int) % 3)):Int),(300:Int)⟩:Town)]) 1 2 ([(⟨(0:Int),([(200:Int),(250:Int),(310:Int)])⟩:Flood),(⟨(1:Int),([(280:Int),(240:Int),(290:Int)])⟩:Flood),(⟨(0:Int),(([(100:Int),(260:Int),(300:Int)]).set 0 (vl29.getD aa 0:Int))⟩:Flood)]) 0 3 0 1 0 ([(0:Int),(2:Int)]) 2 ([(⟨(0:Int),(0:Int)⟩:Dem),(⟨(1:Int),(0:Int)⟩:Dem)]) 1 ([(150:Int),(250:Int)]))
  else (
  M.fail))))))))))))))))))))))))))))))))
  else (
  M.pure (.inr (.inr ())))
def zea  : Nat->M (Nat ⊕ (Unit ⊕ Unit)):=fun aa =>
  bif decide ((aa:Int)<(vl29.length:Int)) then (
  M.grd (decide ((aa:Int)<(vl29.length:Int))) <|
  M.bind (M.iter (zcZ aa) 0) fun x_=>match x_ with
  | (.inl (_:Unit))=>(
  M.pure (.inr (.inl ())))
  | (.inr (_:Unit))=>(
  M.pure (.inl (aa+1))))
  else (
  M.pure (.inr (.inr ())))
def zds (n2 i:Nat):(Int × Nat × (List Int))->M ((Int × Nat × (List Int)) ⊕ ((List Int) × (List Int))):=fun (aa,k,l9) =>
  bif ((decide (0<=aa))&&(decide ((k:Int)<4))) then (
  M.grd (decide ((-9223372036854775808:Int)<=((k:Int)+1))&&decide (((k:Int)+1)<=(9223372036854775807:Int))) <|
  M.grd (decide (0<=(n2:Int))&&decide ((n2:Int)<=(9223372036854775807:Int))&&decide ((0:Int)<((k:Int)+1))) <|
  M.grd (decide ((-9223372036854775808:Int)<=(3*(i:Int)))&&decide ((3*(i:Int))<=(9223372036854775807:Int))) <|
  M.grd (decide ((-9223372036854775808:Int)<=(((n2:Int) / ((k:Int)+1))+(3*(i:Int))))&&decide ((((n2:Int) / ((k:Int)+1))+(3*(i:Int)))<=(9223372036854775807:Int))) <|
  M.grd (decide ((0:Int)<=(((n2:Int) / ((k:Int)+1))+(3*(i:Int))))&&decide ((0:Int)<7)) <|
  M.grd (decide ((l9.length+([((((n2:Int) / ((k:Int)+1))+(3*(i:Int))) % 7:Int)]).length)*8<=140737488355328)) <|
  M.grd (decide ((0:Int)<=aa)&&decide (aa<(([(1+((n2:Int) % 3):Int),(2+(((n2:Int) / 3) % 2):Int),(([(3:Int),(-1:Int)]).getD (Int.toNat (((n2:Int) / 6) % 2)) 0:Int),(-1:Int)]).length:Int))) <|
  M.pure (.inl (([(1+((n2:Int) % 3):Int),(2+(((n2:Int) / 3) % 2):Int),(([(3:Int),(-1:Int)]).getD (Int.toNat (((n2:Int) / 6) % 2)) 0:Int),(-1:Int)]).getD (Int.toNat aa) 0,k+1,l9++([((((n2:Int) / ((k:Int)+1))+(3*(i:Int))) % 7:Int)]))))
  else (
  M.pure (.inr (l9,l9)))
def zed (n2:Nat):(Nat × (List Flood))->M ((Nat × (List Flood)) ⊕ ((List Flood) × (List Flood))):=fun (i,aa) =>
  bif decide ((i:Int)<((n2:Int) % 4)) then (
  M.grd (decide ((0:Int)<=(i:Int))&&decide ((0:Int)<((([(0:Int),(1:Int),(2:Int)]).drop (Int.toNat ((n2:Int) % 3))).length:Int))) <|
  M.grd (decide ((0:Int)<=((i:Int) % ((([(0:Int),(1:Int),(2:Int)]).drop (Int.toNat ((n2:Int) % 3))).length:Int)))&&decide (((i:Int) % ((([(0:Int),(1:Int),(2:Int)]).drop (Int.toNat ((n2:Int) % 3))).length:Int))<((([(0:Int),(1:Int),(2:Int)]).drop (Int.toNat ((n2:Int) % 3))).length:Int))) <|
  M.bind (M.iter (zds n2 i) ((([(0:Int),(1:Int),(2:Int)]).drop (Int.toNat ((n2:Int) % 3))).getD (Int.toNat ((i:Int) % ((([(0:Int),(1:Int),(2:Int)]).drop (Int.toNat ((n2:Int) % 3))).length:Int))) 0,0,[])) fun (ac,ab) =>
  M.grd (decide ((aa.length+([(⟨((([(0:Int),(1:Int),(2:Int)]).drop (Int.toNat ((n2:Int) % 3))).getD (Int.toNat ((i:Int) % ((([(0:Int),(1:Int),(2:Int)]).drop (Int.toNat ((n2:Int) % 3))).length:Int))) 0:Int),ab⟩:Flood)]).length)*32<=140737488355328)) <|
  M.grd (decide ((-9223372036854775808:Int)<=((i:Int)+1))&&decide (((i:Int)+1)<=(9223372036854775807:Int))) <|
  M.pure (.inl (i+1,aa++([(⟨((([(0:Int),(1:Int),(2:Int)]).drop (Int.toNat ((n2:Int) % 3))).getD (Int.toNat ((i:Int) % ((([(0:Int),(1:Int),(2:Int)]).drop (Int.toNat ((n2:Int) % 3))).length:Int))) 0:Int),ab⟩:Flood)]))))
  else (
  M.pure (.inr (aa,aa)))
def zbN  : Nat->M (Nat ⊕ (Unit ⊕ Unit)):=fun n2 =>
  bif decide ((n2:Int)<3000) then (
  M.grd (decide ((0:Int)<=(n2:Int))&&decide ((0:Int)<3)) <|
  M.grd (decide ((-9223372036854775808:Int)<=(1+((n2:Int) % 3)))&&decide ((1+((n2:Int) % 3))<=(9223372036854775807:Int))) <|
  M.grd (decide (0<=(n2:Int))&&decide ((n2:Int)<=(9223372036854775807:Int))&&decide ((0:Int)<3)) <|
  M.grd (decide ((0:Int)<=((n2:Int) / 3))&&decide ((0:Int)<2)) <|
  M.grd (decide ((-9223372036854775808:Int)<=(2+(((n2:Int) / 3) % 2)))&&decide ((2+(((n2:Int) / 3) % 2))<=(9223372036854775807:Int))) <|
  M.grd (decide ((0:Int)<=((n2:Int) / 6))&&decide ((0:Int)<2)) <|
  M.grd (decide ((0:Int)<=(((n2:Int) / 6) % 2))&&decide ((((n2:Int) / 6) % 2)<(([(3:Int),(-1:Int)]).length:Int))) <|
  M.bind (zak ((n2:Int) % 4) 4) fun (r0,r1) =>
  M.grd (decide ((0:Int)<=((n2:Int) / 4))&&decide ((0:Int)<3)) <|
  M.bind (zak (((n2:Int) / 4) % 3) 3) fun (aa,ab) =>
  M.grd (decide ((0:Int)<=((n2:Int) / 2))&&decide ((0:Int)<4)) <|
  M.bind (zak (((n2:Int) / 2) % 4) 5) fun (ac,ae) =>
  M.grd (decide ((0:Int)<=((n2:Int) % 3))&&decide (((n2:Int) % 3)<=(([(0:Int),(1:Int),(2:Int)]).length:Int))) <|
  M.grd (decide ((0:Int)<=((n2:Int) / 5))&&decide ((0:Int)<3)) <|
  M.grd (decide ((-9223372036854775808:Int)<=(1+(((n2:Int) / 5) % 3)))&&decide ((1+(((n2:Int) / 5) % 3))<=(9223372036854775807:Int))) <|
  M.grd (decide ((0:Int)<=((n2:Int) / 7))&&decide ((0:Int)<5)) <|
  M.grd (decide ((-9223372036854775808:Int)<=(3+((n2:Int) % 3)))&&decide ((3+((n2:Int) % 3))<=(9223372036854775807:Int))) <|
  M.grd (decide ((0:Int)<=((n2:Int) / 11))&&decide ((0:Int)<4)) <|
  M.grd (decide ((0:Int)<=((n2:Int) / 9))&&decide ((0:Int)<4)) <|
  M.grd (decide ((-9223372036854775808:Int)<=(2+(((n2:Int) / 4) % 4)))&&decide ((2+(((n2:Int) / 4) % 4))<=(9223372036854775807:Int))) <|
  M.grd (decide ((0:Int)<=((n2:Int) / 13))&&decide ((0:Int)<3)) <|
  M.grd (decide ((0:Int)<=(((n2:Int) / 13) % 3))&&decide ((((n2:Int) / 13) % 3)<=(([(⟨(1+(((n2:Int) / 5) % 3):Int),(((n2:Int) / 7) % 5:Int),(3+((n2:Int) % 3):Int)⟩:Town),(⟨(((n2:Int) / 11) % 4:Int),(((n2:Int) / 9) % 4:Int),(2+(((n2:Int) / 4) % 4):Int)⟩:Town)]).length:Int))) <|
  M.bind (zak 0 (((n2:Int) / 3) % 2)) fun (ag,ah) =>
  M.bind (M.iter (zed n2) (0,[])) fun (aj,ai) =>
  M.grd (decide ((0:Int)<=((n2:Int) % 7))&&decide (((n2:Int) % 7)<(([[],[(0:Int)],[(2:Int)],[(0:Int),(2:Int)],[(1:Int),(3:Int)],[(1:Int),(2:Int)],[(0:Int),(1:Int),(2:Int),(3:Int)]]).length:Int))) <|
  M.grd (decide ((0:Int)<=((n2:Int) / 8))&&decide ((0:Int)<8)) <|
  M.grd (decide ((0:Int)<=((n2:Int) / 64))&&decide ((0:Int)<8)) <|
  M.grd (decide ((0:Int)<=((([[],[(0:Int)],[(2:Int)],[(0:Int),(2:Int)],[(1:Int),(3:Int)],[(1:Int),(2:Int)],[(0:Int),(1:Int),(2:Int),(3:Int)]]).getD (Int.toNat ((n2:Int) % 7)) ([])).length:Int))&&decide (((([[],[(0:Int)],[(2:Int)],[(0:Int),(2:Int)],[(1:Int),(3:Int)],[(1:Int),(2:Int)],[(0:Int),(1:Int),(2:Int),(3:Int)]]).getD (Int.toNat ((n2:Int) % 7)) ([])).length:Int)<=(([((n2:Int) % 8:Int),(((n2:Int) / 8) % 8:Int),(((n2:Int) / 64) % 8:Int),(3:Int)]).length:Int))) <|
  M.bind (zaX ([(1+((n2:Int) % 3):Int),(2+(((n2:Int) / 3) % 2):Int),(([(3:Int),(-1:Int)]).getD (Int.toNat (((n2:Int) / 6) % 2)) 0:Int),(-1:Int)]) ([(⟨(r0:Int),(r1:Int)⟩:Span),(⟨(aa:Int),(ab:Int)⟩:Span),(⟨(ac:Int),(ae:Int)⟩:Span),(⟨(0:Int),(0:Int)⟩:Span)]) (([(0:Int),(1:Int),(2:Int)]).drop (Int.toNat ((n2:Int) % 3))) (([(⟨(1+(((n2:Int) / 5) % 3):Int),(((n2:Int) / 7) % 5:Int),(3+((n2:Int) % 3):Int)⟩:Town),(⟨(((n2:Int) / 11) % 4:Int),(((n2:Int) / 9) % 4:Int),(2+(((n2:Int) / 4) % 4):Int)⟩:Town)]).take (Int.toNat (((n2:Int) / 13) % 3))) ag ah ai ((n2:Int) % 4) (((n2:Int) / 4) % 4) ((n2:Int) % 2)) fun r5 =>
  M.grd ((!(!(!r5))||(decide ((0:Int)<=((n2:Int) % 3))&&decide (((n2:Int) % 3)<=(([(⟨((n2:Int) % 3:Int),(0:Int)⟩:Dem),(⟨(((n2:Int) / 2) % 3:Int),((n2:Int) % 2:Int)⟩:Dem)]).length:Int))))) <|
  M.bind (M.opt (!(!r5)) (zau ([(1+((n2:Int) % 3):Int),(2+(((n2:Int) / 3) % 2):Int),(([(3:Int),(-1:Int)]).getD (Int.toNat (((n2:Int) / 6) % 2)) 0:Int),(-1:Int)]) ([(⟨(r0:Int),(r1:Int)⟩:Span),(⟨(aa:Int),(ab:Int)⟩:Span),(⟨(ac:Int),(ae:Int)⟩:Span),(⟨(0:Int),(0:Int)⟩:Span)]) (([(0:Int),(1:Int),(2:Int)]).drop (Int.toNat ((n2:Int) % 3))) (([(⟨(1+(((n2:Int) / 5) % 3):Int),(((n2:Int) / 7) % 5:Int),(3+((n2:Int) % 3):Int)⟩:Town),(⟨(((n2:Int) / 11) % 4:Int),(((n2:Int) / 9) % 4:Int),(2+(((n2:Int) / 4) % 4):Int)⟩:Town)]).take (Int.toNat (((n2:Int) / 13) % 3))) ag ah ai (⟨((n2:Int) % 3:Int),(((n2:Int) / 3) % 2:Int)⟩:Dem) (([[],[(0:Int)],[(2:Int)],[(0:Int),(2:Int)],[(1:Int),(3:Int)],[(1:Int),(2:Int)],[(0:Int),(1:Int),(2:Int),(3:Int)]]).getD (Int.toNat ((n2:Int) % 7)) ([])) ((n2:Int) % 4) (([(⟨((n2:Int) % 3:Int),(0:Int)⟩:Dem),(⟨(((n2:Int) / 2) % 3:Int),((n2:Int) % 2:Int)⟩:Dem)]).take (Int.toNat ((n2:Int) % 3)))) false) fun r6 =>
  M.bind (M.opt (!((!r5)||(!r6))) (zaT ([(1+((n2:Int) % 3):Int),(2+(((n2:Int) / 3) % 2):Int),(([(3:Int),(-1:Int)]).getD (Int.toNat (((n2:Int) / 6) % 2)) 0:Int),(-1:Int)]) ([(⟨(r0:Int),(r1:Int)⟩:Span),(⟨(aa:Int),(ab:Int)⟩:Span),(⟨(ac:Int),(ae:Int)⟩:Span),(⟨(0:Int),(0:Int)⟩:Span)]) (([(0:Int),(1:Int),(2:Int)]).drop (Int.toNat ((n2:Int) % 3))) (([(⟨(1+(((n2:Int) / 5) % 3):Int),(((n2:Int) / 7) % 5:Int),(3+((n2:Int) % 3):Int)⟩:Town),(⟨(((n2:Int) / 11) % 4:Int),(((n2:Int) / 9) % 4:Int),(2+(((n2:Int) / 4) % 4):Int)⟩:Town)]).take (Int.toNat (((n2:Int) / 13) % 3))) ag ah ai (([[],[(0:Int)],[(2:Int)],[(0:Int),(2:Int)],[(1:Int),(3:Int)],[(1:Int),(2:Int)],[(0:Int),(1:Int),(2:Int),(3:Int)]]).getD (Int.toNat ((n2:Int) % 7)) ([])) ((n2:Int) % 4) (([((n2:Int) % 8:Int),(((n2:Int) / 8) % 8:Int),(((n2:Int) / 64) % 8:Int),(3:Int)]).take ((([[],[(0:Int)],[(2:Int)],[(0:Int),(2:Int)],[(1:Int),(3:Int)],[(1:Int),(2:Int)],[(0:Int),(1:Int),(2:Int),(3:Int)]]).getD (Int.toNat ((n2:Int) % 7)) ([])).length))) false) fun r7 =>
  bif (((!r5)||(!r6))||(!r7)) then (
  M.pure (.inr (.inl ())))
  else (
  M.pure (.inl (n2+1))))
  else (
  M.pure (.inr (.inr ())))
def zd1 (ag:Nat):(Nat × (List Int) × (List Span))->M ((Nat × (List Int) × (List Span)) ⊕ ((List Int) × (List Span) × (List Span) × (List Int))):=fun (i2,aa,ab) =>
  bif decide ((i2:Int)<(min (vl14.getD ag 0) 15)) then (
  M.grd (decide ((-9223372036854775808:Int)<=((i2:Int)+1))&&decide (((i2:Int)+1)<=(9223372036854775807:Int))) <|
  M.grd (decide ((aa.length+([((i2:Int)+1:Int)]).length)*8<=140737488355328)) <|
  M.bind (zak (i2:Int) 1000) fun (ac,ae) =>
  M.grd (decide ((ab.length+([(⟨(ac:Int),(ae:Int)⟩:Span)]).length)*16<=140737488355328)) <|
  M.pure (.inl (i2+1,aa++([((i2:Int)+1:Int)]),ab++([(⟨(ac:Int),(ae:Int)⟩:Span)]))))
  else (
  M.pure (.inr (aa,ab,ab,aa)))
def zdI (ai:Nat):(Nat × (List Town) × (List Int) × (List Span) × (List Int))->M ((Nat × (List Town) × (List Int) × (List Span) × (List Int)) ⊕ ((List Town) × (List Int) × (List Span) × (List Int) × (List Int) × (List Span) × (List Int) × (List Town))):=fun (i3,aa,ab,ac,ae) =>
  bif decide ((i3:Int)<(min (vl14.getD ai 0) 10)) then (
  M.grd (decide ((0:Int)<=(i3:Int))&&decide ((0:Int)<4)) <|
  M.grd (decide ((-9223372036854775808:Int)<=(250+(i3:Int)))&&decide ((250+(i3:Int))<=(9223372036854775807:Int))) <|
  M.grd (decide ((aa.length+([(⟨((i3:Int) % 4:Int),((i3:Int) % 2:Int),250+(i3:Int)⟩:Town)]).length)*24<=140737488355328)) <|
  M.grd (decide ((ab.length+([(9:Int)]).length)*8<=140737488355328)) <|
  M.bind (zak 1 2) fun (ag,ah) =>
  M.grd (decide ((ac.length+([(⟨(ag:Int),(ah:Int)⟩:Span)]).length)*16<=140737488355328)) <|
  M.grd (decide ((ae.length+([(i3:Int)]).length)*8<=140737488355328)) <|
  M.grd (decide ((-9223372036854775808:Int)<=((i3:Int)+1))&&decide (((i3:Int)+1)<=(9223372036854775807:Int))) <|
  M.pure (.inl (i3+1,aa++([(⟨((i3:Int) % 4:Int),((i3:Int) % 2:Int),250+(i3:Int)⟩:Town)]),ab++([(9:Int)]),ac++([(⟨(ag:Int),(ah:Int)⟩:Span)]),ae++([(i3:Int)]))))
  else (
  M.pure (.inr (aa,ab,ac,ae,ae,ac,ab,aa)))
def zdX  : ((List Int) × (List Span))->M (((List Int) × (List Span)) ⊕ ((List Int) × (List Span) × (List Span) × (List Int))):=fun (aa,ab) =>
  bif decide ((aa.length:Int)<9) then (
  M.grd (decide ((aa.length+([(-1:Int)]).length)*8<=140737488355328)) <|
  M.grd (decide ((ab.length+([(⟨(0:Int),(0:Int)⟩:Span)]).length)*16<=140737488355328)) <|
  M.pure (.inl (aa++([(-1:Int)]),ab++([(⟨(0:Int),(0:Int)⟩:Span)]))))
  else (
  M.pure (.inr (aa,ab,ab,aa)))
def zdt  : ((List Int) × Nat)->M (((List Int) × Nat) ⊕ ((List Int) × (List Int))):=fun (aa,i4) =>
  bif decide ((i4:Int)<(aa.length:Int)) then (
  M.grd (decide ((i4:Int)<(aa.length:Int))) <|
  bif decide (((i4:Int)+1)<((aa.set i4 (-1:Int)).length:Int)) then (
  M.grd (decide ((i4:Int)<((aa.set i4 (-1:Int)).length:Int))) <|
  M.pure (.inl ((aa.set i4 (-1:Int)).set i4 (((aa.set i4 (-1:Int)).length:Int)-1:Int),i4+1)))
  else (
  M.pure (.inl (aa.set i4 (-1:Int),i4+1))))
  else (
  M.pure (.inr (aa,aa)))
def zdu (ab:Nat):(Nat × (List Flood))->M ((Nat × (List Flood)) ⊕ ((List Flood) × (List Flood))):=fun (i5,aa) =>
  bif decide ((i5:Int)<(vl14.getD ab 0)) then (
  M.grd (decide ((0:Int)<=(i5:Int))&&decide ((0:Int)<2)) <|
  M.grd (decide ((-9223372036854775808:Int)<=(10*(i5:Int)))&&decide ((10*(i5:Int))<=(9223372036854775807:Int))) <|
  M.grd (decide ((-9223372036854775808:Int)<=(300-(i5:Int)))&&decide ((300-(i5:Int))<=(9223372036854775807:Int))) <|
  M.grd (decide ((-9223372036854775808:Int)<=(295+((i5:Int) % 10)))&&decide ((295+((i5:Int) % 10))<=(9223372036854775807:Int))) <|
  M.grd (decide ((aa.length+([(⟨((i5:Int) % 2:Int),([10*(i5:Int),300-(i5:Int),(295+((i5:Int) % 10):Int)])⟩:Flood)]).length)*32<=140737488355328)) <|
  M.grd (decide ((-9223372036854775808:Int)<=((i5:Int)+1))&&decide (((i5:Int)+1)<=(9223372036854775807:Int))) <|
  M.pure (.inl (i5+1,aa++([(⟨((i5:Int) % 2:Int),([10*(i5:Int),300-(i5:Int),(295+((i5:Int) % 10):Int)])⟩:Flood)]))))
  else (
  M.pure (.inr (aa,aa)))
def zbn (aa:Nat) (ae:List Int) (ag:List Span) (ah:List Int) (ai aj:Int) (ak:List Flood) (al:List Int) (am:List Span) (ao:List Int) (ap:List Town) (aq au:Int) (av:List Town) (aw ax:Int) (ay:List Span) (az:List Int):M (Nat ⊕ (Unit ⊕ Unit)) :=
  M.bind (M.iter (zdI aa) (0,[],[],[],[])) fun (aM,aN,aO,aP,aA,aH,aI,aB) =>
  M.bind (M.iter (zdX) (aI,aH)) fun (aQ,aR,aC,aJ) =>
  M.bind (M.iter (zdt) (aJ,0)) fun (aS,aD) =>
  M.bind (M.iter (zdu aa) (0,[])) fun (aT,aE) =>
  M.grd (decide ((-9223372036854775808:Int)<=(3*(vl14.getD aa 0)))&&decide ((3*(vl14.getD aa 0))<=(9223372036854775807:Int))) <|
  M.grd (decide ((0:Int)<=(min 70 (3*(vl14.getD aa 0))))&&decide ((16:Int)*(min 70 (3*(vl14.getD aa 0)))<=281474976710656)&&decide ((min 70 (3*(vl14.getD aa 0)))<=(9223372036854775807:Int))) <|
  M.grd (decide ((-9223372036854775808:Int)<=((vl14.getD aa 0)-1))&&decide (((vl14.getD aa 0)-1)<=(9223372036854775807:Int))) <|
  M.bind (zaX az ay ([(0:Int)]) ([]:List Town) 0 0 ([]:List Flood) 0 ((vl14.getD aa 0)-1) 0) fun r8 =>
  M.bind (M.opt (!(!r8)) (zau ae ag ah aB ai aj ak (⟨(0:Int),((vl14.getD aa 0)-1:Int)⟩:Dem) ([(0:Int),(1:Int)]) 2 (List.replicate (Int.toNat (min 70 (3*(vl14.getD aa 0)))) (default:Dem))) false) fun r9 =>
  M.bind (M.opt (!((!r8)||(!r9))) (zaT al am ao ap aq au aE ([(0:Int),(1:Int)]) ((vl14.getD aa 0)-1) ([(100:Int),(50:Int)])) false) fun aF =>
  M.bind (M.opt (!(((!r8)||(!r9))||(!aF))) (zau aD aC aA av aw ax ([]:List Flood) (⟨(0:Int),(0:Int)⟩:Dem) ([]:List Int) 1 ([]:List Dem)) false) fun aK =>
  bif ((((!r8)||(!r9))||(!aF))||(!aK)) then (
  M.pure (.inr (.inl ())))
  else (
  M.bind (zaA az ay ([(0:Int)]) ([]:List Town) 0 0 ([]:List Flood)) fun ab =>
  M.bind (M.opt (!((ab==0) != ((decide (0<(vl14.getD aa 0)))&&(decide ((vl14.getD aa 0)<13))))) (zaA ae ag ah aB ai aj ak) 0) fun ac =>
  M.bind (M.opt (!(((ab==0) != ((decide (0<(vl14.getD aa 0)))&&(decide ((vl14.getD aa 0)<13))))||((ac==0) != (decide ((vl14.getD aa 0)<9))))) (zaA al am ao ap aq au aE) 0) fun aG =>
  M.bind (M.opt (!((((ab==0) != ((decide (0<(vl14.getD aa 0)))&&(decide ((vl14.getD aa 0)<13))))||((ac==0) != (decide ((vl14.getD aa 0)<9))))||((aG==0) != (decide ((vl14.getD aa 0)<21))))) (zaA aD aC aA av aw ax ([]:List Flood)) 0) fun aL =>
  bif (((((ab==0) != ((decide (0<(vl14.getD aa 0)))&&(decide ((vl14.getD aa 0)<13))))||((ac==0) != (decide ((vl14.getD aa 0)<9))))||((aG==0) != (decide ((vl14.getD aa 0)<21))))||((aL==0) != ((decide (0<(vl14.getD aa 0)))&&(decide ((vl14.getD aa 0)<9))))) then (
  M.pure (.inr (.inl ())))
  else (
  M.pure (.inl (aa+1))))
def zdg  : Nat->M (Nat ⊕ (Unit ⊕ Unit)):=fun aa =>
  bif decide ((aa:Int)<(vl14.length:Int)) then (
  M.grd (decide ((aa:Int)<(vl14.length:Int))) <|
  M.bind (zag 1) fun (ac,ae,ag,ay,ah,ai,aj) =>
  M.bind (zag 1) fun (ak,al,am,ao,ap,aq,az) =>
  M.bind (zag 1) fun (aA,aB,aC,au,av,aw,aD) =>
  M.bind (M.iter (zd1 aa) (0,[],[])) fun (aE,aF,ax,ab) =>
  bif decide (0<(vl14.getD aa 0)) then (
  M.grd (decide ((0:Int)<=((ab.length:Int)-1))&&decide (((ab.length:Int)-1)<(ab.length:Int))) <|
  zbn aa ac ae ag ah ai aj ak al am ao ap aq au av aw ax (ab.set (Int.toNat ((ab.length:Int)-1)) (-1:Int)))
  else (
  zbn aa ac ae ag ah ai aj ak al am ao ap aq au av aw ax ab))
  else (
  M.pure (.inr (.inr ())))
def zbS  : M Bool :=
  M.bind (M.iter (zea) 0) fun x_=>match x_ with
  | (.inl (_:Unit))=>(
  M.pure false)
  | (.inr (_:Unit))=>(
  M.bind (M.iter (zbN) 0) fun x_=>match x_ with
  | (.inl (_:Unit))=>(
  M.pure false)
  | (.inr (_:Unit))=>(
  M.bind (M.iter (zdg) 0) fun x_=>match x_ with
  | (.inl (_:Unit))=>(
  M.pure false)
  | (.inr (_:Unit))=>(
  M.grd (decide ((0:Int)<=65)&&decide ((16:Int)*65<=281474976710656)&&decide (65<=(9223372036854775807:Int))) <|
  M.bind (zag 1) fun (ai,aj,ak,al,am,ao,ap) =>
  M.bind (zau ai aj ak al am ao ap (⟨(0:Int),(0:Int)⟩:Dem) ([(2:Int)]) 1 (List.replicate 65 (default:Dem))) fun aa =>
  M.grd ((!aa||(decide (64<=((List.replicate 65 (default:Dem)).length:Int))))) <|
  bif aa then (
  M.bind (zag 1) fun (aq,au,av,aw,ax,ay,az) =>
  M.bind (M.opt aa (zau aq au av aw ax ay az (⟨(0:Int),(0:Int)⟩:Dem) ([(2:Int)]) 1 ((List.replicate 65 (default:Dem)).take 64)) false) fun ab =>
  M.bind (M.opt (aa&&ab) (zaX ([]:List Int) ([]:List Span) ([]:List Int) ([]:List Town) 0 0 ([]:List Flood) 0 0 0) false) fun ac =>
  M.bind (M.opt ((aa&&ab)&&ac) (zau ([]:List Int) ([]:List Span) ([]:List Int) ([]:List Town) 0 0 ([]:List Flood) (⟨(0:Int),(0:Int)⟩:Dem) ([]:List Int) 0 ([]:List Dem)) false) fun ae =>
  M.bind (M.opt (((aa&&ab)&&ac)&&ae) (zaT ([]:List Int) ([]:List Span) ([]:List Int) ([]:List Town) 0 0 ([]:List Flood) ([]:List Int) 0 ([]:List Int)) false) fun ag =>
  M.bind (M.opt ((((aa&&ab)&&ac)&&ae)&&ag) (zax) false) fun ah =>
  M.pure (((((aa&&ab)&&ac)&&ae)&&ag)&&ah))
  else (
  M.bind (M.opt aa (zau ([]:List Int) ([]:List Span) ([]:List Int) ([]:List Town) 0 0 ([]:List Flood) (⟨(0:Int),(0:Int)⟩:Dem) ([(2:Int)]) 1 ((List.replicate 65 (default:Dem)).take 64)) false) fun ab =>
  M.bind (M.opt (aa&&ab) (zaX ([]:List Int) ([]:List Span) ([]:List Int) ([]:List Town) 0 0 ([]:List Flood) 0 0 0) false) fun ac =>
  M.bind (M.opt ((aa&&ab)&&ac) (zau ([]:List Int) ([]:List Span) ([]:List Int) ([]:List Town) 0 0 ([]:List Flood) (⟨(0:Int),(0:Int)⟩:Dem) ([]:List Int) 0 ([]:List Dem)) false) fun ae =>
  M.bind (M.opt (((aa&&ab)&&ac)&&ae) (zaT ([]:List Int) ([]:List Span) ([]:List Int) ([]:List Town) 0 0 ([]:List Flood) ([]:List Int) 0 ([]:List Int)) false) fun ag =>
  M.bind (M.opt ((((aa&&ab)&&ac)&&ae)&&ag) (zax) false) fun ah =>
  M.pure (((((aa&&ab)&&ac)&&ae)&&ag)&&ah)))))
def zeH (n2:Nat) (r0 r1 aa ab ac ae ag ah:Int):List GEnt:=[
  ⟨[],[],207,fun _=>I (n2:Int),fun _=>True,fun _=>[]⟩,
  ⟨[],[0],208,fun _=>I ((n2:Int) % 3),fun _=>True,fun _=>[]⟩,
  ⟨[],[1],209,fun _=>I (1+((n2:Int) % 3)),fun _=>True,fun _=>[]⟩,
  ⟨[],[],210,fun _=>I (n2:Int),fun _=>True,fun _=>[]⟩,
  ⟨[],[3],211,fun _=>I ((n2:Int) / 3),fun _=>True,fun _=>[]⟩,
  ⟨[],[4],212,fun _=>I (((n2:Int) / 3) % 2),fun _=>True,fun _=>[]⟩,
  ⟨[],[5],213,fun _=>I (2+(((n2:Int) / 3) % 2)),fun _=>True,fun _=>[]⟩,
  ⟨[7],[],214,fun b_=>b_ 7,fun _=>True,fun b_=>[cOwn (α:=Int) 3 (b_ 7) ([(3:Int),(-1:Int)])]⟩,
  ⟨[],[],215,fun _=>I (n2:Int),fun _=>True,fun _=>[]⟩,
  ⟨[],[8],216,fun _=>I ((n2:Int) / 6),fun _=>True,fun _=>[]⟩,
  ⟨[],[9],217,fun _=>I (((n2:Int) / 6) % 2),fun _=>True,fun _=>[]⟩,
  ⟨[7],[7,10],218,fun b_=>vat (b_ 7) 1 (Int.toNat (((n2:Int) / 6) % 2)),fun _=>True,fun _=>[]⟩,
  ⟨[],[7,11],219,fun _=>I (([(3:Int),(-1:Int)]).getD (Int.toNat (((n2:Int) / 6) % 2)) 0),fun _=>True,fun _=>[]⟩,
  ⟨[13],[2,6,12],220,fun b_=>b_ 13,fun _=>True,fun b_=>[cOwn (α:=Int) 3 (b_ 13) ([(1+((n2:Int) % 3):Int),(2+(((n2:Int) / 3) % 2):Int),(([(3:Int),(-1:Int)]).getD (Int.toNat (((n2:Int) / 6) % 2)) 0:Int),(-1:Int)])]⟩,
  ⟨[],[],221,fun _=>I (n2:Int),fun _=>True,fun _=>[]⟩,
  ⟨[],[14],222,fun _=>I ((n2:Int) % 4),fun _=>True,fun _=>[]⟩,
  ⟨[],[15],223,fun _=>.agg #[I r0,I r1],fun _=>True,fun _=>[]⟩,
  ⟨[],[],224,fun _=>I (n2:Int),fun _=>True,fun _=>[]⟩,
  ⟨[],[17],225,fun _=>I ((n2:Int) / 4),fun _=>True,fun _=>[]⟩,
  ⟨[],[18],226,fun _=>I (((n2:Int) / 4) % 3),fun _=>True,fun _=>[]⟩,
  ⟨[],[19],227,fun _=>.agg #[I aa,I ab],fun _=>True,fun _=>[]⟩,
  ⟨[],[],228,fun _=>I (n2:Int),fun _=>True,fun _=>[]⟩,
  ⟨[],[21],229,fun _=>I ((n2:Int) / 2),fun _=>True,fun _=>[]⟩,
  ⟨[],[22],230,fun _=>I (((n2:Int) / 2) % 4),fun _=>True,fun _=>[]⟩,
  ⟨[],[23],231,fun _=>.agg #[I ac,I ae],fun _=>True,fun _=>[]⟩,
  ⟨[],[],232,fun _=>.agg #[I 0,I 0],fun _=>True,fun _=>[]⟩,
  ⟨[26],[16,20,24,25],233,fun b_=>b_ 26,fun _=>True,fun b_=>[cOwn (α:=Span) 26 (b_ 26) ([(⟨(r0:Int),(r1:Int)⟩:Span),(⟨(aa:Int),(ab:Int)⟩:Span),(⟨(ac:Int),(ae:Int)⟩:Span),(⟨(0:Int),(0:Int)⟩:Span)])]⟩,
  ⟨[27],[],234,fun b_=>b_ 27,fun _=>True,fun b_=>[cOwn (α:=Int) 3 (b_ 27) ([(0:Int),(1:Int),(2:Int)])]⟩,
  ⟨[],[],235,fun _=>I (n2:Int),fun _=>True,fun _=>[]⟩,
  ⟨[],[28],236,fun _=>I ((n2:Int) % 3),fun _=>True,fun _=>[]⟩,
  ⟨[27,30],[27,29],237,fun b_=>b_ 30,fun b_=>Sl (rowC (b_ 27) (([(0:Int),(1:Int),(2:Int)]).flatMap Flat.enc)) (b_ 30) (([(0:Int),(1:Int),(2:Int)]).drop (Int.toNat ((n2:Int) % 3))),fun _=>[]⟩,
  ⟨[],[],238,fun _=>I (n2:Int),fun _=>True,fun _=>[]⟩,
  ⟨[],[31],239,fun _=>I ((n2:Int) / 5),fun _=>True,fun _=>[]⟩,
  ⟨[],[32],240,fun _=>I (((n2:Int) / 5) % 3),fun _=>True,fun _=>[]⟩,
  ⟨[],[33],241,fun _=>I (1+(((n2:Int) / 5) % 3)),fun _=>True,fun _=>[]⟩,
  ⟨[],[],242,fun _=>I (n2:Int),fun _=>True,fun _=>[]⟩,
  ⟨[],[35],243,fun _=>I ((n2:Int) / 7),fun _=>True,fun _=>[]⟩,
  ⟨[],[36],244,fun _=>I (((n2:Int) / 7) % 5),fun _=>True,fun _=>[]⟩,
  ⟨[],[],245,fun _=>I (n2:Int),fun _=>True,fun _=>[]⟩,
  ⟨[],[38],246,fun _=>I ((n2:Int) % 3),fun _=>True,fun _=>[]⟩,
  ⟨[],[39],247,fun _=>I (3+((n2:Int) % 3)),fun _=>True,fun _=>[]⟩,
  ⟨[],[34,37,40],248,fun _=>.agg #[I (1+(((n2:Int) / 5) % 3)),I (((n2:Int) / 7) % 5),I (3+((n2:Int) % 3))],fun _=>True,fun _=>[]⟩,
  ⟨[],[],249,fun _=>I (n2:Int),fun _=>True,fun _=>[]⟩,
  ⟨[],[42],250,fun _=>I ((n2:Int) / 11),fun _=>True,fun _=>[]⟩,
  ⟨[],[43],251,fun _=>I (((n2:Int) / 11) % 4),fun _=>True,fun _=>[]⟩,
  ⟨[],[],252,fun _=>I (n2:Int),fun _=>True,fun _=>[]⟩,
  ⟨[],[45],253,fun _=>I ((n2:Int) / 9),fun _=>True,fun _=>[]⟩,
  ⟨[],[46],254,fun _=>I (((n2:Int) / 9) % 4),fun _=>True,fun _=>[]⟩,
  ⟨[],[],255,fun _=>I (n2:Int),fun _=>True,fun _=>[]⟩,
  ⟨[],[48],256,fun _=>I ((n2:Int) / 4),fun _=>True,fun _=>[]⟩,
  ⟨[],[49],257,fun _=>I (((n2:Int) / 4) % 4),fun _=>True,fun _=>[]⟩,
  ⟨[],[50],258,fun _=>I (2+(((n2:Int) / 4) % 4)),fun _=>True,fun _=>[]⟩,
  ⟨[],[44,47,51],259,fun _=>.agg #[I (((n2:Int) / 11) % 4),I (((n2:Int) / 9) % 4),I (2+(((n2:Int) / 4) % 4))],fun _=>True,fun _=>[]⟩,
  ⟨[53],[41,52],260,fun b_=>b_ 53,fun _=>True,fun b_=>[cOwn (α:=Town) 36 (b_ 53) ([(⟨(1+(((n2:Int) / 5) % 3):Int),(((n2:Int) / 7) % 5:Int),(3+((n2:Int) % 3):Int)⟩:Town),(⟨(((n2:Int) / 11) % 4:Int),(((n2:Int) / 9) % 4:Int),(2+(((n2:Int) / 4) % 4):Int)⟩:Town)])]⟩,
  ⟨[],[],261,fun _=>I (n2:Int),fun _=>True,fun _=>[]⟩,
  ⟨[],[54],262,fun _=>I ((n2:Int) / 13),fun _=>True,fun _=>[]⟩,
  ⟨[],[55],263,fun _=>I (((n2:Int) / 13) % 3),fun _=>True,fun _=>[]⟩,
  ⟨[53,57],[53,56],264,fun b_=>b_ 57,fun b_=>Sl (rowC (b_ 53) (([(⟨(1+(((n2:Int) / 5) % 3):Int),(((n2:Int) / 7) % 5:Int),(3+((n2:Int) % 3):Int)⟩:Town),(⟨(((n2:Int) / 11) % 4:Int),(((n2:Int) / 9) % 4:Int),(2+(((n2:Int) / 4) % 4):Int)⟩:Town)]).flatMap Flat.enc)) (b_ 57) (([(⟨(1+(((n2:Int) / 5) % 3):Int),(((n2:Int) / 7) % 5:Int),(3+((n2:Int) % 3):Int)⟩:Town),(⟨(((n2:Int) / 11) % 4:Int),(((n2:Int) / 9) % 4:Int),(2+(((n2:Int) / 4) % 4):Int)⟩:Town)]).take (Int.toNat (((n2:Int) / 13) % 3))),fun _=>[]⟩,
  ⟨[],[],265,fun _=>I (n2:Int),fun _=>True,fun _=>[]⟩,
  ⟨[],[58],266,fun _=>I ((n2:Int) / 3),fun _=>True,fun _=>[]⟩,
  ⟨[],[59],267,fun _=>I (((n2:Int) / 3) % 2),fun _=>True,fun _=>[]⟩,
  ⟨[],[60],268,fun _=>.agg #[I ag,I ah],fun _=>True,fun _=>[]⟩,
  ⟨[13,26,30,57],[13,26,27,30,53,57,61],269,fun b_=>.agg #[(b_ 13),(b_ 26),(b_ 30),(b_ 57),I ag,I ah,.slice none 0 0],fun _=>True,fun _=>[]⟩,
  ⟨[63],[],16,fun b_=>ptrOf (ptb (b_ 63)),fun _=>True,fun b_=>[cBlk (ptb (b_ 63)) [.slice none 0 0,.slice none 0 0,.slice none 0 0,.slice none 0 0,I 0,I 0,.slice none 0 0] 29]⟩]
end Go.Proofs.YtbldmjejckjflabGreat
end
