/- Part 3 of the texts on which the proof rests. Conditions: none. -/
import Derived.Recover
import Derived.Tactics
import Derived.Tactics2
import Derived.Laws.Pointers
import Derived.Test.YtlemgioaakecpaaGreatZO2
set_option linter.unusedVariables false
set_option linter.unusedSimpArgs false
set_option linter.unusedSectionVars false
namespace Go.Nm
namespace Fl
theorem Rows.pw:∀ {l:List FRow},Rows l->l.Pairwise (fun a b=>a.stage<b.stage)
  | [],_=>List.Pairwise.nil
  | [a],_=>List.pairwise_singleton _ _
  | a :: b :: r,h=>by
    obtain ⟨h1,h2,h3,h4,h5⟩:=h
    have ih:=h5.pw
    refine List.Pairwise.cons (fun x hx=>?_) ih
    rcases List.mem_cons.1 hx with rfl | hx
    · exact h2
    · have:=(List.pairwise_cons.1 ih).1 x hx
      omega
theorem Rows.lt {l:List FRow} (h:Rows l) {i j:Nat} (hij:i<j) (hj:j<l.length):(l.getD i default).stage<(l.getD j default).stage:=by
  rw [getD_el l (by omega),getD_el l hj]
  exact (List.pairwise_iff_getElem.1 h.pw) i j (by omega) hj hij
theorem Rows.el:∀ {l:List FRow},Rows l->∀ j,j<l.length->0<=(l.getD j default).stage/\(l.getD j default).stage<=2000/\0<=(l.getD j default).carry/\(l.getD j default).carry<=100000
  | [],_,j,hj=>by simp at hj
  | a :: r,h,0,_=>h.head
  | [a],_,j+1,hj=>by simp at hj
  | a :: b :: r,h,j+1,hj=>h.2.2.2.2.el j (by simp at hj ⊢; omega)
theorem Rows.cm:∀ {l:List FRow},Rows l->∀ j,j+1<l.length->(l.getD j default).carry<=(l.getD (j+1) default).carry
  | [],_,j,hj=>by simp at hj
  | [a],_,j,hj=>by simp at hj
  | a :: b :: r,h,0,_=>h.2.2.2.1
  | a :: b :: r,h,j+1,hj=>h.2.2.2.2.cm j (by simp at hj ⊢; omega)
theorem go_btw:∀ (r:List FRow) (a:FRow),Rows (a :: r)->∀ (k:Nat) (s:Int),k+1<(a :: r).length->((a :: r).getD k default).stage<=s->s<((a :: r).getD (k+1) default).stage →
    go a r s=ip ((a :: r).getD k default) ((a :: r).getD (k+1) default) s
  | [],_,_,k,_,hk,_,_=>by simp at hk
  | b :: r,a,h,0,s,_,h1,h2=>by
    exact if_pos (show s<b.stage from h2)
  | b :: r,a,h,k+1,s,hk,h1,h2=>by
    have hb:b.stage<=s:=by
      cases k with
      | zero=>exact h1
      | succ k =>
        have:=Rows.lt h (i:=1) (j:=k+2) (by omega) (by simp at hk ⊢; omega)
        have e:((a :: b :: r).getD 1 default).stage=b.stage:=rfl
        have e2:((a :: b :: r).getD (k+2) default).stage<=s:=h1
        omega
    show (if s<b.stage then ip a b s else go b r s)=_
    rw [if_neg (by omega)]
    exact go_btw r b h.2.2.2.2 k s (by simp at hk ⊢; omega) h1 h2
theorem go_last:∀ (r:List FRow) (a:FRow),Rows (a :: r)->∀ (s:Int),((a :: r).getD r.length default).stage<=s->go a r s=((a :: r).getD r.length default).carry
  | [],_,_,_,_=>rfl
  | b :: r,a,h,s,h1=>by
    have hb:b.stage<=s:=by
      cases r with
      | nil=>exact h1
      | cons c r =>
        have:=Rows.lt h (i:=1) (j:=r.length+2) (by omega) (by simp)
        have e:((a :: b :: c :: r).getD 1 default).stage=b.stage:=rfl
        have e2:((a :: b :: c :: r).getD (r.length+2) default).stage<=s:=h1
        omega
    show (if s<b.stage then ip a b s else go b r s)=_
    rw [if_neg (by omega)]
    exact go_last r b h.2.2.2.2 s h1
theorem car_zero {l:List FRow} {s:Int} (h:l ≠ []) (h1:s<(l.getD 0 default).stage):car l s=0:=by
  cases l with
  | nil=>exact absurd rfl h
  | cons a r=>exact if_pos h1
theorem car_btw {l:List FRow} (h:Rows l) {k:Nat} {s:Int} (hk:k+1<l.length) (h1:(l.getD k default).stage<=s) (h2:s<(l.getD (k+1) default).stage):car l s=ip (l.getD k default) (l.getD (k+1) default) s:=by
  cases l with
  | nil=>simp at hk
  | cons a r =>
    have h0:a.stage<=s:=by
      cases k with
      | zero=>exact h1
      | succ k =>
        have:=Rows.lt h (i:=0) (j:=k+1) (by omega) (by omega)
        have e:((a :: r).getD 0 default).stage=a.stage:=rfl
        omega
    exact (if_neg (by omega)).trans (go_btw r a h k s hk h1 h2)
theorem car_last {l:List FRow} (h:Rows l) {k:Nat} {s:Int} (hk:k+1=l.length) (h1:(l.getD k default).stage<=s):car l s=(l.getD k default).carry:=by
  cases l with
  | nil=>simp at hk
  | cons a r =>
    have hk':k=r.length:=by simp at hk; omega
    subst hk'
    have h0:a.stage<=s:=by
      rcases Nat.eq_zero_or_pos r.length with e | e
      · rw [e] at h1; exact h1
      · have:=Rows.lt h (i:=0) (j:=r.length) e (by simp)
        have e:((a :: r).getD 0 default).stage=a.stage:=rfl
        omega
    exact (if_neg (by omega)).trans (go_last r a h s h1)
theorem car_met {l:List FRow} (h:Rows l) {k:Nat} {s:Int} (hk:k<l.length) (h1:(l.getD k default).stage=s):car l s=(l.getD k default).carry:=by
  by_cases e:k+1<l.length
  · have:=Rows.lt h (i:=k) (j:=k+1) (by omega) e
    rw [car_btw h e (by omega) (by omega)]
    unfold ip
    rw [h1,Int.sub_self,Int.mul_zero,Int.zero_ediv,Int.add_zero]
  · exact car_last h (by omega) (by omega)
end Fl
end Go.Nm
namespace Go.Proofs.YtlemgioaakecpaaGreat
open Go Go.Nm
theorem cmp_ends (x y:Int):(m_cmp_Compare_int x y).Ends (if x<y then -1 else if y<x then 1 else 0):=by
  unfold m_cmp_Compare_int m_cmp_isNaN_int
  refine M.i_bind (a:=false) (by rw [show false=(x != x) by simp]; exact M.i_pure) (M.i_bind (a:=false) (by rw [show false=(y != y) by simp]; exact M.i_pure) (M.i_f rfl (M.i_f rfl ?_)))
  by_cases h:x<y
  · rw [if_pos h]
    exact M.i_t (decide_eq_true h) M.i_pure
  · rw [if_neg h]
    refine M.i_f (decide_eq_false h) ?_
    by_cases h':y<x
    · rw [if_pos h']
      exact M.i_t (decide_eq_true h') M.i_pure
    · rw [if_neg h']
      exact M.i_f (decide_eq_false h') M.i_pure
theorem cmp1_ends (r:FRow) (s:Int):(za2 r s).Ends (if r.stage<s then -1 else if s<r.stage then 1 else 0):=by
  unfold za2
  exact M.i_bind (cmp_ends _ _) M.i_pure
theorem bs_out {rows:List FRow} (hr:Fl.Rows rows) (hl:rows.length<=1000) (s:Int):(zb6 rows s).Out (fun x=>∃ k:Nat,x.1=k/\k<=rows.length ∧
    (∀ j,j<k->(rows.getD j default).stage<s)/\(∀ j,k<=j->j<rows.length->s<=(rows.getD j default).stage)/\(x.2=true->k<rows.length/\(rows.getD k default).stage=s)/\(x.2=false->k<rows.length->s<(rows.getD k default).stage)):=by
  unfold zb6
  refine M.o_bind (P:=fun (i:Int)=>∃ k:Nat,i=(k:Int)/\k<=rows.length/\(∀ j,j<k->(rows.getD j default).stage<s)/\(∀ j,k<=j->j<rows.length->s<=(rows.getD j default).stage)) ?_ ?_
  · refine M.o_iter (fun m (x:Int × Int)=>∃ i j:Nat,x=((i:Int),(j:Int))/\i<=j/\j<=rows.length/\m=j-i/\(∀ q,q<i->(rows.getD q default).stage<s)/\(∀ q,j<=q->q<rows.length->s<=(rows.getD q default).stage)) ?_ _ (0,(rows.length:Int)) ⟨0,rows.length,rfl,Nat.zero_le _,Nat.le_refl _,rfl,fun q hq=>by omega,fun q h1 h2=>by omega⟩
    rintro m _ ⟨i,j,rfl,hij,hj,rfl,lo,hi⟩
    simp only [zbO]
    refine M.o_if (fun hb=>?_) (fun hb=>?_)
    · have hb:=of_decide_eq_true hb
      have e:((i:Int)+(j:Int)) / 2=(((i+j) / 2:Nat):Int):=by omega
      have k1:i<=(i+j) / 2:=by omega
      have k2:(i+j) / 2<j:=by omega
      rw [e]
      generalize (i+j) / 2=k at k1 k2 ⊢
      refine M.o_grd (gA2 (by omega) (by omega)) (M.o_grd (gA2 (by omega) (by omega)) (M.o_grd (gA2 (by omega) (by omega)) (M.o_grd (gA2 (by omega) (by omega)) (M.o_bindE (cmp1_ends _ s) ?_))))
      rw [Int.toNat_natCast]
      by_cases hs:(rows.getD k default).stage<s
      · rw [if_pos hs]
        refine M.o_t rfl (M.o_pure ⟨j-(k+1),by omega,k+1,j,rfl,by omega,hj,rfl,fun q hq=>?_,hi⟩)
        rcases Nat.lt_or_eq_of_le (Nat.le_of_lt_succ hq) with e | rfl
        · have:=hr.lt e (by omega)
          omega
        · exact hs
      · rw [if_neg hs]
        refine M.o_f (by split <;> decide) (M.o_pure ⟨k-i,by omega,i,k,rfl,k1,by omega,rfl,lo,fun q h1 h2=>?_⟩)
        rcases Nat.lt_or_eq_of_le h1 with e | rfl
        · have:=hr.lt e h2
          omega
        · omega
    · have hb:=of_decide_eq_false hb
      exact M.o_pure ⟨i,rfl,by omega,lo,fun q h1 h2=>hi q (by omega) h2⟩
  · rintro _ ⟨k,rfl,hk,lo,hi⟩
    by_cases hl':k<rows.length
    · have hd:decide ((k:Int)<(rows.length:Int))=true:=decide_eq_true (by omega)
      refine M.o_grd (gOr2 (by omega) (by omega)) (M.o_bindE (M.i_opt (fun _=>cmp1_ends _ s) (fun h=>by rw [hd] at h; cases h)) (M.o_pure ⟨k,rfl,hk,lo,hi,fun h=>?_,fun h _=>?_⟩))
      · dsimp only at h
        rw [hd,Bool.true_and,Int.toNat_natCast,beq_iff_eq] at h
        have:=hi k (Nat.le_refl _) hl'
        refine ⟨hl',?_⟩
        split at h
        · cases h
        · split at h
          · cases h
          · omega
      · dsimp only at h
        rw [hd,Bool.true_and,Int.toNat_natCast,beq_eq_false_iff_ne] at h
        have:=hi k (Nat.le_refl _) hl'
        split at h
        · omega
        · split at h
          · assumption
          · exact absurd rfl h
    · have hd:decide ((k:Int)<(rows.length:Int))=false:=decide_eq_false (by omega)
      refine M.o_grd (by rw [hd]; rfl) (M.o_bindE (M.i_opt (fun h=>by rw [hd] at h; cases h) (fun _=>rfl)) (M.o_pure ⟨k,rfl,hk,lo,hi,fun h=>?_,fun _ h=>absurd h hl'⟩))
      dsimp only at h
      rw [hd] at h
      cases h
theorem carry_ends {S:List Sect} {M':List Mrk} {R':List Rch} {i s:Int} (h0:0<=i) (h1:i<S.length) (hr:Fl.Rows (S.getD (Int.toNat i) default).rows) (hn:(S.getD (Int.toNat i) default).rows ≠ []) (hl:(S.getD (Int.toNat i) default).rows.length<=1000) (hs:-2000000<=s/\s<=2000000) :
    (zaa S M' R' ⟨i,s⟩).Ends (Fl.car (S.getD (Int.toNat i) default).rows s):=by
  refine M.Out.ends ?_
  unfold zaa
  dsimp only
  generalize hrr:(S.getD (Int.toNat i) default).rows=rows at hr hn hl ⊢
  refine M.o_grd (gA2 h0 h1) (M.o_bind (bs_out hr hl s) ?_)
  rintro ⟨_,met⟩ ⟨k,rfl,hk,lo,hi,m1,m2⟩
  dsimp only at m1 m2 ⊢
  have hpos:0<rows.length:=List.length_pos_iff.2 hn
  refine M.o_if (fun hm=>?_) (fun hm=>?_)
  · obtain ⟨k1,k2⟩:=m1 hm
    refine M.o_grd (gA2 (by omega) (by omega)) (M.o_pure ?_)
    rw [Int.toNat_natCast,Fl.car_met hr k1 k2]
  refine M.o_if (fun he=>?_) (fun he=>?_)
  · rw [beq_iff_eq] at he
    have hk':k=rows.length:=by omega
    have e:Int.toNat ((k:Int)-1)=k-1:=by omega
    refine M.o_grd (gA2 (by omega) (by omega)) (M.o_grd (gA2 (by omega) (by omega)) (M.o_pure ?_))
    rw [e]
    exact (Fl.car_last hr (k:=k-1) (by omega) (by have:=lo (k-1) (by omega); omega)).symm
  · rw [beq_eq_false_iff_ne] at he
    have hk':k<rows.length:=by omega
    have hgt:=m2 hm hk'
    refine M.o_if (fun hp=>?_) (fun hp=>?_)
    · have hp:=of_decide_eq_true hp
      obtain ⟨q,rfl⟩:∃ q,k=q+1:=⟨k-1,by omega⟩
      have e:Int.toNat (((q+1:Nat):Int)-1)=q:=by omega
      have hlo:=lo q (by omega)
      rw [e,Int.toNat_natCast,Fl.car_btw hr hk' (by omega) hgt]
      have ea:=hr.el q (by omega)
      have eb:=hr.el (q+1) hk'
      have ec:=hr.cm q hk'
      have es:=hr.lt (i:=q) (j:=q+1) (by omega) hk'
      generalize rows.getD q default=a at ea ec es hlo ⊢
      generalize rows.getD (q+1) default=b at eb ec es hgt ⊢
      have n1:0<=(b.carry-a.carry)*(s-a.stage):=Int.mul_nonneg (by omega) (by omega)
      have n2:(b.carry-a.carry)*(s-a.stage)<=100000*2000:=Int.mul_le_mul (by omega) (by omega) (by omega) (by omega)
      have k1:=Fl.ip_mono (a:=a) (b:=b) (s:=s) (t:=s) (by omega) (Int.le_refl _) (by omega) es ec
      unfold Fl.ip at k1 ⊢
      exact M.o_grd (gA2 (by omega) (by omega)) (M.o_grd (gA2 (by omega) (by omega)) (M.o_grd (gA2 (by omega) (by omega)) (M.o_grd (gA2 (by omega) (by omega)) (M.o_grd (gA2 (by omega) (by omega)) (M.o_grd (gA2 (by omega) (by omega)) (M.o_grd (gA2 (by omega) (by omega)) (M.o_grd (gA3 (by omega) (by omega) (by omega)) (M.o_grd (gA2 (by omega) (by omega)) (M.o_pure rfl)))))))))
    · have hp:=of_decide_eq_false hp
      obtain rfl:k=0:=by omega
      exact M.o_pure (Fl.car_zero hn hgt).symm
end Go.Proofs.YtlemgioaakecpaaGreat
section
set_option maxRecDepth 100000
set_option maxHeartbeats 16000000
namespace Go.Proofs.YtlemgioaakecpaaGreat
open Go Go.Nm
def zbq (x:Mrk) (aa:Mrk->M Bool):M Bool :=
  M.bind (aa x) fun r2 =>
  M.pure (!r2)
theorem zdJ {R:List Chunk} {aa:Nat} {ab:Value} (x:Mrk) (ac:Mrk->M Bool) (ae:FnM Tryz.prog R ab ac) (ag:Has R (cBlk aa [ab] 155)) {r:Bool} (hM:(zbq x ac).Ends r) (w:World) (H:St w w [] R):Ret Tryz.prog 112 #[.agg #[I x.place,I x.lo,I x.hi],Pq aa] w fun v w'=>∃ (y0:Bool),y0=r/\v=B y0/\St w w' [] R:=by
 refine ret_of_W Tryz.func112 rfl rfl rfl ?_
 refine W.seq ?_
 refine W.region rfl ?_
 refine t_box (v:=.agg #[I x.place,I x.lo,I x.hi]) (cs:=[I x.place,I x.lo,I x.hi]) H rfl rfl ?_
 intro ai am H
 refine zA (B false) rfl ?_
 refine s_nil ?_
 refine W.seq ?_
 refine W.region rfl ?_
 refine s_val (x_ld (p:=Pq aa) (v:=ab) rfl (ldb_sc Sc155 (ag.blk H) rfl)) ?_
 refine s_val (x_ld (p:=Pq ai) (v:=.agg #[I x.place,I x.lo,I x.hi]) rfl (ldb_ag (ds:=[I x.place,I x.lo,I x.hi]) Ag70 Sz70 (H.bl 0) rfl rfl)) ?_
 obtain ⟨r2,aj,hM⟩:=M.e_bind hM
 refine t_callM H ae rfl rfl x Reads.none ⟨_,rfl,rfl⟩ aj ?_
 intro ao H
 refine s_val (x_not (b:=r2) rfl) ?_
 refine zA (B (!r2)) rfl ?_
 refine s_nil ?_
 refine W.ret ?_
 have ak:=M.e_pure hM
 exact ⟨_,resE_tmp rfl,⟨(!r2),ak,rfl,(H.pk [])⟩⟩

def zaN (l:List Mrk) (so:Mrk->M Bool):M Bool :=
  M.bind (zbU l (fun aa=>zbq aa so)) fun r2 =>
  M.pure (!r2)
theorem zea {R:List Chunk} {ag:Cells} {aa:Value} {ab:Value} (l:List Mrk) (so:Mrk->M Bool) (am:Reads R ag) (ao:Sl ag aa l) (ai:FnM Tryz.prog R ab so) {r:Bool} (hM:(zaN l so).Ends r) (w:World) (H:St w w [] R):Ret Tryz.prog 77 #[aa,ab] w fun v w'=>∃ (y0:Bool),y0=r/\v=B y0/\St w w' [] R:=by
 refine ret_of_W Tryz.func77 rfl rfl rfl ?_
 refine W.seq ?_
 refine W.region rfl ?_
 refine t_box (v:=ab) (cs:=[ab]) H rfl (FnM.cells ai) ?_
 intro ac aC H
 refine zA (B false) rfl ?_
 refine s_nil ?_
 refine W.seq ?_
 refine W.region rfl ?_
 refine zM aa rfl ?_
 refine s_val (x_mf (fs:=[]) (cs:=[Pq ac]) rfl rfl) ?_
 obtain ⟨aD,ap,hM⟩:=M.e_bind hM
 refine s_call cf111 [aa,.func (.func 112) #[] #[Pq ac]] rfl (zdr l (fun ae=>zbq ae so) (am.app _) ao ⟨112,[Pq ac],rfl,cf112,fun aj aE aF aq ae aG au aH av aw=>by obtain rfl:=Mrk_arg av; exact (zdJ ae so (FnM.app (ai.app _) _) (Has.app (Has.here (k:=0) rfl) _) aw aj (St.refl au)).mono fun aq aj ⟨aI,ax,ay,az⟩=>by subst ax; exact ⟨ay,az⟩⟩ ap _ (H.gt 1)) ?_
 rintro vq aJ ⟨r2,aA,hvq,ak⟩
 subst aA
 subst vq
 try dsimp only at hM
 replace H:=H.bk ak
 clear ak
 refine s_val (x_not (b:=r2) rfl) ?_
 refine zA (B (!r2)) rfl ?_
 refine s_nil ?_
 refine W.ret ?_
 have aB:=M.e_pure hM
 exact ⟨_,resE_tmp rfl,⟨(!r2),aB,rfl,(H.pk [])⟩⟩

def zau (s:Span) (aa:Int) (greatest:Int):M Bool :=
  M.bind (zab s.lo aa greatest) fun r2 =>
  M.bind (M.opt r2 (zab s.hi s.lo greatest) false) fun r3 =>
  M.pure (r2&&r3)
theorem zdf {R:List Chunk}  (s:Span) (ab:Int) (greatest:Int)  {r:Bool} (hM:(zau s ab greatest).Ends r) (w:World) (H:St w w [] R):Ret Tryz.prog 113 #[.agg #[I s.lo,I s.hi],I ab,I greatest] w fun v w'=>∃ (y0:Bool),y0=r/\v=B y0/\St w w' [] R:=by
 refine ret_of_W Tryz.func113 rfl rfl rfl ?_
 refine W.seq ?_
 refine W.region rfl ?_
 refine t_box (v:=.agg #[I s.lo,I s.hi]) (cs:=[I s.lo,I s.hi]) H rfl rfl ?_
 intro aa am H
 refine zA (B false) rfl ?_
 refine s_nil ?_
 refine W.seq ?_
 refine W.region rfl ?_
 refine s_val (x_fa (a:=Pq aa) (v:=Pq aa) rfl (fa_blk (o:=0) Fd54_0 Sz3)) ?_
 refine s_val (x_ld (p:=Pq aa) (v:=I s.lo) rfl (ldb_sc Sc3 (H.bl 0) rfl)) ?_
 refine zM (I ab) rfl ?_
 refine zM (I greatest) rfl ?_
 obtain ⟨ao,ag,hM⟩:=M.e_bind hM
 refine s_call cf70 [I s.lo,I ab,I greatest] rfl (zac s.lo ab greatest ag _ (H.gt 1)) ?_
 rintro vq ap ⟨r2,ai,hvq,ae⟩
 subst ai
 subst vq
 try dsimp only at hM
 replace H:=H.bk ae
 clear ae
 refine zM (B r2) rfl ?_
 refine g_val r2 (gy_t rfl) (fun hg=>x_fa (a:=Pq aa) (v:=Oq aa 1) rfl (fa_blk (o:=0) Fd54_1 Sz3)) ?_
 refine g_val r2 (gy_t rfl) (fun hg=>x_ld (p:=Oq aa 1) (v:=I s.hi) (gd_of (c:=r2) hg (Oq aa 1)) (ldb_sc Sc3 (H.bl 0) rfl)) ?_
 refine g_val r2 (gy_t rfl) (fun hg=>x_fa (a:=Pq aa) (v:=Pq aa) rfl (fa_blk (o:=0) Fd54_0 Sz3)) ?_
 refine g_val r2 (gy_t rfl) (fun hg=>x_ld (p:=Pq aa) (v:=I s.lo) (gd_of (c:=r2) hg (Pq aa)) (ldb_sc Sc3 (H.bl 0) rfl)) ?_
 refine g_val r2 (gy_t rfl) (fun hg=>x_mv (v:=I greatest) rfl) ?_
 obtain ⟨r3,aj,hM⟩:=M.e_bind hM
 refine t_gcall r2 (gy_t rfl) cf70 (B r3) (fun _=>[I s.hi,I s.lo,I greatest]) (fun hg=>lst3 (gd_of (c:=r2) hg (I s.hi)) (gd_of (c:=r2) hg (I s.lo)) (gd_of (c:=r2) hg (I greatest))) H (fun hg=>(zac s.hi s.lo greatest (M.e_opt aj hg) _ (H.give (A:=[]) rfl)).mono fun v_ w_ ⟨y_,ac,ak,H_⟩=>by subst ac; exact ⟨ak,H.via H_⟩) ?_
 intro aq H
 refine s_val (x_pand (b:=r2) (r:=r3) rfl (fun hb=>gd_of (c:=r2) (by first | exact hb | (rw [hb]; rfl) | simp_all) (B r3)) rfl) ?_
 refine zA (B (r2&&r3)) rfl ?_
 refine s_nil ?_
 refine W.ret ?_
 have ac:=M.e_pure hM
 exact ⟨_,resE_tmp rfl,⟨(r2&&r3),ac,rfl,(H.pk [])⟩⟩

def zao (m_:Mrk):M Bool :=
  M.bind (zab m_.place 0 10000) fun r2 =>
  M.bind (M.opt r2 (zau (⟨(m_.lo:Int),(m_.hi:Int)⟩:Span) 0 2000) false) fun r3 =>
  M.pure (r2&&r3)
theorem zdO {R:List Chunk}  (m_:Mrk)  {r:Bool} (hM:(zao m_).Ends r) (w:World) (H:St w w [] R):Ret Tryz.prog 78 #[.agg #[I m_.place,I m_.lo,I m_.hi]] w fun v w'=>∃ (y0:Bool),y0=r/\v=B y0/\St w w' [] R:=by
 refine ret_of_W Tryz.func78 rfl rfl rfl ?_
 refine W.seq ?_
 refine W.region rfl ?_
 refine t_box (v:=.agg #[I m_.place,I m_.lo,I m_.hi]) (cs:=[I m_.place,I m_.lo,I m_.hi]) H rfl rfl ?_
 intro aa ak H
 refine zA (B false) rfl ?_
 refine s_nil ?_
 refine W.seq ?_
 refine W.region rfl ?_
 refine s_val (x_fa (a:=Pq aa) (v:=Pq aa) rfl (fa_blk (o:=0) Fd70_0 Sz3)) ?_
 refine s_val (x_ld (p:=Pq aa) (v:=I m_.place) rfl (ldb_sc Sc3 (H.bl 0) rfl)) ?_
 obtain ⟨am,ae,hM⟩:=M.e_bind hM
 refine s_call cf70 [I m_.place,I 0,I 10000] rfl (zac m_.place 0 10000 ae _ (H.gt 1)) ?_
 rintro vq ao ⟨r2,ag,hvq,ac⟩
 subst ag
 subst vq
 try dsimp only at hM
 replace H:=H.bk ac
 clear ac
 refine zM (B r2) rfl ?_
 refine g_val r2 (gy_t rfl) (fun hg=>x_fa (a:=Pq aa) (v:=Oq aa 1) rfl (fa_blk (o:=0) Fd70_1 Sz54)) ?_
 refine g_val r2 (gy_t rfl) (fun hg=>x_ld (p:=Oq aa 1) (v:=.agg #[I m_.lo,I m_.hi]) (gd_of (c:=r2) hg (Oq aa 1)) (ldb_ag (ds:=[I m_.lo,I m_.hi]) Ag54 Sz54 (H.bl 0) rfl rfl)) ?_
 obtain ⟨r3,ai,hM⟩:=M.e_bind hM
 refine t_gcall r2 (gy_t rfl) cf113 (B r3) (fun _=>[.agg #[I m_.lo,I m_.hi],I 0,I 2000]) (fun hg=>lst3 (gd_of (c:=r2) hg (.agg #[I m_.lo,I m_.hi])) rfl rfl) H (fun hg=>(zdf (⟨(m_.lo:Int),(m_.hi:Int)⟩:Span) 0 2000 (M.e_opt ai hg) _ (H.give (A:=[]) rfl)).mono fun v_ w_ ⟨y_,ab,aj,H_⟩=>by subst ab; exact ⟨aj,H.via H_⟩) ?_
 intro ap H
 refine s_val (x_pand (b:=r2) (r:=r3) rfl (fun hb=>gd_of (c:=r2) (by first | exact hb | (rw [hb]; rfl) | simp_all) (B r3)) rfl) ?_
 refine zA (B (r2&&r3)) rfl ?_
 refine s_nil ?_
 refine W.ret ?_
 have ab:=M.e_pure hM
 exact ⟨_,resE_tmp rfl,⟨(r2&&r3),ab,rfl,(H.pk [])⟩⟩

def zaz (s:List Rch) (f:Rch->M Bool):Nat->M (Nat ⊕ (Int ⊕ Unit)):=fun s2 =>
  bif decide ((s2:Int)<(s.length:Int)) then (
  M.grd (decide ((s2:Int)<(s.length:Int))) <|
  M.bind (f (s.getD s2 default)) fun r2 =>
  bif r2 then (
  M.pure (.inr (.inl (s2:Int))))
  else (
  M.pure (.inl (s2+1))))
  else (
  M.pure (.inr (.inr ())))
def zbM (s:List Rch) (f:Rch->M Bool):M Int :=
  M.bind (M.iter (zaz s f) 0) fun x_=>match x_ with
  | (.inl s3)=>(
  M.pure s3)
  | (.inr (_:Unit))=>(
  M.pure (-1))
theorem zdx {R:List Chunk} {am:Cells} {aa:Value} {ac:Value} (s:List Rch) (f:Rch->M Bool) (aq:Reads R am) (ae:Sl am aa s) (au:FnM Tryz.prog R ac f) {r:Int} (hM:(zbM s f).Ends r) (w:World) (H:St w w [] R):Ret Tryz.prog 137 #[aa,ac] w fun v w'=>∃ (y0:Int),y0=r/\v=I y0/\St w w' [] R:=by
 refine ret_of_W Tryz.func137 rfl rfl rfl ?_
 refine W.seq ?_
 refine W.region rfl ?_
 refine zA (I 0) rfl ?_
 refine s_nil ?_
 refine W.seq ?_
 refine W.seq ?_
 refine W.region rfl ?_
 refine zM aa rfl ?_
 have aC:=(ae).len_le
 refine s_val (x_lenS T25.und rfl ae) ?_
 refine zM (I 0) rfl ?_
 refine s_nil ?_
 refine W.block ?_
 obtain ⟨av,ag,ao⟩:=M.e_bind hM
 obtain ⟨aD,ag⟩:=M.e_iter ag
 refine W.loop (fun m σ W=>∃ (s2:Nat) (ρ:Env),σ=upds ρ [(0,aa),(1,ac),(7,I (s.length:Int)),(8,I (s2:Int))]/\M.iterN (zaz s f) m s2=some av/\St w W [] R) ?_ ?_
 ·exact ⟨_,0,_,upds_of _ _ ⟨rfl,rfl,rfl,rfl,trivial⟩,ag,H⟩
 rintro aE σ aF ⟨s2,ρ,rfl,ap,H⟩
 obtain ⟨aw,ax,aG,hM,ai⟩:=M.e_iterN ap
 simp only [zaz] at hM
 clear ap
 refine W.seq ?_
 refine W.region rfl ?_
 refine zC (s2:Int) (s.length:Int) (decide ((s2:Int)<(s.length:Int))) rfl rfl rfl ?_
 refine s_nil ?_
 refine W.seq ?_
 refine W.cond (decide ((s2:Int)<(s.length:Int))) rfl (fun ab=>?_) (fun ab=>?_)
 ·replace hM:=M.e_t hM ab
  simp only [qy1,qy2,qy3,qy4,qy5,qy6,ne_eq,qy7] at ab
  refine W.skip ?_
  refine W.seq ?_
  refine W.block ?_
  refine W.seq ?_
  refine W.region rfl ?_
  refine zM (I (s2:Int)) rfl ?_
  refine zA (I (s2:Int)) rfl ?_
  refine s_nil ?_
  refine W.seq ?_
  refine W.region rfl ?_
  refine zM ac rfl ?_
  refine zM aa rfl ?_
  refine zM (I (s2:Int)) rfl ?_
  obtain ⟨ay,hM⟩:=M.e_grd hM
  simp only [Bool.and_eq_true,decide_eq_true_eq] at ay
  refine s_val (x_ix (a:=aa) (b:=I (s2:Int)) (v:=vat aa 5 (Int.toNat (s2:Int))) rfl rfl (Sl.ix (α:=Rch) T25.und T25.size ae (by omega) (by omega))) ?_
  refine s_val (x_ld (p:=vat aa 5 (Int.toNat (s2:Int))) (v:=.agg #[I ((s.getD s2 default).up),I ((s.getD s2 default).down),I ((s.getD s2 default).lo),I ((s.getD s2 default).hi),B ((s.getD s2 default).narrow)]) rfl (ld_ag Ag58 Sz58 (At.mono (Rch_atA ae (i:=(s2:Int)) (by omega) (by omega)) (aq.at H)))) ?_
  obtain ⟨r2,az,hM⟩:=M.e_bind hM
  refine t_callM H au rfl rfl (s.getD s2 default) Reads.none ⟨_,rfl,rfl⟩ az ?_
  intro aH H
  refine s_nil ?_
  refine W.cond r2 rfl (fun aj=>?_) (fun aj=>?_)
  ·replace hM:=M.e_t hM aj
   refine W.seq ?_
   refine W.region rfl ?_
   refine zM (I (s2:Int)) rfl ?_
   refine zA (I (s2:Int)) rfl ?_
   refine s_nil ?_
   refine W.ret ?_
   have aA:=M.e_inr hM ai
   subst aA
   replace hM:=ao
   try dsimp only at hM
   have ak:=M.e_pure hM
   exact ⟨_,resE_tmp rfl,⟨(s2:Int),ak,rfl,H⟩⟩
  replace hM:=M.e_f hM aj
  refine W.skip ?_
  refine W.region rfl ?_
  refine zR (s2:Int) 1 ((s2:Int)+1) rfl rfl rfl (by omega) ?_
  refine zM (I ((s2:Int)+1)) rfl ?_
  refine s_nil ?_
  exact ⟨aw,ax,s2+1,_,upds_of _ _ ⟨rfl,rfl,rfl,rfl,trivial⟩,M.e_inl hM ai,H⟩
 replace hM:=M.e_f hM ab
 simp only [qy1,qy2,qy3,qy4,qy5,qy6,ne_eq,qy7] at ab
 refine W.exit ?_
 have aB:=M.e_inr hM ai
 subst aB
 replace hM:=ao
 try dsimp only at hM
 refine W.seq ?_
 refine W.region rfl ?_
 refine zA (I (-1)) rfl ?_
 refine s_nil ?_
 refine W.ret ?_
 have ak:=M.e_pure hM
 exact ⟨_,resE_tmp rfl,⟨(-1),ak,rfl,H⟩⟩

def zbN (s:List Rch) (f:Rch->M Bool):M Bool :=
  M.bind (zbM s f) fun r2 =>
  M.pure (decide (0<=r2))
theorem zd0 {R:List Chunk} {ac:Cells} {aa:Value} {ab:Value} (s:List Rch) (f:Rch->M Bool) (ag:Reads R ac) (ai:Sl ac aa s) (aj:FnM Tryz.prog R ab f) {r:Bool} (hM:(zbN s f).Ends r) (w:World) (H:St w w [] R):Ret Tryz.prog 114 #[aa,ab] w fun v w'=>∃ (y0:Bool),y0=r/\v=B y0/\St w w' [] R:=by
 refine ret_of_W Tryz.func114 rfl rfl rfl ?_
 refine W.seq ?_
 refine W.region rfl ?_
 refine zA (B false) rfl ?_
 refine s_nil ?_
 refine W.seq ?_
 refine W.region rfl ?_
 refine zM aa rfl ?_
 refine zM ab rfl ?_
 obtain ⟨ap,ak,hM⟩:=M.e_bind hM
 refine s_call cf137 [aa,ab] rfl (zdx s f (ag.app _) ai (aj.app _) ak _ (H.gt 0)) ?_
 rintro vq aq ⟨r2,am,hvq,ae⟩
 subst am
 subst vq
 try dsimp only at hM
 replace H:=H.bk ae
 clear ae
 refine zC r2 0 (decide (0<=r2)) rfl rfl rfl ?_
 refine zA (B (decide (0<=r2))) rfl ?_
 refine s_nil ?_
 refine W.ret ?_
 have ao:=M.e_pure hM
 exact ⟨_,resE_tmp rfl,⟨(decide (0<=r2)),ao,rfl,H⟩⟩

def zbj (x:Rch) (aa:Rch->M Bool):M Bool :=
  M.bind (aa x) fun r2 =>
  M.pure (!r2)
theorem zek {R:List Chunk} {aa:Nat} {ab:Value} (x:Rch) (ac:Rch->M Bool) (ae:FnM Tryz.prog R ab ac) (ag:Has R (cBlk aa [ab] 143)) {r:Bool} (hM:(zbj x ac).Ends r) (w:World) (H:St w w [] R):Ret Tryz.prog 115 #[.agg #[I x.up,I x.down,I x.lo,I x.hi,B x.narrow],Pq aa] w fun v w'=>∃ (y0:Bool),y0=r/\v=B y0/\St w w' [] R:=by
 refine ret_of_W Tryz.func115 rfl rfl rfl ?_
 refine W.seq ?_
 refine W.region rfl ?_
 refine t_box (v:=.agg #[I x.up,I x.down,I x.lo,I x.hi,B x.narrow]) (cs:=[I x.up,I x.down,I x.lo,I x.hi,B x.narrow]) H rfl rfl ?_
 intro ai am H
 refine zA (B false) rfl ?_
 refine s_nil ?_
 refine W.seq ?_
 refine W.region rfl ?_
 refine s_val (x_ld (p:=Pq aa) (v:=ab) rfl (ldb_sc Sc143 (ag.blk H) rfl)) ?_
 refine s_val (x_ld (p:=Pq ai) (v:=.agg #[I x.up,I x.down,I x.lo,I x.hi,B x.narrow]) rfl (ldb_ag (ds:=[I x.up,I x.down,I x.lo,I x.hi,B x.narrow]) Ag58 Sz58 (H.bl 0) rfl rfl)) ?_
 obtain ⟨r2,aj,hM⟩:=M.e_bind hM
 refine t_callM H ae rfl rfl x Reads.none ⟨_,rfl,rfl⟩ aj ?_
 intro ao H
 refine s_val (x_not (b:=r2) rfl) ?_
 refine zA (B (!r2)) rfl ?_
 refine s_nil ?_
 refine W.ret ?_
 have ak:=M.e_pure hM
 exact ⟨_,resE_tmp rfl,⟨(!r2),ak,rfl,(H.pk [])⟩⟩

def zaS (l:List Rch) (so:Rch->M Bool):M Bool :=
  M.bind (zbN l (fun aa=>zbj aa so)) fun r2 =>
  M.pure (!r2)
theorem zd3 {R:List Chunk} {ag:Cells} {aa:Value} {ab:Value} (l:List Rch) (so:Rch->M Bool) (am:Reads R ag) (ao:Sl ag aa l) (ai:FnM Tryz.prog R ab so) {r:Bool} (hM:(zaS l so).Ends r) (w:World) (H:St w w [] R):Ret Tryz.prog 79 #[aa,ab] w fun v w'=>∃ (y0:Bool),y0=r/\v=B y0/\St w w' [] R:=by
 refine ret_of_W Tryz.func79 rfl rfl rfl ?_
 refine W.seq ?_
 refine W.region rfl ?_
 refine t_box (v:=ab) (cs:=[ab]) H rfl (FnM.cells ai) ?_
 intro ac aC H
 refine zA (B false) rfl ?_
 refine s_nil ?_
 refine W.seq ?_
 refine W.region rfl ?_
 refine zM aa rfl ?_
 refine s_val (x_mf (fs:=[]) (cs:=[Pq ac]) rfl rfl) ?_
 obtain ⟨aD,ap,hM⟩:=M.e_bind hM
 refine s_call cf114 [aa,.func (.func 115) #[] #[Pq ac]] rfl (zd0 l (fun ae=>zbj ae so) (am.app _) ao ⟨115,[Pq ac],rfl,cf115,fun aj aE aF aq ae aG au aH av aw=>by obtain rfl:=Rch_arg av; exact (zek ae so (FnM.app (ai.app _) _) (Has.app (Has.here (k:=0) rfl) _) aw aj (St.refl au)).mono fun aq aj ⟨aI,ax,ay,az⟩=>by subst ax; exact ⟨ay,az⟩⟩ ap _ (H.gt 1)) ?_
 rintro vq aJ ⟨r2,aA,hvq,ak⟩
 subst aA
 subst vq
 try dsimp only at hM
 replace H:=H.bk ak
 clear ak
 refine s_val (x_not (b:=r2) rfl) ?_
 refine zA (B (!r2)) rfl ?_
 refine s_nil ?_
 refine W.ret ?_
 have aB:=M.e_pure hM
 exact ⟨_,resE_tmp rfl,⟨(!r2),aB,rfl,(H.pk [])⟩⟩

def zaT (r_:Rch) (sections:Int):M Bool :=
  M.grd (decide ((-9223372036854775808:Int)<=(sections-1))&&decide ((sections-1)<=(9223372036854775807:Int))) <|
  M.bind (zab r_.up 0 (sections-1)) fun r2 =>
  M.grd ((!r2||(decide ((-9223372036854775808:Int)<=(r_.up+1))&&decide ((r_.up+1)<=(9223372036854775807:Int))))) <|
  M.bind (M.opt r2 (zab r_.down (r_.up+1) (sections-1)) false) fun r3 =>
  M.bind (M.opt (r2&&r3) (zau (⟨(r_.lo:Int),(r_.hi:Int)⟩:Span) 1 400) false) fun r4 =>
  M.pure ((r2&&r3)&&r4)
theorem zdz {R:List Chunk}  (r_:Rch) (sections:Int)  {r:Bool} (hM:(zaT r_ sections).Ends r) (w:World) (H:St w w [] R):Ret Tryz.prog 81 #[.agg #[I r_.up,I r_.down,I r_.lo,I r_.hi,B r_.narrow],I sections] w fun v w'=>∃ (y0:Bool),y0=r/\v=B y0/\St w w' [] R:=by
 refine ret_of_W Tryz.func81 rfl rfl rfl ?_
 refine W.seq ?_
 refine W.region rfl ?_
 refine t_box (v:=.agg #[I r_.up,I r_.down,I r_.lo,I r_.hi,B r_.narrow]) (cs:=[I r_.up,I r_.down,I r_.lo,I r_.hi,B r_.narrow]) H rfl rfl ?_
 intro aa au H
 refine zA (B false) rfl ?_
 refine s_nil ?_
 refine W.seq ?_
 refine W.region rfl ?_
 refine s_val (x_fa (a:=Pq aa) (v:=Pq aa) rfl (fa_blk (o:=0) Fd58_0 Sz3)) ?_
 refine s_val (x_ld (p:=Pq aa) (v:=I r_.up) rfl (ldb_sc Sc3 (H.bl 0) rfl)) ?_
 refine zM (I sections) rfl ?_
 obtain ⟨ak,hM⟩:=M.e_grd hM
 simp only [Bool.and_eq_true,decide_eq_true_eq] at ak
 refine zR sections 1 (sections-1) rfl rfl rfl (by omega) ?_
 obtain ⟨av,am,hM⟩:=M.e_bind hM
 refine s_call cf70 [I r_.up,I 0,I (sections-1)] rfl (zac r_.up 0 (sections-1) am _ (H.gt 1)) ?_
 rintro vq aw ⟨r2,ao,hvq,aj⟩
 subst ao
 subst vq
 try dsimp only at hM
 replace H:=H.bk aj
 clear aj
 refine zM (B r2) rfl ?_
 refine g_val r2 (gy_t rfl) (fun hg=>x_fa (a:=Pq aa) (v:=Oq aa 1) rfl (fa_blk (o:=0) Fd58_1 Sz3)) ?_
 refine g_val r2 (gy_t rfl) (fun hg=>x_ld (p:=Oq aa 1) (v:=I r_.down) (gd_of (c:=r2) hg (Oq aa 1)) (ldb_sc Sc3 (H.bl 0) rfl)) ?_
 refine g_val r2 (gy_t rfl) (fun hg=>x_fa (a:=Pq aa) (v:=Pq aa) rfl (fa_blk (o:=0) Fd58_0 Sz3)) ?_
 refine g_val r2 (gy_t rfl) (fun hg=>x_ld (p:=Pq aa) (v:=I r_.up) (gd_of (c:=r2) hg (Pq aa)) (ldb_sc Sc3 (H.bl 0) rfl)) ?_
 obtain ⟨ac,hM⟩:=M.e_grd hM
 replace ac:=M.imp_of ac
 simp only [Bool.and_eq_true,decide_eq_true_eq] at ac
 refine g_val r2 (gy_t rfl) (fun hg=>x_ari (a:=r_.up) (b:=1) (r:=r_.up+1) (gd_of (c:=r2) hg (I r_.up)) rfl rfl (by have ab:=ac.resolve_left (by rw [hg]; decide); first | exact ab | exact ab.1 | exact ab.2 | omega | (have ag:=hg; simp at ag; omega))) ?_
 refine g_val r2 (gy_t rfl) (fun hg=>x_mv (v:=I sections) rfl) ?_
 refine g_val r2 (gy_t rfl) (fun hg=>x_ari (a:=sections) (b:=1) (r:=sections-1) (gd_of (c:=r2) hg (I sections)) rfl rfl (by have ab:=ac.resolve_left (by rw [hg]; decide); first | exact ab | exact ab.1 | exact ab.2 | omega | (have ag:=hg; simp at ag; omega))) ?_
 obtain ⟨r3,ap,hM⟩:=M.e_bind hM
 refine t_gcall r2 (gy_t rfl) cf70 (B r3) (fun _=>[I r_.down,I (r_.up+1),I (sections-1)]) (fun hg=>lst3 (gd_of (c:=r2) hg (I r_.down)) (gd_of (c:=r2) hg (I (r_.up+1))) (gd_of (c:=r2) hg (I (sections-1)))) H (fun hg=>(zac r_.down (r_.up+1) (sections-1) (M.e_opt ap hg) _ (H.give (A:=[]) rfl)).mono fun v_ w_ ⟨y_,ae,ai,H_⟩=>by subst ae; exact ⟨ai,H.via H_⟩) ?_
 intro ax H
 refine s_val (x_pand (b:=r2) (r:=r3) rfl (fun hb=>gd_of (c:=r2) (by first | exact hb | (rw [hb]; rfl) | simp_all) (B r3)) rfl) ?_
 refine zM (B (r2&&r3)) rfl ?_
 refine g_val (r2&&r3) (gy_t rfl) (fun hg=>x_fa (a:=Pq aa) (v:=Oq aa 2) rfl (fa_blk (o:=0) Fd58_2 Sz54)) ?_
 refine g_val (r2&&r3) (gy_t rfl) (fun hg=>x_ld (p:=Oq aa 2) (v:=.agg #[I r_.lo,I r_.hi]) (gd_of (c:=(r2&&r3)) hg (Oq aa 2)) (ldb_ag (ds:=[I r_.lo,I r_.hi]) Ag54 Sz54 (H.bl 0) rfl rfl)) ?_
 obtain ⟨r4,aq,hM⟩:=M.e_bind hM
 refine t_gcall (r2&&r3) (gy_t rfl) cf113 (B r4) (fun _=>[.agg #[I r_.lo,I r_.hi],I 1,I 400]) (fun hg=>lst3 (gd_of (c:=(r2&&r3)) hg (.agg #[I r_.lo,I r_.hi])) rfl rfl) H (fun hg=>(zdf (⟨(r_.lo:Int),(r_.hi:Int)⟩:Span) 1 400 (M.e_opt aq hg) _ (H.give (A:=[]) rfl)).mono fun v_ w_ ⟨y_,ae,ai,H_⟩=>by subst ae; exact ⟨ai,H.via H_⟩) ?_
 intro ay H
 refine s_val (x_pand (b:=(r2&&r3)) (r:=r4) rfl (fun hb=>gd_of (c:=(r2&&r3)) (by first | exact hb | (rw [hb]; rfl) | simp_all) (B r4)) rfl) ?_
 refine zA (B ((r2&&r3)&&r4)) rfl ?_
 refine s_nil ?_
 refine W.ret ?_
 have ae:=M.e_pure hM
 exact ⟨_,resE_tmp rfl,⟨((r2&&r3)&&r4),ae,rfl,(H.pk [])⟩⟩

def zaE (r_:Rch) (aa:List Sect) (ab:List Mrk) (ac:List Rch):M Bool :=
  M.bind (zaT r_ (aa.length:Int)) fun r2 =>
  M.pure r2
theorem zdZ {R:List Chunk} {aa:Nat} {ae:Cells} {ac:Value} {ag:Cells} {ai:Value} {aj:Cells} {ak:Value} (r_:Rch) (ab:List Sect) (am:List Mrk) (ao:List Rch) (az:Reads R ae) (ap:Sl ae ac ab) (aA:Reads R ag) (aB:Sl ag ai am) (aC:Reads R aj) (aD:Sl aj ak ao) (au:Has R (cBlk aa [ac,ai,ak] 27)) {r:Bool} (hM:(zaE r_ ab am ao).Ends r) (w:World) (H:St w w [] R):Ret Tryz.prog 80 #[.agg #[I r_.up,I r_.down,I r_.lo,I r_.hi,B r_.narrow],Pq aa] w fun v w'=>∃ (y0:Bool),y0=r/\v=B y0/\St w w' [] R:=by
 refine ret_of_W Tryz.func80 rfl rfl rfl ?_
 refine W.seq ?_
 refine W.region rfl ?_
 refine t_box (v:=.agg #[I r_.up,I r_.down,I r_.lo,I r_.hi,B r_.narrow]) (cs:=[I r_.up,I r_.down,I r_.lo,I r_.hi,B r_.narrow]) H rfl rfl ?_
 intro av aE H
 refine zA (B false) rfl ?_
 refine s_nil ?_
 refine W.seq ?_
 refine W.region rfl ?_
 refine s_val (x_ld (p:=Pq av) (v:=.agg #[I r_.up,I r_.down,I r_.lo,I r_.hi,B r_.narrow]) rfl (ldb_ag (ds:=[I r_.up,I r_.down,I r_.lo,I r_.hi,B r_.narrow]) Ag58 Sz58 (H.bl 0) rfl rfl)) ?_
 refine s_val (x_fa (a:=Pq aa) (v:=Pq aa) rfl (fa_blk (o:=0) Fd27_0 Sz23)) ?_
 refine s_val (x_ld (p:=Pq aa) (v:=ac) rfl (ldb_sc Sc23 (au.blk H) rfl)) ?_
 have aF:=(ap).len_le
 refine s_val (x_lenS T23.und rfl ap) ?_
 obtain ⟨aG,aw,hM⟩:=M.e_bind hM
 refine s_call cf81 [.agg #[I r_.up,I r_.down,I r_.lo,I r_.hi,B r_.narrow],I (ab.length:Int)] rfl (zdz r_ (ab.length:Int) aw _ (H.gt 1)) ?_
 rintro vq aH ⟨r2,ax,hvq,aq⟩
 subst ax
 subst vq
 try dsimp only at hM
 replace H:=H.bk aq
 clear aq
 refine zA (B r2) rfl ?_
 refine s_nil ?_
 refine W.ret ?_
 have ay:=M.e_pure hM
 exact ⟨_,resE_tmp rfl,⟨r2,ay,rfl,(H.pk [])⟩⟩

def zar (s_Sections:List Sect):(Int × Nat)->M ((Int × Nat) ⊕ (Unit ⊕ Unit)):=fun (last,s2) =>
  bif decide ((s2:Int)<(s_Sections.length:Int)) then (
  M.grd (decide ((s2:Int)<(s_Sections.length:Int))) <|
  M.bind (zaJ (s_Sections.getD s2 default)) fun r6 =>
  bif ((!r6)||(decide (((s_Sections.getD s2 default).place)<=last))) then (
  M.pure (.inr (.inl ())))
  else (
  M.pure (.inl ((s_Sections.getD s2 default).place,s2+1))))
  else (
  M.pure (.inr (.inr ())))
def zat (s_Sections:List Sect) (s_Marks:List Mrk) (s_Reaches:List Rch):M Int :=
  M.bind (zab (s_Sections.length:Int) 2 6) fun r2 =>
  M.bind (M.opt (!(!r2)) (zab (s_Marks.length:Int) 1 16) false) fun r3 =>
  M.bind (M.opt (!((!r2)||(!r3))) (zab (s_Reaches.length:Int) 1 6) false) fun r4 =>
  M.bind (M.opt (!(((!r2)||(!r3))||(!r4))) (zaG s_Sections (fun aa=>zaR aa)) false) fun r5 =>
  bif ((((!r2)||(!r3))||(!r4))||(!r5)) then (
  M.pure 3)
  else (
  M.bind (M.iter (zar s_Sections) (-1,0)) fun x_=>match x_ with
  | (.inl (_:Unit))=>(
  M.pure 70)
  | (.inr (_:Unit))=>(
  M.bind (zaN s_Marks (fun aa=>zao aa)) fun r7 =>
  M.bind (M.opt (!(!r7)) (zaS s_Reaches (fun aa=>zaE aa s_Sections s_Marks s_Reaches)) false) fun r8 =>
  bif ((!r7)||(!r8)) then (
  M.pure 70)
  else (
  M.pure 0)))
theorem zc1 {R:List Chunk} {aM:Cells} {ac:Value} {aN:Cells} {ai:Value} {aO:Cells} {ag:Value} (s_Sections:List Sect) (s_Marks:List Mrk) (s_Reaches:List Rch) (aD:Reads R aM) (aj:Sl aM ac s_Sections) (aP:Reads R aN) (aE:Sl aN ai s_Marks) (aQ:Reads R aO) (aF:Sl aO ag s_Reaches) {r:Int} (hM:(zat s_Sections s_Marks s_Reaches).Ends r) (w:World) (H:St w w [] R):Ret Tryz.prog 26 #[.agg #[ac,ai,ag]] w fun v w'=>∃ (y0:Int),y0=r/\v=I y0/\St w w' [] R:=by
 refine ret_of_W Tryz.func26 rfl rfl rfl ?_
 refine W.seq ?_
 refine W.region rfl ?_
 refine t_box (v:=.agg #[ac,ai,ag]) (cs:=[ac,ai,ag]) H rfl rfl ?_
 intro aa br H
 refine zA (I 0) rfl ?_
 refine s_nil ?_
 refine W.seq ?_
 refine W.region rfl ?_
 refine zA (.func (.func 74) #[] #[]) rfl ?_
 refine s_nil ?_
 refine W.seq ?_
 refine W.seq ?_
 refine W.region rfl ?_
 refine s_val (x_fa (a:=Pq aa) (v:=Pq aa) rfl (fa_blk (o:=0) Fd27_0 Sz23)) ?_
 refine s_val (x_ld (p:=Pq aa) (v:=ac) rfl (ldb_sc Sc23 (H.bl 0) rfl)) ?_
 have bt:=(aj).len_le
 refine s_val (x_lenS T23.und rfl aj) ?_
 obtain ⟨bu,aX,hM⟩:=M.e_bind hM
 refine s_call cf70 [I (s_Sections.length:Int),I 2,I 6] rfl (zac (s_Sections.length:Int) 2 6 aX _ (H.gt 1)) ?_
 rintro vq bv ⟨r2,aY,hvq,ak⟩
 subst aY
 subst vq
 try dsimp only at hM
 replace H:=H.bk ak
 clear ak
 refine s_val (x_not (b:=r2) rfl) ?_
 refine zM (B (!r2)) rfl ?_
 refine g_val (!(!r2)) (gy_f rfl) (fun hg=>x_fa (a:=Pq aa) (v:=Oq aa 1) rfl (fa_blk (o:=0) Fd27_1 Sz24)) ?_
 refine g_val (!(!r2)) (gy_f rfl) (fun hg=>x_ld (p:=Oq aa 1) (v:=ai) (gd_of (c:=!(!r2)) hg (Oq aa 1)) (ldb_sc Sc24 (H.bl 0) rfl)) ?_
 have bw:=(aE).len_le
 refine g_val (!(!r2)) (gy_f rfl) (fun hg=>x_lenS T24.und (gd_of (c:=!(!r2)) hg (ai)) aE) ?_
 obtain ⟨r3,aZ,hM⟩:=M.e_bind hM
 refine t_gcall (!(!r2)) (gy_f rfl) cf70 (B r3) (fun _=>[I (s_Marks.length:Int),I 1,I 16]) (fun hg=>lst3 (gd_of (c:=!(!r2)) hg (I (s_Marks.length:Int))) rfl rfl) H (fun hg=>(zac (s_Marks.length:Int) 1 16 (M.e_opt aZ hg) _ (H.give (A:=[]) rfl)).mono fun v_ w_ ⟨y_,ab,ap,H_⟩=>by subst ab; exact ⟨ap,H.via H_⟩) ?_
 intro bx H
 refine g_val (!(!r2)) (gy_f rfl) (fun hg=>x_not (b:=r3) (gd_of (c:=!(!r2)) hg (B r3))) ?_
 refine s_val (x_por (b:=!r2) (r:=!r3) rfl rfl (fun hb=>gd_of (c:=!(!r2)) (by first | exact hb | (rw [hb]; rfl) | simp_all) (B (!r3)))) ?_
 refine zM (B ((!r2)||(!r3))) rfl ?_
 refine g_val (!((!r2)||(!r3))) (gy_f rfl) (fun hg=>x_fa (a:=Pq aa) (v:=Oq aa 2) rfl (fa_blk (o:=0) Fd27_2 Sz25)) ?_
 refine g_val (!((!r2)||(!r3))) (gy_f rfl) (fun hg=>x_ld (p:=Oq aa 2) (v:=ag) (gd_of (c:=!((!r2)||(!r3))) hg (Oq aa 2)) (ldb_sc Sc25 (H.bl 0) rfl)) ?_
 have bz:=(aF).len_le
 refine g_val (!((!r2)||(!r3))) (gy_f rfl) (fun hg=>x_lenS T25.und (gd_of (c:=!((!r2)||(!r3))) hg (ag)) aF) ?_
 obtain ⟨r4,a6,hM⟩:=M.e_bind hM
 refine t_gcall (!((!r2)||(!r3))) (gy_f rfl) cf70 (B r4) (fun _=>[I (s_Reaches.length:Int),I 1,I 6]) (fun hg=>lst3 (gd_of (c:=!((!r2)||(!r3))) hg (I (s_Reaches.length:Int))) rfl rfl) H (fun hg=>(zac (s_Reaches.length:Int) 1 6 (M.e_opt a6 hg) _ (H.give (A:=[]) rfl)).mono fun v_ w_ ⟨y_,ab,ap,H_⟩=>by subst ab; exact ⟨ap,H.via H_⟩) ?_
 intro bA H
 refine g_val (!((!r2)||(!r3))) (gy_f rfl) (fun hg=>x_not (b:=r4) (gd_of (c:=!((!r2)||(!r3))) hg (B r4))) ?_
 refine s_val (x_por (b:=((!r2)||(!r3))) (r:=!r4) rfl rfl (fun hb=>gd_of (c:=!((!r2)||(!r3))) (by first | exact hb | (rw [hb]; rfl) | simp_all) (B (!r4)))) ?_
 refine zM (B (((!r2)||(!r3))||(!r4))) rfl ?_
 refine g_val (!(((!r2)||(!r3))||(!r4))) (gy_f rfl) (fun hg=>x_fa (a:=Pq aa) (v:=Pq aa) rfl (fa_blk (o:=0) Fd27_0 Sz23)) ?_
 refine g_val (!(((!r2)||(!r3))||(!r4))) (gy_f rfl) (fun hg=>x_ld (p:=Pq aa) (v:=ac) (gd_of (c:=!(((!r2)||(!r3))||(!r4))) hg (Pq aa)) (ldb_sc Sc23 (H.bl 0) rfl)) ?_
 refine g_val (!(((!r2)||(!r3))||(!r4))) (gy_f rfl) (fun hg=>x_mv (v:=.func (.func 74) #[] #[]) rfl) ?_
 obtain ⟨r5,a7,hM⟩:=M.e_bind hM
 refine t_gcall (!(((!r2)||(!r3))||(!r4))) (gy_f rfl) cf75 (B r5) (fun _=>[ac,.func (.func 74) #[] #[]]) (fun hg=>lst2 (gd_of (c:=!(((!r2)||(!r3))||(!r4))) hg (ac)) (gd_of (c:=!(((!r2)||(!r3))||(!r4))) hg (.func (.func 74) #[] #[]))) H (fun hg=>(zdt s_Sections (fun ae=>zaR ae) (aD.app _) aj ⟨74,[],rfl,cf74,fun am aR aS au ae aT av aG aw ax=>by obtain ⟨bB,rfl,a8⟩:=Sect_arg aw; exact (zdN ae aG a8 ax am (St.refl av)).mono fun au am ⟨aU,ay,az,aA⟩=>by subst ay; exact ⟨az,aA⟩⟩ (M.e_opt a7 hg) _ (H.give (A:=[]) rfl)).mono fun v_ w_ ⟨y_,ab,ap,H_⟩=>by subst ab; exact ⟨ap,H.via H_⟩) ?_
 intro bC H
 refine g_val (!(((!r2)||(!r3))||(!r4))) (gy_f rfl) (fun hg=>x_not (b:=r5) (gd_of (c:=!(((!r2)||(!r3))||(!r4))) hg (B r5))) ?_
 refine s_val (x_por (b:=(((!r2)||(!r3))||(!r4))) (r:=!r5) rfl rfl (fun hb=>gd_of (c:=!(((!r2)||(!r3))||(!r4))) (by first | exact hb | (rw [hb]; rfl) | simp_all) (B (!r5)))) ?_
 refine s_nil ?_
 refine W.cond ((((!r2)||(!r3))||(!r4))||(!r5)) rfl (fun aH=>?_) (fun aH=>?_)
 ·replace hM:=M.e_t hM aH
  refine W.seq ?_
  refine W.region rfl ?_
  refine zA (I 3) rfl ?_
  refine s_nil ?_
  refine W.ret ?_
  have ab:=M.e_pure hM
  exact ⟨_,resE_tmp rfl,⟨3,ab,rfl,(H.pk [])⟩⟩
 replace hM:=M.e_f hM aH
 refine W.skip ?_
 refine W.seq ?_
 refine W.region rfl ?_
 refine zA (I (-1)) rfl ?_
 refine s_nil ?_
 refine W.seq ?_
 refine W.seq ?_
 refine W.region rfl ?_
 refine s_val (x_fa (a:=Pq aa) (v:=Pq aa) rfl (fa_blk (o:=0) Fd27_0 Sz23)) ?_
 refine s_val (x_ld (p:=Pq aa) (v:=ac) rfl (ldb_sc Sc23 (H.bl 0) rfl)) ?_
 have bD:=(aj).len_le
 refine s_val (x_lenS T23.und rfl aj) ?_
 refine zM (I 0) rfl ?_
 refine s_nil ?_
 refine W.block ?_
 obtain ⟨ba,aI,aV⟩:=M.e_bind hM
 obtain ⟨bE,aI⟩:=M.e_iter aI
 refine W.loop (fun m σ W=>∃ (last:Int) (s2:Nat) (ρ:Env),σ=upds ρ [(1,Pq aa),(4,I last),(34,ac),(35,I (s_Sections.length:Int)),(36,I (s2:Int))]/\M.iterN (zar s_Sections) m (last,s2)=some ba/\St w W [cBlk aa [ac,ai,ag] 27] R) ?_ ?_
 ·exact ⟨_,-1,0,_,upds_of _ _ ⟨rfl,rfl,rfl,rfl,rfl,trivial⟩,aI,H⟩
 rintro bF σ bG ⟨last,s2,ρ,rfl,aW,H⟩
 obtain ⟨bb,bc,bH,hM,aJ⟩:=M.e_iterN aW
 simp only [zar] at hM
 clear aW
 refine W.seq ?_
 refine W.region rfl ?_
 refine zC (s2:Int) (s_Sections.length:Int) (decide ((s2:Int)<(s_Sections.length:Int))) rfl rfl rfl ?_
 refine s_nil ?_
 refine W.seq ?_
 refine W.cond (decide ((s2:Int)<(s_Sections.length:Int))) rfl (fun aB=>?_) (fun aB=>?_)
 ·replace hM:=M.e_t hM aB
  simp only [qy1,qy2,qy3,qy4,qy5,qy6,ne_eq,qy7] at aB
  refine W.skip ?_
  refine W.seq ?_
  refine W.block ?_
  refine W.seq ?_
  refine W.region rfl ?_
  obtain ⟨bf,hM⟩:=M.e_grd hM
  simp only [Bool.and_eq_true,decide_eq_true_eq] at bf
  refine s_val (x_ix (a:=ac) (b:=I (s2:Int)) (v:=vat ac 2 (Int.toNat (s2:Int))) rfl rfl (Sl.ix (α:=Sect) T23.und T23.size aj (by omega) (by omega))) ?_
  obtain ⟨aq,bh,aC⟩:=Sect_atA aj (i:=(s2:Int)) (by omega) (by omega)
  replace aC:Sl _ aq (s_Sections.getD s2 default).rows:=aC
  have bI:=aC.len_le
  refine s_val (x_ld (p:=vat ac 2 (Int.toNat (s2:Int))) (v:=.agg #[I ((s_Sections.getD s2 default).place),aq]) rfl (ld_ag Ag68 Sz68 (At.mono bh (aD.at H)))) ?_
  refine t_alloc (cs:=[I 0,.slice none 0 0]) H Al68 rfl ?_
  intro ao bJ H
  refine t_sw 0 0 [I ((s_Sections.getD s2 default).place),aq] (.agg #[I ((s_Sections.getD s2 default).place),aq]) H rfl rfl Sz68 rfl rfl rfl (by simp only [List.all_cons,List.all_nil,Bool.true_and,Bool.and_true,Sl.oc aC]; try rfl) ?_
  intro bK H
  refine s_nil ?_
  refine W.seq ?_
  refine W.seq ?_
  refine W.region rfl ?_
  refine s_val (x_ld (p:=Pq ao) (v:=.agg #[I ((s_Sections.getD s2 default).place),aq]) rfl (ldb_ag (ds:=[I ((s_Sections.getD s2 default).place),aq]) Ag68 Sz68 (H.bl 0) rfl rfl)) ?_
  obtain ⟨bL,bi,hM⟩:=M.e_bind hM
  refine s_call cf76 [.agg #[I ((s_Sections.getD s2 default).place),aq]] rfl (zds (s_Sections.getD s2 default) (aD.app _) aC bi _ (H.gt 2)) ?_
  rintro vq bM ⟨r6,bj,hvq,ak⟩
  subst bj
  subst vq
  try dsimp only at hM
  replace H:=H.bk ak
  clear ak
  refine s_val (x_not (b:=r6) rfl) ?_
  refine zM (B (!r6)) rfl ?_
  refine g_val (!(!r6)) (gy_f rfl) (fun hg=>x_fa (a:=Pq ao) (v:=Pq ao) rfl (fa_blk (o:=0) Fd68_0 Sz3)) ?_
  refine g_val (!(!r6)) (gy_f rfl) (fun hg=>x_ld (p:=Pq ao) (v:=I ((s_Sections.getD s2 default).place)) (gd_of (c:=!(!r6)) hg (Pq ao)) (ldb_sc Sc3 (H.bl 0) rfl)) ?_
  refine g_val (!(!r6)) (gy_f rfl) (fun hg=>x_mv (v:=I last) rfl) ?_
  refine g_val (!(!r6)) (gy_f rfl) (fun hg=>x_cmp (kd:=.i64) (a:=(s_Sections.getD s2 default).place) (b:=last) (r:=decide (((s_Sections.getD s2 default).place)<=last)) (gd_of (c:=!(!r6)) hg (I ((s_Sections.getD s2 default).place))) (gd_of (c:=!(!r6)) hg (I last)) rfl) ?_
  refine s_val (x_por (b:=!r6) (r:=decide (((s_Sections.getD s2 default).place)<=last)) rfl rfl (fun hb=>gd_of (c:=!(!r6)) (by first | exact hb | (rw [hb]; rfl) | simp_all) (B (decide (((s_Sections.getD s2 default).place)<=last))))) ?_
  refine s_nil ?_
  refine W.cond ((!r6)||(decide (((s_Sections.getD s2 default).place)<=last))) rfl (fun aK=>?_) (fun aK=>?_)
  ·replace hM:=M.e_t hM aK
   refine W.seq ?_
   refine W.region rfl ?_
   refine zA (I 70) rfl ?_
   refine s_nil ?_
   refine W.ret ?_
   have bm:=M.e_inr hM aJ
   subst bm
   replace hM:=aV
   try dsimp only at hM
   have ab:=M.e_pure hM
   exact ⟨_,resE_tmp rfl,⟨70,ab,rfl,(H.pk [])⟩⟩
  replace hM:=M.e_f hM aK
  refine W.skip ?_
  refine W.region rfl ?_
  refine s_val (x_fa (a:=Pq ao) (v:=Pq ao) rfl (fa_blk (o:=0) Fd68_0 Sz3)) ?_
  refine s_val (x_ld (p:=Pq ao) (v:=I ((s_Sections.getD s2 default).place)) rfl (ldb_sc Sc3 (H.bl 0) rfl)) ?_
  refine zA (I ((s_Sections.getD s2 default).place)) rfl ?_
  refine s_nil ?_
  refine W.region rfl ?_
  refine zR (s2:Int) 1 ((s2:Int)+1) rfl rfl rfl (by omega) ?_
  refine zM (I ((s2:Int)+1)) rfl ?_
  refine s_nil ?_
  exact ⟨bb,bc,(s_Sections.getD s2 default).place,s2+1,_,upds_of _ _ ⟨rfl,rfl,rfl,rfl,rfl,trivial⟩,M.e_inl hM aJ,(H.pk [1])⟩
 replace hM:=M.e_f hM aB
 simp only [qy1,qy2,qy3,qy4,qy5,qy6,ne_eq,qy7] at aB
 refine W.exit ?_
 have bn:=M.e_inr hM aJ
 subst bn
 replace hM:=aV
 try dsimp only at hM
 refine W.seq ?_
 refine W.seq ?_
 refine W.region rfl ?_
 refine s_val (x_fa (a:=Pq aa) (v:=Oq aa 1) rfl (fa_blk (o:=0) Fd27_1 Sz24)) ?_
 refine s_val (x_ld (p:=Oq aa 1) (v:=ai) rfl (ldb_sc Sc24 (H.bl 0) rfl)) ?_
 obtain ⟨bN,bo,hM⟩:=M.e_bind hM
 refine s_call cf77 [ai,.func (.func 78) #[] #[]] rfl (zea s_Marks (fun ae=>zao ae) (aP.app _) aE ⟨78,[],rfl,cf78,fun am aR aS au ae aT av aG aw ax=>by obtain rfl:=Mrk_arg aw; exact (zdO ae ax am (St.refl av)).mono fun au am ⟨aU,ay,az,aA⟩=>by subst ay; exact ⟨az,aA⟩⟩ bo _ (H.gt 1)) ?_
 rintro vq bO ⟨r7,bp,hvq,ak⟩
 subst bp
 subst vq
 try dsimp only at hM
 replace H:=H.bk ak
 clear ak
 refine s_val (x_not (b:=r7) rfl) ?_
 refine zM (B (!r7)) rfl ?_
 refine g_val (!(!r7)) (gy_f rfl) (fun hg=>x_fa (a:=Pq aa) (v:=Oq aa 2) rfl (fa_blk (o:=0) Fd27_2 Sz25)) ?_
 refine g_val (!(!r7)) (gy_f rfl) (fun hg=>x_ld (p:=Oq aa 2) (v:=ag) (gd_of (c:=!(!r7)) hg (Oq aa 2)) (ldb_sc Sc25 (H.bl 0) rfl)) ?_
 refine g_val (!(!r7)) (gy_f rfl) (fun hg=>x_mf (fs:=[]) (cs:=[Pq aa]) rfl rfl) ?_
 obtain ⟨r8,bq,hM⟩:=M.e_bind hM
 refine t_gcall (!(!r7)) (gy_f rfl) cf79 (B r8) (fun _=>[ag,.func (.func 80) #[] #[Pq aa]]) (fun hg=>lst2 (gd_of (c:=!(!r7)) hg (ag)) (gd_of (c:=!(!r7)) hg (.func (.func 80) #[] #[Pq aa]))) H (fun hg=>(zd3 s_Reaches (fun ae=>zaE ae s_Sections s_Marks s_Reaches) (aQ.app _) aF ⟨80,[Pq aa],rfl,cf80,fun am aR aS au ae aT av aG aw ax=>by obtain rfl:=Rch_arg aw; exact (zdZ ae s_Sections s_Marks s_Reaches (Reads.app (aD.app _) _) aj (Reads.app (aP.app _) _) aE (Reads.app (aQ.app _) _) aF (Has.app (Has.here (k:=0) rfl) _) ax am (St.refl av)).mono fun au am ⟨aU,ay,az,aA⟩=>by subst ay; exact ⟨az,aA⟩⟩ (M.e_opt bq hg) _ (H.give (A:=[]) rfl)).mono fun v_ w_ ⟨y_,ab,ap,H_⟩=>by subst ab; exact ⟨ap,H.via H_⟩) ?_
 intro bP H
 refine g_val (!(!r7)) (gy_f rfl) (fun hg=>x_not (b:=r8) (gd_of (c:=!(!r7)) hg (B r8))) ?_
 refine s_val (x_por (b:=!r7) (r:=!r8) rfl rfl (fun hb=>gd_of (c:=!(!r7)) (by first | exact hb | (rw [hb]; rfl) | simp_all) (B (!r8)))) ?_
 refine s_nil ?_
 refine W.cond ((!r7)||(!r8)) rfl (fun aL=>?_) (fun aL=>?_)
 ·replace hM:=M.e_t hM aL
  refine W.seq ?_
  refine W.region rfl ?_
  refine zA (I 70) rfl ?_
  refine s_nil ?_
  refine W.ret ?_
  have ab:=M.e_pure hM
  exact ⟨_,resE_tmp rfl,⟨70,ab,rfl,(H.pk [])⟩⟩
 replace hM:=M.e_f hM aL
 refine W.skip ?_
 refine W.seq ?_
 refine W.region rfl ?_
 refine zA (I 0) rfl ?_
 refine s_nil ?_
 refine W.ret ?_
 have ab:=M.e_pure hM
 exact ⟨_,resE_tmp rfl,⟨0,ab,rfl,(H.pk [])⟩⟩

def zad (s_Sections:List Sect) (s_Marks:List Mrk) (s_Reaches:List Rch):M (Int ⊕ Int) :=
  M.bind (zat s_Sections s_Marks s_Reaches) fun r2 =>
  bif r2 != 0 then (
  M.pure (.inl r2))
  else (
  M.pure (.inr 0))
theorem zap {R:List Chunk} {aj:Cells} {aa:Value} {ak:Cells} {ab:Value} {am:Cells} {ac:Value} (s_Sections:List Sect) (s_Marks:List Mrk) (s_Reaches:List Rch) (aw:Reads R aj) (ax:Sl aj aa s_Sections) (ay:Reads R ak) (az:Sl ak ab s_Marks) (aA:Reads R am) (aB:Sl am ac s_Reaches) {r:(Int ⊕ Int)} (hM:(zad s_Sections s_Marks s_Reaches).Ends r) (w:World) (H:St w w [] R):Ret Tryz.prog 49 #[.agg #[aa,ab,ac]] w fun v w'=>(∃ (y0:Int),(.inl y0)=r/\v = .tuple #[.pointer none,I y0]/\St w w' [] R)∨(∃ (y0:Int) (ao:Nat) (ap:Nat),(.inr y0)=r/\v = .tuple #[Pq ao,I y0]/\St w w' [cBlk ao [aa,ab,ac,.map (some ap)] 177,cMemI encSpt ap (zaa s_Sections s_Marks s_Reaches)] R):=by
 refine ret_of_W Tryz.func49 rfl rfl rfl ?_
 refine W.seq ?_
 refine W.region rfl ?_
 refine t_box (v:=.agg #[aa,ab,ac]) (cs:=[aa,ab,ac]) H rfl rfl ?_
 intro aq aE H
 refine zA (.pointer none) rfl ?_
 refine zA (I 0) rfl ?_
 refine s_nil ?_
 refine W.seq ?_
 refine W.seq ?_
 refine W.region rfl ?_
 refine s_val (x_ld (p:=Pq aq) (v:=.agg #[aa,ab,ac]) rfl (ldb_ag (ds:=[aa,ab,ac]) Ag27 Sz27 (H.bl 0) rfl rfl)) ?_
 obtain ⟨aF,aC,hM⟩:=M.e_bind hM
 refine s_call cf26 [.agg #[aa,ab,ac]] rfl (zc1 s_Sections s_Marks s_Reaches (aw.app _) ax (ay.app _) az (aA.app _) aB aC _ (H.gt 1)) ?_
 rintro vq aG ⟨r2,aD,hvq,au⟩
 subst aD
 subst vq
 try dsimp only at hM
 replace H:=H.bk au
 clear au
 refine zA (I r2) rfl ?_
 refine s_nil ?_
 refine W.seq ?_
 refine W.region rfl ?_
 refine zM (I r2) rfl ?_
 refine zC r2 0 (r2 != 0) rfl rfl rfl ?_
 refine s_nil ?_
 refine W.cond (r2 != 0) rfl (fun ag=>?_) (fun ag=>?_)
 ·replace hM:=M.e_t hM ag
  simp only [qy1,qy2,qy3,qy4,qy5,qy6,ne_eq,qy7] at ag
  refine W.seq ?_
  refine W.region rfl ?_
  refine zM (I r2) rfl ?_
  refine zA (.pointer none) rfl ?_
  refine zA (I r2) rfl ?_
  refine s_nil ?_
  refine W.ret ?_
  have ai:=M.e_pure hM
  exact ⟨_,resE_tmp2 rfl,.inl (⟨r2,ai,rfl,(H.pk [])⟩)⟩
 replace hM:=M.e_f hM ag
 simp only [qy1,qy2,qy3,qy4,qy5,qy6,ne_eq,qy7] at ag
 refine W.skip ?_
 refine W.seq ?_
 refine W.region rfl ?_
 refine s_val (x_ld (p:=Pq aq) (v:=.agg #[aa,ab,ac]) rfl (ldb_ag (ds:=[aa,ab,ac]) Ag27 Sz27 (H.bl 0) rfl rfl)) ?_
 refine t_mkmemI encSpt (zaa s_Sections s_Marks s_Reaches) H ?_
 intro ae aH H
 refine s_val (x_bld (ps:=[(0,.agg #[aa,ab,ac]),(1,.map (some ae))]) (zs:=[.slice none 0 0,.slice none 0 0,.slice none 0 0,.map none]) (L':=[aa,ab,ac,.map (some ae)]) rfl Tryz.underlying177 Al177 rfl (Bd177 Tryz.underlying177) (.cons (cs:=[aa,ab,ac]) rfl rfl rfl rfl rfl<|.cons (cs:=[.map (some ae)]) rfl rfl rfl rfl rfl<|.nil)) ?_
 refine t_box (v:=.agg #[aa,ab,ac,.map (some ae)]) (cs:=[aa,ab,ac,.map (some ae)]) H rfl rfl ?_
 intro av aI H
 refine zA (Pq av) rfl ?_
 refine zA (I 0) rfl ?_
 refine s_nil ?_
 refine W.ret ?_
 have ai:=M.e_pure hM
 exact ⟨_,resE_tmp2 rfl,.inr (⟨0,av,ae,ai,rfl,(H.pk [0,1])⟩)⟩

def zct (s_Marks:List Mrk) (marks:List Int):(Int × Int × Nat)->M ((Int × Int × Nat) ⊕ Int):=fun (e2,last,s2) =>
  bif decide ((s2:Int)<(marks.length:Int)) then (
  M.grd (decide ((s2:Int)<(marks.length:Int))) <|
  M.grd ((!(e2==0)||(decide ((-9223372036854775808:Int)<=(last+1))&&decide ((last+1)<=(9223372036854775807:Int))))) <|
  M.bind (M.opt (e2==0) (zab (marks.getD s2 0) (last+1) ((s_Marks.length:Int)-1)) false) fun r2 =>
  bif ((e2==0)&&(!r2)) then (
  M.pure (.inl (2,marks.getD s2 0,s2+1)))
  else (
  M.pure (.inl (e2,marks.getD s2 0,s2+1))))
  else (
  M.pure (.inr e2))
def zcH (s_Marks:List Mrk) (marks:List Int):(Int × Int × Nat)->M ((Int × Int × Nat) ⊕ Int):=fun (e2,last,s2) =>
  bif decide ((s2:Int)<(marks.length:Int)) then (
  M.grd (decide ((s2:Int)<(marks.length:Int))) <|
  M.grd ((!(e2==0)||(decide ((-9223372036854775808:Int)<=(last+1))&&decide ((last+1)<=(9223372036854775807:Int))))) <|
  M.bind (M.opt (e2==0) (zab (marks.getD s2 0) (last+1) ((s_Marks.length:Int)-1)) false) fun r2 =>
  bif ((e2==0)&&(!r2)) then (
  M.pure (.inl (2,marks.getD s2 0,s2+1)))
  else (
  M.pure (.inl (e2,marks.getD s2 0,s2+1))))
  else (
  M.pure (.inr e2))
def zcw (s_Sections:List Sect) (s_Marks:List Mrk) (s_Reaches:List Rch) (marks:List Int):M (Int ⊕ Int) :=
  M.bind (zad s_Sections s_Marks s_Reaches) fun x_=>match x_ with
  | (.inl r1)=>(
  M.bind (M.iter (zct s_Marks marks) (r1,-1,0)) fun e3 =>
  M.pure (.inl e3))
  | (.inr aa)=>(
  M.bind (M.iter (zcH s_Marks marks) (aa,-1,0)) fun e3 =>
  M.pure (.inr e3))
theorem zc9 {R:List Chunk} {aH:Cells} {ag:Value} {aI:Cells} {aa:Value} {aJ:Cells} {ai:Value} {aK:Cells} {ae:Value} (s_Sections:List Sect) (s_Marks:List Mrk) (s_Reaches:List Rch) (marks:List Int) (aU:Reads R aH) (aV:Sl aH ag s_Sections) (aW:Reads R aI) (aq:Sl aI aa s_Marks) (aX:Reads R aJ) (aY:Sl aJ ai s_Reaches) (aL:Reads R aK) (ak:Sl aK ae marks) {r:(Int ⊕ Int)} (hM:(zcw s_Sections s_Marks s_Reaches marks).Ends r) (w:World) (H:St w w [] R):Ret Tryz.prog 57 #[.agg #[ag,aa,ai],ae] w fun v w'=>(∃ (y0:Int),(.inl y0)=r/\v = .tuple #[.pointer none,I y0]/\St w w' [] R)∨(∃ (y0:Int) (aM:Nat) (aN:Nat),(.inr y0)=r/\v = .tuple #[Pq aM,I y0]/\St w w' [cBlk aM [ag,aa,ai,.map (some aN)] 177,cMemI encSpt aN (zaa s_Sections s_Marks s_Reaches)] R):=by
 refine ret_of_W Tryz.func57 rfl rfl rfl ?_
 refine W.seq ?_
 refine W.region rfl ?_
 refine t_box (v:=.agg #[ag,aa,ai]) (cs:=[ag,aa,ai]) H rfl rfl ?_
 intro ac bp H
 refine zA (.pointer none) rfl ?_
 refine zA (I 0) rfl ?_
 refine s_nil ?_
 refine W.seq ?_
 refine W.region rfl ?_
 refine s_val (x_ld (p:=Pq ac) (v:=.agg #[ag,aa,ai]) rfl (ldb_ag (ds:=[ag,aa,ai]) Ag27 Sz27 (H.bl 0) rfl rfl)) ?_
 obtain ⟨bq,aZ,hM⟩:=M.e_bind hM
 refine s_call cf49 [.agg #[ag,aa,ai]] rfl (zap s_Sections s_Marks s_Reaches (aU.app _) aV (aW.app _) aq (aX.app _) aY aZ _ (H.gt 1)) ?_
 rintro vq br (⟨r1,a6,hvq,au⟩ | ⟨ap,aj,az,a7,hvq,au⟩)
 ·subst a6
  subst vq
  try dsimp only at hM
  replace H:=H.bk au
  clear au
  refine zM (.tuple #[.pointer none,I r1]) rfl ?_
  refine zX [.pointer none,I r1] (.pointer none) rfl rfl ?_
  refine zX [.pointer none,I r1] (I r1) rfl rfl ?_
  refine zA (.pointer none) rfl ?_
  refine zA (I r1) rfl ?_
  refine s_nil ?_
  refine W.seq ?_
  refine W.region rfl ?_
  refine zA (I (-1)) rfl ?_
  refine s_nil ?_
  refine W.seq ?_
  refine W.seq ?_
  refine W.region rfl ?_
  refine zM ae rfl ?_
  have bt:=(ak).len_le
  refine s_val (x_lenS T28.und rfl ak) ?_
  refine zM (I 0) rfl ?_
  refine s_nil ?_
  refine W.block ?_
  obtain ⟨a8,aA,ba⟩:=M.e_bind hM
  obtain ⟨bb,aA⟩:=M.e_iter aA
  refine W.loop (fun m σ W=>∃ (e2:Int) (last:Int) (s2:Nat) (ρ:Env),σ=upds ρ [(2,Pq ac),(6,.pointer none),(7,I e2),(8,I last),(16,ae),(17,I (marks.length:Int)),(18,I (s2:Int))]/\M.iterN (zct s_Marks marks) m (e2,last,s2)=some a8/\St w W [cBlk ac [ag,aa,ai] 27] R) ?_ ?_
  ·exact ⟨_,r1,-1,0,_,upds_of _ _ ⟨rfl,rfl,rfl,rfl,rfl,rfl,rfl,trivial⟩,aA,H⟩
  rintro bu σ bv ⟨e2,last,s2,ρ,rfl,aO,H⟩
  obtain ⟨aP,aQ,bw,hM,aB⟩:=M.e_iterN aO
  simp only [zct] at hM
  clear aO
  refine W.seq ?_
  refine W.region rfl ?_
  refine zC (s2:Int) (marks.length:Int) (decide ((s2:Int)<(marks.length:Int))) rfl rfl rfl ?_
  refine s_nil ?_
  refine W.seq ?_
  refine W.cond (decide ((s2:Int)<(marks.length:Int))) rfl (fun av=>?_) (fun av=>?_)
  ·replace hM:=M.e_t hM av
   simp only [qy1,qy2,qy3,qy4,qy5,qy6,ne_eq,qy7] at av
   refine W.skip ?_
   refine W.seq ?_
   refine W.block ?_
   refine W.seq ?_
   refine W.region rfl ?_
   obtain ⟨bc,hM⟩:=M.e_grd hM
   simp only [Bool.and_eq_true,decide_eq_true_eq] at bc
   refine s_val (x_ix (a:=ae) (b:=I (s2:Int)) (v:=vat ae 1 (Int.toNat (s2:Int))) rfl rfl (Sl.ix (α:=Int) T28.und T28.size ak (by omega) (by omega))) ?_
   refine s_val (x_ld (p:=vat ae 1 (Int.toNat (s2:Int))) (v:=I (marks.getD s2 0)) rfl (ld_sc Sc3 (At.mono (Int_at ak (i:=(s2:Int)) (by omega) (by omega)) (aL.at H)))) ?_
   refine zA (I (marks.getD s2 0)) rfl ?_
   refine s_nil ?_
   refine W.seq ?_
   refine W.seq ?_
   refine W.region rfl ?_
   refine zM (I e2) rfl ?_
   refine zC e2 0 (e2==0) rfl rfl rfl ?_
   refine zM (B (e2==0)) rfl ?_
   refine g_val (e2==0) (gy_t rfl) (fun hg=>x_mv (v:=I (marks.getD s2 0)) rfl) ?_
   refine g_val (e2==0) (gy_t rfl) (fun hg=>x_mv (v:=I last) rfl) ?_
   obtain ⟨aw,hM⟩:=M.e_grd hM
   replace aw:=M.imp_of aw
   simp only [Bool.and_eq_true,decide_eq_true_eq] at aw
   refine g_val (e2==0) (gy_t rfl) (fun hg=>x_ari (a:=last) (b:=1) (r:=last+1) (gd_of (c:=e2==0) hg (I last)) rfl rfl (by have ab:=aw.resolve_left (by rw [hg]; decide); first | exact ab | exact ab.1 | exact ab.2 | omega | (have am:=hg; simp at am; omega))) ?_
   refine g_val (e2==0) (gy_t rfl) (fun hg=>x_fa (a:=Pq ac) (v:=Oq ac 1) rfl (fa_blk (o:=0) Fd27_1 Sz24)) ?_
   refine g_val (e2==0) (gy_t rfl) (fun hg=>x_ld (p:=Oq ac 1) (v:=aa) (gd_of (c:=e2==0) hg (Oq ac 1)) (ldb_sc Sc24 (H.bl 0) rfl)) ?_
   have bx:=(aq).len_le
   refine g_val (e2==0) (gy_t rfl) (fun hg=>x_lenS T24.und (gd_of (c:=e2==0) hg (aa)) aq) ?_
   refine g_val (e2==0) (gy_t rfl) (fun hg=>x_ari (a:=(s_Marks.length:Int)) (b:=1) (r:=(s_Marks.length:Int)-1) (gd_of (c:=e2==0) hg (I (s_Marks.length:Int))) rfl rfl (by have ab:=aw.resolve_left (by rw [hg]; decide); first | exact ab | exact ab.1 | exact ab.2 | omega | (have am:=hg; simp at am; omega))) ?_
   obtain ⟨r2,bf,hM⟩:=M.e_bind hM
   refine t_gcall (e2==0) (gy_t rfl) cf70 (B r2) (fun _=>[I (marks.getD s2 0),I (last+1),I ((s_Marks.length:Int)-1)]) (fun hg=>lst3 (gd_of (c:=e2==0) hg (I (marks.getD s2 0))) (gd_of (c:=e2==0) hg (I (last+1))) (gd_of (c:=e2==0) hg (I ((s_Marks.length:Int)-1)))) H (fun hg=>(zac (marks.getD s2 0) (last+1) ((s_Marks.length:Int)-1) (M.e_opt bf hg) _ (H.give (A:=[]) rfl)).mono fun v_ w_ ⟨y_,ao,aC,H_⟩=>by subst ao; exact ⟨aC,H.via H_⟩) ?_
   intro bz H
   refine g_val (e2==0) (gy_t rfl) (fun hg=>x_not (b:=r2) (gd_of (c:=e2==0) hg (B r2))) ?_
   refine s_val (x_pand (b:=e2==0) (r:=!r2) rfl (fun hb=>gd_of (c:=e2==0) (by first | exact hb | (rw [hb]; rfl) | simp_all) (B (!r2))) rfl) ?_
   refine s_nil ?_
   refine W.cond ((e2==0)&&(!r2)) rfl (fun aD=>?_) (fun aD=>?_)
   ·replace hM:=M.e_t hM aD
    refine W.region rfl ?_
    refine zA (I 2) rfl ?_
    refine s_nil ?_
    refine W.region rfl ?_
    refine zM (I (marks.getD s2 0)) rfl ?_
    refine zA (I (marks.getD s2 0)) rfl ?_
    refine s_nil ?_
    refine W.region rfl ?_
    refine zR (s2:Int) 1 ((s2:Int)+1) rfl rfl rfl (by omega) ?_
    refine zM (I ((s2:Int)+1)) rfl ?_
    refine s_nil ?_
    exact ⟨aP,aQ,2,marks.getD s2 0,s2+1,_,upds_of _ _ ⟨rfl,rfl,rfl,rfl,rfl,rfl,rfl,trivial⟩,M.e_inl hM aB,H⟩
   replace hM:=M.e_f hM aD
   refine W.skip ?_
   refine W.region rfl ?_
   refine zM (I (marks.getD s2 0)) rfl ?_
   refine zA (I (marks.getD s2 0)) rfl ?_
   refine s_nil ?_
   refine W.region rfl ?_
   refine zR (s2:Int) 1 ((s2:Int)+1) rfl rfl rfl (by omega) ?_
   refine zM (I ((s2:Int)+1)) rfl ?_
   refine s_nil ?_
   exact ⟨aP,aQ,e2,marks.getD s2 0,s2+1,_,upds_of _ _ ⟨rfl,rfl,rfl,rfl,rfl,rfl,rfl,trivial⟩,M.e_inl hM aB,H⟩
  replace hM:=M.e_f hM av
  simp only [qy1,qy2,qy3,qy4,qy5,qy6,ne_eq,qy7] at av
  refine W.exit ?_
  have bh:=M.e_inr hM aB
  subst bh
  replace hM:=ba
  try dsimp only at hM
  refine W.seq ?_
  refine W.region rfl ?_
  refine zM (.pointer none) rfl ?_
  refine zM (I e2) rfl ?_
  refine zA (.pointer none) rfl ?_
  refine zA (I e2) rfl ?_
  refine s_nil ?_
  refine W.ret ?_
  have ao:=M.e_pure hM
  exact ⟨_,resE_tmp2 rfl,.inl (⟨e2,ao,rfl,(H.pk [])⟩)⟩
 subst a7
 subst vq
 try dsimp only at hM
 replace H:=H.bk au
 clear au
 refine zM (.tuple #[Pq aj,I ap]) rfl ?_
 refine zX [Pq aj,I ap] (Pq aj) rfl rfl ?_
 refine zX [Pq aj,I ap] (I ap) rfl rfl ?_
 refine zA (Pq aj) rfl ?_
 refine zA (I ap) rfl ?_
 refine s_nil ?_
 refine W.seq ?_
 refine W.region rfl ?_
 refine zA (I (-1)) rfl ?_
 refine s_nil ?_
 refine W.seq ?_
 refine W.seq ?_
 refine W.region rfl ?_
 refine zM ae rfl ?_
 have bA:=(ak).len_le
 refine s_val (x_lenS T28.und rfl ak) ?_
 refine zM (I 0) rfl ?_
 refine s_nil ?_
 refine W.block ?_
 obtain ⟨bi,aE,bj⟩:=M.e_bind hM
 obtain ⟨bb,aE⟩:=M.e_iter aE
 refine W.loop (fun m σ W=>∃ (e2:Int) (last:Int) (s2:Nat) (ρ:Env),σ=upds ρ [(2,Pq ac),(6,Pq aj),(7,I e2),(8,I last),(16,ae),(17,I (marks.length:Int)),(18,I (s2:Int))]/\M.iterN (zcH s_Marks marks) m (e2,last,s2)=some bi/\St w W [cBlk aj [ag,aa,ai,.map (some az)] 177,cMemI encSpt az (zaa s_Sections s_Marks s_Reaches),cBlk ac [ag,aa,ai] 27] R) ?_ ?_
 ·exact ⟨_,ap,-1,0,_,upds_of _ _ ⟨rfl,rfl,rfl,rfl,rfl,rfl,rfl,trivial⟩,aE,H⟩
 rintro bB σ bC ⟨e2,last,s2,ρ,rfl,aR,H⟩
 obtain ⟨aS,aT,bD,hM,aF⟩:=M.e_iterN aR
 simp only [zcH] at hM
 clear aR
 refine W.seq ?_
 refine W.region rfl ?_
 refine zC (s2:Int) (marks.length:Int) (decide ((s2:Int)<(marks.length:Int))) rfl rfl rfl ?_
 refine s_nil ?_
 refine W.seq ?_
 refine W.cond (decide ((s2:Int)<(marks.length:Int))) rfl (fun ax=>?_) (fun ax=>?_)
 ·replace hM:=M.e_t hM ax
  simp only [qy1,qy2,qy3,qy4,qy5,qy6,ne_eq,qy7] at ax
  refine W.skip ?_
  refine W.seq ?_
  refine W.block ?_
  refine W.seq ?_
  refine W.region rfl ?_
  obtain ⟨bm,hM⟩:=M.e_grd hM
  simp only [Bool.and_eq_true,decide_eq_true_eq] at bm
  refine s_val (x_ix (a:=ae) (b:=I (s2:Int)) (v:=vat ae 1 (Int.toNat (s2:Int))) rfl rfl (Sl.ix (α:=Int) T28.und T28.size ak (by omega) (by omega))) ?_
  refine s_val (x_ld (p:=vat ae 1 (Int.toNat (s2:Int))) (v:=I (marks.getD s2 0)) rfl (ld_sc Sc3 (At.mono (Int_at ak (i:=(s2:Int)) (by omega) (by omega)) (aL.at H)))) ?_
  refine zA (I (marks.getD s2 0)) rfl ?_
  refine s_nil ?_
  refine W.seq ?_
  refine W.seq ?_
  refine W.region rfl ?_
  refine zM (I e2) rfl ?_
  refine zC e2 0 (e2==0) rfl rfl rfl ?_
  refine zM (B (e2==0)) rfl ?_
  refine g_val (e2==0) (gy_t rfl) (fun hg=>x_mv (v:=I (marks.getD s2 0)) rfl) ?_
  refine g_val (e2==0) (gy_t rfl) (fun hg=>x_mv (v:=I last) rfl) ?_
  obtain ⟨ay,hM⟩:=M.e_grd hM
  replace ay:=M.imp_of ay
  simp only [Bool.and_eq_true,decide_eq_true_eq] at ay
  refine g_val (e2==0) (gy_t rfl) (fun hg=>x_ari (a:=last) (b:=1) (r:=last+1) (gd_of (c:=e2==0) hg (I last)) rfl rfl (by have ab:=ay.resolve_left (by rw [hg]; decide); first | exact ab | exact ab.1 | exact ab.2 | omega | (have am:=hg; simp at am; omega))) ?_
  refine g_val (e2==0) (gy_t rfl) (fun hg=>x_fa (a:=Pq ac) (v:=Oq ac 1) rfl (fa_blk (o:=0) Fd27_1 Sz24)) ?_
  refine g_val (e2==0) (gy_t rfl) (fun hg=>x_ld (p:=Oq ac 1) (v:=aa) (gd_of (c:=e2==0) hg (Oq ac 1)) (ldb_sc Sc24 (H.bl 2) rfl)) ?_
  have bE:=(aq).len_le
  refine g_val (e2==0) (gy_t rfl) (fun hg=>x_lenS T24.und (gd_of (c:=e2==0) hg (aa)) aq) ?_
  refine g_val (e2==0) (gy_t rfl) (fun hg=>x_ari (a:=(s_Marks.length:Int)) (b:=1) (r:=(s_Marks.length:Int)-1) (gd_of (c:=e2==0) hg (I (s_Marks.length:Int))) rfl rfl (by have ab:=ay.resolve_left (by rw [hg]; decide); first | exact ab | exact ab.1 | exact ab.2 | omega | (have am:=hg; simp at am; omega))) ?_
  obtain ⟨r2,bn,hM⟩:=M.e_bind hM
  refine t_gcall (e2==0) (gy_t rfl) cf70 (B r2) (fun _=>[I (marks.getD s2 0),I (last+1),I ((s_Marks.length:Int)-1)]) (fun hg=>lst3 (gd_of (c:=e2==0) hg (I (marks.getD s2 0))) (gd_of (c:=e2==0) hg (I (last+1))) (gd_of (c:=e2==0) hg (I ((s_Marks.length:Int)-1)))) H (fun hg=>(zac (marks.getD s2 0) (last+1) ((s_Marks.length:Int)-1) (M.e_opt bn hg) _ (H.give (A:=[]) rfl)).mono fun v_ w_ ⟨y_,ao,aC,H_⟩=>by subst ao; exact ⟨aC,H.via H_⟩) ?_
  intro bF H
  refine g_val (e2==0) (gy_t rfl) (fun hg=>x_not (b:=r2) (gd_of (c:=e2==0) hg (B r2))) ?_
  refine s_val (x_pand (b:=e2==0) (r:=!r2) rfl (fun hb=>gd_of (c:=e2==0) (by first | exact hb | (rw [hb]; rfl) | simp_all) (B (!r2))) rfl) ?_
  refine s_nil ?_
  refine W.cond ((e2==0)&&(!r2)) rfl (fun aG=>?_) (fun aG=>?_)
  ·replace hM:=M.e_t hM aG
   refine W.region rfl ?_
   refine zA (I 2) rfl ?_
   refine s_nil ?_
   refine W.region rfl ?_
   refine zM (I (marks.getD s2 0)) rfl ?_
   refine zA (I (marks.getD s2 0)) rfl ?_
   refine s_nil ?_
   refine W.region rfl ?_
   refine zR (s2:Int) 1 ((s2:Int)+1) rfl rfl rfl (by omega) ?_
   refine zM (I ((s2:Int)+1)) rfl ?_
   refine s_nil ?_
   exact ⟨aS,aT,2,marks.getD s2 0,s2+1,_,upds_of _ _ ⟨rfl,rfl,rfl,rfl,rfl,rfl,rfl,trivial⟩,M.e_inl hM aF,H⟩
  replace hM:=M.e_f hM aG
  refine W.skip ?_
  refine W.region rfl ?_
  refine zM (I (marks.getD s2 0)) rfl ?_
  refine zA (I (marks.getD s2 0)) rfl ?_
  refine s_nil ?_
  refine W.region rfl ?_
  refine zR (s2:Int) 1 ((s2:Int)+1) rfl rfl rfl (by omega) ?_
  refine zM (I ((s2:Int)+1)) rfl ?_
  refine s_nil ?_
  exact ⟨aS,aT,e2,marks.getD s2 0,s2+1,_,upds_of _ _ ⟨rfl,rfl,rfl,rfl,rfl,rfl,rfl,trivial⟩,M.e_inl hM aF,H⟩
 replace hM:=M.e_f hM ax
 simp only [qy1,qy2,qy3,qy4,qy5,qy6,ne_eq,qy7] at ax
 refine W.exit ?_
 have bo:=M.e_inr hM aF
 subst bo
 replace hM:=bj
 try dsimp only at hM
 refine W.seq ?_
 refine W.region rfl ?_
 refine zM (Pq aj) rfl ?_
 refine zM (I e2) rfl ?_
 refine zA (Pq aj) rfl ?_
 refine zA (I e2) rfl ?_
 refine s_nil ?_
 refine W.ret ?_
 have ao:=M.e_pure hM
 exact ⟨_,resE_tmp2 rfl,.inr (⟨e2,aj,az,ao,rfl,(H.pk [0,1])⟩)⟩

def zdl (s_Sections:List Sect) (s_Marks:List Mrk) (s_Reaches:List Rch) (marks:List Int) (reach:Int):M ((Int × Int × Int × Int × Bool × Int) ⊕ (Int × Int × Int × Int × Bool × Int)) :=
  M.bind (zcw s_Sections s_Marks s_Reaches marks) fun x_=>match x_ with
  | (.inl r1)=>(
  M.bind (M.opt (r1==0) (zab reach 0 ((s_Reaches.length:Int)-1)) false) fun r2 =>
  bif ((r1==0)&&(!r2)) then (
  M.pure (.inl (0,0,0,0,false,2)))
  else (
  bif r1 != 0 then (
  M.pure (.inl (0,0,0,0,false,r1)))
  else (
  M.grd (decide ((0:Int)<=reach)&&decide (reach<(s_Reaches.length:Int))) <|
  M.pure (.inl (((s_Reaches.getD (Int.toNat reach) default).up),((s_Reaches.getD (Int.toNat reach) default).down),((s_Reaches.getD (Int.toNat reach) default).lo),((s_Reaches.getD (Int.toNat reach) default).hi),((s_Reaches.getD (Int.toNat reach) default).narrow),0)))))
  | (.inr aa)=>(
  M.bind (M.opt (aa==0) (zab reach 0 ((s_Reaches.length:Int)-1)) false) fun r2 =>
  bif ((aa==0)&&(!r2)) then (
  M.pure (.inl (0,0,0,0,false,2)))
  else (
  bif aa != 0 then (
  M.pure (.inl (0,0,0,0,false,aa)))
  else (
  M.grd (decide ((0:Int)<=reach)&&decide (reach<(s_Reaches.length:Int))) <|
  M.pure (.inr (((s_Reaches.getD (Int.toNat reach) default).up),((s_Reaches.getD (Int.toNat reach) default).down),((s_Reaches.getD (Int.toNat reach) default).lo),((s_Reaches.getD (Int.toNat reach) default).hi),((s_Reaches.getD (Int.toNat reach) default).narrow),0)))))
theorem zeh {R:List Chunk} {aA:Cells} {ag:Value} {aB:Cells} {ai:Value} {aC:Cells} {ab:Value} {aD:Cells} {au:Value} (s_Sections:List Sect) (s_Marks:List Mrk) (s_Reaches:List Rch) (marks:List Int) (reach:Int) (aI:Reads R aA) (aJ:Sl aA ag s_Sections) (aK:Reads R aB) (aL:Sl aB ai s_Marks) (av:Reads R aC) (ak:Sl aC ab s_Reaches) (aM:Reads R aD) (aN:Sl aD au marks) {r:((Int × Int × Int × Int × Bool × Int) ⊕ (Int × Int × Int × Int × Bool × Int))} (hM:(zdl s_Sections s_Marks s_Reaches marks reach).Ends r) (w:World) (H:St w w [] R):Ret Tryz.prog 65 #[.agg #[ag,ai,ab],au,I reach] w fun v w'=>(∃ (y0:Int) (y1:Int) (y2:Int) (y3:Int) (y4:Bool) (y5:Int),(.inl (y0,y1,y2,y3,y4,y5))=r/\v = .tuple #[.pointer none,.agg #[I y0,I y1,I y2,I y3,B y4],I y5]/\St w w' [] R)∨(∃ (y0:Int) (y1:Int) (y2:Int) (y3:Int) (y4:Bool) (y5:Int) (aE:Nat) (aF:Nat),(.inr (y0,y1,y2,y3,y4,y5))=r/\v = .tuple #[Pq aE,.agg #[I y0,I y1,I y2,I y3,B y4],I y5]/\St w w' [cBlk aE [ag,ai,ab,.map (some aF)] 177,cMemI encSpt aF (zaa s_Sections s_Marks s_Reaches)] R):=by
 refine ret_of_W Tryz.func65 rfl rfl rfl ?_
 refine W.seq ?_
 refine W.region rfl ?_
 refine t_box (v:=.agg #[ag,ai,ab]) (cs:=[ag,ai,ab]) H rfl rfl ?_
 intro ac a7 H
 refine zA (.pointer none) rfl ?_
 refine t_alloc (cs:=[I 0,I 0,I 0,I 0,B false]) H Al58 rfl ?_
 intro a8 ba H
 refine zA (I 0) rfl ?_
 refine s_nil ?_
 refine W.seq ?_
 refine W.region rfl ?_
 refine s_val (x_ld (p:=Pq ac) (v:=.agg #[ag,ai,ab]) rfl (ldb_ag (ds:=[ag,ai,ab]) Ag27 Sz27 (H.bl 1) rfl rfl)) ?_
 refine zM au rfl ?_
 obtain ⟨bb,aO,hM⟩:=M.e_bind hM
 refine s_call cf57 [.agg #[ag,ai,ab],au] rfl (zc9 s_Sections s_Marks s_Reaches marks (aI.app _) aJ (aK.app _) aL (av.app _) ak (aM.app _) aN aO _ (H.gt 2)) ?_
 rintro vq bc (⟨r1,aP,hvq,ao⟩ | ⟨aa,aj,aw,aQ,hvq,ao⟩)
 ·subst aP
  subst vq
  try dsimp only at hM
  replace H:=H.bk ao
  clear ao
  refine zM (.tuple #[.pointer none,I r1]) rfl ?_
  refine zX [.pointer none,I r1] (.pointer none) rfl rfl ?_
  refine zX [.pointer none,I r1] (I r1) rfl rfl ?_
  refine zA (.pointer none) rfl ?_
  refine zA (I r1) rfl ?_
  refine s_nil ?_
  refine W.seq ?_
  refine W.seq ?_
  refine W.region rfl ?_
  refine zM (I r1) rfl ?_
  refine zC r1 0 (r1==0) rfl rfl rfl ?_
  refine zM (B (r1==0)) rfl ?_
  refine g_val (r1==0) (gy_t rfl) (fun hg=>x_mv (v:=I reach) rfl) ?_
  refine g_val (r1==0) (gy_t rfl) (fun hg=>x_fa (a:=Pq ac) (v:=Oq ac 2) rfl (fa_blk (o:=0) Fd27_2 Sz25)) ?_
  refine g_val (r1==0) (gy_t rfl) (fun hg=>x_ld (p:=Oq ac 2) (v:=ab) (gd_of (c:=r1==0) hg (Oq ac 2)) (ldb_sc Sc25 (H.bl 1) rfl)) ?_
  have bf:=(ak).len_le
  refine g_val (r1==0) (gy_t rfl) (fun hg=>x_lenS T25.und (gd_of (c:=r1==0) hg (ab)) ak) ?_
  refine g_val (r1==0) (gy_t rfl) (fun hg=>x_ari (a:=(s_Reaches.length:Int)) (b:=1) (r:=(s_Reaches.length:Int)-1) (gd_of (c:=r1==0) hg (I (s_Reaches.length:Int))) rfl rfl (by first | omega | (have am:=hg; simp at am; omega))) ?_
  obtain ⟨r2,aR,hM⟩:=M.e_bind hM
  refine t_gcall (r1==0) (gy_t rfl) cf70 (B r2) (fun _=>[I reach,I 0,I ((s_Reaches.length:Int)-1)]) (fun hg=>lst3 (gd_of (c:=r1==0) hg (I reach)) rfl (gd_of (c:=r1==0) hg (I ((s_Reaches.length:Int)-1)))) H (fun hg=>(zac reach 0 ((s_Reaches.length:Int)-1) (M.e_opt aR hg) _ (H.give (A:=[]) rfl)).mono fun v_ w_ ⟨y_,ae,ax,H_⟩=>by subst ae; exact ⟨ax,H.via H_⟩) ?_
  intro bh H
  refine g_val (r1==0) (gy_t rfl) (fun hg=>x_not (b:=r2) (gd_of (c:=r1==0) hg (B r2))) ?_
  refine s_val (x_pand (b:=r1==0) (r:=!r2) rfl (fun hb=>gd_of (c:=r1==0) (by first | exact hb | (rw [hb]; rfl) | simp_all) (B (!r2))) rfl) ?_
  refine s_nil ?_
  refine W.cond ((r1==0)&&(!r2)) rfl (fun ay=>?_) (fun ay=>?_)
  ·replace hM:=M.e_t hM ay
   refine W.region rfl ?_
   refine zA (I 2) rfl ?_
   refine s_nil ?_
   refine W.seq ?_
   refine W.seq ?_
   refine W.region rfl ?_
   refine zM (I 2) rfl ?_
   refine zC 2 0 ((2:Int) != 0) rfl rfl rfl ?_
   refine s_nil ?_
   refine W.cond ((2:Int) != 0) rfl (fun aG=>?_) (fun aG=>?_)
   ·skip
    refine W.seq ?_
    refine W.region rfl ?_
    refine s_val (x_bld (ps:=[]) (zs:=[I 0,I 0,I 0,I 0,B false]) (L':=[I 0,I 0,I 0,I 0,B false]) rfl Tryz.underlying58 Al58 rfl (Bd58 Tryz.underlying58) (.nil)) ?_
    refine zM (I 2) rfl ?_
    refine zA (.pointer none) rfl ?_
    refine t_sw 0 0 [I 0,I 0,I 0,I 0,B false] (.agg #[I 0,I 0,I 0,I 0,B false]) H rfl rfl Sz58 rfl rfl rfl rfl ?_
    intro bi H
    refine zA (I 2) rfl ?_
    refine s_nil ?_
    refine W.ret ?_
    have aS:=(H.bl 0)
    have ae:=M.e_pure hM
    exact ⟨_,(resE_ofn (vs:=[.pointer none,.agg #[I 0,I 0,I 0,I 0,B false],I 2]) rfl rfl (.tmp (v:=.pointer none) rfl<|.cell (v:=.agg #[I 0,I 0,I 0,I 0,B false]) rfl (run_loadVar_ag (ds:=[I 0,I 0,I 0,I 0,B false]) Ag58 Sz58 aS rfl rfl)<|.tmp (v:=I 2) rfl<|.nil)),.inl (⟨0,0,0,0,false,2,ae,rfl,(H.pk [])⟩)⟩
   skip
   exact absurd aG (by decide)
  replace hM:=M.e_f hM ay
  refine W.skip ?_
  refine W.seq ?_
  refine W.seq ?_
  refine W.region rfl ?_
  refine zM (I r1) rfl ?_
  refine zC r1 0 (r1 != 0) rfl rfl rfl ?_
  refine s_nil ?_
  refine W.cond (r1 != 0) rfl (fun ap=>?_) (fun ap=>?_)
  ·replace hM:=M.e_t hM ap
   simp only [qy1,qy2,qy3,qy4,qy5,qy6,ne_eq,qy7] at ap
   refine W.seq ?_
   refine W.region rfl ?_
   refine s_val (x_bld (ps:=[]) (zs:=[I 0,I 0,I 0,I 0,B false]) (L':=[I 0,I 0,I 0,I 0,B false]) rfl Tryz.underlying58 Al58 rfl (Bd58 Tryz.underlying58) (.nil)) ?_
   refine zM (I r1) rfl ?_
   refine zA (.pointer none) rfl ?_
   refine t_sw 0 0 [I 0,I 0,I 0,I 0,B false] (.agg #[I 0,I 0,I 0,I 0,B false]) H rfl rfl Sz58 rfl rfl rfl rfl ?_
   intro bj H
   refine zA (I r1) rfl ?_
   refine s_nil ?_
   refine W.ret ?_
   have aT:=(H.bl 0)
   have ae:=M.e_pure hM
   exact ⟨_,(resE_ofn (vs:=[.pointer none,.agg #[I 0,I 0,I 0,I 0,B false],I r1]) rfl rfl (.tmp (v:=.pointer none) rfl<|.cell (v:=.agg #[I 0,I 0,I 0,I 0,B false]) rfl (run_loadVar_ag (ds:=[I 0,I 0,I 0,I 0,B false]) Ag58 Sz58 aT rfl rfl)<|.tmp (v:=I r1) rfl<|.nil)),.inl (⟨0,0,0,0,false,r1,ae,rfl,(H.pk [])⟩)⟩
  replace hM:=M.e_f hM ap
  simp only [qy1,qy2,qy3,qy4,qy5,qy6,ne_eq,qy7] at ap
  refine W.skip ?_
  refine W.seq ?_
  refine W.draw (fun W=>St w W [cBlk ac [ag,ai,ab] 27] R) [(0,true),(1,true),(2,true),(3,true),(4,true),(5,true),(6,true),(7,false),(8,true)] mixed (by decide +kernel) rfl ?_
  intro bm am
  replace H:=H.ext am
  clear am
  refine ⟨(H.pk [1]),?_⟩
  refine d_q rfl (fun w' H=>x_mv (v:=.pointer none) rfl) ?_
  refine d_q rfl (fun w' H=>x_fa (a:=Pq ac) (v:=Oq ac 2) rfl (fa_blk (o:=0) Fd27_2 Sz25)) ?_
  refine d_q rfl (fun w' H=>x_ld (p:=Oq ac 2) (v:=ab) rfl (ldb_sc Sc25 (H.bl 0) rfl)) ?_
  refine d_q rfl (fun w' H=>x_mv (v:=I reach) rfl) ?_
  obtain ⟨aU,hM⟩:=M.e_grd hM
  simp only [Bool.and_eq_true,decide_eq_true_eq] at aU
  refine d_q rfl (fun w' H=>x_ix (a:=ab) (b:=I reach) (v:=vat ab 5 (Int.toNat reach)) rfl rfl (Sl.ix (α:=Rch) T25.und T25.size ak (by omega) (by omega))) ?_
  refine d_q rfl (fun w' H=>x_ld (p:=vat ab 5 (Int.toNat reach)) (v:=.agg #[I ((s_Reaches.getD (Int.toNat reach) default).up),I ((s_Reaches.getD (Int.toNat reach) default).down),I ((s_Reaches.getD (Int.toNat reach) default).lo),I ((s_Reaches.getD (Int.toNat reach) default).hi),B ((s_Reaches.getD (Int.toNat reach) default).narrow)]) rfl (ld_ag Ag58 Sz58 (At.mono (Rch_atA ak (i:=reach) (by omega) (by omega)) (av.at H)))) ?_
  refine d_q rfl (fun w' H=>x_as (v:=.pointer none) rfl) ?_
  refine d_l rfl ?_
  refine t_sw 0 0 [I ((s_Reaches.getD (Int.toNat reach) default).up),I ((s_Reaches.getD (Int.toNat reach) default).down),I ((s_Reaches.getD (Int.toNat reach) default).lo),I ((s_Reaches.getD (Int.toNat reach) default).hi),B ((s_Reaches.getD (Int.toNat reach) default).narrow)] (.agg #[I ((s_Reaches.getD (Int.toNat reach) default).up),I ((s_Reaches.getD (Int.toNat reach) default).down),I ((s_Reaches.getD (Int.toNat reach) default).lo),I ((s_Reaches.getD (Int.toNat reach) default).hi),B ((s_Reaches.getD (Int.toNat reach) default).narrow)]) H rfl rfl Sz58 rfl rfl rfl rfl ?_
  intro bn H
  refine s_nil ⟨(H.pk [1]),?_⟩
  refine d_q rfl (fun w' H=>x_as (v:=I 0) rfl) ?_
  refine d_nil ?_
  refine W.ret ?_
  have aV:=(H.bl 0)
  have ae:=M.e_pure hM
  exact ⟨_,(resE_ofn (vs:=[.pointer none,.agg #[I ((s_Reaches.getD (Int.toNat reach) default).up),I ((s_Reaches.getD (Int.toNat reach) default).down),I ((s_Reaches.getD (Int.toNat reach) default).lo),I ((s_Reaches.getD (Int.toNat reach) default).hi),B ((s_Reaches.getD (Int.toNat reach) default).narrow)],I 0]) rfl rfl (.tmp (v:=.pointer none) rfl<|.cell (v:=.agg #[I ((s_Reaches.getD (Int.toNat reach) default).up),I ((s_Reaches.getD (Int.toNat reach) default).down),I ((s_Reaches.getD (Int.toNat reach) default).lo),I ((s_Reaches.getD (Int.toNat reach) default).hi),B ((s_Reaches.getD (Int.toNat reach) default).narrow)]) rfl (run_loadVar_ag (ds:=[I ((s_Reaches.getD (Int.toNat reach) default).up),I ((s_Reaches.getD (Int.toNat reach) default).down),I ((s_Reaches.getD (Int.toNat reach) default).lo),I ((s_Reaches.getD (Int.toNat reach) default).hi),B ((s_Reaches.getD (Int.toNat reach) default).narrow)]) Ag58 Sz58 aV rfl rfl)<|.tmp (v:=I 0) rfl<|.nil)),.inl (⟨((s_Reaches.getD (Int.toNat reach) default).up),((s_Reaches.getD (Int.toNat reach) default).down),((s_Reaches.getD (Int.toNat reach) default).lo),((s_Reaches.getD (Int.toNat reach) default).hi),((s_Reaches.getD (Int.toNat reach) default).narrow),0,ae,rfl,(H.pk [])⟩)⟩
 subst aQ
 subst vq
 try dsimp only at hM
 replace H:=H.bk ao
 clear ao
 refine zM (.tuple #[Pq aj,I aa]) rfl ?_
 refine zX [Pq aj,I aa] (Pq aj) rfl rfl ?_
 refine zX [Pq aj,I aa] (I aa) rfl rfl ?_
 refine zA (Pq aj) rfl ?_
 refine zA (I aa) rfl ?_
 refine s_nil ?_
 refine W.seq ?_
 refine W.seq ?_
 refine W.region rfl ?_
 refine zM (I aa) rfl ?_
 refine zC aa 0 (aa==0) rfl rfl rfl ?_
 refine zM (B (aa==0)) rfl ?_
 refine g_val (aa==0) (gy_t rfl) (fun hg=>x_mv (v:=I reach) rfl) ?_
 refine g_val (aa==0) (gy_t rfl) (fun hg=>x_fa (a:=Pq ac) (v:=Oq ac 2) rfl (fa_blk (o:=0) Fd27_2 Sz25)) ?_
 refine g_val (aa==0) (gy_t rfl) (fun hg=>x_ld (p:=Oq ac 2) (v:=ab) (gd_of (c:=aa==0) hg (Oq ac 2)) (ldb_sc Sc25 (H.bl 3) rfl)) ?_
 have bo:=(ak).len_le
 refine g_val (aa==0) (gy_t rfl) (fun hg=>x_lenS T25.und (gd_of (c:=aa==0) hg (ab)) ak) ?_
 refine g_val (aa==0) (gy_t rfl) (fun hg=>x_ari (a:=(s_Reaches.length:Int)) (b:=1) (r:=(s_Reaches.length:Int)-1) (gd_of (c:=aa==0) hg (I (s_Reaches.length:Int))) rfl rfl (by first | omega | (have am:=hg; simp at am; omega))) ?_
 obtain ⟨r2,aW,hM⟩:=M.e_bind hM
 refine t_gcall (aa==0) (gy_t rfl) cf70 (B r2) (fun _=>[I reach,I 0,I ((s_Reaches.length:Int)-1)]) (fun hg=>lst3 (gd_of (c:=aa==0) hg (I reach)) rfl (gd_of (c:=aa==0) hg (I ((s_Reaches.length:Int)-1)))) H (fun hg=>(zac reach 0 ((s_Reaches.length:Int)-1) (M.e_opt aW hg) _ (H.give (A:=[]) rfl)).mono fun v_ w_ ⟨y_,ae,ax,H_⟩=>by subst ae; exact ⟨ax,H.via H_⟩) ?_
 intro bp H
 refine g_val (aa==0) (gy_t rfl) (fun hg=>x_not (b:=r2) (gd_of (c:=aa==0) hg (B r2))) ?_
 refine s_val (x_pand (b:=aa==0) (r:=!r2) rfl (fun hb=>gd_of (c:=aa==0) (by first | exact hb | (rw [hb]; rfl) | simp_all) (B (!r2))) rfl) ?_
 refine s_nil ?_
 refine W.cond ((aa==0)&&(!r2)) rfl (fun az=>?_) (fun az=>?_)
 ·replace hM:=M.e_t hM az
  refine W.region rfl ?_
  refine zA (I 2) rfl ?_
  refine s_nil ?_
  refine W.seq ?_
  refine W.seq ?_
  refine W.region rfl ?_
  refine zM (I 2) rfl ?_
  refine zC 2 0 ((2:Int) != 0) rfl rfl rfl ?_
  refine s_nil ?_
  refine W.cond ((2:Int) != 0) rfl (fun aH=>?_) (fun aH=>?_)
  ·skip
   refine W.seq ?_
   refine W.region rfl ?_
   refine s_val (x_bld (ps:=[]) (zs:=[I 0,I 0,I 0,I 0,B false]) (L':=[I 0,I 0,I 0,I 0,B false]) rfl Tryz.underlying58 Al58 rfl (Bd58 Tryz.underlying58) (.nil)) ?_
   refine zM (I 2) rfl ?_
   refine zA (.pointer none) rfl ?_
   refine t_sw 2 0 [I 0,I 0,I 0,I 0,B false] (.agg #[I 0,I 0,I 0,I 0,B false]) H rfl rfl Sz58 rfl rfl rfl rfl ?_
   intro bq H
   refine zA (I 2) rfl ?_
   refine s_nil ?_
   replace H:=H.pk [2]
   refine W.ret ?_
   have aX:=(H.bl 0)
   have ae:=M.e_pure hM
   exact ⟨_,(resE_ofn (vs:=[.pointer none,.agg #[I 0,I 0,I 0,I 0,B false],I 2]) rfl rfl (.tmp (v:=.pointer none) rfl<|.cell (v:=.agg #[I 0,I 0,I 0,I 0,B false]) rfl (run_loadVar_ag (ds:=[I 0,I 0,I 0,I 0,B false]) Ag58 Sz58 aX rfl rfl)<|.tmp (v:=I 2) rfl<|.nil)),.inl (⟨0,0,0,0,false,2,ae,rfl,(H.pk [])⟩)⟩
  skip
  exact absurd aH (by decide)
 replace hM:=M.e_f hM az
 refine W.skip ?_
 refine W.seq ?_
 refine W.seq ?_
 refine W.region rfl ?_
 refine zM (I aa) rfl ?_
 refine zC aa 0 (aa != 0) rfl rfl rfl ?_
 refine s_nil ?_
 refine W.cond (aa != 0) rfl (fun aq=>?_) (fun aq=>?_)
 ·replace hM:=M.e_t hM aq
  simp only [qy1,qy2,qy3,qy4,qy5,qy6,ne_eq,qy7] at aq
  refine W.seq ?_
  refine W.region rfl ?_
  refine s_val (x_bld (ps:=[]) (zs:=[I 0,I 0,I 0,I 0,B false]) (L':=[I 0,I 0,I 0,I 0,B false]) rfl Tryz.underlying58 Al58 rfl (Bd58 Tryz.underlying58) (.nil)) ?_
  refine zM (I aa) rfl ?_
  refine zA (.pointer none) rfl ?_
  refine t_sw 2 0 [I 0,I 0,I 0,I 0,B false] (.agg #[I 0,I 0,I 0,I 0,B false]) H rfl rfl Sz58 rfl rfl rfl rfl ?_
  intro br H
  refine zA (I aa) rfl ?_
  refine s_nil ?_
  replace H:=H.pk [2]
  refine W.ret ?_
  have aY:=(H.bl 0)
  have ae:=M.e_pure hM
  exact ⟨_,(resE_ofn (vs:=[.pointer none,.agg #[I 0,I 0,I 0,I 0,B false],I aa]) rfl rfl (.tmp (v:=.pointer none) rfl<|.cell (v:=.agg #[I 0,I 0,I 0,I 0,B false]) rfl (run_loadVar_ag (ds:=[I 0,I 0,I 0,I 0,B false]) Ag58 Sz58 aY rfl rfl)<|.tmp (v:=I aa) rfl<|.nil)),.inl (⟨0,0,0,0,false,aa,ae,rfl,(H.pk [])⟩)⟩
 replace hM:=M.e_f hM aq
 simp only [qy1,qy2,qy3,qy4,qy5,qy6,ne_eq,qy7] at aq
 refine W.skip ?_
 refine W.seq ?_
 refine W.draw (fun W=>St w W [cBlk aj [ag,ai,ab,.map (some aw)] 177,cMemI encSpt aw (zaa s_Sections s_Marks s_Reaches),cBlk ac [ag,ai,ab] 27] R) [(0,true),(1,true),(2,true),(3,true),(4,true),(5,true),(6,true),(7,false),(8,true)] mixed (by decide +kernel) rfl ?_
 intro bt am
 replace H:=H.ext am
 clear am
 refine ⟨(H.pk [0,1,3]),?_⟩
 refine d_q rfl (fun w' H=>x_mv (v:=Pq aj) rfl) ?_
 refine d_q rfl (fun w' H=>x_fa (a:=Pq ac) (v:=Oq ac 2) rfl (fa_blk (o:=0) Fd27_2 Sz25)) ?_
 refine d_q rfl (fun w' H=>x_ld (p:=Oq ac 2) (v:=ab) rfl (ldb_sc Sc25 (H.bl 2) rfl)) ?_
 refine d_q rfl (fun w' H=>x_mv (v:=I reach) rfl) ?_
 obtain ⟨aZ,hM⟩:=M.e_grd hM
 simp only [Bool.and_eq_true,decide_eq_true_eq] at aZ
 refine d_q rfl (fun w' H=>x_ix (a:=ab) (b:=I reach) (v:=vat ab 5 (Int.toNat reach)) rfl rfl (Sl.ix (α:=Rch) T25.und T25.size ak (by omega) (by omega))) ?_
 refine d_q rfl (fun w' H=>x_ld (p:=vat ab 5 (Int.toNat reach)) (v:=.agg #[I ((s_Reaches.getD (Int.toNat reach) default).up),I ((s_Reaches.getD (Int.toNat reach) default).down),I ((s_Reaches.getD (Int.toNat reach) default).lo),I ((s_Reaches.getD (Int.toNat reach) default).hi),B ((s_Reaches.getD (Int.toNat reach) default).narrow)]) rfl (ld_ag Ag58 Sz58 (At.mono (Rch_atA ak (i:=reach) (by omega) (by omega)) (av.at H)))) ?_
 refine d_q rfl (fun w' H=>x_as (v:=Pq aj) rfl) ?_
 refine d_l rfl ?_
 refine t_sw 2 0 [I ((s_Reaches.getD (Int.toNat reach) default).up),I ((s_Reaches.getD (Int.toNat reach) default).down),I ((s_Reaches.getD (Int.toNat reach) default).lo),I ((s_Reaches.getD (Int.toNat reach) default).hi),B ((s_Reaches.getD (Int.toNat reach) default).narrow)] (.agg #[I ((s_Reaches.getD (Int.toNat reach) default).up),I ((s_Reaches.getD (Int.toNat reach) default).down),I ((s_Reaches.getD (Int.toNat reach) default).lo),I ((s_Reaches.getD (Int.toNat reach) default).hi),B ((s_Reaches.getD (Int.toNat reach) default).narrow)]) H rfl rfl Sz58 rfl rfl rfl rfl ?_
 intro bu H
 refine s_nil ⟨(H.pk [0,1,3]),?_⟩
 refine d_q rfl (fun w' H=>x_as (v:=I 0) rfl) ?_
 refine d_nil ?_
 refine W.ret ?_
 have a6:=(H.bl 2)
 have ae:=M.e_pure hM
 exact ⟨_,(resE_ofn (vs:=[Pq aj,.agg #[I ((s_Reaches.getD (Int.toNat reach) default).up),I ((s_Reaches.getD (Int.toNat reach) default).down),I ((s_Reaches.getD (Int.toNat reach) default).lo),I ((s_Reaches.getD (Int.toNat reach) default).hi),B ((s_Reaches.getD (Int.toNat reach) default).narrow)],I 0]) rfl rfl (.tmp (v:=Pq aj) rfl<|.cell (v:=.agg #[I ((s_Reaches.getD (Int.toNat reach) default).up),I ((s_Reaches.getD (Int.toNat reach) default).down),I ((s_Reaches.getD (Int.toNat reach) default).lo),I ((s_Reaches.getD (Int.toNat reach) default).hi),B ((s_Reaches.getD (Int.toNat reach) default).narrow)]) rfl (run_loadVar_ag (ds:=[I ((s_Reaches.getD (Int.toNat reach) default).up),I ((s_Reaches.getD (Int.toNat reach) default).down),I ((s_Reaches.getD (Int.toNat reach) default).lo),I ((s_Reaches.getD (Int.toNat reach) default).hi),B ((s_Reaches.getD (Int.toNat reach) default).narrow)]) Ag58 Sz58 a6 rfl rfl)<|.tmp (v:=I 0) rfl<|.nil)),.inr (⟨((s_Reaches.getD (Int.toNat reach) default).up),((s_Reaches.getD (Int.toNat reach) default).down),((s_Reaches.getD (Int.toNat reach) default).lo),((s_Reaches.getD (Int.toNat reach) default).hi),((s_Reaches.getD (Int.toNat reach) default).narrow),0,aj,aw,ae,rfl,(H.pk [0,1])⟩)⟩

def zay (s:List Int) (f:Int->M Bool):Nat->M (Nat ⊕ (Int ⊕ Unit)):=fun s2 =>
  bif decide ((s2:Int)<(s.length:Int)) then (
  M.grd (decide ((s2:Int)<(s.length:Int))) <|
  M.bind (f (s.getD s2 0)) fun r2 =>
  bif r2 then (
  M.pure (.inr (.inl (s2:Int))))
  else (
  M.pure (.inl (s2+1))))
  else (
  M.pure (.inr (.inr ())))
def zca (s:List Int) (f:Int->M Bool):M Int :=
  M.bind (M.iter (zay s f) 0) fun x_=>match x_ with
  | (.inl s3)=>(
  M.pure s3)
  | (.inr (_:Unit))=>(
  M.pure (-1))
theorem zdF {R:List Chunk} {am:Cells} {aa:Value} {ac:Value} (s:List Int) (f:Int->M Bool) (aq:Reads R am) (ae:Sl am aa s) (au:FnM Tryz.prog R ac f) {r:Int} (hM:(zca s f).Ends r) (w:World) (H:St w w [] R):Ret Tryz.prog 144 #[aa,ac] w fun v w'=>∃ (y0:Int),y0=r/\v=I y0/\St w w' [] R:=by
 refine ret_of_W Tryz.func144 rfl rfl rfl ?_
 refine W.seq ?_
 refine W.region rfl ?_
 refine zA (I 0) rfl ?_
 refine s_nil ?_
 refine W.seq ?_
 refine W.seq ?_
 refine W.region rfl ?_
 refine zM aa rfl ?_
 have aC:=(ae).len_le
 refine s_val (x_lenS T28.und rfl ae) ?_
 refine zM (I 0) rfl ?_
 refine s_nil ?_
 refine W.block ?_
 obtain ⟨av,ag,ao⟩:=M.e_bind hM
 obtain ⟨aD,ag⟩:=M.e_iter ag
 refine W.loop (fun m σ W=>∃ (s2:Nat) (ρ:Env),σ=upds ρ [(0,aa),(1,ac),(7,I (s.length:Int)),(8,I (s2:Int))]/\M.iterN (zay s f) m s2=some av/\St w W [] R) ?_ ?_
 ·exact ⟨_,0,_,upds_of _ _ ⟨rfl,rfl,rfl,rfl,trivial⟩,ag,H⟩
 rintro aE σ aF ⟨s2,ρ,rfl,ap,H⟩
 obtain ⟨aw,ax,aG,hM,ai⟩:=M.e_iterN ap
 simp only [zay] at hM
 clear ap
 refine W.seq ?_
 refine W.region rfl ?_
 refine zC (s2:Int) (s.length:Int) (decide ((s2:Int)<(s.length:Int))) rfl rfl rfl ?_
 refine s_nil ?_
 refine W.seq ?_
 refine W.cond (decide ((s2:Int)<(s.length:Int))) rfl (fun ab=>?_) (fun ab=>?_)
 ·replace hM:=M.e_t hM ab
  simp only [qy1,qy2,qy3,qy4,qy5,qy6,ne_eq,qy7] at ab
  refine W.skip ?_
  refine W.seq ?_
  refine W.block ?_
  refine W.seq ?_
  refine W.region rfl ?_
  refine zM (I (s2:Int)) rfl ?_
  refine zA (I (s2:Int)) rfl ?_
  refine s_nil ?_
  refine W.seq ?_
  refine W.region rfl ?_
  refine zM ac rfl ?_
  refine zM aa rfl ?_
  refine zM (I (s2:Int)) rfl ?_
  obtain ⟨ay,hM⟩:=M.e_grd hM
  simp only [Bool.and_eq_true,decide_eq_true_eq] at ay
  refine s_val (x_ix (a:=aa) (b:=I (s2:Int)) (v:=vat aa 1 (Int.toNat (s2:Int))) rfl rfl (Sl.ix (α:=Int) T28.und T28.size ae (by omega) (by omega))) ?_
  refine s_val (x_ld (p:=vat aa 1 (Int.toNat (s2:Int))) (v:=I (s.getD s2 0)) rfl (ld_sc Sc3 (At.mono (Int_at ae (i:=(s2:Int)) (by omega) (by omega)) (aq.at H)))) ?_
  obtain ⟨r2,az,hM⟩:=M.e_bind hM
  refine t_callM H au rfl rfl (s.getD s2 0) Reads.none (Arg.mkI (fun _=>none) _) az ?_
  intro aH H
  refine s_nil ?_
  refine W.cond r2 rfl (fun aj=>?_) (fun aj=>?_)
  ·replace hM:=M.e_t hM aj
   refine W.seq ?_
   refine W.region rfl ?_
   refine zM (I (s2:Int)) rfl ?_
   refine zA (I (s2:Int)) rfl ?_
   refine s_nil ?_
   refine W.ret ?_
   have aA:=M.e_inr hM ai
   subst aA
   replace hM:=ao
   try dsimp only at hM
   have ak:=M.e_pure hM
   exact ⟨_,resE_tmp rfl,⟨(s2:Int),ak,rfl,H⟩⟩
  replace hM:=M.e_f hM aj
  refine W.skip ?_
  refine W.region rfl ?_
  refine zR (s2:Int) 1 ((s2:Int)+1) rfl rfl rfl (by omega) ?_
  refine zM (I ((s2:Int)+1)) rfl ?_
  refine s_nil ?_
  exact ⟨aw,ax,s2+1,_,upds_of _ _ ⟨rfl,rfl,rfl,rfl,trivial⟩,M.e_inl hM ai,H⟩
 replace hM:=M.e_f hM ab
 simp only [qy1,qy2,qy3,qy4,qy5,qy6,ne_eq,qy7] at ab
 refine W.exit ?_
 have aB:=M.e_inr hM ai
 subst aB
 replace hM:=ao
 try dsimp only at hM
 refine W.seq ?_
 refine W.region rfl ?_
 refine zA (I (-1)) rfl ?_
 refine s_nil ?_
 refine W.ret ?_
 have ak:=M.e_pure hM
 exact ⟨_,resE_tmp rfl,⟨(-1),ak,rfl,H⟩⟩

def zbZ (s:List Int) (f:Int->M Bool):M Bool :=
  M.bind (zca s f) fun r2 =>
  M.pure (decide (0<=r2))
theorem zeg {R:List Chunk} {ac:Cells} {aa:Value} {ab:Value} (s:List Int) (f:Int->M Bool) (ag:Reads R ac) (ai:Sl ac aa s) (aj:FnM Tryz.prog R ab f) {r:Bool} (hM:(zbZ s f).Ends r) (w:World) (H:St w w [] R):Ret Tryz.prog 132 #[aa,ab] w fun v w'=>∃ (y0:Bool),y0=r/\v=B y0/\St w w' [] R:=by
 refine ret_of_W Tryz.func132 rfl rfl rfl ?_
 refine W.seq ?_
 refine W.region rfl ?_
 refine zA (B false) rfl ?_
 refine s_nil ?_
 refine W.seq ?_
 refine W.region rfl ?_
 refine zM aa rfl ?_
 refine zM ab rfl ?_
 obtain ⟨ap,ak,hM⟩:=M.e_bind hM
 refine s_call cf144 [aa,ab] rfl (zdF s f (ag.app _) ai (aj.app _) ak _ (H.gt 0)) ?_
 rintro vq aq ⟨r2,am,hvq,ae⟩
 subst am
 subst vq
 try dsimp only at hM
 replace H:=H.bk ae
 clear ae
 refine zC r2 0 (decide (0<=r2)) rfl rfl rfl ?_
 refine zA (B (decide (0<=r2))) rfl ?_
 refine s_nil ?_
 refine W.ret ?_
 have ao:=M.e_pure hM
 exact ⟨_,resE_tmp rfl,⟨(decide (0<=r2)),ao,rfl,H⟩⟩

def zbd (x:Int) (aa:Int->M Bool):M Bool :=
  M.bind (aa x) fun r2 =>
  M.pure (!r2)
theorem zel {R:List Chunk} {aa:Nat} {ab:Value} (x:Int) (ac:Int->M Bool) (ae:FnM Tryz.prog R ab ac) (ag:Has R (cBlk aa [ab] 157)) {r:Bool} (hM:(zbd x ac).Ends r) (w:World) (H:St w w [] R):Ret Tryz.prog 133 #[I x,Pq aa] w fun v w'=>∃ (y0:Bool),y0=r/\v=B y0/\St w w' [] R:=by
 refine ret_of_W Tryz.func133 rfl rfl rfl ?_
 refine W.seq ?_
 refine W.region rfl ?_
 refine zA (B false) rfl ?_
 refine s_nil ?_
 refine W.seq ?_
 refine W.region rfl ?_
 refine s_val (x_ld (p:=Pq aa) (v:=ab) rfl (ldb_sc Sc157 (ag.blk H) rfl)) ?_
 refine zM (I x) rfl ?_
 obtain ⟨r2,ai,hM⟩:=M.e_bind hM
 refine t_callM H ae rfl rfl x Reads.none (Arg.mkI (fun _=>none) _) ai ?_
 intro ak H
 refine s_val (x_not (b:=r2) rfl) ?_
 refine zA (B (!r2)) rfl ?_
 refine s_nil ?_
 refine W.ret ?_
 have aj:=M.e_pure hM
 exact ⟨_,resE_tmp rfl,⟨(!r2),aj,rfl,H⟩⟩

def zag (l:List Int) (so:Int->M Bool):M Bool :=
  M.bind (zbZ l (fun aa=>zbd aa so)) fun r2 =>
  M.pure (!r2)
theorem zbH {R:List Chunk} {ag:Cells} {aa:Value} {ab:Value} (l:List Int) (so:Int->M Bool) (am:Reads R ag) (ao:Sl ag aa l) (ai:FnM Tryz.prog R ab so) {r:Bool} (hM:(zag l so).Ends r) (w:World) (H:St w w [] R):Ret Tryz.prog 99 #[aa,ab] w fun v w'=>∃ (y0:Bool),y0=r/\v=B y0/\St w w' [] R:=by
 refine ret_of_W Tryz.func99 rfl rfl rfl ?_
 refine W.seq ?_
 refine W.region rfl ?_
 refine t_box (v:=ab) (cs:=[ab]) H rfl (FnM.cells ai) ?_
 intro ac aC H
 refine zA (B false) rfl ?_
 refine s_nil ?_
 refine W.seq ?_
 refine W.region rfl ?_
 refine zM aa rfl ?_
 refine s_val (x_mf (fs:=[]) (cs:=[Pq ac]) rfl rfl) ?_
 obtain ⟨aD,ap,hM⟩:=M.e_bind hM
 refine s_call cf132 [aa,.func (.func 133) #[] #[Pq ac]] rfl (zeg l (fun ae=>zbd ae so) (am.app _) ao ⟨133,[Pq ac],rfl,cf133,fun aj aE aF aq ae aG au aH av aw=>by obtain rfl:=Arg.int av; exact (zel ae so (FnM.app (ai.app _) _) (Has.app (Has.here (k:=0) rfl) _) aw aj (St.refl au)).mono fun aq aj ⟨aI,ax,ay,az⟩=>by subst ax; exact ⟨ay,az⟩⟩ ap _ (H.gt 1)) ?_
 rintro vq aJ ⟨r2,aA,hvq,ak⟩
 subst aA
 subst vq
 try dsimp only at hM
 replace H:=H.bk ak
 clear ak
 refine s_val (x_not (b:=r2) rfl) ?_
 refine zA (B (!r2)) rfl ?_
 refine s_nil ?_
 refine W.ret ?_
 have aB:=M.e_pure hM
 exact ⟨_,resE_tmp rfl,⟨(!r2),aB,rfl,(H.pk [])⟩⟩

def zah (ab:List Sect) (aa:List Mrk) (ac:List Rch) (a:Int) (b:Int):M Bool :=
  M.grd (decide ((0:Int)<=a)&&decide (a<(aa.length:Int))) <|
  M.grd (decide ((0:Int)<=b)&&decide (b<(aa.length:Int))) <|
  M.pure ((decide (((aa.getD (Int.toNat a) default).place)<=((aa.getD (Int.toNat b) default).place)))&&(decide (((aa.getD (Int.toNat a) default).hi)<((aa.getD (Int.toNat b) default).lo))))
theorem zav {R:List Chunk} {ab:Nat} {ak:Cells} {am:Value} {ao:Cells} {ac:Value} {ap:Cells} {aq:Value} {aw:Nat} (au:List Sect) (aa:List Mrk) (av:List Rch) (a:Int) (b:Int) (aA:Reads R ak) (aB:Sl ak am au) (ai:Reads R ao) (ag:Sl ao ac aa) (aC:Reads R ap) (aD:Sl ap aq av) (aj:Has R (cBlk ab [am,ac,aq,.map (some aw)] 177)) {r:Bool} (hM:(zah au aa av a b).Ends r) (w:World) (H:St w w [] R):Ret Tryz.prog 51 #[Pq ab,I a,I b] w fun v w'=>∃ (y0:Bool),y0=r/\v=B y0/\St w w' [] R:=by
 refine ret_of_W Tryz.func51 rfl rfl rfl ?_
 refine W.seq ?_
 refine W.region rfl ?_
 refine zA (B false) rfl ?_
 refine s_nil ?_
 refine W.seq ?_
 refine W.draw (fun W=>St w W [] R) [(0,true),(1,true),(2,true),(3,true),(4,true),(5,true),(6,true),(7,true),(8,true),(9,true),(10,true),(11,true),(12,true),(13,true),(14,true),(15,true),(16,true),(17,true),(18,true),(19,true),(20,true),(21,true),(22,true),(23,true),(24,true),(25,true),(26,true),(27,true),(28,true),(29,true),(30,true),(31,true),(32,true),(33,true),(34,true),(35,true),(36,true),(37,true),(38,true),(39,true),(40,true),(41,true),(42,true)] mixed (by decide +kernel) rfl ?_
 intro aE ae
 replace H:=H.ext ae
 clear ae
 refine ⟨(H.pk []),?_⟩
 refine d_q rfl (fun w' H=>x_mv (v:=Pq ab) rfl) ?_
 refine d_q rfl (fun w' H=>x_nc (a:=⟨ab,0,none⟩) rfl) ?_
 refine d_q rfl (fun w' H=>x_fa (a:=Pq ab) (v:=Pq ab) rfl (fa_blk (o:=0) Fd177_0 Sz27)) ?_
 refine d_q rfl (fun w' H=>x_fa (a:=Pq ab) (v:=Oq ab 1) rfl (fa_blk (o:=0) Fd27_1 Sz24)) ?_
 refine d_q rfl (fun w' H=>x_ld (p:=Oq ab 1) (v:=ac) rfl (ldb_sc Sc24 (aj.blk H) rfl)) ?_
 refine d_q rfl (fun w' H=>x_mv (v:=I a) rfl) ?_
 obtain ⟨ax,hM⟩:=M.e_grd hM
 simp only [Bool.and_eq_true,decide_eq_true_eq] at ax
 refine d_q rfl (fun w' H=>x_ix (a:=ac) (b:=I a) (v:=vat ac 3 (Int.toNat a)) rfl rfl (Sl.ix (α:=Mrk) T24.und T24.size ag (by omega) (by omega))) ?_
 refine d_q rfl (fun w' H=>x_fa (a:=vat ac 3 (Int.toNat a)) (v:=fat (vat ac 3 (Int.toNat a)) 0) rfl (fa_pl Fd70_0 Sz3 (Sl.pl (i:=a) ag (by omega) (by omega)))) ?_
 refine d_q rfl (fun w' H=>x_ld (p:=fat (vat ac 3 (Int.toNat a)) 0) (v:=I ((aa.getD (Int.toNat a) default).place)) rfl (ld_sc Sc3 (At.mono (Mrk_at0 ag (i:=a) (by omega) (by omega)) (ai.at H)))) ?_
 refine d_q rfl (fun w' H=>x_mv (v:=Pq ab) rfl) ?_
 refine d_q rfl (fun w' H=>x_nc (a:=⟨ab,0,none⟩) rfl) ?_
 refine d_q rfl (fun w' H=>x_fa (a:=Pq ab) (v:=Pq ab) rfl (fa_blk (o:=0) Fd177_0 Sz27)) ?_
 refine d_q rfl (fun w' H=>x_fa (a:=Pq ab) (v:=Oq ab 1) rfl (fa_blk (o:=0) Fd27_1 Sz24)) ?_
 refine d_q rfl (fun w' H=>x_ld (p:=Oq ab 1) (v:=ac) rfl (ldb_sc Sc24 (aj.blk H) rfl)) ?_
 refine d_q rfl (fun w' H=>x_mv (v:=I b) rfl) ?_
 obtain ⟨ay,hM⟩:=M.e_grd hM
 simp only [Bool.and_eq_true,decide_eq_true_eq] at ay
 refine d_q rfl (fun w' H=>x_ix (a:=ac) (b:=I b) (v:=vat ac 3 (Int.toNat b)) rfl rfl (Sl.ix (α:=Mrk) T24.und T24.size ag (by omega) (by omega))) ?_
 refine d_q rfl (fun w' H=>x_fa (a:=vat ac 3 (Int.toNat b)) (v:=fat (vat ac 3 (Int.toNat b)) 0) rfl (fa_pl Fd70_0 Sz3 (Sl.pl (i:=b) ag (by omega) (by omega)))) ?_
 refine d_q rfl (fun w' H=>x_ld (p:=fat (vat ac 3 (Int.toNat b)) 0) (v:=I ((aa.getD (Int.toNat b) default).place)) rfl (ld_sc Sc3 (At.mono (Mrk_at0 ag (i:=b) (by omega) (by omega)) (ai.at H)))) ?_
 refine d_q rfl (fun w' H=>x_cmp (kd:=.i64) (a:=(aa.getD (Int.toNat a) default).place) (b:=(aa.getD (Int.toNat b) default).place) (r:=decide (((aa.getD (Int.toNat a) default).place)<=((aa.getD (Int.toNat b) default).place))) rfl rfl rfl) ?_
 refine d_q rfl (fun w' H=>x_mv (v:=B (decide (((aa.getD (Int.toNat a) default).place)<=((aa.getD (Int.toNat b) default).place)))) rfl) ?_
 refine d_qg (decide (((aa.getD (Int.toNat a) default).place)<=((aa.getD (Int.toNat b) default).place))) rfl (gy_t rfl) (fun hg=>(fun w' H=>x_mv (v:=Pq ab) rfl)) ?_
 refine d_qg (decide (((aa.getD (Int.toNat a) default).place)<=((aa.getD (Int.toNat b) default).place))) rfl (gy_t rfl) (fun hg=>(fun w' H=>x_nc (a:=⟨ab,0,none⟩) (gd_of (c:=decide (((aa.getD (Int.toNat a) default).place)<=((aa.getD (Int.toNat b) default).place))) hg (Pq ab)))) ?_
 refine d_qg (decide (((aa.getD (Int.toNat a) default).place)<=((aa.getD (Int.toNat b) default).place))) rfl (gy_t rfl) (fun hg=>(fun w' H=>x_fa (a:=Pq ab) (v:=Pq ab) (gd_of (c:=decide (((aa.getD (Int.toNat a) default).place)<=((aa.getD (Int.toNat b) default).place))) hg (Pq ab)) (fa_blk (o:=0) Fd177_0 Sz27))) ?_
 refine d_qg (decide (((aa.getD (Int.toNat a) default).place)<=((aa.getD (Int.toNat b) default).place))) rfl (gy_t rfl) (fun hg=>(fun w' H=>x_fa (a:=Pq ab) (v:=Oq ab 1) (gd_of (c:=decide (((aa.getD (Int.toNat a) default).place)<=((aa.getD (Int.toNat b) default).place))) hg (Pq ab)) (fa_blk (o:=0) Fd27_1 Sz24))) ?_
 refine d_qg (decide (((aa.getD (Int.toNat a) default).place)<=((aa.getD (Int.toNat b) default).place))) rfl (gy_t rfl) (fun hg=>(fun w' H=>x_ld (p:=Oq ab 1) (v:=ac) (gd_of (c:=decide (((aa.getD (Int.toNat a) default).place)<=((aa.getD (Int.toNat b) default).place))) hg (Oq ab 1)) (ldb_sc Sc24 (aj.blk H) rfl))) ?_
 refine d_qg (decide (((aa.getD (Int.toNat a) default).place)<=((aa.getD (Int.toNat b) default).place))) rfl (gy_t rfl) (fun hg=>(fun w' H=>x_mv (v:=I a) rfl)) ?_
 refine d_qg (decide (((aa.getD (Int.toNat a) default).place)<=((aa.getD (Int.toNat b) default).place))) rfl (gy_t rfl) (fun hg=>(fun w' H=>x_ix (a:=ac) (b:=I a) (v:=vat ac 3 (Int.toNat a)) (gd_of (c:=decide (((aa.getD (Int.toNat a) default).place)<=((aa.getD (Int.toNat b) default).place))) hg (ac)) (gd_of (c:=decide (((aa.getD (Int.toNat a) default).place)<=((aa.getD (Int.toNat b) default).place))) hg (I a)) (Sl.ix (α:=Mrk) T24.und T24.size ag (by first | omega | (have ae:=hg; simp at ae; omega)) (by first | omega | (have ae:=hg; simp at ae; omega))))) ?_
 refine d_qg (decide (((aa.getD (Int.toNat a) default).place)<=((aa.getD (Int.toNat b) default).place))) rfl (gy_t rfl) (fun hg=>(fun w' H=>x_fa (a:=vat ac 3 (Int.toNat a)) (v:=fat (vat ac 3 (Int.toNat a)) 1) (gd_of (c:=decide (((aa.getD (Int.toNat a) default).place)<=((aa.getD (Int.toNat b) default).place))) hg (vat ac 3 (Int.toNat a))) (fa_pl Fd70_1 Sz54 (Sl.pl (i:=a) ag (by first | omega | (have ae:=hg; simp at ae; omega)) (by first | omega | (have ae:=hg; simp at ae; omega)))))) ?_
 refine d_qg (decide (((aa.getD (Int.toNat a) default).place)<=((aa.getD (Int.toNat b) default).place))) rfl (gy_t rfl) (fun hg=>(fun w' H=>x_fa (a:=fat (vat ac 3 (Int.toNat a)) 1) (v:=fat (vat ac 3 (Int.toNat a)) 2) (gd_of (c:=decide (((aa.getD (Int.toNat a) default).place)<=((aa.getD (Int.toNat b) default).place))) hg (fat (vat ac 3 (Int.toNat a)) 1)) (fa_pl2 (a:=1) (c:=2) Fd54_1 Sz3 (Sl.pl (i:=a) ag (by first | omega | (have ae:=hg; simp at ae; omega)) (by first | omega | (have ae:=hg; simp at ae; omega))) rfl))) ?_
 refine d_qg (decide (((aa.getD (Int.toNat a) default).place)<=((aa.getD (Int.toNat b) default).place))) rfl (gy_t rfl) (fun hg=>(fun w' H=>x_ld (p:=fat (vat ac 3 (Int.toNat a)) 2) (v:=I ((aa.getD (Int.toNat a) default).hi)) (gd_of (c:=decide (((aa.getD (Int.toNat a) default).place)<=((aa.getD (Int.toNat b) default).place))) hg (fat (vat ac 3 (Int.toNat a)) 2)) (ld_sc Sc3 (At.mono (Mrk_at2 ag (i:=a) (by first | omega | (have ae:=hg; simp at ae; omega)) (by first | omega | (have ae:=hg; simp at ae; omega))) (ai.at H))))) ?_
 refine d_qg (decide (((aa.getD (Int.toNat a) default).place)<=((aa.getD (Int.toNat b) default).place))) rfl (gy_t rfl) (fun hg=>(fun w' H=>x_mv (v:=Pq ab) rfl)) ?_
 refine d_qg (decide (((aa.getD (Int.toNat a) default).place)<=((aa.getD (Int.toNat b) default).place))) rfl (gy_t rfl) (fun hg=>(fun w' H=>x_nc (a:=⟨ab,0,none⟩) (gd_of (c:=decide (((aa.getD (Int.toNat a) default).place)<=((aa.getD (Int.toNat b) default).place))) hg (Pq ab)))) ?_
 refine d_qg (decide (((aa.getD (Int.toNat a) default).place)<=((aa.getD (Int.toNat b) default).place))) rfl (gy_t rfl) (fun hg=>(fun w' H=>x_fa (a:=Pq ab) (v:=Pq ab) (gd_of (c:=decide (((aa.getD (Int.toNat a) default).place)<=((aa.getD (Int.toNat b) default).place))) hg (Pq ab)) (fa_blk (o:=0) Fd177_0 Sz27))) ?_
 refine d_qg (decide (((aa.getD (Int.toNat a) default).place)<=((aa.getD (Int.toNat b) default).place))) rfl (gy_t rfl) (fun hg=>(fun w' H=>x_fa (a:=Pq ab) (v:=Oq ab 1) (gd_of (c:=decide (((aa.getD (Int.toNat a) default).place)<=((aa.getD (Int.toNat b) default).place))) hg (Pq ab)) (fa_blk (o:=0) Fd27_1 Sz24))) ?_
 refine d_qg (decide (((aa.getD (Int.toNat a) default).place)<=((aa.getD (Int.toNat b) default).place))) rfl (gy_t rfl) (fun hg=>(fun w' H=>x_ld (p:=Oq ab 1) (v:=ac) (gd_of (c:=decide (((aa.getD (Int.toNat a) default).place)<=((aa.getD (Int.toNat b) default).place))) hg (Oq ab 1)) (ldb_sc Sc24 (aj.blk H) rfl))) ?_
 refine d_qg (decide (((aa.getD (Int.toNat a) default).place)<=((aa.getD (Int.toNat b) default).place))) rfl (gy_t rfl) (fun hg=>(fun w' H=>x_mv (v:=I b) rfl)) ?_
 refine d_qg (decide (((aa.getD (Int.toNat a) default).place)<=((aa.getD (Int.toNat b) default).place))) rfl (gy_t rfl) (fun hg=>(fun w' H=>x_ix (a:=ac) (b:=I b) (v:=vat ac 3 (Int.toNat b)) (gd_of (c:=decide (((aa.getD (Int.toNat a) default).place)<=((aa.getD (Int.toNat b) default).place))) hg (ac)) (gd_of (c:=decide (((aa.getD (Int.toNat a) default).place)<=((aa.getD (Int.toNat b) default).place))) hg (I b)) (Sl.ix (α:=Mrk) T24.und T24.size ag (by first | omega | (have ae:=hg; simp at ae; omega)) (by first | omega | (have ae:=hg; simp at ae; omega))))) ?_
 refine d_qg (decide (((aa.getD (Int.toNat a) default).place)<=((aa.getD (Int.toNat b) default).place))) rfl (gy_t rfl) (fun hg=>(fun w' H=>x_fa (a:=vat ac 3 (Int.toNat b)) (v:=fat (vat ac 3 (Int.toNat b)) 1) (gd_of (c:=decide (((aa.getD (Int.toNat a) default).place)<=((aa.getD (Int.toNat b) default).place))) hg (vat ac 3 (Int.toNat b))) (fa_pl Fd70_1 Sz54 (Sl.pl (i:=b) ag (by first | omega | (have ae:=hg; simp at ae; omega)) (by first | omega | (have ae:=hg; simp at ae; omega)))))) ?_
 refine d_qg (decide (((aa.getD (Int.toNat a) default).place)<=((aa.getD (Int.toNat b) default).place))) rfl (gy_t rfl) (fun hg=>(fun w' H=>x_fa (a:=fat (vat ac 3 (Int.toNat b)) 1) (v:=fat (vat ac 3 (Int.toNat b)) 1) (gd_of (c:=decide (((aa.getD (Int.toNat a) default).place)<=((aa.getD (Int.toNat b) default).place))) hg (fat (vat ac 3 (Int.toNat b)) 1)) (fa_pl2 (a:=1) (c:=1) Fd54_0 Sz3 (Sl.pl (i:=b) ag (by first | omega | (have ae:=hg; simp at ae; omega)) (by first | omega | (have ae:=hg; simp at ae; omega))) rfl))) ?_
 refine d_qg (decide (((aa.getD (Int.toNat a) default).place)<=((aa.getD (Int.toNat b) default).place))) rfl (gy_t rfl) (fun hg=>(fun w' H=>x_ld (p:=fat (vat ac 3 (Int.toNat b)) 1) (v:=I ((aa.getD (Int.toNat b) default).lo)) (gd_of (c:=decide (((aa.getD (Int.toNat a) default).place)<=((aa.getD (Int.toNat b) default).place))) hg (fat (vat ac 3 (Int.toNat b)) 1)) (ld_sc Sc3 (At.mono (Mrk_at1 ag (i:=b) (by first | omega | (have ae:=hg; simp at ae; omega)) (by first | omega | (have ae:=hg; simp at ae; omega))) (ai.at H))))) ?_
 refine d_qg (decide (((aa.getD (Int.toNat a) default).place)<=((aa.getD (Int.toNat b) default).place))) rfl (gy_t rfl) (fun hg=>(fun w' H=>x_cmp (kd:=.i64) (a:=(aa.getD (Int.toNat a) default).hi) (b:=(aa.getD (Int.toNat b) default).lo) (r:=decide (((aa.getD (Int.toNat a) default).hi)<((aa.getD (Int.toNat b) default).lo))) (gd_of (c:=decide (((aa.getD (Int.toNat a) default).place)<=((aa.getD (Int.toNat b) default).place))) hg (I ((aa.getD (Int.toNat a) default).hi))) (gd_of (c:=decide (((aa.getD (Int.toNat a) default).place)<=((aa.getD (Int.toNat b) default).place))) hg (I ((aa.getD (Int.toNat b) default).lo))) rfl)) ?_
 refine d_q rfl (fun w' H=>x_pand (b:=decide (((aa.getD (Int.toNat a) default).place)<=((aa.getD (Int.toNat b) default).place))) (r:=decide (((aa.getD (Int.toNat a) default).hi)<((aa.getD (Int.toNat b) default).lo))) rfl (fun hb=>gd_of (c:=decide (((aa.getD (Int.toNat a) default).place)<=((aa.getD (Int.toNat b) default).place))) (by first | exact hb | (rw [hb]; rfl) | simp_all) (B (decide (((aa.getD (Int.toNat a) default).hi)<((aa.getD (Int.toNat b) default).lo))))) rfl) ?_
 refine d_q rfl (fun w' H=>x_as (v:=B ((decide (((aa.getD (Int.toNat a) default).place)<=((aa.getD (Int.toNat b) default).place)))&&(decide (((aa.getD (Int.toNat a) default).hi)<((aa.getD (Int.toNat b) default).lo))))) rfl) ?_
 refine d_nil ?_
 refine W.ret ?_
 have az:=M.e_pure hM
 exact ⟨_,resE_tmp rfl,⟨((decide (((aa.getD (Int.toNat a) default).place)<=((aa.getD (Int.toNat b) default).place)))&&(decide (((aa.getD (Int.toNat a) default).hi)<((aa.getD (Int.toNat b) default).lo)))),az,rfl,H⟩⟩

def zcR (b:Int) (aa:List Sect) (ab:List Mrk) (ac:List Rch) (ae:Int):M Bool :=
  M.bind (zah aa ab ac ae b) fun r2 =>
  M.pure (!r2)
theorem zef {R:List Chunk} {ac:Nat} {ab:Nat} {ak:Cells} {am:Value} {ao:Cells} {ap:Value} {aq:Cells} {au:Value} {aw:Nat} {ae:Nat} (b:Int) (ag:List Sect) (ai:List Mrk) (aj:List Rch) (aa:Int) (ax:Reads R ak) (ay:Sl ak am ag) (az:Reads R ao) (aA:Sl ao ap ai) (aB:Reads R aq) (aC:Sl aq au aj) (aD:Has R (cBlk ab [am,ap,au,.map (some aw)] 177)) (aE:Has R (cBlk ac [Pq ab] 112)) (aF:Has R (cBlk ae [I aa] 3)) {r:Bool} (hM:(zcR b ag ai aj aa).Ends r) (w:World) (H:St w w [] R):Ret Tryz.prog 105 #[I b,Pq ac,Pq ae] w fun v w'=>∃ (y0:Bool),y0=r/\v=B y0/\St w w' [] R:=by
 refine ret_of_W Tryz.func105 rfl rfl rfl ?_
 refine W.seq ?_
 refine W.region rfl ?_
 refine zA (B false) rfl ?_
 refine s_nil ?_
 refine W.seq ?_
 refine W.region rfl ?_
 refine s_val (x_ld (p:=Pq ac) (v:=Pq ab) rfl (ldb_sc Sc112 (aE.blk H) rfl)) ?_
 refine s_val (x_ld (p:=Pq ae) (v:=I aa) rfl (ldb_sc Sc3 (aF.blk H) rfl)) ?_
 refine zM (I b) rfl ?_
 obtain ⟨aJ,aG,hM⟩:=M.e_bind hM
 refine s_call cf51 [Pq ab,I aa,I b] rfl (zav ag ai aj aa b (ax.app _) ay (az.app _) aA (aB.app _) aC (aD.app _) aG _ (H.gt 0)) ?_
 rintro vq aK ⟨r2,aH,hvq,av⟩
 subst aH
 subst vq
 try dsimp only at hM
 replace H:=H.bk av
 clear av
 refine s_val (x_not (b:=r2) rfl) ?_
 refine zA (B (!r2)) rfl ?_
 refine s_nil ?_
 refine W.ret ?_
 have aI:=M.e_pure hM
 exact ⟨_,resE_tmp rfl,⟨(!r2),aI,rfl,H⟩⟩

def zcA (a:Int) (aa:List Int) (ab:List Sect) (ac:List Mrk) (ae:List Rch):M Bool :=
  M.bind (zag aa (fun ag=>zcR ag ab ac ae a)) fun r2 =>
  M.pure r2
theorem zd1 {R:List Chunk} {ai:Nat} {ao:Cells} {ab:Value} {aa:Nat} {ap:Nat} {aq:Cells} {au:Value} {av:Cells} {aw:Value} {ax:Cells} {ay:Value} {aB:Nat} (a:Int) (aj:List Int) (ac:List Sect) (ae:List Mrk) (ag:List Rch) (aC:Reads R ao) (aD:Sl ao ab aj) (aE:Has R (cBlk ai [ab] 28)) (aF:Reads R aq) (aG:Sl aq au ac) (aH:Reads R av) (aI:Sl av aw ae) (aJ:Reads R ax) (aK:Sl ax ay ag) (aL:Has R (cBlk ap [au,aw,ay,.map (some aB)] 177)) (aM:Has R (cBlk aa [Pq ap] 112)) {r:Bool} (hM:(zcA a aj ac ae ag).Ends r) (w:World) (H:St w w [] R):Ret Tryz.prog 104 #[I a,Pq ai,Pq aa] w fun v w'=>∃ (y0:Bool),y0=r/\v=B y0/\St w w' [] R:=by
 refine ret_of_W Tryz.func104 rfl rfl rfl ?_
 refine W.seq ?_
 refine W.region rfl ?_
 refine t_box (v:=I a) (cs:=[I a]) H rfl rfl ?_
 intro ak aX H
 refine zA (B false) rfl ?_
 refine s_nil ?_
 refine W.seq ?_
 refine W.region rfl ?_
 refine s_val (x_ld (p:=Pq ai) (v:=ab) rfl (ldb_sc Sc28 (aE.blk H) rfl)) ?_
 refine s_val (x_mf (fs:=[]) (cs:=[Pq aa,Pq ak]) rfl rfl) ?_
 obtain ⟨aY,aN,hM⟩:=M.e_bind hM
 refine s_call cf99 [ab,.func (.func 105) #[] #[Pq aa,Pq ak]] rfl (zbH aj (fun am=>zcR am ac ae ag a) (aC.app _) aD ⟨105,[Pq aa,Pq ak],rfl,cf105,fun az aZ a6 aO am a7 aP a8 aQ aR=>by obtain rfl:=Arg.int aQ; exact (zef am ac ae ag a (Reads.app (aF.app _) _) aG (Reads.app (aH.app _) _) aI (Reads.app (aJ.app _) _) aK (Has.app (aL.app _) _) (Has.app (aM.app _) _) (Has.app (Has.here (k:=0) rfl) _) aR az (St.refl aP)).mono fun aO az ⟨ba,aS,aT,aU⟩=>by subst aS; exact ⟨aT,aU⟩⟩ aN _ (H.gt 1)) ?_
 rintro vq bb ⟨r2,aV,hvq,aA⟩
 subst aV
 subst vq
 try dsimp only at hM
 replace H:=H.bk aA
 clear aA
 refine zA (B r2) rfl ?_
 refine s_nil ?_
 refine W.ret ?_
 have aW:=M.e_pure hM
 exact ⟨_,resE_tmp rfl,⟨r2,aW,rfl,(H.pk [])⟩⟩

def zcz (aa:List Sect) (ab:List Mrk) (ac:List Rch) (marks:List Int):M Bool :=
  M.bind (zag marks (fun ae=>zcA ae marks aa ab ac)) fun r2 =>
  M.pure r2
theorem zdm {R:List Chunk} {ab:Nat} {ao:Cells} {ap:Value} {aq:Cells} {au:Value} {av:Cells} {aw:Value} {aB:Nat} {ax:Cells} {aa:Value} (ac:List Sect) (ae:List Mrk) (ag:List Rch) (marks:List Int) (aC:Reads R ao) (aD:Sl ao ap ac) (aE:Reads R aq) (aF:Sl aq au ae) (aG:Reads R av) (aH:Sl av aw ag) (aI:Has R (cBlk ab [ap,au,aw,.map (some aB)] 177)) (ay:Reads R ax) (aj:Sl ax aa marks) {r:Bool} (hM:(zcz ac ae ag marks).Ends r) (w:World) (H:St w w [] R):Ret Tryz.prog 58 #[Pq ab,aa] w fun v w'=>∃ (y0:Bool),y0=r/\v=B y0/\St w w' [] R:=by
 refine ret_of_W Tryz.func58 rfl rfl rfl ?_
 refine W.seq ?_
 refine W.region rfl ?_
 refine t_box (v:=Pq ab) (cs:=[Pq ab]) H rfl rfl ?_
 intro ak aT H
 refine t_box (v:=aa) (cs:=[aa]) H rfl (Sl.cells aj) ?_
 intro ai aU H
 refine zA (B false) rfl ?_
 refine s_nil ?_
 refine W.seq ?_
 refine W.region rfl ?_
 refine s_val (x_ld (p:=Pq ai) (v:=aa) rfl (ldb_sc Sc28 (H.bl 0) rfl)) ?_
 refine s_val (x_mf (fs:=[]) (cs:=[Pq ai,Pq ak]) rfl rfl) ?_
 obtain ⟨aV,aJ,hM⟩:=M.e_bind hM
 refine s_call cf99 [aa,.func (.func 104) #[] #[Pq ai,Pq ak]] rfl (zbH marks (fun am=>zcA am marks ac ae ag) (ay.app _) aj ⟨104,[Pq ai,Pq ak],rfl,cf104,fun az aW aX aK am aY aL aZ aM aN=>by obtain rfl:=Arg.int aM; exact (zd1 am marks ac ae ag (Reads.app (ay.app _) _) aj (Has.app (Has.here (k:=0) rfl) _) (Reads.app (aC.app _) _) aD (Reads.app (aE.app _) _) aF (Reads.app (aG.app _) _) aH (Has.app (aI.app _) _) (Has.app (Has.here (k:=1) rfl) _) aN az (St.refl aL)).mono fun aK az ⟨a6,aO,aP,aQ⟩=>by subst aO; exact ⟨aP,aQ⟩⟩ aJ _ (H.gt 2)) ?_
 rintro vq a7 ⟨r2,aR,hvq,aA⟩
 subst aR
 subst vq
 try dsimp only at hM
 replace H:=H.bk aA
 clear aA
 refine zA (B r2) rfl ?_
 refine s_nil ?_
 replace H:=H.pk []
 refine W.ret ?_
 have aS:=M.e_pure hM
 exact ⟨_,resE_tmp rfl,⟨r2,aS,rfl,H⟩⟩

def zcy (s_Sections:List Sect) (s_Marks:List Mrk) (s_Reaches:List Rch) (marks:List Int) (reach:Int):M (Int × Int × Int) :=
  M.bind (zdl s_Sections s_Marks s_Reaches marks reach) fun x_=>match x_ with
  | (.inl (aj,ak,am,ao,ap,r2))=>(
  bif r2 != 0 then (
  M.pure (0,0,r2))
  else (
  M.fail))
  | (.inr (aa,ab,ac,ae,ag,ai))=>(
  bif ai != 0 then (
  M.fail)
  else (
  M.bind (zcz s_Sections s_Marks s_Reaches marks) fun r3 =>
  bif !r3 then (
  M.pure (0,0,7))
  else (
  M.bind (zc5 s_Sections s_Marks s_Reaches marks (⟨(aa:Int),(ab:Int),(ac:Int),(ae:Int),ag⟩:Rch)) fun (r0,r1) =>
  M.pure (r0,r1,0))))
theorem zc6 {R:List Chunk} {aL:Cells} {ao:Value} {aM:Cells} {ap:Value} {aN:Cells} {aq:Value} {aO:Cells} {am:Value} (s_Sections:List Sect) (s_Marks:List Mrk) (s_Reaches:List Rch) (marks:List Int) (reach:Int) (aC:Reads R aL) (aD:Sl aL ao s_Sections) (aE:Reads R aM) (aF:Sl aM ap s_Marks) (aG:Reads R aN) (aH:Sl aN aq s_Reaches) (aI:Reads R aO) (aJ:Sl aO am marks) {r:(Int × Int × Int)} (hM:(zcy s_Sections s_Marks s_Reaches marks reach).Ends r) (w:World) (H:St w w [] R):Ret Tryz.prog 20 #[.agg #[ao,ap,aq],am,I reach] w fun v w'=>∃ (y0:Int) (y1:Int) (y2:Int),(y0,y1,y2)=r/\v = .tuple #[.agg #[I y0,I y1],I y2]/\St w w' [] R:=by
 refine ret_of_W Tryz.func20 rfl rfl rfl ?_
 refine W.seq ?_
 refine W.region rfl ?_
 refine t_box (v:=.agg #[ao,ap,aq]) (cs:=[ao,ap,aq]) H rfl rfl ?_
 intro aQ a7 H
 refine t_alloc (cs:=[I 0,I 0]) H Al54 rfl ?_
 intro a8 ba H
 refine zA (I 0) rfl ?_
 refine s_nil ?_
 refine W.seq ?_
 refine W.region rfl ?_
 refine s_val (x_ld (p:=Pq aQ) (v:=.agg #[ao,ap,aq]) rfl (ldb_ag (ds:=[ao,ap,aq]) Ag27 Sz27 (H.bl 1) rfl rfl)) ?_
 refine zM am rfl ?_
 refine zM (I reach) rfl ?_
 obtain ⟨bb,aR,hM⟩:=M.e_bind hM
 refine s_call cf65 [.agg #[ao,ap,aq],am,I reach] rfl (zeh s_Sections s_Marks s_Reaches marks reach (aC.app _) aD (aE.app _) aF (aG.app _) aH (aI.app _) aJ aR _ (H.gt 2)) ?_
 rintro vq bc (⟨au,av,aw,ax,ay,r2,aS,hvq,aa⟩ | ⟨ab,ac,ae,ag,ai,aj,ak,bf,aT,hvq,aa⟩)
 ·subst aS
  subst vq
  try dsimp only at hM
  replace H:=H.bk aa
  clear aa
  refine zM (.tuple #[.pointer none,.agg #[I au,I av,I aw,I ax,B ay],I r2]) rfl ?_
  refine zX [.pointer none,.agg #[I au,I av,I aw,I ax,B ay],I r2] (.pointer none) rfl rfl ?_
  refine zX [.pointer none,.agg #[I au,I av,I aw,I ax,B ay],I r2] (.agg #[I au,I av,I aw,I ax,B ay]) rfl rfl ?_
  refine zX [.pointer none,.agg #[I au,I av,I aw,I ax,B ay],I r2] (I r2) rfl rfl ?_
  refine t_alloc (cs:=[I 0,I 0,I 0,I 0,B false]) H Al58 rfl ?_
  intro aP bh H
  refine zA (.pointer none) rfl ?_
  refine t_sw 0 0 [I au,I av,I aw,I ax,B ay] (.agg #[I au,I av,I aw,I ax,B ay]) H rfl rfl Sz58 rfl rfl rfl rfl ?_
  intro bi H
  refine zA (I r2) rfl ?_
  refine s_nil ?_
  refine W.seq ?_
  refine W.block ?_
  refine W.seq ?_
  refine W.region rfl ?_
  refine zM (I r2) rfl ?_
  refine zC r2 0 (r2 != 0) rfl rfl rfl ?_
  refine zA (B (r2 != 0)) rfl ?_
  refine s_nil ?_
  refine W.cond (r2 != 0) rfl (fun aA=>?_) (fun aA=>?_)
  ·replace hM:=M.e_t hM aA
   simp only [qy1,qy2,qy3,qy4,qy5,qy6,ne_eq,qy7] at aA
   refine W.seq ?_
   refine W.region rfl ?_
   refine s_val (x_bld (ps:=[]) (zs:=[I 0,I 0]) (L':=[I 0,I 0]) rfl Tryz.underlying54 Al54 rfl (Bd54 Tryz.underlying54) (.nil)) ?_
   refine zM (I r2) rfl ?_
   refine t_sw 1 0 [I 0,I 0] (.agg #[I 0,I 0]) H rfl rfl Sz54 rfl rfl rfl rfl ?_
   intro bj H
   refine zA (I r2) rfl ?_
   refine s_nil ?_
   replace H:=H.pk [1]
   refine W.ret ?_
   have aU:=(H.bl 0)
   have az:=M.e_pure hM
   exact ⟨_,(resE_ofn (vs:=[.agg #[I 0,I 0],I r2]) rfl rfl (.cell (v:=.agg #[I 0,I 0]) rfl (run_loadVar_ag (ds:=[I 0,I 0]) Ag54 Sz54 aU rfl rfl)<|.tmp (v:=I r2) rfl<|.nil)),⟨0,0,r2,az,rfl,(H.pk [])⟩⟩
  replace hM:=M.e_f hM aA
  exact (M.e_fail hM).elim
 subst aT
 subst vq
 try dsimp only at hM
 replace H:=H.bk aa
 clear aa
 refine zM (.tuple #[Pq ak,.agg #[I ab,I ac,I ae,I ag,B ai],I aj]) rfl ?_
 refine zX [Pq ak,.agg #[I ab,I ac,I ae,I ag,B ai],I aj] (Pq ak) rfl rfl ?_
 refine zX [Pq ak,.agg #[I ab,I ac,I ae,I ag,B ai],I aj] (.agg #[I ab,I ac,I ae,I ag,B ai]) rfl rfl ?_
 refine zX [Pq ak,.agg #[I ab,I ac,I ae,I ag,B ai],I aj] (I aj) rfl rfl ?_
 refine t_alloc (cs:=[I 0,I 0,I 0,I 0,B false]) H Al58 rfl ?_
 intro aP bm H
 refine zA (Pq ak) rfl ?_
 refine t_sw 0 0 [I ab,I ac,I ae,I ag,B ai] (.agg #[I ab,I ac,I ae,I ag,B ai]) H rfl rfl Sz58 rfl rfl rfl rfl ?_
 intro bn H
 refine zA (I aj) rfl ?_
 refine s_nil ?_
 refine W.seq ?_
 refine W.block ?_
 refine W.seq ?_
 refine W.region rfl ?_
 refine zM (I aj) rfl ?_
 refine zC aj 0 (aj != 0) rfl rfl rfl ?_
 refine zA (B (aj != 0)) rfl ?_
 refine s_nil ?_
 refine W.cond (aj != 0) rfl (fun aB=>?_) (fun aB=>?_)
 ·replace hM:=M.e_t hM aB
  exact (M.e_fail hM).elim
 replace hM:=M.e_f hM aB
 simp only [qy1,qy2,qy3,qy4,qy5,qy6,ne_eq,qy7] at aB
 refine W.seq ?_
 refine W.region rfl ?_
 refine zM (Pq ak) rfl ?_
 refine zM am rfl ?_
 obtain ⟨bo,aV,hM⟩:=M.e_bind hM
 refine s_call cf58 [Pq ak,am] rfl (zdm s_Sections s_Marks s_Reaches marks (aC.app _) aD (aE.app _) aF (aG.app _) aH (Has.here (k:=1) rfl) (aI.app _) aJ aV _ (H.gt 5)) ?_
 rintro vq bp ⟨r3,aW,hvq,aa⟩
 subst aW
 subst vq
 try dsimp only at hM
 replace H:=H.bk aa
 clear aa
 refine s_val (x_not (b:=r3) rfl) ?_
 refine zA (B (!r3)) rfl ?_
 refine s_nil ?_
 refine W.cond (!r3) rfl (fun aK=>?_) (fun aK=>?_)
 ·replace hM:=M.e_t hM aK
  refine W.seq ?_
  refine W.region rfl ?_
  refine s_val (x_bld (ps:=[]) (zs:=[I 0,I 0]) (L':=[I 0,I 0]) rfl Tryz.underlying54 Al54 rfl (Bd54 Tryz.underlying54) (.nil)) ?_
  refine t_sw 3 0 [I 0,I 0] (.agg #[I 0,I 0]) H rfl rfl Sz54 rfl rfl rfl rfl ?_
  intro bq H
  refine zA (I 7) rfl ?_
  refine s_nil ?_
  replace H:=H.pk [3]
  refine W.ret ?_
  have aX:=(H.bl 0)
  have az:=M.e_pure hM
  exact ⟨_,(resE_ofn (vs:=[.agg #[I 0,I 0],I 7]) rfl rfl (.cell (v:=.agg #[I 0,I 0]) rfl (run_loadVar_ag (ds:=[I 0,I 0]) Ag54 Sz54 aX rfl rfl)<|.tmp (v:=I 7) rfl<|.nil)),⟨0,0,7,az,rfl,(H.pk [])⟩⟩
 replace hM:=M.e_f hM aK
 refine W.skip ?_
 refine W.seq ?_
 refine W.region rfl ?_
 refine zM (Pq ak) rfl ?_
 refine zM am rfl ?_
 refine s_val (x_ld (p:=Pq aP) (v:=.agg #[I ab,I ac,I ae,I ag,B ai]) rfl (ldb_ag (ds:=[I ab,I ac,I ae,I ag,B ai]) Ag58 Sz58 (H.bl 0) rfl rfl)) ?_
 obtain ⟨br,aY,hM⟩:=M.e_bind hM
 refine s_call cf66 [Pq ak,am,.agg #[I ab,I ac,I ae,I ag,B ai]] rfl (zdV s_Sections s_Marks s_Reaches marks (⟨(ab:Int),(ac:Int),(ae:Int),(ag:Int),ai⟩:Rch) (aC.app _) aD (aE.app _) aF (aG.app _) aH (Has.here (k:=1) rfl) (aI.app _) aJ aY _ ((H.pk [2,0,1,3,4]).gt 4)) ?_
 rintro vq bt ⟨r0,r1,aZ,hvq,aa⟩
 subst aZ
 subst vq
 try dsimp only at hM
 replace H:=H.pk [2,0,1,3,4] |>.bk aa
 clear aa
 refine t_sw 3 0 [I r0,I r1] (.agg #[I r0,I r1]) H rfl rfl Sz54 rfl rfl rfl rfl ?_
 intro bu H
 refine zA (I 0) rfl ?_
 refine s_nil ?_
 replace H:=H.pk [3]
 refine W.ret ?_
 have a6:=(H.bl 0)
 have az:=M.e_pure hM
 exact ⟨_,(resE_ofn (vs:=[.agg #[I r0,I r1],I 0]) rfl rfl (.cell (v:=.agg #[I r0,I r1]) rfl (run_loadVar_ag (ds:=[I r0,I r1]) Ag54 Sz54 a6 rfl rfl)<|.tmp (v:=I 0) rfl<|.nil)),⟨r0,r1,0,az,rfl,(H.pk [])⟩⟩

def zdk (c:Cas) (r_:Rch):M Bool :=
  M.bind (zab c.up 0 2000) fun r2 =>
  M.bind (M.opt r2 (zab c.down 0 c.up) false) fun r3 =>
  M.bind (M.opt (r2&&r3) (zab c.roughup r_.lo r_.hi) false) fun r4 =>
  M.bind (M.opt ((r2&&r3)&&r4) (zab c.roughdown r_.lo r_.hi) false) fun r5 =>
  M.pure (((r2&&r3)&&r4)&&r5)
theorem zd4 {R:List Chunk}  (c:Cas) (r_:Rch)  {r:Bool} (hM:(zdk c r_).Ends r) (w:World) (H:St w w [] R):Ret Tryz.prog 71 #[.agg #[I c.up,I c.down,I c.roughup,I c.roughdown],.agg #[I r_.up,I r_.down,I r_.lo,I r_.hi,B r_.narrow]] w fun v w'=>∃ (y0:Bool),y0=r/\v=B y0/\St w w' [] R:=by
 refine ret_of_W Tryz.func71 rfl rfl rfl ?_
 refine W.seq ?_
 refine W.region rfl ?_
 refine t_box (v:=.agg #[I c.up,I c.down,I c.roughup,I c.roughdown]) (cs:=[I c.up,I c.down,I c.roughup,I c.roughdown]) H rfl rfl ?_
 intro ab ap H
 refine t_box (v:=.agg #[I r_.up,I r_.down,I r_.lo,I r_.hi,B r_.narrow]) (cs:=[I r_.up,I r_.down,I r_.lo,I r_.hi,B r_.narrow]) H rfl rfl ?_
 intro aa aq H
 refine zA (B false) rfl ?_
 refine s_nil ?_
 refine W.seq ?_
 refine W.region rfl ?_
 refine s_val (x_fa (a:=Pq ab) (v:=Pq ab) rfl (fa_blk (o:=0) Fd61_0 Sz3)) ?_
 refine s_val (x_ld (p:=Pq ab) (v:=I c.up) rfl (ldb_sc Sc3 (H.bl 1) rfl)) ?_
 obtain ⟨au,ai,hM⟩:=M.e_bind hM
 refine s_call cf70 [I c.up,I 0,I 2000] rfl (zac c.up 0 2000 ai _ (H.gt 2)) ?_
 rintro vq av ⟨r2,aj,hvq,ag⟩
 subst aj
 subst vq
 try dsimp only at hM
 replace H:=H.bk ag
 clear ag
 refine zM (B r2) rfl ?_
 refine g_val r2 (gy_t rfl) (fun hg=>x_fa (a:=Pq ab) (v:=Oq ab 1) rfl (fa_blk (o:=0) Fd61_1 Sz3)) ?_
 refine g_val r2 (gy_t rfl) (fun hg=>x_ld (p:=Oq ab 1) (v:=I c.down) (gd_of (c:=r2) hg (Oq ab 1)) (ldb_sc Sc3 (H.bl 1) rfl)) ?_
 refine g_val r2 (gy_t rfl) (fun hg=>x_fa (a:=Pq ab) (v:=Pq ab) rfl (fa_blk (o:=0) Fd61_0 Sz3)) ?_
 refine g_val r2 (gy_t rfl) (fun hg=>x_ld (p:=Pq ab) (v:=I c.up) (gd_of (c:=r2) hg (Pq ab)) (ldb_sc Sc3 (H.bl 1) rfl)) ?_
 obtain ⟨r3,ak,hM⟩:=M.e_bind hM
 refine t_gcall r2 (gy_t rfl) cf70 (B r3) (fun _=>[I c.down,I 0,I c.up]) (fun hg=>lst3 (gd_of (c:=r2) hg (I c.down)) rfl (gd_of (c:=r2) hg (I c.up))) H (fun hg=>(zac c.down 0 c.up (M.e_opt ak hg) _ (H.give (A:=[]) rfl)).mono fun v_ w_ ⟨y_,ac,ae,H_⟩=>by subst ac; exact ⟨ae,H.via H_⟩) ?_
 intro aw H
 refine s_val (x_pand (b:=r2) (r:=r3) rfl (fun hb=>gd_of (c:=r2) (by first | exact hb | (rw [hb]; rfl) | simp_all) (B r3)) rfl) ?_
 refine zM (B (r2&&r3)) rfl ?_
 refine g_val (r2&&r3) (gy_t rfl) (fun hg=>x_fa (a:=Pq ab) (v:=Oq ab 2) rfl (fa_blk (o:=0) Fd61_2 Sz3)) ?_
 refine g_val (r2&&r3) (gy_t rfl) (fun hg=>x_ld (p:=Oq ab 2) (v:=I c.roughup) (gd_of (c:=(r2&&r3)) hg (Oq ab 2)) (ldb_sc Sc3 (H.bl 1) rfl)) ?_
 refine g_val (r2&&r3) (gy_t rfl) (fun hg=>x_fa (a:=Pq aa) (v:=Oq aa 2) rfl (fa_blk (o:=0) Fd58_2 Sz54)) ?_
 refine g_val (r2&&r3) (gy_t rfl) (fun hg=>x_fa (a:=Oq aa 2) (v:=Oq aa 2) (gd_of (c:=(r2&&r3)) hg (Oq aa 2)) (fa_blk (o:=2) Fd54_0 Sz3)) ?_
 refine g_val (r2&&r3) (gy_t rfl) (fun hg=>x_ld (p:=Oq aa 2) (v:=I r_.lo) (gd_of (c:=(r2&&r3)) hg (Oq aa 2)) (ldb_sc Sc3 (H.bl 0) rfl)) ?_
 refine g_val (r2&&r3) (gy_t rfl) (fun hg=>x_fa (a:=Pq aa) (v:=Oq aa 2) rfl (fa_blk (o:=0) Fd58_2 Sz54)) ?_
 refine g_val (r2&&r3) (gy_t rfl) (fun hg=>x_fa (a:=Oq aa 2) (v:=Oq aa 3) (gd_of (c:=(r2&&r3)) hg (Oq aa 2)) (fa_blk (o:=2) Fd54_1 Sz3)) ?_
 refine g_val (r2&&r3) (gy_t rfl) (fun hg=>x_ld (p:=Oq aa 3) (v:=I r_.hi) (gd_of (c:=(r2&&r3)) hg (Oq aa 3)) (ldb_sc Sc3 (H.bl 0) rfl)) ?_
 obtain ⟨r4,am,hM⟩:=M.e_bind hM
 refine t_gcall (r2&&r3) (gy_t rfl) cf70 (B r4) (fun _=>[I c.roughup,I r_.lo,I r_.hi]) (fun hg=>lst3 (gd_of (c:=(r2&&r3)) hg (I c.roughup)) (gd_of (c:=(r2&&r3)) hg (I r_.lo)) (gd_of (c:=(r2&&r3)) hg (I r_.hi))) H (fun hg=>(zac c.roughup r_.lo r_.hi (M.e_opt am hg) _ (H.give (A:=[]) rfl)).mono fun v_ w_ ⟨y_,ac,ae,H_⟩=>by subst ac; exact ⟨ae,H.via H_⟩) ?_
 intro ax H
 refine s_val (x_pand (b:=(r2&&r3)) (r:=r4) rfl (fun hb=>gd_of (c:=(r2&&r3)) (by first | exact hb | (rw [hb]; rfl) | simp_all) (B r4)) rfl) ?_
 refine zM (B ((r2&&r3)&&r4)) rfl ?_
 refine g_val ((r2&&r3)&&r4) (gy_t rfl) (fun hg=>x_fa (a:=Pq ab) (v:=Oq ab 3) rfl (fa_blk (o:=0) Fd61_3 Sz3)) ?_
 refine g_val ((r2&&r3)&&r4) (gy_t rfl) (fun hg=>x_ld (p:=Oq ab 3) (v:=I c.roughdown) (gd_of (c:=((r2&&r3)&&r4)) hg (Oq ab 3)) (ldb_sc Sc3 (H.bl 1) rfl)) ?_
 refine g_val ((r2&&r3)&&r4) (gy_t rfl) (fun hg=>x_fa (a:=Pq aa) (v:=Oq aa 2) rfl (fa_blk (o:=0) Fd58_2 Sz54)) ?_
 refine g_val ((r2&&r3)&&r4) (gy_t rfl) (fun hg=>x_fa (a:=Oq aa 2) (v:=Oq aa 2) (gd_of (c:=((r2&&r3)&&r4)) hg (Oq aa 2)) (fa_blk (o:=2) Fd54_0 Sz3)) ?_
 refine g_val ((r2&&r3)&&r4) (gy_t rfl) (fun hg=>x_ld (p:=Oq aa 2) (v:=I r_.lo) (gd_of (c:=((r2&&r3)&&r4)) hg (Oq aa 2)) (ldb_sc Sc3 (H.bl 0) rfl)) ?_
 refine g_val ((r2&&r3)&&r4) (gy_t rfl) (fun hg=>x_fa (a:=Pq aa) (v:=Oq aa 2) rfl (fa_blk (o:=0) Fd58_2 Sz54)) ?_
 refine g_val ((r2&&r3)&&r4) (gy_t rfl) (fun hg=>x_fa (a:=Oq aa 2) (v:=Oq aa 3) (gd_of (c:=((r2&&r3)&&r4)) hg (Oq aa 2)) (fa_blk (o:=2) Fd54_1 Sz3)) ?_
 refine g_val ((r2&&r3)&&r4) (gy_t rfl) (fun hg=>x_ld (p:=Oq aa 3) (v:=I r_.hi) (gd_of (c:=((r2&&r3)&&r4)) hg (Oq aa 3)) (ldb_sc Sc3 (H.bl 0) rfl)) ?_
 obtain ⟨r5,ao,hM⟩:=M.e_bind hM
 refine t_gcall ((r2&&r3)&&r4) (gy_t rfl) cf70 (B r5) (fun _=>[I c.roughdown,I r_.lo,I r_.hi]) (fun hg=>lst3 (gd_of (c:=((r2&&r3)&&r4)) hg (I c.roughdown)) (gd_of (c:=((r2&&r3)&&r4)) hg (I r_.lo)) (gd_of (c:=((r2&&r3)&&r4)) hg (I r_.hi))) H (fun hg=>(zac c.roughdown r_.lo r_.hi (M.e_opt ao hg) _ (H.give (A:=[]) rfl)).mono fun v_ w_ ⟨y_,ac,ae,H_⟩=>by subst ac; exact ⟨ae,H.via H_⟩) ?_
 intro ay H
 refine s_val (x_pand (b:=((r2&&r3)&&r4)) (r:=r5) rfl (fun hb=>gd_of (c:=((r2&&r3)&&r4)) (by first | exact hb | (rw [hb]; rfl) | simp_all) (B r5)) rfl) ?_
 refine zA (B (((r2&&r3)&&r4)&&r5)) rfl ?_
 refine s_nil ?_
 replace H:=H.pk []
 refine W.ret ?_
 have ac:=M.e_pure hM
 exact ⟨_,resE_tmp rfl,⟨(((r2&&r3)&&r4)&&r5),ac,rfl,H⟩⟩

def zcZ (s_Sections:List Sect) (s_Marks:List Mrk) (s_Reaches:List Rch) (reach:Int) (c:Cas):M (Int × Int) :=
  M.bind (zad s_Sections s_Marks s_Reaches) fun x_=>match x_ with
  | (.inl r1)=>(
  bif r1 != 0 then (
  M.pure (0,r1))
  else (
  M.fail))
  | (.inr aa)=>(
  bif aa != 0 then (
  M.fail)
  else (
  M.bind (zab reach 0 ((s_Reaches.length:Int)-1)) fun r2 =>
  bif !r2 then (
  M.pure (0,2))
  else (
  M.grd (decide ((0:Int)<=reach)&&decide (reach<(s_Reaches.length:Int))) <|
  M.bind (zdk c (s_Reaches.getD (Int.toNat reach) default)) fun r3 =>
  bif !r3 then (
  M.pure (0,4))
  else (
  M.bind (zcj s_Sections s_Marks s_Reaches (s_Reaches.getD (Int.toNat reach) default) c) fun r4 =>
  M.pure (r4,0)))))
theorem zdC {R:List Chunk} {az:Cells} {ae:Value} {aA:Cells} {ag:Value} {aB:Cells} {aa:Value} (s_Sections:List Sect) (s_Marks:List Mrk) (s_Reaches:List Rch) (reach:Int) (c:Cas) (aC:Reads R az) (aD:Sl az ae s_Sections) (aE:Reads R aA) (aF:Sl aA ag s_Marks) (ap:Reads R aB) (ak:Sl aB aa s_Reaches) {r:(Int × Int)} (hM:(zcZ s_Sections s_Marks s_Reaches reach c).Ends r) (w:World) (H:St w w [] R):Ret Tryz.prog 22 #[.agg #[ae,ag,aa],I reach,.agg #[I c.up,I c.down,I c.roughup,I c.roughdown]] w fun v w'=>∃ (y0:Int) (y1:Int),(y0,y1)=r/\v = .tuple #[I y0,I y1]/\St w w' [] R:=by
 refine ret_of_W Tryz.func22 rfl rfl rfl ?_
 refine W.seq ?_
 refine W.region rfl ?_
 refine t_box (v:=.agg #[ae,ag,aa]) (cs:=[ae,ag,aa]) H rfl rfl ?_
 intro ac aQ H
 refine t_box (v:=.agg #[I c.up,I c.down,I c.roughup,I c.roughdown]) (cs:=[I c.up,I c.down,I c.roughup,I c.roughdown]) H rfl rfl ?_
 intro aq aR H
 refine zA (I 0) rfl ?_
 refine zA (I 0) rfl ?_
 refine s_nil ?_
 refine W.seq ?_
 refine W.region rfl ?_
 refine s_val (x_ld (p:=Pq ac) (v:=.agg #[ae,ag,aa]) rfl (ldb_ag (ds:=[ae,ag,aa]) Ag27 Sz27 (H.bl 1) rfl rfl)) ?_
 obtain ⟨aS,aG,hM⟩:=M.e_bind hM
 refine s_call cf49 [.agg #[ae,ag,aa]] rfl (zap s_Sections s_Marks s_Reaches (aC.app _) aD (aE.app _) aF (ap.app _) ak aG _ (H.gt 2)) ?_
 rintro vq aT (⟨r1,aH,hvq,ab⟩ | ⟨ai,aj,aw,aI,hvq,ab⟩)
 ·subst aH
  subst vq
  try dsimp only at hM
  replace H:=H.bk ab
  clear ab
  refine zM (.tuple #[.pointer none,I r1]) rfl ?_
  refine zX [.pointer none,I r1] (.pointer none) rfl rfl ?_
  refine zX [.pointer none,I r1] (I r1) rfl rfl ?_
  refine zA (.pointer none) rfl ?_
  refine zA (I r1) rfl ?_
  refine s_nil ?_
  refine W.seq ?_
  refine W.block ?_
  refine W.seq ?_
  refine W.region rfl ?_
  refine zM (I r1) rfl ?_
  refine zC r1 0 (r1 != 0) rfl rfl rfl ?_
  refine zA (B (r1 != 0)) rfl ?_
  refine s_nil ?_
  refine W.cond (r1 != 0) rfl (fun au=>?_) (fun au=>?_)
  ·replace hM:=M.e_t hM au
   simp only [qy1,qy2,qy3,qy4,qy5,qy6,ne_eq,qy7] at au
   refine W.seq ?_
   refine W.region rfl ?_
   refine zM (I r1) rfl ?_
   refine zA (I 0) rfl ?_
   refine zA (I r1) rfl ?_
   refine s_nil ?_
   replace H:=H.pk []
   refine W.ret ?_
   have am:=M.e_pure hM
   exact ⟨_,resE_tmp2 rfl,⟨0,r1,am,rfl,H⟩⟩
  replace hM:=M.e_f hM au
  exact (M.e_fail hM).elim
 subst aI
 subst vq
 try dsimp only at hM
 replace H:=H.bk ab
 clear ab
 refine zM (.tuple #[Pq aj,I ai]) rfl ?_
 refine zX [Pq aj,I ai] (Pq aj) rfl rfl ?_
 refine zX [Pq aj,I ai] (I ai) rfl rfl ?_
 refine zA (Pq aj) rfl ?_
 refine zA (I ai) rfl ?_
 refine s_nil ?_
 refine W.seq ?_
 refine W.block ?_
 refine W.seq ?_
 refine W.region rfl ?_
 refine zM (I ai) rfl ?_
 refine zC ai 0 (ai != 0) rfl rfl rfl ?_
 refine zA (B (ai != 0)) rfl ?_
 refine s_nil ?_
 refine W.cond (ai != 0) rfl (fun av=>?_) (fun av=>?_)
 ·replace hM:=M.e_t hM av
  exact (M.e_fail hM).elim
 replace hM:=M.e_f hM av
 simp only [qy1,qy2,qy3,qy4,qy5,qy6,ne_eq,qy7] at av
 refine W.seq ?_
 refine W.region rfl ?_
 refine zM (I reach) rfl ?_
 refine s_val (x_fa (a:=Pq ac) (v:=Oq ac 2) rfl (fa_blk (o:=0) Fd27_2 Sz25)) ?_
 refine s_val (x_ld (p:=Oq ac 2) (v:=aa) rfl (ldb_sc Sc25 (H.bl 3) rfl)) ?_
 have aU:=(ak).len_le
 refine s_val (x_lenS T25.und rfl ak) ?_
 refine zR (s_Reaches.length:Int) 1 ((s_Reaches.length:Int)-1) rfl rfl rfl (by omega) ?_
 obtain ⟨aV,aJ,hM⟩:=M.e_bind hM
 refine s_call cf70 [I reach,I 0,I ((s_Reaches.length:Int)-1)] rfl (zac reach 0 ((s_Reaches.length:Int)-1) aJ _ (H.gt 4)) ?_
 rintro vq aW ⟨r2,aK,hvq,ab⟩
 subst aK
 subst vq
 try dsimp only at hM
 replace H:=H.bk ab
 clear ab
 refine s_val (x_not (b:=r2) rfl) ?_
 refine zA (B (!r2)) rfl ?_
 refine s_nil ?_
 refine W.cond (!r2) rfl (fun ax=>?_) (fun ax=>?_)
 ·replace hM:=M.e_t hM ax
  refine W.seq ?_
  refine W.region rfl ?_
  refine zA (I 0) rfl ?_
  refine zA (I 2) rfl ?_
  refine s_nil ?_
  replace H:=H.pk []
  refine W.ret ?_
  have am:=M.e_pure hM
  exact ⟨_,resE_tmp2 rfl,⟨0,2,am,rfl,H⟩⟩
 replace hM:=M.e_f hM ax
 refine W.seq ?_
 refine W.draw (fun W=>St w W [cBlk aj [ae,ag,aa,.map (some aw)] 177,cMemI encSpt aw (zaa s_Sections s_Marks s_Reaches),cBlk aq [I c.up,I c.down,I c.roughup,I c.roughdown] 61,cBlk ac [ae,ag,aa] 27] R) [(0,true),(1,true),(2,true),(3,true),(4,true),(5,true),(6,false),(7,true),(8,true)] mixed (by decide +kernel) rfl ?_
 intro aX ao
 replace H:=H.ext ao
 clear ao
 refine ⟨(H.pk [0,1,2,3]),?_⟩
 refine d_q rfl (fun w' H=>x_ld (p:=Pq aq) (v:=.agg #[I c.up,I c.down,I c.roughup,I c.roughdown]) rfl (ldb_ag (ds:=[I c.up,I c.down,I c.roughup,I c.roughdown]) Ag61 Sz61 (H.bl 2) rfl rfl)) ?_
 refine d_q rfl (fun w' H=>x_fa (a:=Pq ac) (v:=Oq ac 2) rfl (fa_blk (o:=0) Fd27_2 Sz25)) ?_
 refine d_q rfl (fun w' H=>x_ld (p:=Oq ac 2) (v:=aa) rfl (ldb_sc Sc25 (H.bl 3) rfl)) ?_
 refine d_q rfl (fun w' H=>x_mv (v:=I reach) rfl) ?_
 obtain ⟨aL,hM⟩:=M.e_grd hM
 simp only [Bool.and_eq_true,decide_eq_true_eq] at aL
 refine d_q rfl (fun w' H=>x_ix (a:=aa) (b:=I reach) (v:=vat aa 5 (Int.toNat reach)) rfl rfl (Sl.ix (α:=Rch) T25.und T25.size ak (by omega) (by omega))) ?_
 refine d_q rfl (fun w' H=>x_ld (p:=vat aa 5 (Int.toNat reach)) (v:=.agg #[I ((s_Reaches.getD (Int.toNat reach) default).up),I ((s_Reaches.getD (Int.toNat reach) default).down),I ((s_Reaches.getD (Int.toNat reach) default).lo),I ((s_Reaches.getD (Int.toNat reach) default).hi),B ((s_Reaches.getD (Int.toNat reach) default).narrow)]) rfl (ld_ag Ag58 Sz58 (At.mono (Rch_atA ak (i:=reach) (by omega) (by omega)) (ap.at H)))) ?_
 refine d_l rfl ?_
 obtain ⟨aY,aM,hM⟩:=M.e_bind hM
 refine s_call cf71 [.agg #[I c.up,I c.down,I c.roughup,I c.roughdown],.agg #[I ((s_Reaches.getD (Int.toNat reach) default).up),I ((s_Reaches.getD (Int.toNat reach) default).down),I ((s_Reaches.getD (Int.toNat reach) default).lo),I ((s_Reaches.getD (Int.toNat reach) default).hi),B ((s_Reaches.getD (Int.toNat reach) default).narrow)]] rfl (zd4 c (s_Reaches.getD (Int.toNat reach) default) aM _ (H.gt 4)) ?_
 rintro vq aZ ⟨r3,aN,hvq,ab⟩
 subst aN
 subst vq
 try dsimp only at hM
 replace H:=H.bk ab
 clear ab
 refine s_nil ⟨(H.pk [0,1,2,3]),?_⟩
 refine d_q rfl (fun w' H=>x_not (b:=r3) rfl) ?_
 refine d_q rfl (fun w' H=>x_as (v:=B (!r3)) rfl) ?_
 refine d_nil ?_
 refine W.cond (!r3) rfl (fun ay=>?_) (fun ay=>?_)
 ·replace hM:=M.e_t hM ay
  refine W.seq ?_
  refine W.region rfl ?_
  refine zA (I 0) rfl ?_
  refine zA (I 4) rfl ?_
  refine s_nil ?_
  replace H:=H.pk []
  refine W.ret ?_
  have am:=M.e_pure hM
  exact ⟨_,resE_tmp2 rfl,⟨0,4,am,rfl,H⟩⟩
 replace hM:=M.e_f hM ay
 refine W.skip ?_
 refine W.seq ?_
 refine W.draw (fun W=>St w W [cBlk aj [ae,ag,aa,.map (some aw)] 177,cBlk aq [I c.up,I c.down,I c.roughup,I c.roughdown] 61,cBlk ac [ae,ag,aa] 27] R) [(0,true),(1,true),(2,true),(3,true),(4,true),(5,true),(6,true),(7,false),(8,true),(9,true)] mixed (by decide +kernel) rfl ?_
 intro a6 ao
 replace H:=H.ext ao
 clear ao
 refine ⟨(H.pk [0,2,3]),?_⟩
 refine d_q rfl (fun w' H=>x_mv (v:=Pq aj) rfl) ?_
 refine d_q rfl (fun w' H=>x_fa (a:=Pq ac) (v:=Oq ac 2) rfl (fa_blk (o:=0) Fd27_2 Sz25)) ?_
 refine d_q rfl (fun w' H=>x_ld (p:=Oq ac 2) (v:=aa) rfl (ldb_sc Sc25 (H.bl 2) rfl)) ?_
 refine d_q rfl (fun w' H=>x_mv (v:=I reach) rfl) ?_
 refine d_q rfl (fun w' H=>x_ix (a:=aa) (b:=I reach) (v:=vat aa 5 (Int.toNat reach)) rfl rfl (Sl.ix (α:=Rch) T25.und T25.size ak (by omega) (by omega))) ?_
 refine d_q rfl (fun w' H=>x_ld (p:=vat aa 5 (Int.toNat reach)) (v:=.agg #[I ((s_Reaches.getD (Int.toNat reach) default).up),I ((s_Reaches.getD (Int.toNat reach) default).down),I ((s_Reaches.getD (Int.toNat reach) default).lo),I ((s_Reaches.getD (Int.toNat reach) default).hi),B ((s_Reaches.getD (Int.toNat reach) default).narrow)]) rfl (ld_ag Ag58 Sz58 (At.mono (Rch_atA ak (i:=reach) (by omega) (by omega)) (ap.at H)))) ?_
 refine d_q rfl (fun w' H=>x_ld (p:=Pq aq) (v:=.agg #[I c.up,I c.down,I c.roughup,I c.roughdown]) rfl (ldb_ag (ds:=[I c.up,I c.down,I c.roughup,I c.roughdown]) Ag61 Sz61 (H.bl 1) rfl rfl)) ?_
 refine d_l rfl ?_
 obtain ⟨a7,aO,hM⟩:=M.e_bind hM
 refine s_call cf72 [Pq aj,.agg #[I ((s_Reaches.getD (Int.toNat reach) default).up),I ((s_Reaches.getD (Int.toNat reach) default).down),I ((s_Reaches.getD (Int.toNat reach) default).lo),I ((s_Reaches.getD (Int.toNat reach) default).hi),B ((s_Reaches.getD (Int.toNat reach) default).narrow)],.agg #[I c.up,I c.down,I c.roughup,I c.roughdown]] rfl (zcG s_Sections s_Marks s_Reaches (s_Reaches.getD (Int.toNat reach) default) c (aC.app _) aD (aE.app _) aF (ap.app _) ak (Has.here (k:=0) rfl) aO _ ((H.pk [1,0,2,3]).gt 3)) ?_
 rintro vq a8 ⟨r4,aP,hvq,ab⟩
 subst aP
 subst vq
 try dsimp only at hM
 replace H:=H.pk [1,0,2,3] |>.bk ab
 clear ab
 refine s_nil ⟨(H.pk [1,2,3]),?_⟩
 refine d_q rfl (fun w' H=>x_as (v:=I r4) rfl) ?_
 refine d_q rfl (fun w' H=>x_as (v:=I 0) rfl) ?_
 refine d_nil ?_
 replace H:=H.pk []
 refine W.ret ?_
 have am:=M.e_pure hM
 exact ⟨_,resE_tmp2 rfl,⟨r4,0,am,rfl,H⟩⟩

def zcO (s_Sections:List Sect) (s_Marks:List Mrk) (s_Reaches:List Rch) (marks:List Int):(Nat × (List Span))->M ((Nat × (List Span)) ⊕ ((List Span) × (List Span))):=fun (s2,l) =>
  bif decide ((s2:Int)<(s_Sections.length:Int)) then (
  M.bind (zaL s_Sections s_Marks s_Reaches marks (s2:Int)) fun (r0,aa) =>
  M.grd (decide ((l.length+([(⟨(r0:Int),(aa:Int)⟩:Span)]).length)*16<=140737488355328)) <|
  M.pure (.inl (s2+1,l++([(⟨(r0:Int),(aa:Int)⟩:Span)]))))
  else (
  M.pure (.inr (l,l)))
def zcV (s_Sections:List Sect) (s_Marks:List Mrk) (s_Reaches:List Rch) (marks:List Int):M ((List Span) × Int) :=
  M.bind (zcw s_Sections s_Marks s_Reaches marks) fun x_=>match x_ with
  | (.inl r1)=>(
  bif r1 != 0 then (
  M.pure (([]),r1))
  else (
  M.fail))
  | (.inr aa)=>(
  bif aa != 0 then (
  M.pure (([]),aa))
  else (
  M.bind (zcz s_Sections s_Marks s_Reaches marks) fun r2 =>
  bif !r2 then (
  M.pure (([]),7))
  else (
  M.bind (M.iter (zcO s_Sections s_Marks s_Reaches marks) (0,[])) fun (l2,l3) =>
  M.pure (l3,0))))
theorem zdE {R:List Chunk} {aG:Cells} {ae:Value} {aH:Cells} {ai:Value} {aI:Cells} {aj:Value} {aJ:Cells} {ag:Value} (s_Sections:List Sect) (s_Marks:List Mrk) (s_Reaches:List Rch) (marks:List Int) (ax:Reads R aG) (ap:Sl aG ae s_Sections) (ay:Reads R aH) (az:Sl aH ai s_Marks) (aA:Reads R aI) (aB:Sl aI aj s_Reaches) (aC:Reads R aJ) (aD:Sl aJ ag marks) {r:((List Span) × Int)} (hM:(zcV s_Sections s_Marks s_Reaches marks).Ends r) (w:World) (H:St w w [] R):Ret Tryz.prog 13 #[.agg #[ae,ai,aj],ag] w fun v w'=>∃ (y0:List Span) (y1:Int) (u0:Value),(y0,y1)=r/\v = .tuple #[u0,I y1]/\St w w' [cOwn (α:=Span) 54 u0 y0] R:=by
 refine ret_of_W Tryz.func13 rfl rfl rfl ?_
 refine W.seq ?_
 refine W.region rfl ?_
 refine t_box (v:=.agg #[ae,ai,aj]) (cs:=[ae,ai,aj]) H rfl rfl ?_
 intro aq a8 H
 refine zA (.slice none 0 0) rfl ?_
 refine zA (I 0) rfl ?_
 refine s_nil ?_
 refine W.seq ?_
 refine W.region rfl ?_
 refine s_val (x_ld (p:=Pq aq) (v:=.agg #[ae,ai,aj]) rfl (ldb_ag (ds:=[ae,ai,aj]) Ag27 Sz27 (H.bl 0) rfl rfl)) ?_
 refine zM ag rfl ?_
 obtain ⟨ba,aO,hM⟩:=M.e_bind hM
 refine s_call cf57 [.agg #[ae,ai,aj],ag] rfl (zc9 s_Sections s_Marks s_Reaches marks (ax.app _) ap (ay.app _) az (aA.app _) aB (aC.app _) aD aO _ (H.gt 1)) ?_
 rintro vq bb (⟨r1,aP,hvq,ab⟩ | ⟨aa,ac,aK,aQ,hvq,ab⟩)
 ·subst aP
  subst vq
  try dsimp only at hM
  replace H:=H.bk ab
  clear ab
  refine zM (.tuple #[.pointer none,I r1]) rfl ?_
  refine zX [.pointer none,I r1] (.pointer none) rfl rfl ?_
  refine zX [.pointer none,I r1] (I r1) rfl rfl ?_
  refine zA (.pointer none) rfl ?_
  refine zA (I r1) rfl ?_
  refine s_nil ?_
  refine W.seq ?_
  refine W.block ?_
  refine W.seq ?_
  refine W.region rfl ?_
  refine zM (I r1) rfl ?_
  refine zC r1 0 (r1 != 0) rfl rfl rfl ?_
  refine zA (B (r1 != 0)) rfl ?_
  refine s_nil ?_
  refine W.cond (r1 != 0) rfl (fun au=>?_) (fun au=>?_)
  ·replace hM:=M.e_t hM au
   simp only [qy1,qy2,qy3,qy4,qy5,qy6,ne_eq,qy7] at au
   refine W.seq ?_
   refine W.region rfl ?_
   refine zM (I r1) rfl ?_
   refine zA (.slice none 0 0) rfl ?_
   refine zA (I r1) rfl ?_
   refine s_nil ?_
   refine W.ret ?_
   have ak:=M.e_pure hM
   replace H:=H.nilOwn (α:=Span) 54
   exact ⟨_,resE_tmp2 rfl,⟨([]),r1,(.slice none 0 0),ak,rfl,(H.pk [0])⟩⟩
  replace hM:=M.e_f hM au
  simp only [qy1,qy2,qy3,qy4,qy5,qy6,ne_eq,qy7] at au
  refine W.seq ?_
  refine W.region rfl ?_
  refine zM (.pointer none) rfl ?_
  refine zM ag rfl ?_
  exact (M.e_fail hM).elim
 subst aQ
 subst vq
 try dsimp only at hM
 replace H:=H.bk ab
 clear ab
 refine zM (.tuple #[Pq ac,I aa]) rfl ?_
 refine zX [Pq ac,I aa] (Pq ac) rfl rfl ?_
 refine zX [Pq ac,I aa] (I aa) rfl rfl ?_
 refine zA (Pq ac) rfl ?_
 refine zA (I aa) rfl ?_
 refine s_nil ?_
 refine W.seq ?_
 refine W.block ?_
 refine W.seq ?_
 refine W.region rfl ?_
 refine zM (I aa) rfl ?_
 refine zC aa 0 (aa != 0) rfl rfl rfl ?_
 refine zA (B (aa != 0)) rfl ?_
 refine s_nil ?_
 refine W.cond (aa != 0) rfl (fun av=>?_) (fun av=>?_)
 ·replace hM:=M.e_t hM av
  simp only [qy1,qy2,qy3,qy4,qy5,qy6,ne_eq,qy7] at av
  refine W.seq ?_
  refine W.region rfl ?_
  refine zM (I aa) rfl ?_
  refine zA (.slice none 0 0) rfl ?_
  refine zA (I aa) rfl ?_
  refine s_nil ?_
  replace H:=H.pk []
  refine W.ret ?_
  have ak:=M.e_pure hM
  replace H:=H.nilOwn (α:=Span) 54
  exact ⟨_,resE_tmp2 rfl,⟨([]),aa,(.slice none 0 0),ak,rfl,H⟩⟩
 replace hM:=M.e_f hM av
 simp only [qy1,qy2,qy3,qy4,qy5,qy6,ne_eq,qy7] at av
 refine W.seq ?_
 refine W.region rfl ?_
 refine zM (Pq ac) rfl ?_
 refine zM ag rfl ?_
 obtain ⟨bc,aR,hM⟩:=M.e_bind hM
 refine s_call cf58 [Pq ac,ag] rfl (zdm s_Sections s_Marks s_Reaches marks (ax.app _) ap (ay.app _) az (aA.app _) aB (Has.here (k:=0) rfl) (aC.app _) aD aR _ (H.gt 3)) ?_
 rintro vq bf ⟨r2,aS,hvq,ab⟩
 subst aS
 subst vq
 try dsimp only at hM
 replace H:=H.bk ab
 clear ab
 refine s_val (x_not (b:=r2) rfl) ?_
 refine zA (B (!r2)) rfl ?_
 refine s_nil ?_
 refine W.cond (!r2) rfl (fun aE=>?_) (fun aE=>?_)
 ·replace hM:=M.e_t hM aE
  refine W.seq ?_
  refine W.region rfl ?_
  refine zA (.slice none 0 0) rfl ?_
  refine zA (I 7) rfl ?_
  refine s_nil ?_
  replace H:=H.pk []
  refine W.ret ?_
  have ak:=M.e_pure hM
  replace H:=H.nilOwn (α:=Span) 54
  exact ⟨_,resE_tmp2 rfl,⟨([]),7,(.slice none 0 0),ak,rfl,H⟩⟩
 replace hM:=M.e_f hM aE
 refine W.skip ?_
 refine W.seq ?_
 refine W.region rfl ?_
 refine zA (.slice none 0 0) rfl ?_
 refine s_nil ?_
 refine W.seq ?_
 refine W.seq ?_
 refine W.region rfl ?_
 refine s_val (x_fa (a:=Pq aq) (v:=Pq aq) rfl (fa_blk (o:=0) Fd27_0 Sz23)) ?_
 refine s_val (x_ld (p:=Pq aq) (v:=ae) rfl (ldb_sc Sc23 (H.bl 2) rfl)) ?_
 have bh:=(ap).len_le
 refine s_val (x_lenS T23.und rfl ap) ?_
 refine zM (I 0) rfl ?_
 refine s_nil ?_
 refine W.block ?_
 replace H:=H.nilOwn (α:=Span) 54
 obtain ⟨aT,aF,aU⟩:=M.e_bind hM
 obtain ⟨bi,aF⟩:=M.e_iter aF
 refine W.loop (fun m σ W=>∃ (s2:Nat) (l:List Span) (am:Value) (ρ:Env),σ=upds ρ [(1,ag),(6,Pq ac),(8,am),(27,I (s_Sections.length:Int)),(28,I (s2:Int))]/\M.iterN (zcO s_Sections s_Marks s_Reaches marks) m (s2,l)=some aT/\St w W [cOwn (α:=Span) 54 am l,cBlk ac [ae,ai,aj,.map (some aK)] 177,cMemI encSpt aK (zaa s_Sections s_Marks s_Reaches),cBlk aq [ae,ai,aj] 27] R) ?_ ?_
 ·exact ⟨_,0,[],(.slice none 0 0),_,upds_of _ _ ⟨rfl,rfl,rfl,rfl,rfl,trivial⟩,aF,H⟩
 rintro bj σ bm ⟨s2,l,am,ρ,rfl,aL,H⟩
 obtain ⟨aV,aW,bn,hM,aM⟩:=M.e_iterN aL
 simp only [zcO] at hM
 clear aL
 refine W.seq ?_
 refine W.region rfl ?_
 refine zC (s2:Int) (s_Sections.length:Int) (decide ((s2:Int)<(s_Sections.length:Int))) rfl rfl rfl ?_
 refine s_nil ?_
 refine W.seq ?_
 refine W.cond (decide ((s2:Int)<(s_Sections.length:Int))) rfl (fun aw=>?_) (fun aw=>?_)
 ·replace hM:=M.e_t hM aw
  simp only [qy1,qy2,qy3,qy4,qy5,qy6,ne_eq,qy7] at aw
  refine W.skip ?_
  refine W.seq ?_
  refine W.block ?_
  refine W.seq ?_
  refine W.region rfl ?_
  refine zM (I (s2:Int)) rfl ?_
  refine zA (I (s2:Int)) rfl ?_
  refine s_nil ?_
  refine W.region rfl ?_
  refine zM am rfl ?_
  refine zM (Pq ac) rfl ?_
  refine zM ag rfl ?_
  refine zM (I (s2:Int)) rfl ?_
  obtain ⟨bo,aX,hM⟩:=M.e_bind hM
  refine s_call cf59 [Pq ac,ag,I (s2:Int)] rfl (za4 s_Sections s_Marks s_Reaches marks (s2:Int) (ax.app _) ap (ay.app _) az (aA.app _) aB (Has.here (k:=1) rfl) (aC.app _) aD aX _ (H.gt 4)) ?_
  rintro vq bp ⟨r0,ao,aY,hvq,ab⟩
  subst aY
  subst vq
  try dsimp only at hM
  replace H:=H.bk ab
  clear ab
  refine t_bs (α:=Span) T43 [.agg #[I r0,I ao]] [(⟨(r0:Int),(ao:Int)⟩:Span)] H rfl (.cons rfl (Flat.rep_enc _ (⟨(r0:Int),(ao:Int)⟩:Span))<|.nil) rfl rfl rfl ?_
  intro aZ bq H
  obtain ⟨a6,hM⟩:=M.e_grd hM
  simp only [Bool.and_eq_true,decide_eq_true_eq] at a6
  refine t_app (α:=Span) (k:=1) (l:=l) (l2:=[(⟨(r0:Int),(ao:Int)⟩:Span)]) (l':=l++([(⟨(r0:Int),(ao:Int)⟩:Span)])) (vy:=aZ) T43 rfl H rfl rfl rfl (H.os 0) (H.ol 0) (rfl) (by first | omega | (simp only [List.length_nil] at *; omega)) ?_
  intro aN br H
  replace H:=H.nf
  refine zA aN rfl ?_
  refine s_nil ?_
  refine W.region rfl ?_
  refine zR (s2:Int) 1 ((s2:Int)+1) rfl rfl rfl (by omega) ?_
  refine zM (I ((s2:Int)+1)) rfl ?_
  refine s_nil ?_
  exact ⟨aV,aW,s2+1,l++([(⟨(r0:Int),(ao:Int)⟩:Span)]),aN,_,upds_of _ _ ⟨rfl,rfl,rfl,rfl,rfl,trivial⟩,M.e_inl hM aM,(H.pk [1,2,3,4])⟩
 replace hM:=M.e_f hM aw
 simp only [qy1,qy2,qy3,qy4,qy5,qy6,ne_eq,qy7] at aw
 refine W.exit ?_
 have a7:=M.e_inr hM aM
 subst a7
 replace hM:=aU
 try dsimp only at hM
 replace H:=H.pk [0]
 refine W.seq ?_
 refine W.region rfl ?_
 refine zM am rfl ?_
 refine zA am rfl ?_
 refine zA (I 0) rfl ?_
 refine s_nil ?_
 refine W.ret ?_
 have ak:=M.e_pure hM
 exact ⟨_,resE_tmp2 rfl,⟨l,0,am,ak,rfl,H⟩⟩

end Go.Proofs.YtlemgioaakecpaaGreat
end
section
set_option maxRecDepth 100000
set_option maxHeartbeats 16000000
namespace Go.Proofs.YtlemgioaakecpaaGreat
open Go Go.Nm
def za1 (s_Sections:List Sect) (s_Marks:List Mrk) (s_Reaches:List Rch) (a:Int) (b:Int):M (Bool × Int) :=
  M.bind (zad s_Sections s_Marks s_Reaches) fun x_=>match x_ with
  | (.inl r1)=>(
  bif r1 != 0 then (
  M.pure (false,r1))
  else (
  M.fail))
  | (.inr aa)=>(
  bif aa != 0 then (
  M.fail)
  else (
  M.bind (zab a 0 ((s_Marks.length:Int)-1)) fun r2 =>
  M.bind (M.opt (!(!r2)) (zab b 0 ((s_Marks.length:Int)-1)) false) fun r3 =>
  bif ((!r2)||(!r3)) then (
  M.pure (false,2))
  else (
  M.bind (zah s_Sections s_Marks s_Reaches a b) fun r4 =>
  M.bind (M.opt (!r4) (zah s_Sections s_Marks s_Reaches b a) false) fun r5 =>
  M.pure ((r4||r5),0))))
theorem zdn {R:List Chunk} {aA:Cells} {aj:Value} {aB:Cells} {ab:Value} {aC:Cells} {ak:Value} (s_Sections:List Sect) (s_Marks:List Mrk) (s_Reaches:List Rch) (a:Int) (b:Int) (aq:Reads R aA) (au:Sl aA aj s_Sections) (av:Reads R aB) (am:Sl aB ab s_Marks) (aw:Reads R aC) (ax:Sl aC ak s_Reaches) {r:(Bool × Int)} (hM:(za1 s_Sections s_Marks s_Reaches a b).Ends r) (w:World) (H:St w w [] R):Ret Tryz.prog 30 #[.agg #[aj,ab,ak],I a,I b] w fun v w'=>∃ (y0:Bool) (y1:Int),(y0,y1)=r/\v = .tuple #[B y0,I y1]/\St w w' [] R:=by
 refine ret_of_W Tryz.func30 rfl rfl rfl ?_
 refine W.seq ?_
 refine W.region rfl ?_
 refine t_box (v:=.agg #[aj,ab,ak]) (cs:=[aj,ab,ak]) H rfl rfl ?_
 intro ai aN H
 refine zA (B false) rfl ?_
 refine zA (I 0) rfl ?_
 refine s_nil ?_
 refine W.seq ?_
 refine W.region rfl ?_
 refine s_val (x_ld (p:=Pq ai) (v:=.agg #[aj,ab,ak]) rfl (ldb_ag (ds:=[aj,ab,ak]) Ag27 Sz27 (H.bl 0) rfl rfl)) ?_
 obtain ⟨aO,aD,hM⟩:=M.e_bind hM
 refine s_call cf49 [.agg #[aj,ab,ak]] rfl (zap s_Sections s_Marks s_Reaches (aq.app _) au (av.app _) am (aw.app _) ax aD _ (H.gt 1)) ?_
 rintro vq aP (⟨r1,aE,hvq,aa⟩ | ⟨ac,ae,aQ,aF,hvq,aa⟩)
 ·subst aE
  subst vq
  try dsimp only at hM
  replace H:=H.bk aa
  clear aa
  refine zM (.tuple #[.pointer none,I r1]) rfl ?_
  refine zX [.pointer none,I r1] (.pointer none) rfl rfl ?_
  refine zX [.pointer none,I r1] (I r1) rfl rfl ?_
  refine zA (.pointer none) rfl ?_
  refine zA (I r1) rfl ?_
  refine s_nil ?_
  refine W.seq ?_
  refine W.block ?_
  refine W.seq ?_
  refine W.region rfl ?_
  refine zM (I r1) rfl ?_
  refine zC r1 0 (r1 != 0) rfl rfl rfl ?_
  refine zA (B (r1 != 0)) rfl ?_
  refine s_nil ?_
  refine W.cond (r1 != 0) rfl (fun ao=>?_) (fun ao=>?_)
  ·replace hM:=M.e_t hM ao
   simp only [qy1,qy2,qy3,qy4,qy5,qy6,ne_eq,qy7] at ao
   refine W.seq ?_
   refine W.region rfl ?_
   refine zM (I r1) rfl ?_
   refine zA (B false) rfl ?_
   refine zA (I r1) rfl ?_
   refine s_nil ?_
   refine W.ret ?_
   have ag:=M.e_pure hM
   exact ⟨_,resE_tmp2 rfl,⟨false,r1,ag,rfl,(H.pk [])⟩⟩
  replace hM:=M.e_f hM ao
  exact (M.e_fail hM).elim
 subst aF
 subst vq
 try dsimp only at hM
 replace H:=H.bk aa
 clear aa
 refine zM (.tuple #[Pq ae,I ac]) rfl ?_
 refine zX [Pq ae,I ac] (Pq ae) rfl rfl ?_
 refine zX [Pq ae,I ac] (I ac) rfl rfl ?_
 refine zA (Pq ae) rfl ?_
 refine zA (I ac) rfl ?_
 refine s_nil ?_
 refine W.seq ?_
 refine W.block ?_
 refine W.seq ?_
 refine W.region rfl ?_
 refine zM (I ac) rfl ?_
 refine zC ac 0 (ac != 0) rfl rfl rfl ?_
 refine zA (B (ac != 0)) rfl ?_
 refine s_nil ?_
 refine W.cond (ac != 0) rfl (fun ap=>?_) (fun ap=>?_)
 ·replace hM:=M.e_t hM ap
  exact (M.e_fail hM).elim
 replace hM:=M.e_f hM ap
 simp only [qy1,qy2,qy3,qy4,qy5,qy6,ne_eq,qy7] at ap
 refine W.seq ?_
 refine W.region rfl ?_
 refine zM (I a) rfl ?_
 refine s_val (x_fa (a:=Pq ai) (v:=Oq ai 1) rfl (fa_blk (o:=0) Fd27_1 Sz24)) ?_
 refine s_val (x_ld (p:=Oq ai 1) (v:=ab) rfl (ldb_sc Sc24 (H.bl 2) rfl)) ?_
 have aR:=(am).len_le
 refine s_val (x_lenS T24.und rfl am) ?_
 refine zR (s_Marks.length:Int) 1 ((s_Marks.length:Int)-1) rfl rfl rfl (by omega) ?_
 obtain ⟨aS,aG,hM⟩:=M.e_bind hM
 refine s_call cf70 [I a,I 0,I ((s_Marks.length:Int)-1)] rfl (zac a 0 ((s_Marks.length:Int)-1) aG _ (H.gt 3)) ?_
 rintro vq aT ⟨r2,aH,hvq,aa⟩
 subst aH
 subst vq
 try dsimp only at hM
 replace H:=H.bk aa
 clear aa
 refine s_val (x_not (b:=r2) rfl) ?_
 refine zM (B (!r2)) rfl ?_
 refine g_val (!(!r2)) (gy_f rfl) (fun hg=>x_mv (v:=I b) rfl) ?_
 refine g_val (!(!r2)) (gy_f rfl) (fun hg=>x_fa (a:=Pq ai) (v:=Oq ai 1) rfl (fa_blk (o:=0) Fd27_1 Sz24)) ?_
 refine g_val (!(!r2)) (gy_f rfl) (fun hg=>x_ld (p:=Oq ai 1) (v:=ab) (gd_of (c:=!(!r2)) hg (Oq ai 1)) (ldb_sc Sc24 (H.bl 2) rfl)) ?_
 have aU:=(am).len_le
 refine g_val (!(!r2)) (gy_f rfl) (fun hg=>x_lenS T24.und (gd_of (c:=!(!r2)) hg (ab)) am) ?_
 refine g_val (!(!r2)) (gy_f rfl) (fun hg=>x_ari (a:=(s_Marks.length:Int)) (b:=1) (r:=(s_Marks.length:Int)-1) (gd_of (c:=!(!r2)) hg (I (s_Marks.length:Int))) rfl rfl (by first | omega | (have aI:=hg; simp at aI; omega))) ?_
 obtain ⟨r3,aJ,hM⟩:=M.e_bind hM
 refine t_gcall (!(!r2)) (gy_f rfl) cf70 (B r3) (fun _=>[I b,I 0,I ((s_Marks.length:Int)-1)]) (fun hg=>lst3 (gd_of (c:=!(!r2)) hg (I b)) rfl (gd_of (c:=!(!r2)) hg (I ((s_Marks.length:Int)-1)))) H (fun hg=>(zac b 0 ((s_Marks.length:Int)-1) (M.e_opt aJ hg) _ (H.give (A:=[]) rfl)).mono fun v_ w_ ⟨y_,ag,ay,H_⟩=>by subst ag; exact ⟨ay,H.via H_⟩) ?_
 intro aV H
 refine g_val (!(!r2)) (gy_f rfl) (fun hg=>x_not (b:=r3) (gd_of (c:=!(!r2)) hg (B r3))) ?_
 refine s_val (x_por (b:=!r2) (r:=!r3) rfl rfl (fun hb=>gd_of (c:=!(!r2)) (by first | exact hb | (rw [hb]; rfl) | simp_all) (B (!r3)))) ?_
 refine zA (B ((!r2)||(!r3))) rfl ?_
 refine s_nil ?_
 refine W.cond ((!r2)||(!r3)) rfl (fun az=>?_) (fun az=>?_)
 ·replace hM:=M.e_t hM az
  refine W.seq ?_
  refine W.region rfl ?_
  refine zA (B false) rfl ?_
  refine zA (I 2) rfl ?_
  refine s_nil ?_
  replace H:=H.pk []
  refine W.ret ?_
  have ag:=M.e_pure hM
  exact ⟨_,resE_tmp2 rfl,⟨false,2,ag,rfl,H⟩⟩
 replace hM:=M.e_f hM az
 refine W.skip ?_
 refine W.seq ?_
 refine W.region rfl ?_
 refine zM (Pq ae) rfl ?_
 refine zM (I a) rfl ?_
 refine zM (I b) rfl ?_
 obtain ⟨aW,aK,hM⟩:=M.e_bind hM
 refine s_call cf51 [Pq ae,I a,I b] rfl (zav s_Sections s_Marks s_Reaches a b (aq.app _) au (av.app _) am (aw.app _) ax (Has.here (k:=0) rfl) aK _ (H.gt 3)) ?_
 rintro vq aX ⟨r4,aL,hvq,aa⟩
 subst aL
 subst vq
 try dsimp only at hM
 replace H:=H.bk aa
 clear aa
 refine zM (B r4) rfl ?_
 refine g_val (!r4) (gy_f rfl) (fun hg=>x_mv (v:=Pq ae) rfl) ?_
 refine g_val (!r4) (gy_f rfl) (fun hg=>x_mv (v:=I b) rfl) ?_
 refine g_val (!r4) (gy_f rfl) (fun hg=>x_mv (v:=I a) rfl) ?_
 obtain ⟨r5,aM,hM⟩:=M.e_bind hM
 refine t_gcall (!r4) (gy_f rfl) cf51 (B r5) (fun _=>[Pq ae,I b,I a]) (fun hg=>lst3 (gd_of (c:=!r4) hg (Pq ae)) (gd_of (c:=!r4) hg (I b)) (gd_of (c:=!r4) hg (I a))) H (fun hg=>(zav s_Sections s_Marks s_Reaches b a (aq.app _) au (av.app _) am (aw.app _) ax (Has.here (k:=0) rfl) (M.e_opt aM hg) _ (H.give (A:=[]) rfl)).mono fun v_ w_ ⟨y_,ag,ay,H_⟩=>by subst ag; exact ⟨ay,H.via H_⟩) ?_
 intro aY H
 refine s_val (x_por (b:=r4) (r:=r5) rfl rfl (fun hb=>gd_of (c:=!r4) (by first | exact hb | (rw [hb]; rfl) | simp_all) (B r5))) ?_
 refine zA (B (r4||r5)) rfl ?_
 refine zA (I 0) rfl ?_
 refine s_nil ?_
 replace H:=H.pk []
 refine W.ret ?_
 have ag:=M.e_pure hM
 exact ⟨_,resE_tmp2 rfl,⟨(r4||r5),0,ag,rfl,H⟩⟩

end Go.Proofs.YtlemgioaakecpaaGreat
end
namespace Go.Nm
namespace Fl
/-- Sections that are right. -/
structure Secs (S:List Sect):Prop where
  n:2<=S.length/\S.length<=6
  rows:∀ i,i<S.length->Rows (S.getD i default).rows/\2<=(S.getD i default).rows.length/\(S.getD i default).rows.length<=8
  place:∀ i,i<S.length->0<=(S.getD i default).place/\(S.getD i default).place<=10000
  up:∀ i j,i<j->j<S.length->(S.getD i default).place<(S.getD j default).place
structure Rok (S:List Sect) (r:Rch):Prop where
  u0:0<=r.up
  ud:r.up<r.down
  d1:r.down<S.length
  l1:1<=r.lo
  lh:r.lo<=r.hi
  h4:r.hi<=400
structure Mok (m:Mrk):Prop where
  p0:0<=m.place
  p1:m.place<=10000
  l0:0<=m.lo
  lh:m.lo<=m.hi
  h2:m.hi<=2000
structure Site (S:List Sect) (M:List Mrk) (R:List Rch):Prop where
  s:Secs S
  m:1<=M.length/\M.length<=16
  r:1<=R.length/\R.length<=6
  mks:∀ x∈M,Mok x
  rks:∀ x∈R,Rok S x
/-- A case that lies in bounds. -/
structure Cok (c:Cas):Prop where
  d0:0<=c.down
  du:c.down<=c.up
  u2:c.up<=2000
  r1:1<=c.roughup
  r2:1<=c.roughdown
  r3:c.roughup<=400
  r4:c.roughdown<=400
section
variable {S:List Sect} {r:Rch}
theorem Rok.iu (h:Rok S r):Int.toNat r.up<S.length:=by have:=h.u0; have:=h.ud; have:=h.d1; omega
theorem Rok.id (h:Rok S r):Int.toNat r.down<S.length:=by have:=h.u0; have:=h.ud; have:=h.d1; omega
theorem far (hS:Secs S) (h:Rok S r):1<=(S.getD (Int.toNat r.down) default).place-(S.getD (Int.toNat r.up) default).place/\(S.getD (Int.toNat r.down) default).place-(S.getD (Int.toNat r.up) default).place<=10000:=by
  have h1:=hS.up (Int.toNat r.up) (Int.toNat r.down) (by have:=h.u0; have:=h.ud; omega) h.id
  have h2:=hS.place _ h.id
  have h3:=hS.place _ h.iu
  omega
end
def stLo (M:List Mrk) (ms:List Int) (p:Int):Int:=ms.foldl (fun a k=>if p<=(M.getD (Int.toNat k) default).place then max a (M.getD (Int.toNat k) default).lo else a) 0
def stHi (M:List Mrk) (ms:List Int) (p:Int):Int:=ms.foldl (fun a k=>if (M.getD (Int.toNat k) default).place<=p then min a (M.getD (Int.toNat k) default).hi else a) 2000
end Fl
end Go.Nm
namespace Go.Proofs.YtlemgioaakecpaaGreat
open Go Go.Nm
end Go.Proofs.YtlemgioaakecpaaGreat
namespace Go.Nm
namespace Fl
section
variable {M:List Mrk} {p:Int}
theorem lo_fold:∀ (ms:List Int) (a:Int),a<=ms.foldl (fun a k=>if p<=(M.getD (Int.toNat k) default).place then max a (M.getD (Int.toNat k) default).lo else a) a ∧
    (∀ k∈ms,p<=(M.getD (Int.toNat k) default).place->(M.getD (Int.toNat k) default).lo<=ms.foldl (fun a k=>if p<=(M.getD (Int.toNat k) default).place then max a (M.getD (Int.toNat k) default).lo else a) a) ∧
    (ms.foldl (fun a k=>if p<=(M.getD (Int.toNat k) default).place then max a (M.getD (Int.toNat k) default).lo else a) a=a∨∃ k∈ms,p<=(M.getD (Int.toNat k) default).place/\ms.foldl (fun a k=>if p<=(M.getD (Int.toNat k) default).place then max a (M.getD (Int.toNat k) default).lo else a) a=(M.getD (Int.toNat k) default).lo)
  | [],a=>⟨Int.le_refl _,fun k hk=>(List.not_mem_nil hk).elim,.inl rfl⟩
  | k :: ms,a=>by
    rw [List.foldl_cons]
    obtain ⟨h1,h2,h3⟩:=lo_fold ms (if p<=(M.getD (Int.toNat k) default).place then max a (M.getD (Int.toNat k) default).lo else a)
    by_cases hp:p<=(M.getD (Int.toNat k) default).place
    · rw [if_pos hp] at h1 h2 h3 ⊢
      refine ⟨by omega,fun j hj hpj=>?_,?_⟩
      · rcases List.mem_cons.1 hj with rfl | hj
        · omega
        · exact h2 j hj hpj
      · rcases h3 with h3 | ⟨j,hj,hpj,e⟩
        · rcases Int.le_total (M.getD (Int.toNat k) default).lo a with e | e
          · left; omega
          · right; exact ⟨k,by simp,hp,by omega⟩
        · right; exact ⟨j,by simp [hj],hpj,e⟩
    · rw [if_neg hp] at h1 h2 h3 ⊢
      refine ⟨h1,fun j hj hpj=>?_,?_⟩
      · rcases List.mem_cons.1 hj with rfl | hj
        · exact absurd hpj hp
        · exact h2 j hj hpj
      · rcases h3 with h3 | ⟨j,hj,hpj,e⟩
        · exact .inl h3
        · right; exact ⟨j,by simp [hj],hpj,e⟩
theorem hi_fold:∀ (ms:List Int) (a:Int),ms.foldl (fun a k=>if (M.getD (Int.toNat k) default).place<=p then min a (M.getD (Int.toNat k) default).hi else a) a<=a ∧
    (∀ k∈ms,(M.getD (Int.toNat k) default).place<=p->ms.foldl (fun a k=>if (M.getD (Int.toNat k) default).place<=p then min a (M.getD (Int.toNat k) default).hi else a) a<=(M.getD (Int.toNat k) default).hi) ∧
    (ms.foldl (fun a k=>if (M.getD (Int.toNat k) default).place<=p then min a (M.getD (Int.toNat k) default).hi else a) a=a∨∃ k∈ms,(M.getD (Int.toNat k) default).place<=p/\ms.foldl (fun a k=>if (M.getD (Int.toNat k) default).place<=p then min a (M.getD (Int.toNat k) default).hi else a) a=(M.getD (Int.toNat k) default).hi)
  | [],a=>⟨Int.le_refl _,fun k hk=>(List.not_mem_nil hk).elim,.inl rfl⟩
  | k :: ms,a=>by
    rw [List.foldl_cons]
    obtain ⟨h1,h2,h3⟩:=hi_fold ms (if (M.getD (Int.toNat k) default).place<=p then min a (M.getD (Int.toNat k) default).hi else a)
    by_cases hp:(M.getD (Int.toNat k) default).place<=p
    · rw [if_pos hp] at h1 h2 h3 ⊢
      refine ⟨by omega,fun j hj hpj=>?_,?_⟩
      · rcases List.mem_cons.1 hj with rfl | hj
        · omega
        · exact h2 j hj hpj
      · rcases h3 with h3 | ⟨j,hj,hpj,e⟩
        · rcases Int.le_total a (M.getD (Int.toNat k) default).hi with e | e
          · left; omega
          · right; exact ⟨k,by simp,hp,by omega⟩
        · right; exact ⟨j,by simp [hj],hpj,e⟩
    · rw [if_neg hp] at h1 h2 h3 ⊢
      refine ⟨h1,fun j hj hpj=>?_,?_⟩
      · rcases List.mem_cons.1 hj with rfl | hj
        · exact absurd hpj hp
        · exact h2 j hj hpj
      · rcases h3 with h3 | ⟨j,hj,hpj,e⟩
        · exact .inl h3
        · right; exact ⟨j,by simp [hj],hpj,e⟩
theorem stLo_ex (ms:List Int):stLo M ms p=0∨∃ k∈ms,p<=(M.getD (Int.toNat k) default).place/\stLo M ms p=(M.getD (Int.toNat k) default).lo:=(lo_fold ms 0).2.2
theorem stHi_ex (ms:List Int):stHi M ms p=2000∨∃ k∈ms,(M.getD (Int.toNat k) default).place<=p/\stHi M ms p=(M.getD (Int.toNat k) default).hi:=(hi_fold ms 2000).2.2
end
/-- Marks that are true together. -/
def Tog (M:List Mrk) (ms:List Int):Prop:=∀ a∈ms,∀ b∈ms,¬((M.getD (Int.toNat a) default).place<=(M.getD (Int.toNat b) default).place/\(M.getD (Int.toNat a) default).hi<(M.getD (Int.toNat b) default).lo)
def Ixs (M:List Mrk) (ms:List Int):Prop:=∀ k∈ms,0<=k/\k<M.length
theorem Ixs.mok {M:List Mrk} {ms:List Int} (hk:∀ x∈M,Mok x) (h:Ixs M ms) {k:Int} (hm:k∈ms):Mok (M.getD (Int.toNat k) default):=by
  have:=h k hm
  have hl:Int.toNat k<M.length:=by omega
  rw [getD_el M hl]
  exact hk _ (List.getElem_mem hl)
/-- What lies further up is bounded by no less from above. -/
theorem st_le {M:List Mrk} {ms:List Int} (hk:∀ x∈M,Mok x) (h:Ixs M ms) (ht:Tog M ms) {p q:Int} (hpq:q<=p):stLo M ms p<=stHi M ms q:=by
  rcases stLo_ex (M:=M) (p:=p) ms with e | ⟨a,ha,hpa,e⟩ <;> rcases stHi_ex (M:=M) (p:=q) ms with e' | ⟨b,hb,hpb,e'⟩
  · omega
  · have k1:=(h.mok hk hb).lh
    have k2:=(h.mok hk hb).l0
    omega
  · have:=(h.mok hk ha).lh
    have:=(h.mok hk ha).h2
    omega
  · have:=ht b hb a ha
    rw [e,e']
    rcases Int.lt_or_le (M.getD (Int.toNat b) default).hi (M.getD (Int.toNat a) default).lo with k | k
    · exact absurd ⟨by omega,k⟩ this
    · exact k
section
variable (S:List Sect) (M:List Mrk) (ms:List Int) (r:Rch)
def pu:Int:=(S.getD (Int.toNat r.up) default).place
def pd:Int:=(S.getD (Int.toNat r.down) default).place
/-- The lower stages that there can be. -/
def Dn (x:Int):Prop:=stLo M ms (pd S r)<=x/\x<=min (stHi M ms (pd S r)) (stHi M ms (pu S r))
def hc (x:Int):Cas:=⟨stHi M ms (pu S r),x,r.lo,r.lo⟩
end
section
variable {S:List Sect} {M:List Mrk} {ms:List Int} {r:Rch}
theorem pu_pd (hS:Secs S) (hr:Rok S r):pu S r<pd S r:=by
  have:=far hS hr
  unfold pu pd
  omega
theorem Dn.ne (hS:Secs S) (hr:Rok S r) (hk:∀ x∈M,Mok x) (h:Ixs M ms) (ht:Tog M ms):Dn S M ms r (stLo M ms (pd S r)):=by
  have h1:=st_le hk h ht (Int.le_refl (pd S r))
  have h2:=st_le hk h ht (Int.le_of_lt (pu_pd hS hr))
  exact ⟨Int.le_refl _,by omega⟩
end
end Fl
end Go.Nm
namespace Go.Proofs.YtlemgioaakecpaaGreat
open Go Go.Nm
section
variable {S:List Sect} {M':List Mrk} {R':List Rch} {ms:List Int} {r:Rch}
end
end Go.Proofs.YtlemgioaakecpaaGreat
namespace Go.Nm
namespace Fl
theorem Rows.cle {l:List FRow} (h:Rows l) {i j:Nat} (hij:i<=j) (hj:j<l.length):(l.getD i default).carry<=(l.getD j default).carry:=by
  induction j with
  | zero=>rw [show i=0 by omega]; exact Int.le_refl _
  | succ j ih =>
    rcases Nat.lt_or_eq_of_le hij with e | rfl
    · have:=ih (by omega) (by omega)
      have:=h.cm j hj
      omega
    · exact Int.le_refl _
/-- Marks, one behind the other. -/
def Inc (M:List Mrk) (ms:List Int):Prop:=ms.Pairwise (· < ·)/\Ixs M ms
end Fl
end Go.Nm
namespace Go.Proofs.YtlemgioaakecpaaGreat
open Go Go.Nm
theorem in_true {n a b:Int} (h1:a<=n) (h2:n<=b):(zab n a b).Ends true:=by
  have:(zab n a b).Ends (decide (a<=n)&&decide (n<=b)):=M.i_pure
  rwa [gA2 h1 h2] at this
theorem every_sect (l:List Sect) (so:Sect->M Bool) (h:∀ t∈l,(so t).Ends true):(zaG l so).Ends true:=by
  unfold zaG zb8 zce
  refine M.i_bind (a:=false) (M.i_bind (a:=-1) (M.i_bind (a:=(.inr ():Int ⊕ Unit)) ?_ M.i_pure) M.i_pure) M.i_pure
  refine M.i_for (fun i=>i) l.length (fun i hi=>?_) ?_
  · simp only [zaw]
    have hm:l.getD i default∈l:=by rw [getD_el l hi]; exact List.getElem_mem hi
    refine M.i_t (decide_eq_true (by omega)) (M.i_grd (decide_eq_true (by omega)) (M.i_bind (a:=false) ?_ (M.i_f rfl M.i_pure)))
    unfold zbb
    exact M.i_bind (h _ hm) M.i_pure
  · simp only [zaw]
    exact M.i_f (decide_eq_false (by omega)) M.i_pure
theorem every_mark (l:List Mrk) (so:Mrk->M Bool) (h:∀ t∈l,(so t).Ends true):(zaN l so).Ends true:=by
  unfold zaN zbU zch
  refine M.i_bind (a:=false) (M.i_bind (a:=-1) (M.i_bind (a:=(.inr ():Int ⊕ Unit)) ?_ M.i_pure) M.i_pure) M.i_pure
  refine M.i_for (fun i=>i) l.length (fun i hi=>?_) ?_
  · simp only [zas]
    have hm:l.getD i default∈l:=by rw [getD_el l hi]; exact List.getElem_mem hi
    refine M.i_t (decide_eq_true (by omega)) (M.i_grd (decide_eq_true (by omega)) (M.i_bind (a:=false) ?_ (M.i_f rfl M.i_pure)))
    unfold zbq
    exact M.i_bind (h _ hm) M.i_pure
  · simp only [zas]
    exact M.i_f (decide_eq_false (by omega)) M.i_pure
theorem every_reach (l:List Rch) (so:Rch->M Bool) (h:∀ t∈l,(so t).Ends true):(zaS l so).Ends true:=by
  unfold zaS zbN zbM
  refine M.i_bind (a:=false) (M.i_bind (a:=-1) (M.i_bind (a:=(.inr ():Int ⊕ Unit)) ?_ M.i_pure) M.i_pure) M.i_pure
  refine M.i_for (fun i=>i) l.length (fun i hi=>?_) ?_
  · simp only [zaz]
    have hm:l.getD i default∈l:=by rw [getD_el l hi]; exact List.getElem_mem hi
    refine M.i_t (decide_eq_true (by omega)) (M.i_grd (decide_eq_true (by omega)) (M.i_bind (a:=false) ?_ (M.i_f rfl M.i_pure)))
    unfold zbj
    exact M.i_bind (h _ hm) M.i_pure
  · simp only [zaz]
    exact M.i_f (decide_eq_false (by omega)) M.i_pure
theorem every_int (l:List Int) (so:Int->M Bool) (h:∀ t∈l,(so t).Ends true):(zag l so).Ends true:=by
  unfold zag zbZ zca
  refine M.i_bind (a:=false) (M.i_bind (a:=-1) (M.i_bind (a:=(.inr ():Int ⊕ Unit)) ?_ M.i_pure) M.i_pure) M.i_pure
  refine M.i_for (fun i=>i) l.length (fun i hi=>?_) ?_
  · simp only [zay]
    have hm:l.getD i 0∈l:=by rw [getD_el l hi]; exact List.getElem_mem hi
    refine M.i_t (decide_eq_true (by omega)) (M.i_grd (decide_eq_true (by omega)) (M.i_bind (a:=false) ?_ (M.i_f rfl M.i_pure)))
    unfold zbd
    exact M.i_bind (h _ hm) M.i_pure
  · simp only [zay]
    exact M.i_f (decide_eq_false (by omega)) M.i_pure
theorem sright_ends {x:Sect} (hr:Fl.Rows x.rows) (h0:0<=x.place) (h1:x.place<=10000):(zaJ x).Ends true:=by
  refine M.Out.ends ?_
  unfold zaJ
  refine M.o_bind (P:=fun z=>match z with | .inl _=>False | .inr (_:Int × Int)=>True) ?_ ?_
  · refine M.o_for x.rows.length (fun i (s:Int × Int × Nat)=>s.2.2=i/\-1<=s.1/\s.1<=2000/\(∀ j,i<=j->j<x.rows.length->s.1<(x.rows.getD j default).stage)/\∀ j,i<=j->j<x.rows.length->s.2.1<=(x.rows.getD j default).carry) ?_ ?_ (s:=(-1,0,0)) ⟨rfl,by decide,by decide,fun j _ hj=>by have:=hr.el j hj; dsimp only; omega,fun j _ hj=>by have:=hr.el j hj; dsimp only; omega⟩
    · rintro i ⟨a,b,_⟩ hi ⟨rfl,h2,h3,h4,h5⟩
      dsimp only at hi h2 h3 h4 h5 ⊢
      have e:=hr.el _ hi
      have k1:=h4 _ (Nat.le_refl _) hi
      have k2:=h5 _ (Nat.le_refl _) hi
      simp only [zax]
      refine M.o_t (decide_eq_true (by omega)) (M.o_grd (decide_eq_true (by omega)) (M.o_grd (gA2 (by omega) (by omega)) (M.o_bindE (in_true (by omega) (by omega)) (M.o_bindE (M.i_opt (fun _=>in_true (by omega) (by omega)) (fun h=>by cases h)) (M.o_f rfl (M.o_pure ⟨rfl,by dsimp only; omega,by dsimp only; omega,fun j hj hj'=>hr.lt hj hj',fun j hj hj'=>hr.cle (by omega) hj'⟩))))))
    · rintro ⟨a,b,_⟩ ⟨rfl,_⟩
      simp only [zax]
      exact M.o_f (decide_eq_false (by omega)) (M.o_pure trivial)
  · intro z hz
    cases z with
    | inl _=>exact hz.elim
    | inr _=>exact M.o_bindE (in_true h0 h1) (M.o_pure rfl)
theorem mright_ends {m:Mrk} (h:Fl.Mok m):(zao m).Ends true:=by
  obtain ⟨h1,h2,h3,h4,h5⟩:=h
  unfold zao zau
  exact M.i_bind (in_true h1 h2) (M.i_bind (M.i_opt (fun _=>M.i_bind (in_true h3 (by dsimp only; omega)) (M.i_bind (M.i_opt (fun _=>in_true h4 h5) (fun h=>by cases h)) M.i_pure)) (fun h=>by cases h)) M.i_pure)
theorem rright_ends {S:List Sect} {r:Rch} (hn:S.length<=6) (h:Fl.Rok S r):(zaT r (S.length:Int)).Ends true:=by
  obtain ⟨h1,h2,h3,h4,h5,h6⟩:=h
  unfold zaT zau
  refine M.i_grd (gA2 (by omega) (by omega)) (M.i_bind (in_true h1 (by omega)) (M.i_grd (gOr2 (by omega) (by omega)) (M.i_bind (M.i_opt (fun _=>in_true (by omega) (by omega)) (fun h=>by cases h)) (M.i_bind (M.i_opt (fun _=>M.i_bind (in_true h4 (by dsimp only; omega)) (M.i_bind (M.i_opt (fun _=>in_true h5 h6) (fun h=>by cases h)) M.i_pure)) (fun h=>by cases h)) M.i_pure))))
section
variable {S:List Sect} {M':List Mrk} {R':List Rch} {ms:List Int} {r:Rch}
theorem check_ends (h:Fl.Site S M' R'):(zat S M' R').Ends 0:=by
  obtain ⟨hS,hm,hr,hmk,hrk⟩:=h
  obtain ⟨hn,hrows,hpl,hup⟩:=hS
  unfold zat
  refine M.i_bind (in_true (by omega) (by omega)) (M.i_bind (M.i_opt (fun _=>in_true (by omega) (by omega)) (fun h=>by cases h)) (M.i_bind (M.i_opt (fun _=>in_true (by omega) (by omega)) (fun h=>by cases h)) (M.i_bind (M.i_opt (fun _=>every_sect _ _ fun x hx=>?_) (fun h=>by cases h)) (M.i_f rfl ?_))))
  · obtain ⟨i,hi,rfl⟩:=mem_getD hx default
    unfold zaR
    have:=hrows i hi
    exact M.i_bind (in_true (by omega) (by omega)) M.i_pure
  · refine M.Out.ends (M.o_bind (P:=fun z=>match z with | .inl _=>False | .inr (_:Unit)=>True) ?_ ?_)
    · refine M.o_for S.length (fun i (s:Int × Nat)=>s.2=i/\∀ j,i<=j->j<S.length->s.1<(S.getD j default).place) ?_ ?_ (s:=(-1,0)) ⟨rfl,fun j _ hj=>by have:=hpl j hj; dsimp only; omega⟩
      · rintro i ⟨a,_⟩ hi ⟨rfl,h2⟩
        dsimp only at hi h2 ⊢
        have e:=hpl _ hi
        have k1:=h2 _ (Nat.le_refl _) hi
        simp only [zar]
        exact M.o_t (decide_eq_true (by omega)) (M.o_grd (decide_eq_true (by omega)) (M.o_bindE (sright_ends (hrows _ hi).1 e.1 e.2) (M.o_f (decide_eq_false (p:=(S.getD _ default).place<=a) (by omega)) (M.o_pure ⟨rfl,fun j hj hj'=>hup _ _ hj hj'⟩))))
      · rintro ⟨a,_⟩ ⟨rfl,_⟩
        simp only [zar]
        exact M.o_f (decide_eq_false (by omega)) (M.o_pure trivial)
    · intro z hz
      cases z with
      | inl _=>exact hz.elim
      | inr _ =>
        refine M.o_bindE (every_mark _ _ fun x hx=>mright_ends (hmk x hx)) (M.o_bindE (M.i_opt (fun _=>every_reach _ _ fun x hx=>?_) (fun h=>by cases h)) (M.o_f rfl (M.o_pure rfl)))
        unfold zaE
        exact M.i_bind (rright_ends hn.2 (hrk x hx)) M.i_pure
theorem opened_ends (h:Fl.Site S M' R'):(zad S M' R').Ends (.inr 0):=by
  unfold zad
  exact M.i_bind (check_ends h) (M.i_f rfl M.i_pure)
theorem ahead_ends {a b:Int} (ha:0<=a/\a<M'.length) (hb:0<=b/\b<M'.length) :
    (zah S M' R' a b).Ends (decide ((M'.getD (Int.toNat a) default).place<=(M'.getD (Int.toNat b) default).place)&&decide ((M'.getD (Int.toNat a) default).hi<(M'.getD (Int.toNat b) default).lo)):=by
  unfold zah
  exact M.i_grd (gA2 ha.1 ha.2) (M.i_grd (gA2 hb.1 hb.2) M.i_pure)
end
end Go.Proofs.YtlemgioaakecpaaGreat
namespace Go.Nm
namespace Fl
/-- As many numbers below n as there are of a kind. -/
def cnt (p:Nat->Bool):Nat->Nat
  | 0=>0
  | n+1=>cnt p n+(if p n=true then 1 else 0)
theorem cnt_le {p q:Nat->Bool}:∀ n,(∀ b,b<n->p b=true->q b=true)->cnt p n<=cnt q n
  | 0,_=>Nat.le_refl _
  | n+1,h=>by
    have h1:=cnt_le n (fun b hb=>h b (by omega))
    unfold cnt
    by_cases e:p n=true
    · rw [if_pos e,if_pos (h n (by omega) e)]; omega
    · rw [if_neg e]; omega
theorem cnt_lt {p q:Nat->Bool}:∀ n,(∀ b,b<n->p b=true->q b=true)->∀ x,x<n->p x=false->q x=true->cnt p n<cnt q n
  | 0,_,_,h,_,_=>by omega
  | n+1,h,x,hx,h1,h2=>by
    unfold cnt
    by_cases e:x=n
    · subst e
      have h3:=cnt_le x (fun b hb=>h b (by omega))
      rw [h1,h2]
      simp
      omega
    · have h3:=cnt_lt n (fun b hb=>h b (by omega)) x (by omega) h1 h2
      by_cases e:p n=true
      · rw [if_pos e,if_pos (h n (by omega) e)]; omega
      · rw [if_neg e]; omega
section
variable {M:List Mrk}
/-- A mark contradicts another one that lies no less far downstream. -/
def ah (M:List Mrk) (a b:Nat):Prop:=(M.getD a default).place<=(M.getD b default).place/\(M.getD a default).hi<(M.getD b default).lo
instance (a b:Nat):Decidable (ah M a b):=inferInstanceAs (Decidable (_/\_))
theorem mk_lh (hk:∀ x∈M,Mok x) {b:Nat} (hb:b<M.length):(M.getD b default).lo<=(M.getD b default).hi:=by
  rw [getD_el M hb]
  exact (hk _ (List.getElem_mem hb)).lh
theorem ah_trans (hk:∀ x∈M,Mok x) {a b c:Nat} (hb:b<M.length) (h1:ah M a b) (h2:ah M b c):ah M a c:=by
  have:=mk_lh hk hb
  obtain ⟨a1,a2⟩:=h1
  obtain ⟨b1,b2⟩:=h2
  exact ⟨Int.le_trans a1 b1,by omega⟩
theorem ah_irr (hk:∀ x∈M,Mok x) {a:Nat} (ha:a<M.length):¬ah M a a:=fun h=>by
  have:=mk_lh hk ha
  have:=h.2
  omega
/-- What was met. -/
def met (mp:Int->Option Bool) (b:Nat):Bool:=(mp (b:Int)).getD false
theorem met_upd {mp:Int->Option Bool} {i b:Nat}:met (updF mp (i:Int) true) b=true↔b=i∨met mp b=true:=by
  unfold met updF
  by_cases e:(b:Int)=(i:Int)
  · rw [if_pos e]
    have:b=i:=by omega
    simp [this]
  · rw [if_neg e]
    have:b ≠ i:=by omega
    simp [this]
/-- Which mark follows each one in its row, and which one it follows. -/
structure Mtc (M:List Mrk) (nx ls:List Int):Prop where
  n1:nx.length=16
  l1:ls.length=16
  l:∀ b,b<M.length->ls.getD b 0 = -1∨∃ c,c<M.length/\ls.getD b 0=(c:Int)/\ah M c b/\nx.getD c 0=(b:Int)
  n:∀ c,c<M.length->nx.getD c 0 = -1∨∃ b,b<M.length/\nx.getD c 0=(b:Int)/\ls.getD b 0=(c:Int)
/-- Marks each of which follows one, all that this one contradicts among them. -/
def Cl (M:List Mrk) (K:Nat->Prop) (ls:List Int):Prop:=∀ b,K b->b<M.length/\∃ c,c<M.length/\ls.getD b 0=(c:Int)/\∀ x,x<M.length->ah M c x->K x
/-- Rows that were made one more link long. -/
structure Sc (M:List Mrk) (K:Nat->Prop) (a:Nat) (mp:Int->Option Bool) (nx ls nx' ls':List Int):Prop where
  n1:nx'.length=16
  l1:ls'.length=16
  ex:∃ b,b<M.length/\met mp b=false/\¬K b/\ah M a b/\nx'.getD a 0=(b:Int)/\ls'.getD b 0=(a:Int)
  l:∀ x,x<M.length->ls.getD x 0 ≠ (a:Int)->ls'.getD x 0 = -1∨∃ c,c<M.length/\ls'.getD x 0=(c:Int)/\ah M c x/\nx'.getD c 0=(x:Int)
  n:∀ c,c<M.length->nx'.getD c 0 = -1∨∃ x,x<M.length/\nx'.getD c 0=(x:Int)/\ls'.getD x 0=(c:Int)
  fr:∀ x,x<M.length->(met mp x=true∨K x)->ls'.getD x 0=ls.getD x 0
  k1:∀ c,c<M.length->c ≠ a->(nx'.getD c 0 = -1↔nx.getD c 0 = -1)
  fn:∀ c,c<M.length->c ≠ a->∀ y,y<M.length->ls.getD y 0=(c:Int)->met mp y=true->nx'.getD c 0=nx.getD c 0
/-- What a search that finds nothing has met. -/
structure Ps (M:List Mrk) (a i:Nat) (mp mp':Int->Option Bool) (ls:List Int):Prop where
  le:∀ b,met mp b=true->met mp' b=true
  nb:∀ c,c<i->ah M a c->met mp' c=true
  nw:∀ b,met mp' b=true->met mp b=false->b<M.length/\∃ c,c<M.length/\ls.getD b 0=(c:Int)/\∀ x,x<M.length->ah M c x->met mp' x=true
variable {K:Nat->Prop} {a i s:Nat} {mp mp1 mp2:Int->Option Bool} {nx ls nx' ls':List Int}
theorem Ps.zero:Ps M a 0 mp mp ls:=⟨fun _ h=>h,fun c h=>by omega,fun b h1 h2=>by rw [h1] at h2; cases h2⟩
theorem Ps.skip (h:Ps M a i mp mp1 ls) (hs:ah M a i->met mp1 i=true):Ps M a (i+1) mp mp1 ls :=
  ⟨h.le,fun c hc ha=>by
    by_cases e:c=i
    · subst e; exact hs ha
    · exact h.nb c (by omega) ha,h.nw⟩
theorem Ps.fail (h:Ps M a i mp mp1 ls) (hi:i<M.length) {c:Nat} (hc:c<M.length) (e:ls.getD i 0=(c:Int)) (h2:Ps M c M.length (updF mp1 (i:Int) true) mp2 ls):Ps M a (i+1) mp mp2 ls:=by
  have u:∀ b,met mp1 b=true->met mp2 b=true:=fun b hb=>h2.le b (met_upd.2 (.inr hb))
  have ui:met mp2 i=true:=h2.le i (met_upd.2 (.inl rfl))
  refine ⟨fun b hb=>u b (h.le b hb),fun x hx ha=>?_,fun b h1 h0=>?_⟩
  · by_cases k:x=i
    · subst k; exact ui
    · exact u x (h.nb x (by omega) ha)
  · by_cases k1 : met mp1 b = true
    · obtain ⟨hb,d,hd,e1,e2⟩:=h.nw b k1 h0
      exact ⟨hb,d,hd,e1,fun x hx ha=>u x (e2 x hx ha)⟩
    · by_cases k2:b=i
      · subst k2
        exact ⟨hi,c,hc,e,fun x hx ha=>h2.nb x hx ha⟩
      · refine h2.nw b h1 ?_
        cases hm:met (updF mp1 (i:Int) true) b with
        | false=>rfl
        | true => rcases met_upd.1 hm with k | k
                  · exact absurd k k2
                  · exact absurd k k1
theorem Sc.free (hM:Mtc M nx ls) (hK:Cl M K ls) (hn:M.length<=16) (ha:a<M.length) (hs:s<M.length) (hm:met mp s=false) (hah:ah M a s) (e:ls.getD s 0 = -1):Sc M K a mp nx ls (nx.set a (s:Int)) (ls.set s (a:Int)):=by
  have n1:=hM.n1
  have l1:=hM.l1
  have gn:∀ c,(nx.set a (s:Int)).getD c 0=if c=a then (s:Int) else nx.getD c 0:=fun c=>gset nx a c _ 0 (by omega)
  have gl:∀ c,(ls.set s (a:Int)).getD c 0=if c=s then (a:Int) else ls.getD c 0:=fun c=>gset ls s c _ 0 (by omega)
  have ks:¬K s:=fun k=>by
    obtain ⟨_,c,_,h,_⟩:=hK s k
    omega
  refine ⟨by simp [n1],by simp [l1],⟨s,hs,hm,ks,hah,by rw [gn,if_pos rfl],by rw [gl,if_pos rfl]⟩,fun x hx hne=>?_,fun c hc=>?_,fun x hx h=>?_,fun c hc hca=>?_,fun c hc hca y hy e1 e2=>?_⟩
  · by_cases k:x=s
    · subst k
      exact .inr ⟨a,ha,by rw [gl,if_pos rfl],hah,by rw [gn,if_pos rfl]⟩
    · rw [gl,if_neg k]
      rcases hM.l x hx with h | ⟨c,hc,h1,h2,h3⟩
      · exact .inl h
      · refine .inr ⟨c,hc,h1,h2,?_⟩
        rw [gn,if_neg (fun k'=>hne (by rw [h1,k']))]
        exact h3
  · by_cases k:c=a
    · subst k
      exact .inr ⟨s,hs,by rw [gn,if_pos rfl],by rw [gl,if_pos rfl]⟩
    · rw [gn,if_neg k]
      rcases hM.n c hc with h | ⟨b,hb,h1,h2⟩
      · exact .inl h
      · refine .inr ⟨b,hb,h1,?_⟩
        rw [gl,if_neg (fun k'=>by subst k'; omega)]
        exact h2
  · rw [gl,if_neg]
    rintro rfl
    rcases h with h | h
    · rw [h] at hm; cases hm
    · exact ks h
  · rw [gn,if_neg hca]
  · rw [gn,if_neg hca]
theorem Sc.sub (hM:Mtc M nx ls) (hK:Cl M K ls) (hn:M.length<=16) (ha:a<M.length) (hs:s<M.length) (hah:ah M a s) (hle:∀ b,met mp b=true->met mp1 b=true) (hm:met mp1 s=false) (hp:∀ b,b<M.length->ls.getD b 0=(a:Int)->met mp b=true) {c:Nat} (hc:c<M.length) (e:ls.getD s 0=(c:Int))
    (h:Sc M K c (updF mp1 (s:Int) true) nx ls nx' ls'):Sc M K a mp nx ls (nx'.set a (s:Int)) (ls'.set s (a:Int)):=by
  have n1:=h.n1
  have l1:=h.l1
  have gn:∀ x,(nx'.set a (s:Int)).getD x 0=if x=a then (s:Int) else nx'.getD x 0:=fun x=>gset nx' a x _ 0 (by omega)
  have gl:∀ x,(ls'.set s (a:Int)).getD x 0=if x=s then (a:Int) else ls'.getD x 0:=fun x=>gset ls' s x _ 0 (by omega)
  obtain ⟨b',hb',m',k',ah',nb',lb'⟩:=h.ex
  have ks:¬K s:=fun k=>by
    obtain ⟨_,d,hd,h1,h2⟩:=hK s k
    obtain rfl:c=d:=by omega
    exact k' (h2 b' hb' ah')
  have m0:met mp s=false:=by
    cases q:met mp s with
    | false=>rfl
    | true=>rw [hle s q] at hm; cases hm
  have ca:c ≠ a:=fun k=>by
    subst k
    rw [hp s hs e] at m0; cases m0
  have us:met (updF mp1 (s:Int) true) s=true:=met_upd.2 (.inl rfl)
  have up:∀ b,met mp b=true->met (updF mp1 (s:Int) true) b=true:=fun b hb=>met_upd.2 (.inr (hle b hb))
  have fs:=h.fr s hs (.inl us)
  have ns:nx.getD c 0=(s:Int):=by
    rcases hM.l s hs with q | ⟨d,hd,q1,q2,q3⟩
    · omega
    · obtain rfl:c=d:=by omega
      exact q3
  have only:∀ x,x<M.length->ls.getD x 0=(c:Int)->x=s:=fun x hx q=>by
    rcases hM.l x hx with q' | ⟨d,hd,q1,q2,q3⟩
    · omega
    · obtain rfl:c=d:=by omega
      omega
  have bs:b' ≠ s:=fun k=>by
    subst k
    rw [us] at m'; cases m'
  -- the mark that asks stays as it was
  have na:nx'.getD a 0=nx.getD a 0:=by
    rcases hM.n a ha with q | ⟨y,hy,q1,q2⟩
    · rw [q]; exact (h.k1 a ha (fun k=>ca k.symm)).2 q
    · exact h.fn a ha (fun k=>ca k.symm) y hy q2 (up y (hp y hy q2))
  refine ⟨by simp [n1],by simp [l1],⟨s,hs,m0,ks,hah,by rw [gn,if_pos rfl],by rw [gl,if_pos rfl]⟩,fun x hx hne=>?_,fun d hd=>?_,fun x hx hq=>?_,fun d hd hda=>?_,fun d hd hda y hy e1 e2=>?_⟩
  · by_cases k:x=s
    · subst k
      exact .inr ⟨a,ha,by rw [gl,if_pos rfl],hah,by rw [gn,if_pos rfl]⟩
    · rw [gl,if_neg k]
      rcases h.l x hx (fun q=>k (only x hx q)) with q | ⟨d,hd,q1,q2,q3⟩
      · exact .inl q
      · refine .inr ⟨d,hd,q1,q2,?_⟩
        rw [gn,if_neg]
        · exact q3
        · rintro rfl
          rw [na] at q3
          rcases hM.n d hd with q | ⟨y,hy,q4,q5⟩
          · omega
          · obtain rfl:x=y:=by omega
            exact hne q5
  · by_cases k:d=a
    · subst k
      exact .inr ⟨s,hs,by rw [gn,if_pos rfl],by rw [gl,if_pos rfl]⟩
    · rw [gn,if_neg k]
      rcases h.n d hd with q | ⟨x,hx,q1,q2⟩
      · exact .inl q
      · refine .inr ⟨x,hx,q1,?_⟩
        rw [gl,if_neg]
        · exact q2
        · rintro rfl
          rw [fs,e] at q2
          obtain rfl:c=d:=by omega
          omega
  · rw [gl,if_neg]
    · refine h.fr x hx ?_
      rcases hq with q | q
      · exact .inl (up x q)
      · exact .inr q
    · rintro rfl
      rcases hq with q | q
      · rw [q] at m0; cases m0
      · exact ks q
  · rw [gn,if_neg hda]
    by_cases k:d=c
    · subst k
      constructor <;> intro q <;> omega
    · exact h.k1 d hd k
  · rw [gn,if_neg hda]
    by_cases k:d=c
    · subst k
      obtain rfl:=only y hy e1
      rw [e2] at m0; cases m0
    · exact h.fn d hd k y hy e1 (up y e2)
/-- Where the search for each mark begins: what was done of those ahead of it. -/
structure Tp (M:List Mrk) (K:Nat->Prop) (i:Nat) (nx ls:List Int):Prop where
  m:Mtc M nx ls
  fr:∀ j,i<=j->j<M.length->nx.getD j 0 = -1
  cl:Cl M K ls
  k:∀ a,a<i->nx.getD a 0 = -1->∀ c,c<M.length->ah M a c->K c
theorem Tp.no (h:Tp M K i nx ls) (hi:i<M.length):∀ x,x<M.length->ls.getD x 0 ≠ (i:Int):=fun x hx e=>by
  have:=h.fr i (Nat.le_refl _) hi
  rcases h.m.l x hx with q | ⟨d,hd,q1,q2,q3⟩
  · omega
  · obtain rfl:i=d:=by omega
    omega
theorem Tp.ok (h:Tp M K i nx ls) (hi:i<M.length) (hz:Sc M K i mp nx ls nx' ls'):Tp M K (i+1) nx' ls':=by
  refine ⟨⟨hz.n1,hz.l1,fun x hx=>hz.l x hx (h.no hi x hx),hz.n⟩,fun j hj hj'=>(hz.k1 j hj' (by omega)).2 (h.fr j (by omega) hj'),fun b kb=>?_,fun a ha e c hc hac=>?_⟩
  · obtain ⟨hb,c,hc,e,q⟩:=h.cl b kb
    exact ⟨hb,c,hc,by rw [hz.fr b hb (.inr kb)]; exact e,q⟩
  · obtain ⟨b,_,_,_,_,e1,_⟩:=hz.ex
    have hai:a ≠ i:=fun k=>by subst k; omega
    exact h.k a (by omega) ((hz.k1 a (by omega) hai).1 e) c hc hac
theorem Tp.no' (h:Tp M K i nx ls) (hi:i<M.length) (hz:Ps M i M.length (fun _=>none) mp ls):Tp M (fun b=>K b∨met mp b=true) (i+1) nx ls:=by
  refine ⟨h.m,fun j hj hj'=>h.fr j (by omega) hj',fun b kb=>?_,fun a ha e c hc hac=>?_⟩
  · rcases kb with kb | kb
    · obtain ⟨hb,c,hc,e,q⟩:=h.cl b kb
      exact ⟨hb,c,hc,e,fun x hx ha=>.inl (q x hx ha)⟩
    · obtain ⟨hb,c,hc,e,q⟩:=hz.nw b kb rfl
      exact ⟨hb,c,hc,e,fun x hx ha=>.inr (q x hx ha)⟩
  · by_cases k:a=i
    · subst k
      exact .inr (hz.nb c hc hac)
    · exact .inl (h.k a (by omega) e c hc hac)
end
end Fl
end Go.Nm
namespace Go.Nm
open Go
/-- Whatever was known of memory is still so. -/
def Later (w w':World):Prop:=∀ (w0:World) (L R:List Chunk),St w0 w L R->St w0 w' L R
def RetE (R:Value->World->Prop):Ending->World->Prop:=fun e w=>∃ v,e = .returned v/\R v w
/-- From here to the function's end, with nothing deferred so far. -/
def WB (P:Program) (fn:Func) (n:Nat) (c:Code) (R:Value->World->Prop) (σ:Env) (w:World):Prop :=
  ∀ a,Fr [] n σ a->c.wp P (bodyPostD P fn (RetE R)) a w
/-- The end of a function that has deferred a call which leaves memory as it was. -/
def bodyQd (P:Program) (fn:Func) (R:Value->World->Prop):Post
  | .normal,σ,w | .ret,σ,w=>∀ w',Later w w'->∃ v,resE P fn σ w' v/\R v w'
  | _,_,_=>False
section
variable {P:Program} {fn:Func} {n:Nat} {R:Value->World->Prop} {σ:Env} {w:World}
theorem ret_of_WB {f:FuncId} {c:Code} {args:Array Value}
    (hf:P.funcs[f]?=some fn) (hb:fn.body=some c) (hn:fn.ntmps=n) (hle':Nat.ble args.size n=true)
    (h:WB P fn n c R (argE args) w):Ret P f args w R:=by
  have hle:=Nat.le_of_ble_eq_true hle'
  subst hn
  refine calls_of_wp_defers hf hb (h _ ⟨rfl,?_,fun k=>?_⟩)
  · simp; omega
  · simp only [argE,Array.getD_eq_getD_getElem?,Array.getElem?_append]
    by_cases hk:k<args.size
    · simp [hk]
    · rw [if_neg hk]
      simp only [Array.getElem?_replicate]
      have:args[k]?=none:=by simp; omega
      rw [this]
      split <;> rfl
theorem WB.seq {x y:Code} (h:W P n x (thenQ (WB P fn n y R) (bodyQ P fn R)) σ w):WB P fn n (.seq x y) R σ w:=by
  intro a ha
  refine wp_seq (wp_mono ((wpIn_wide (n:=0)).1 (h [] a ha)) ?_)
  rintro e a' w' ⟨s,hs,h'⟩
  cases e with
  | normal=>exact h' a' hs
  | ret =>
    obtain ⟨v,hr,hR⟩:=h'
    show Leaves P fn a'.tmps (RetE R) a'.defers .returning w'
    rw [hs.df]
    exact ⟨v,hr _ hs.get,v,rfl,hR⟩
  | _=>exact h'.elim
theorem WB.defer {id:Nat} {o1 o2:Oper} {y:Code} {d:Nat} {v:Value} {fv:Fn} {cap:Array Value} {f:FuncId} {args:Array Value}
    (hd:Nat.blt d n=true) (hd1:o1.dst=some d) (hg1:o1.guard=none) (hd2:o2.dst=none) (hg2:o2.guard=none)
    (h1:∀ w,(execOp (ev σ) o1).run P w = .ok (.value v) w) (h2:∀ w,(execOp (ev (upd σ d v)) o2).run P w = .ok (.defer { target:=.fn fv cap,args:=#[] }) w)
    (hi:∀ w,(invoke (.fn fv cap) #[]).run P w = .ok (.enter f args) w)
    (hc:∀ w,CallsD P f args .returning w fun e u' w'=>(∃ v,e = .returned v)/\u' = .returning/\Later w w')
    (hk:W P n y (bodyQd P fn R) (upd σ d v) w):WB P fn n (.seq (.region id #[o1,o2] false) y) R σ w:=by
  intro a ha
  refine wp_seq (wp_region ?_)
  have hd':d<n:=Nat.lt_of_lt_of_le (Nat.lt_succ_self d) (Nat.le_of_ble_eq_true hd)
  have h2':(execOp (a.put (some d) v).eval o2).run P w = .ok (.defer { target:=.fn fv cap,args:=#[] }) w:=by
    rw [(ha.put hd' v).eval]
    exact h2 w
  have hr:List.range (#[o1,o2]:Array Oper).size=[0,1]:=rfl
  rw [hr]
  simp only [wpOps,List.getElem?_toArray,List.getElem?_cons_zero,List.getElem?_cons_succ,Region.wanted,hg1,hg2,if_true,Oper.wp,ha.eval,h1,hd1,Oper.upon,h2',hd2]
  refine .inl (.inl ?_)
  have ha':Fr [{ target:=.fn fv cap,args:=#[] }] n (upd σ d v) ({ a.put (some d) v with defers:={ target:=.fn fv cap,args:=#[] } :: (a.put (some d) v).defers }.put none undef):=by
    have h3:=ha.put hd' v
    exact ⟨by show _ :: (a.put (some d) v).defers=_; rw [h3.df],h3.sz,h3.get⟩
  refine wp_mono ((wpIn_wide (n:=0)).1 (hk _ _ ha')) ?_
  rintro e a' w' ⟨s,hs,h'⟩
  have fin:(∀ w'',Later w' w''->∃ v,resE P fn s w'' v/\R v w'')->Leaves P fn a'.tmps (RetE R) a'.defers .returning w':=fun h'=>by
    rw [hs.df]
    refine leaves_cons (by simp) (hi w') ((hc w').mono ?_)
    rintro e u' w'' ⟨⟨v,rfl⟩,rfl,hl⟩
    obtain ⟨v',hr,hR⟩:=h' w'' hl
    exact ⟨v',hr _ hs.get,v',rfl,hR⟩
  cases e with
  | normal=>exact fin h'
  | ret=>exact fin h'
  | _=>exact h'.elim
theorem x_defer {x:Operand} {fv:Fn} {cap:Array Value} {ty:TypeId} {pos:String} {af:Array Edge} (hx:ev σ x = .func fv #[] cap) (w:World) :
    (execOp (ev σ) ⟨none,.defer { callee:=.value x,args:=#[],argTypes:=#[] },ty,pos,af,none⟩).run P w = .ok (.defer { target:=.fn fv cap,args:=#[] }) w:=by
  simp [execOp,resolve,hx,Deferred.ofValue]
theorem x_invoke {f:FuncId} (hcf:CF P f) {cap:Array Value} (w:World):(invoke (.fn (.func f) cap) #[]).run P w = .ok (.enter f cap) w:=by
  simp [invoke,run_callFunc hcf]
end
end Go.Nm
namespace Go.Proofs.YtlemgioaakecpaaGreat
open Go Go.Nm
theorem ta_nil (w:World):(Instr.typeAssert .nilIface 20 119 true).run Tryz.prog w = .ok (.tuple #[.agg #[I 0],.bool false]) w:=by
  simp [Instr.typeAssert,go_sem]
set_option maxRecDepth 20000 in
theorem catch_idle (p q:Value) (w:World):CallsD Tryz.prog 53 #[p,q] .returning w fun e u' w'=>(∃ v,e = .returned v)/\u' = .returning/\Later w w':=by
  refine callsD_of_wpS Tryz.func53 rfl fun c₀ cs hu=>?_
  apply wpS_seq
  apply wpS_region
  simp [wpOpsS,go_sem,recoverD,hu,Exit.thenS,ta_nil]
  apply wpS_seq
  apply wpS_region
  simp [wpOpsS,go_sem,Exit.thenS]
  refine wpS_cond (t:=false) (by simp [Act.eval,Array.replicate]) ?_
  simp only [Bool.false_eq_true,if_false]
  refine wpS_of_wp (wp_skip ?_)
  cases c₀
  simp_all [bodyPostS,results,Tryz.results53]
  exact fun w0 L R H=>H.ext (New.alloc ..).ext
end Go.Proofs.YtlemgioaakecpaaGreat
