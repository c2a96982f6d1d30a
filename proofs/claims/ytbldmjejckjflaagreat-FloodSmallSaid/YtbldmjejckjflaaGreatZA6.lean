/- Part 6 of the texts on which the proof rests. Conditions: none. -/
import Derived.KernelRfl
import Derived.Test.YtbldmjejckjflaaGreatZA5
set_option linter.unusedVariables false
set_option linter.unusedSimpArgs false
set_option linter.unusedSectionVars false
namespace Go.Proofs.YtbldmjejckjflaaGreat
open Go Go.Nm
section
variable {S:List Sect} {M':List Mrk} {R':List Rch} {ms:List Int} {r:Rch}
theorem every_sectP (l:List Sect) (so:Sect->M Bool) (p:Sect->Prop) (h:∀ t∈l,(so t).Out (fun x=>x=true↔p t)):(zbd l so).Out (fun b=>b=true↔∀ t∈l,p t):=by
  unfold zbd zcA zcT;refine M.o_bind (P:=fun b=>b=false↔∀ t∈l,p t) (M.o_bind (P:=fun i=>i<0↔∀ t∈l,p t) (M.o_bind (P:=fun z=>match z with | .inl i=>0<=i/\∃ t∈l,¬p t | .inr _=>∀ t∈l,p t) ?_ ?_) ?_) ?_
  · refine M.o_for l.length (fun i (s:Nat)=>s=i/\∀ j,j<i->p (l.getD j default)) ?_ ?_ ⟨rfl,fun j hj=>by omega⟩
    · rintro _ i hi ⟨rfl,hj⟩;simp only [zaY];have hm:l.getD i default∈l:=by rw [getD_el l hi]; exact List.getElem_mem hi
      refine M.o_t (decide_eq_true (by omega)) (M.o_grd (decide_eq_true (by omega)) (M.o_bind (P:=fun x=>x=false↔p (l.getD i default)) ?_ fun x hx=>M.o_if (fun hb=>?_) (fun hb=>?_)))
      · unfold zbr;exact M.o_bind (h _ hm) fun x hx=>M.o_pure (by rw [Bool.not_eq_false',hx])
      · exact M.o_pure ⟨by omega,_,hm,fun q=>by rw [hx.2 q] at hb; cases hb⟩
      · refine M.o_pure ⟨rfl,fun j hj'=>?_⟩;by_cases e:j=i
        · subst e; exact hx.1 hb
        · exact hj j (by omega)
    · rintro _ ⟨rfl,hj⟩;simp only [zaY];refine M.o_f (decide_eq_false (by omega)) (M.o_pure fun t ht=>?_);obtain ⟨i,hi,rfl⟩:=mem_getD ht default;exact hj i hi
  · intro z hz
    match z,hz with
    | .inl i,hz =>
      refine M.o_pure ⟨fun q=>by have:=hz.1; omega,fun q=>?_⟩;obtain ⟨_,t,ht,e⟩:=hz;exact absurd (q t ht) e
    | .inr _,hz=>exact M.o_pure ⟨fun _=>hz,fun _=>by decide⟩
  · intro i hi;refine M.o_pure ?_;rw [decide_eq_false_iff_not,← hi];omega
  · intro b hb;refine M.o_pure ?_;rw [Bool.not_eq_true'];exact hb
theorem every_markP (l:List Mrk) (so:Mrk->M Bool) (p:Mrk->Prop) (h:∀ t∈l,(so t).Out (fun x=>x=true↔p t)):(za4 l so).Out (fun b=>b=true↔∀ t∈l,p t):=by
  unfold za4 zcG zcU;refine M.o_bind (P:=fun b=>b=false↔∀ t∈l,p t) (M.o_bind (P:=fun i=>i<0↔∀ t∈l,p t) (M.o_bind (P:=fun z=>match z with | .inl i=>0<=i/\∃ t∈l,¬p t | .inr _=>∀ t∈l,p t) ?_ ?_) ?_) ?_
  · refine M.o_for l.length (fun i (s:Nat)=>s=i/\∀ j,j<i->p (l.getD j default)) ?_ ?_ ⟨rfl,fun j hj=>by omega⟩
    · rintro _ i hi ⟨rfl,hj⟩;simp only [zaT];have hm:l.getD i default∈l:=by rw [getD_el l hi]; exact List.getElem_mem hi
      refine M.o_t (decide_eq_true (by omega)) (M.o_grd (decide_eq_true (by omega)) (M.o_bind (P:=fun x=>x=false↔p (l.getD i default)) ?_ fun x hx=>M.o_if (fun hb=>?_) (fun hb=>?_)))
      · unfold zbB;exact M.o_bind (h _ hm) fun x hx=>M.o_pure (by rw [Bool.not_eq_false',hx])
      · exact M.o_pure ⟨by omega,_,hm,fun q=>by rw [hx.2 q] at hb; cases hb⟩
      · refine M.o_pure ⟨rfl,fun j hj'=>?_⟩;by_cases e:j=i
        · subst e; exact hx.1 hb
        · exact hj j (by omega)
    · rintro _ ⟨rfl,hj⟩;simp only [zaT];refine M.o_f (decide_eq_false (by omega)) (M.o_pure fun t ht=>?_);obtain ⟨i,hi,rfl⟩:=mem_getD ht default;exact hj i hi
  · intro z hz
    match z,hz with
    | .inl i,hz =>
      refine M.o_pure ⟨fun q=>by have:=hz.1; omega,fun q=>?_⟩;obtain ⟨_,t,ht,e⟩:=hz;exact absurd (q t ht) e
    | .inr _,hz=>exact M.o_pure ⟨fun _=>hz,fun _=>by decide⟩
  · intro i hi;refine M.o_pure ?_;rw [decide_eq_false_iff_not,← hi];omega
  · intro b hb;refine M.o_pure ?_;rw [Bool.not_eq_true'];exact hb
theorem every_reachP (l:List Rch) (so:Rch->M Bool) (p:Rch->Prop) (h:∀ t∈l,(so t).Out (fun x=>x=true↔p t)):(za0 l so).Out (fun b=>b=true↔∀ t∈l,p t):=by
  unfold za0 zcF zcS;refine M.o_bind (P:=fun b=>b=false↔∀ t∈l,p t) (M.o_bind (P:=fun i=>i<0↔∀ t∈l,p t) (M.o_bind (P:=fun z=>match z with | .inl i=>0<=i/\∃ t∈l,¬p t | .inr _=>∀ t∈l,p t) ?_ ?_) ?_) ?_
  · refine M.o_for l.length (fun i (s:Nat)=>s=i/\∀ j,j<i->p (l.getD j default)) ?_ ?_ ⟨rfl,fun j hj=>by omega⟩
    · rintro _ i hi ⟨rfl,hj⟩;simp only [zaG];have hm:l.getD i default∈l:=by rw [getD_el l hi]; exact List.getElem_mem hi
      refine M.o_t (decide_eq_true (by omega)) (M.o_grd (decide_eq_true (by omega)) (M.o_bind (P:=fun x=>x=false↔p (l.getD i default)) ?_ fun x hx=>M.o_if (fun hb=>?_) (fun hb=>?_)))
      · unfold zcm;exact M.o_bind (h _ hm) fun x hx=>M.o_pure (by rw [Bool.not_eq_false',hx])
      · exact M.o_pure ⟨by omega,_,hm,fun q=>by rw [hx.2 q] at hb; cases hb⟩
      · refine M.o_pure ⟨rfl,fun j hj'=>?_⟩;by_cases e:j=i
        · subst e; exact hx.1 hb
        · exact hj j (by omega)
    · rintro _ ⟨rfl,hj⟩;simp only [zaG];refine M.o_f (decide_eq_false (by omega)) (M.o_pure fun t ht=>?_);obtain ⟨i,hi,rfl⟩:=mem_getD ht default;exact hj i hi
  · intro z hz
    match z,hz with
    | .inl i,hz =>
      refine M.o_pure ⟨fun q=>by have:=hz.1; omega,fun q=>?_⟩;obtain ⟨_,t,ht,e⟩:=hz;exact absurd (q t ht) e
    | .inr _,hz=>exact M.o_pure ⟨fun _=>hz,fun _=>by decide⟩
  · intro i hi;refine M.o_pure ?_;rw [decide_eq_false_iff_not,← hi];omega
  · intro b hb;refine M.o_pure ?_;rw [Bool.not_eq_true'];exact hb
theorem Check_out:(zag S M' R').Out (Fl.CkE S M' R'):=by
  unfold zag;refine M.o_bind (inE _ _ _) fun a ha=>M.o_bind (optE (inE _ _ _)) fun b hb=>M.o_bind (optE (inE _ _ _)) fun c hc=>M.o_bind (P:=fun d=>d=true↔Fl.Cnt S M' R') ?_ fun d hd=>M.o_if (fun hn=>?_) (fun hn=>?_)
  · refine M.o_opt (fun hq=>?_) (fun hq=>?_)
    · rw [Bool.not_eq_true',Bool.or_eq_false_iff,Bool.or_eq_false_iff,Bool.not_eq_false',Bool.not_eq_false',Bool.not_eq_false'] at hq;have e1:=ha.1 hq.1.1;have e2:=(hb.1 hq.1.2).2;have e3:=(hc.1 hq.2).2;refine M.o_mono (every_sectP S (fun xqz=>za5 xqz) (fun x=>2<=x.rows.length/\x.rows.length<=8) fun t _=>?_) fun x hx=>?_
      · unfold za5;exact M.o_bind (inE _ _ _) fun y hy=>M.o_pure (by rw [hy]; omega)
      · rw [hx];constructor
        · intro q;exact ⟨by omega,by omega,by omega,fun i hi=>q _ (by rw [getD_el S hi]; exact List.getElem_mem hi)⟩
        · rintro ⟨_,_,_,q⟩ t ht;obtain ⟨i,hi,rfl⟩:=mem_getD ht default;exact q i hi
    · rw [Bool.not_eq_false',Bool.or_eq_true,Bool.or_eq_true,Bool.not_eq_true',Bool.not_eq_true',Bool.not_eq_true'] at hq;refine ⟨fun q=>(by cases q),fun q=>?_⟩;obtain ⟨c1,c2,c3,_⟩:=q;have a1:a=true:=ha.2 (by omega);have b1:b=true:=hb.2 ⟨by rw [a1]; rfl,by omega⟩;have c1:c=true:=hc.2 ⟨by rw [a1,b1]; rfl,by omega⟩;rw [a1,b1,c1] at hq;simp at hq
  · refine M.o_pure (.inl ⟨fun q=>?_,rfl⟩);obtain ⟨c1,c2,c3,c4⟩:=id q;have a1:a=true:=ha.2 (by omega);have b1:b=true:=hb.2 ⟨by rw [a1]; rfl,by omega⟩;have c1:c=true:=hc.2 ⟨by rw [a1,b1]; rfl,by omega⟩;rw [a1,b1,c1,hd.2 q] at hn;cases hn
  · rw [Bool.or_eq_false_iff,Bool.not_eq_false'] at hn;have cn:=hd.1 hn.2;have cn':=cn;obtain ⟨c1,c2,c3,c4⟩:=cn';refine M.o_bind (P:=fun z=>match z with | .inl _=>¬Fl.SecP S | .inr _=>Fl.SecP S) ?_ ?_
    · refine M.o_for S.length (fun i (s:Int × Nat)=>s.2=i/\(∀ j,j<i->Fl.RowsP (S.getD j default).rows/\0<=(S.getD j default).place/\(S.getD j default).place<=10000)/\(∀ j,j+1<i->(S.getD j default).place<(S.getD (j+1) default).place)/\(i=0->s.1 = -1)/\∀ j,i=j+1->s.1=(S.getD j default).place) ?_ ?_ (s:=(-1,0)) ⟨rfl,fun j hj=>by omega,fun j hj=>by omega,fun _=>rfl,fun j hj=>by omega⟩
      · rintro _ ⟨a,i⟩ hi ⟨rfl,h1,h2,h3,h4⟩;dsimp only at hi h1 h2 h3 h4 ⊢;simp only [zaW];refine M.o_t (decide_eq_true (by omega)) (M.o_grd (decide_eq_true (by omega)) (M.o_bind (sectE _ (by have:=c4 i hi; omega)) fun p hp=>M.o_if (fun hb=>?_) (fun hb=>?_)))
        · refine M.o_pure ?_;show ¬Fl.SecP S;intro h;have e1:=h.e i hi;have pt:p=true:=hp.2 e1;rw [pt] at hb;have hb:(S.getD i default).place<=a:=by simpa using hb
          match i,h3,h4,hi,e1,hb with
          | 0,h3,_,_,e1,hb=>have:=h3 rfl; omega
          | j+1,_,h4,hi,_,hb =>
            have q1:=h4 j rfl;have q2:=h.u j hi;omega
        · rw [Bool.or_eq_false_iff,Bool.not_eq_false',decide_eq_false_iff_not] at hb;have e1:=hp.1 hb.1;refine M.o_pure ⟨rfl,fun j hj=>?_,fun j hj=>?_,fun e=>by omega,fun j hj=>?_⟩
          · by_cases e:j=i
            · subst e; exact e1
            · exact h1 j (by omega)
          · by_cases e:j+1=i
            · have q:=h4 j e.symm;subst e;omega
            · exact h2 j (by omega)
          · obtain rfl:j=i:=by omega
            rfl
      · rintro ⟨a,_⟩ ⟨rfl,h1,h2,_,_⟩;simp only [zaW];exact M.o_f (decide_eq_false (by omega)) (M.o_pure ⟨h1,h2⟩)
    · intro z hz
      match z,hz with
      | .inl _,hz=>exact M.o_pure (.inr (.inl ⟨cn,fun q=>hz ((Fl.site_iff cn).1 q).1,rfl⟩))
      | .inr _,hz =>
        refine M.o_bind (every_markP M' (fun xqz=>zay xqz) Fl.Mok fun t _=>markE t) fun x hx=>M.o_bind (P:=fun y=>y=true↔x=true/\∀ t∈R',Fl.Rok S t) ?_ fun y hy=>M.o_if (fun hb=>?_) (fun hb=>?_)
        · refine M.o_opt (fun hq=>?_) (fun hq=>?_)
          · rw [Bool.not_not] at hq;refine M.o_mono (every_reachP R' (fun xqz=>zbj xqz S M' R') (Fl.Rok S) fun t _=>?_) fun z hz'=>?_
            · unfold zbj;exact M.o_bind (reachE t (by omega)) fun y hy=>M.o_pure hy
            · rw [hz',hq]; simp
          · rw [Bool.not_not] at hq;rw [hq]; simp
        · refine M.o_pure (.inr (.inl ⟨cn,fun q=>?_,rfl⟩));have s:=(Fl.site_iff cn).1 q;have x1:x=true:=hx.2 s.2.1;rw [x1,hy.2 ⟨x1,s.2.2⟩] at hb;cases hb
        · rw [Bool.or_eq_false_iff,Bool.not_eq_false',Bool.not_eq_false'] at hb;exact M.o_pure (.inr (.inr ⟨cn,(Fl.site_iff cn).2 ⟨hz,hx.1 hb.1,(hy.1 hb.2).2⟩,rfl⟩))
theorem rows_bad {l:List FRow}:¬Fl.RowsP l↔∃ k,k<l.length/\(((l.getD k default).stage<0∨2000<(l.getD k default).stage)∨((l.getD k default).carry<0∨100000<(l.getD k default).carry)∨(0<k/\((l.getD k default).stage<=(l.getD (k-1) default).stage∨(l.getD k default).carry<(l.getD (k-1) default).carry))):=by
  constructor
  · intro h;refine Classical.byContradiction fun hc=>h ⟨fun i hi=>?_,fun i hi=>?_⟩
    · have:=nt fun q=>hc ⟨i,hi,q⟩;omega
    · have:=nt fun q=>hc ⟨i+1,hi,q⟩;rw [Nat.add_sub_cancel] at this;omega
  · rintro ⟨k,hk,h⟩ hp;have e:=hp.1 k hk
    match k,h,hk with
    | 0,h,_=>omega
    | k+1,h,hk =>
      have:=hp.2 k hk;rw [Nat.add_sub_cancel] at h;omega
theorem refCheck_out (hS:S.length<=1000) (hr:∀ x∈S,x.rows.length<=1000):(zar S M' R').Out (Fl.CkE S M' R'):=by
  unfold zar;refine M.o_bind (outE _ _ _) fun a ha=>M.o_bind (optE (outE _ _ _)) fun b hb=>M.o_bind (optE (outE _ _ _)) fun c hc=>M.o_if (fun hn=>?_) (fun hn=>?_)
  · refine M.o_pure (.inl ⟨fun q=>?_,rfl⟩);obtain ⟨c1,c2,c3,c4⟩:=q;rw [Bool.or_eq_true,Bool.or_eq_true] at hn;rcases hn with (hn | hn) | hn
    · have:=ha.1 hn; omega
    · have:=(hb.1 hn).2; omega
    · have:=(hc.1 hn).2; omega
  · rw [Bool.or_eq_false_iff,Bool.or_eq_false_iff] at hn;obtain ⟨⟨rfl,rfl⟩,rfl⟩:=hn;have n1:2<=S.length/\S.length<=6:=by
      have:=nt fun q=>Bool.false_ne_true (ha.2 q);omega
    have n2:1<=M'.length/\M'.length<=16:=by
      have:=nt fun q=>Bool.false_ne_true (hb.2 ⟨rfl,q⟩);omega
    have n3:1<=R'.length/\R'.length<=6:=by
      have:=nt fun q=>Bool.false_ne_true (hc.2 ⟨rfl,q⟩);omega
    have rin:∀ i,i<S.length->(S.getD i default).rows.length<=1000:=fun i hi=>hr _ (by rw [getD_el S hi]; exact List.getElem_mem hi);refine M.o_bind (M.scan S.length (fun i=>(S.getD i default).rows.length<2∨8<(S.getD i default).rows.length) (fun i hi _=>?_) ?_) ?_
    · simp only [zcj];refine M.o_t (decide_eq_true (by omega)) (M.o_grd (decide_eq_true (by omega)) (M.o_bind (outE _ _ _) fun x hx=>M.o_if (fun q=>M.o_pure (.inl ⟨?_,rfl⟩)) (fun q=>M.o_pure (.inr ⟨fun k=>?_,rfl⟩))))
      · have:=hx.1 q; omega
      · rw [hx.2 (by omega)] at q; cases q
    · simp only [zcj];exact M.o_f (decide_eq_false (by omega)) (M.o_pure rfl)
    rintro z (⟨rfl,i,hi,hbad⟩ | ⟨rfl,hrows⟩)
    · exact M.o_pure (.inl ⟨fun q=>by have:=q.2.2.2 i hi; omega,rfl⟩)
    have cn:Fl.Cnt S M' R':=⟨n1,n2,n3,fun i hi=>by have:=hrows i hi; omega⟩
    refine M.o_bind (M.scan S.length (fun i=>((S.getD i default).place<0∨10000<(S.getD i default).place)∨(0<i/\(S.getD i default).place<=(S.getD (i-1) default).place)∨¬Fl.RowsP (S.getD i default).rows) (fun i hi _=>?_) ?_) ?_
    · simp only [zbV];have e1:0<i->Int.toNat ((i:Int)-1)=i-1:=fun q=>by omega
      refine M.o_t (decide_eq_true (by omega)) (M.o_grd (decide_eq_true (by omega)) (M.o_bind (outE _ _ _) fun x hx=>?_));refine M.o_grd ?_ (M.o_grd ?_ (M.o_if (fun q=>M.o_pure (.inl ⟨?_,rfl⟩)) (fun q=>?_)))
      · by_cases h0:0<i
        · exact gOr2 (by omega) (by omega)
        · have:decide (0<(i:Int))=false:=decide_eq_false (by omega);rw [this,Bool.and_false]; rfl
      · by_cases h0:0<i
        · exact gOr2 (by omega) (by omega)
        · have:decide (0<(i:Int))=false:=decide_eq_false (by omega);rw [this,Bool.and_false]; rfl
      · rw [Bool.or_eq_true,Bool.and_eq_true,decide_eq_true_eq,decide_eq_true_eq] at q;rcases q with q | ⟨q1,q2⟩
        · exact .inl (hx.1 q)
        · rw [e1 (by omega)] at q2;exact .inr (.inl ⟨by omega,q2⟩)
      · rw [Bool.or_eq_false_iff] at q;have g1:¬((S.getD i default).place<0∨10000<(S.getD i default).place):=fun k=>by rw [hx.2 k] at q; cases q.1
        have g2:¬(0<i/\(S.getD i default).place<=(S.getD (i-1) default).place):=fun k=>by
          have q2:=q.2;rw [e1 k.1,decide_eq_true (by omega:0<(i:Int)),decide_eq_true k.2] at q2;cases q2
        refine M.o_bind (M.scan (S.getD i default).rows.length (fun k=>(((S.getD i default).rows.getD k default).stage<0∨2000<((S.getD i default).rows.getD k default).stage)∨(((S.getD i default).rows.getD k default).carry<0∨100000<((S.getD i default).rows.getD k default).carry)∨(0<k/\(((S.getD i default).rows.getD k default).stage<=((S.getD i default).rows.getD (k-1) default).stage∨((S.getD i default).rows.getD k default).carry<((S.getD i default).rows.getD (k-1) default).carry))) (fun k hk _=>?_) ?_) ?_
        · have ek:0<k->Int.toNat ((k:Int)-1)=k-1:=fun q=>by omega
          have:=rin i hi;simp only [zbI];refine M.o_t (decide_eq_true (by omega)) (M.o_grd (decide_eq_true (by omega)) (M.o_bind (outE _ _ _) fun y hy=>M.o_bind (optE (outE _ _ _)) fun z hz=>M.o_if (fun h=>M.o_pure (.inl ⟨?_,rfl⟩)) (fun h=>?_)))
          · rw [Bool.or_eq_true] at h;rcases h with h | h
            · exact .inl (hy.1 h)
            · exact .inr (.inl (hz.1 h).2)
          · rw [Bool.or_eq_false_iff] at h;obtain ⟨rfl,rfl⟩:=h;have y1:¬(((S.getD i default).rows.getD k default).stage<0∨2000<((S.getD i default).rows.getD k default).stage):=fun w=>Bool.noConfusion (hy.2 w);have z1:¬(((S.getD i default).rows.getD k default).carry<0∨100000<((S.getD i default).rows.getD k default).carry):=fun w=>Bool.noConfusion (hz.2 ⟨rfl,w⟩);have gd:∀ p:Bool,(!(decide (0<(k:Int))&&p)||(decide ((-9223372036854775808:Int)<=((k:Int)-1))&&decide (((k:Int)-1)<=(9223372036854775807:Int))))=true:=fun p=>by
              by_cases h0:0<k
              · exact gOr2 (by omega) (by omega)
              · have:decide (0<(k:Int))=false:=decide_eq_false (by omega);rw [this]; rfl
            have gd':∀ p:Bool,(!(decide (0<(k:Int))&&p)||(decide ((0:Int)<=((k:Int)-1))&&decide (((k:Int)-1)<(((S.getD i default).rows).length:Int))))=true:=fun p=>by
              by_cases h0:0<k
              · exact gOr2 (by omega) (by omega)
              · have:decide (0<(k:Int))=false:=decide_eq_false (by omega);rw [this]; rfl
            refine M.o_grd (by have:=gd true; rwa [Bool.and_true] at this) (M.o_grd (by have:=gd' true; rwa [Bool.and_true] at this) (M.o_grd (gd _) (M.o_grd (gd' _) (M.o_if (fun h=>M.o_pure (.inl ⟨?_,rfl⟩)) (fun h=>M.o_pure (.inr ⟨?_,rfl⟩))))))
            · rw [Bool.and_eq_true,Bool.or_eq_true,decide_eq_true_eq,decide_eq_true_eq,decide_eq_true_eq] at h;rw [ek (by omega)] at h;exact .inr (.inr ⟨by omega,h.2⟩)
            · rintro (w | w | w)
              · exact y1 w
              · exact z1 w
              · have q2:=h;rw [decide_eq_true (by omega:0<(k:Int)),ek w.1,Bool.true_and,Bool.or_eq_false_iff,decide_eq_false_iff_not,decide_eq_false_iff_not] at q2;rcases w.2 with w | w
                · exact q2.1 w
                · exact q2.2 w
        · simp only [zbI];exact M.o_f (decide_eq_false (by omega)) (M.o_pure rfl)
        rintro z (⟨rfl,hbad⟩ | ⟨rfl,hgood⟩)
        · exact M.o_pure (.inl ⟨.inr (.inr (rows_bad.2 hbad)),rfl⟩)
        · refine M.o_pure (.inr ⟨?_,rfl⟩);rintro (w | w | w)
          · exact g1 w
          · exact g2 w
          · obtain ⟨k,hk,w⟩:=rows_bad.1 w;exact hgood k hk w
    · simp only [zbV];exact M.o_f (decide_eq_false (by omega)) (M.o_pure rfl)
    rintro z (⟨rfl,i,hi,hbad⟩ | ⟨rfl,hsec⟩)
    · refine M.o_pure (.inr (.inl ⟨cn,fun q=>?_,rfl⟩));have s:=((Fl.site_iff cn).1 q).1;have e:=s.e i hi;rcases hbad with w | w | w
      · omega
      · match i,hi,w with
        | j+1,hi,w =>
          have:=s.u j hi;rw [Nat.add_sub_cancel] at w;omega
      · exact w e.1
    have sec:Fl.SecP S:=⟨fun i hi=>by
      have:=nt fun w=>hsec i hi (.inl w);exact ⟨Classical.byContradiction fun w=>hsec i hi (.inr (.inr w)),by omega,by omega⟩,fun i hi=>by
      have:=nt fun w=>hsec (i+1) hi (.inr (.inl w));rw [Nat.add_sub_cancel] at this;omega⟩
    refine M.o_bind (M.scan M'.length (fun i=>¬Fl.Mok (M'.getD i default)) (fun i hi _=>?_) ?_) ?_
    · simp only [zbJ];refine M.o_t (decide_eq_true (by omega)) (M.o_grd (decide_eq_true (by omega)) (M.o_bind (outE _ _ _) fun x hx=>M.o_if (fun q=>M.o_pure (.inl ⟨fun h=>?_,rfl⟩)) (fun q=>M.o_pure (.inr ⟨fun h=>h ?_,rfl⟩))))
      · have h1:=h.p0;have h2:=h.p1;have h3:=h.l0;have h4:=h.lh;have h5:=h.h2;rw [Bool.or_eq_true,Bool.or_eq_true,Bool.or_eq_true,decide_eq_true_eq,decide_eq_true_eq,decide_eq_true_eq,hx] at q;omega
      · rw [Bool.or_eq_false_iff,Bool.or_eq_false_iff,Bool.or_eq_false_iff,decide_eq_false_iff_not,decide_eq_false_iff_not,decide_eq_false_iff_not] at q;have:¬((M'.getD i default).place<0∨10000<(M'.getD i default).place):=fun w=>by rw [hx.2 w] at q; exact Bool.noConfusion q.1.1.1
        constructor <;> omega
    · simp only [zbJ];exact M.o_f (decide_eq_false (by omega)) (M.o_pure rfl)
    rintro z (⟨rfl,i,hi,hbad⟩ | ⟨rfl,hmk⟩)
    · exact M.o_pure (.inr (.inl ⟨cn,fun q=>hbad (q.mks _ (by rw [getD_el M' hi]; exact List.getElem_mem hi)),rfl⟩))
    refine M.o_bind (M.scan R'.length (fun i=>¬Fl.Rok S (R'.getD i default)) (fun i hi _=>?_) ?_) ?_
    · simp only [zcf];refine M.o_t (decide_eq_true (by omega)) (M.o_grd (decide_eq_true (by omega)) (M.o_if (fun q=>M.o_pure (.inl ⟨fun h=>?_,rfl⟩)) (fun q=>M.o_pure (.inr ⟨fun h=>h ?_,rfl⟩))))
      · have h1:=h.u0;have h2:=h.ud;have h3:=h.d1;have h4:=h.l1;have h5:=h.lh;have h6:=h.h4;simp only [Bool.or_eq_true,decide_eq_true_eq] at q;omega
      · simp only [Bool.or_eq_false_iff,decide_eq_false_iff_not] at q;constructor <;> omega
    · simp only [zcf];exact M.o_f (decide_eq_false (by omega)) (M.o_pure rfl)
    rintro z (⟨rfl,i,hi,hbad⟩ | ⟨rfl,hrk⟩)
    · exact M.o_pure (.inr (.inl ⟨cn,fun q=>hbad (q.rks _ (by rw [getD_el R' hi]; exact List.getElem_mem hi)),rfl⟩))
    · refine M.o_pure (.inr (.inr ⟨cn,(Fl.site_iff cn).2 ⟨sec,fun x hx=>?_,fun x hx=>?_⟩,rfl⟩))
      · obtain ⟨i,hi,rfl⟩:=mem_getD hx default;exact Classical.byContradiction (hmk i hi)
      · obtain ⟨i,hi,rfl⟩:=mem_getD hx default;exact Classical.byContradiction (hrk i hi)
end
end Go.Proofs.YtbldmjejckjflaaGreat
namespace Go.Nm
namespace Fl
open Classical in
noncomputable def ckE (S:List Sect) (M:List Mrk) (R:List Rch):Int:=if Cnt S M R then (if Site S M R then 0 else 70) else 3
theorem CkE.eq {S:List Sect} {M:List Mrk} {R:List Rch} {e:Int} (h:CkE S M R e):e=ckE S M R:=by
  unfold ckE;rcases h with ⟨a,b⟩ | ⟨a,b,c⟩ | ⟨a,b,c⟩
  · rw [if_neg a]; exact b
  · rw [if_pos a,if_neg b]; exact c
  · rw [if_pos a,if_pos b]; exact c
theorem ckE_ne {S:List Sect} {M:List Mrk} {R:List Rch} (h:¬Site S M R):ckE S M R ≠ 0:=by
  unfold ckE;rw [if_neg h];split <;> decide
def IncP (M:List Mrk) (ms:List Int):Prop:=(∀ i,i<ms.length->0<=ms.getD i 0/\ms.getD i 0<M.length)/\∀ i,i+1<ms.length->ms.getD i 0<ms.getD (i+1) 0
theorem inc_iff {M:List Mrk} {ms:List Int}:Inc M ms↔IncP M ms:=by
  constructor
  · intro h;refine ⟨fun i hi=>h.2 _ (by rw [getD_el ms hi]; exact List.getElem_mem hi),fun i hi=>?_⟩;rw [getD_el ms hi,getD_el ms (by omega:i<ms.length)];exact List.pairwise_iff_getElem.1 h.1 i (i+1) (by omega) hi (by omega)
  · rintro ⟨h1,h2⟩;have key:∀ i j,i<j->j<ms.length->ms.getD i 0<ms.getD j 0:=fun i j=>by
      induction j with
      | zero=>intro h; omega
      | succ j ih =>
        intro hij hj;have u:=h2 j hj;by_cases e:i=j
        · subst e; exact u
        · have:=ih (by omega) (by omega);omega
    refine ⟨List.pairwise_iff_getElem.2 fun i j hi hj hij=>?_,fun k hk=>?_⟩
    · have:=key i j hij hj
      rwa [getD_el ms hi,getD_el ms hj] at this
    · obtain ⟨i,hi,rfl⟩:=mem_getD hk 0;exact h1 i hi
theorem inc_bad {M:List Mrk} {ms:List Int}:¬Inc M ms↔∃ k,k<ms.length/\((ms.getD k 0<0∨(M.length:Int)-1<ms.getD k 0)∨(0<k/\ms.getD k 0<=ms.getD (k-1) 0)):=by
  rw [inc_iff];constructor
  · intro h;refine Classical.byContradiction fun hc=>h ⟨fun i hi=>?_,fun i hi=>?_⟩
    · have:=nt fun q=>hc ⟨i,hi,q⟩;omega
    · have:=nt fun q=>hc ⟨i+1,hi,q⟩;rw [Nat.add_sub_cancel] at this;omega
  · rintro ⟨k,hk,h⟩ hp;have e:=hp.1 k hk
    match k,h,hk with
    | 0,h,_=>omega
    | k+1,h,hk =>
      have:=hp.2 k hk;rw [Nat.add_sub_cancel] at h;omega
open Classical in
noncomputable def lsE (S:List Sect) (M:List Mrk) (R:List Rch) (ms:List Int):Int:=if Site S M R then (if Inc M ms then 0 else 2) else ckE S M R
theorem lsE_zero {S:List Sect} {M:List Mrk} {R:List Rch} {ms:List Int}:lsE S M R ms=0↔Site S M R/\Inc M ms:=by
  unfold lsE;by_cases h:Site S M R
  · rw [if_pos h];by_cases h':Inc M ms
    · rw [if_pos h']; simp [h,h']
    · rw [if_neg h']; simp [h']
  · rw [if_neg h];exact ⟨fun q=>absurd q (ckE_ne h),fun q=>absurd q.1 h⟩
open Classical in
noncomputable def asE (S:List Sect) (M:List Mrk) (R:List Rch) (ms:List Int) (i:Int):Int:=if lsE S M R ms=0 then (if 0<=i/\i<R.length then (if Tog M ms then 0 else 7) else 2) else lsE S M R ms
/-- All that is asked of sites, marks and a reach. -/
structure Askd (S:List Sect) (M:List Mrk) (R:List Rch) (ms:List Int) (i:Int):Prop where
  s:Site S M R
  c:Inc M ms
  t:Tog M ms
  h0:0<=i
  h1:i<R.length
theorem asE_zero {S:List Sect} {M:List Mrk} {R:List Rch} {ms:List Int} {i:Int}:asE S M R ms i=0↔Askd S M R ms i:=by
  unfold asE;by_cases h:lsE S M R ms=0
  · rw [if_pos h];have h2:=lsE_zero.1 h;by_cases h':0<=i/\i<R.length
    · rw [if_pos h'];by_cases h3:Tog M ms
      · rw [if_pos h3]; exact ⟨fun _=>⟨h2.1,h2.2,h3,h'.1,h'.2⟩,fun _=>rfl⟩
      · rw [if_neg h3]; exact ⟨fun q=>(by cases q),fun q=>absurd q.t h3⟩
    · rw [if_neg h']; exact ⟨fun q=>(by cases q),fun q=>absurd ⟨q.h0,q.h1⟩ h'⟩
  · rw [if_neg h];exact ⟨fun q=>absurd q h,fun q=>absurd (lsE_zero.2 ⟨q.s,q.c⟩) h⟩
theorem Askd.rok {S:List Sect} {M:List Mrk} {R:List Rch} {ms:List Int} {i:Int} (h:Askd S M R ms i):Rok S (R.getD (Int.toNat i) default):=by
  have h0:=h.h0;have h1:=h.h1;have hl:Int.toNat i<R.length:=by omega
  rw [getD_el R hl];exact h.s.rks _ (List.getElem_mem hl)
end Fl
end Go.Nm
namespace Go.Proofs.YtbldmjejckjflaaGreat
open Go Go.Nm
section
variable {S:List Sect} {M':List Mrk} {R':List Rch} {ms:List Int} {r:Rch}
theorem opened_any:(zah S M' R').Out (fun x=>match x with | .inl e=>e ≠ 0/\¬Fl.Site S M' R'/\e=Fl.ckE S M' R' | .inr e=>e=0/\Fl.Site S M' R'):=by
  unfold zah;refine M.o_bind Check_out fun e he=>M.o_if (fun q=>?_) (fun q=>?_)
  · have q':e ≠ 0:=by simpa using q
    exact M.o_pure ⟨q',fun k=>q' (he.zero.2 k),he.eq⟩
  · have q':e=0:=by simpa using q
    exact M.o_pure ⟨rfl,he.zero.1 q'⟩
theorem chosen_any:(zax S M' R' ms).Out (fun x=>match x with | .inl e=>e ≠ 0/\e=Fl.lsE S M' R' ms | .inr e=>e=Fl.lsE S M' R' ms):=by
  unfold zax;refine M.o_bind opened_any ?_;intro x hx
  match x,hx with
  | .inl e,⟨h0,h1,h2⟩ =>
    refine M.o_bind (P:=fun z=>z=e) ?_ fun z hz=>M.o_pure ?_
    · refine M.o_for ms.length (fun i (s:Int × Int × Nat)=>s.1=e/\s.2.2=i) ?_ ?_ ⟨rfl,rfl⟩
      · rintro i ⟨_,l,_⟩ hi ⟨rfl,rfl⟩;have e0:((_:Int)==0)=false:=beq_false_of_ne h0;simp only [zbR];dsimp only at hi e0 ⊢;refine M.o_t (decide_eq_true (by omega)) (M.o_grd (decide_eq_true (by omega)) (M.o_grd (by rw [e0]; rfl) (M.o_bind (P:=fun _=>True) (M.o_opt (fun q=>by rw [e0] at q; cases q) (fun _=>trivial)) fun r2 _=>M.o_f (by rw [e0]; rfl) (M.o_pure ⟨rfl,rfl⟩))))
      · rintro ⟨_,l,_⟩ ⟨rfl,rfl⟩;simp only [zbR];exact M.o_f (decide_eq_false (by omega)) (M.o_pure rfl)
    · subst hz;exact ⟨h0,by unfold Fl.lsE; rw [if_neg h1]; exact h2⟩
  | .inr e, ⟨h0, h1⟩ =>
    subst h0;have hm:=h1.m;refine M.o_bind (P:=fun z=>z=Fl.lsE S M' R' ms) ?_ fun z hz=>M.o_pure hz;refine M.o_for ms.length (fun i (s:Int × Int × Nat)=>s.2.2=i/\((s.1=2/\¬Fl.Inc M' ms)∨(s.1=0/\(∀ j,j<i->0<=ms.getD j 0/\ms.getD j 0<M'.length)/\(∀ j,j+1<i->ms.getD j 0<ms.getD (j+1) 0)/\(i=0->s.2.1 = -1)/\∀ j,i=j+1->s.2.1=ms.getD j 0))) ?_ ?_ ⟨rfl,.inr ⟨rfl,fun j hj=>by omega,fun j hj=>by omega,fun _=>rfl,fun j hj=>by omega⟩⟩
    · rintro _ ⟨e,l,i⟩ hi ⟨rfl,h⟩;dsimp only at hi h ⊢;simp only [zaR];refine M.o_t (decide_eq_true (by omega)) (M.o_grd (decide_eq_true (by omega)) ?_);rcases h with ⟨rfl,hb⟩ | ⟨rfl,h2,h3,h4,h5⟩
      · exact M.o_grd rfl (M.o_bind (P:=fun _=>True) (M.o_opt (fun q=>absurd q (by decide)) (fun _=>trivial)) fun r2 _=>M.o_f rfl (M.o_pure ⟨rfl,.inl ⟨rfl,hb⟩⟩))
      · have hl:-1<=l/\l<=16:=by
          match i,h2,h4,h5 with
          | 0,_,h4,_=>have:=h4 rfl; omega
          | j+1,h2,_,h5 =>
            have q1:=h5 j rfl;have q2:=h2 j (by omega);omega
        refine M.o_grd (gOr2 (by omega) (by omega)) (M.o_bind (M.o_opt (Q:=fun x=>x=true↔l+1<=ms.getD i 0/\ms.getD i 0<=(M'.length:Int)-1) (fun _=>inE _ _ _) (fun q=>absurd q (by decide))) fun r2 hr2=>M.o_if (fun q=>?_) (fun q=>?_))
        · have q:r2=false:=by simpa using q
          refine M.o_pure ⟨rfl,.inl ⟨rfl,fun hc=>?_⟩⟩;have hc:=Fl.inc_iff.1 hc;have c1:=hc.1 i hi;have:r2=true:=hr2.2 (by
            match i,h4,h5,hi,c1 with
            | 0,h4,_,_,c1=>have:=h4 rfl; omega
            | j+1,_,h5,hi,c1 =>
              have q1:=h5 j rfl;have q2:=hc.2 j hi;omega)
          rw [this] at q; cases q
        · have q:r2=true:=by simpa using q
          have hq:=hr2.1 q;refine M.o_pure ⟨rfl,.inr ⟨rfl,fun j hj=>?_,fun j hj=>?_,fun e=>by omega,fun j hj=>?_⟩⟩
          · by_cases e:j=i
            · subst e; omega
            · exact h2 j (by omega)
          · by_cases e:j+1=i
            · have k:=h5 j e.symm;subst e;omega
            · exact h3 j (by omega)
          · obtain rfl:j=i:=by omega
            rfl
    · rintro ⟨e,l,_⟩ ⟨rfl,h⟩;simp only [zaR];refine M.o_f (decide_eq_false (by omega)) (M.o_pure ?_);unfold Fl.lsE;rw [if_pos h1];rcases h with ⟨h,hb⟩ | ⟨h,h2,h3,_⟩
      · rw [if_neg hb]; exact h
      · rw [if_pos (Fl.inc_iff.2 ⟨h2,h3⟩)]; exact h
theorem listed_any (hS:S.length<=1000) (hr:∀ x∈S,x.rows.length<=1000) (hl:ms.length<=1000000):(zbF S M' R' ms).Ends (Fl.lsE S M' R' ms):=by
  refine M.Out.ends ?_;unfold zbF;refine M.o_bind (refCheck_out hS hr) fun e he=>M.o_if (fun q=>?_) (fun q=>?_)
  · have q':e ≠ 0:=by simpa using q
    refine M.o_pure ?_;unfold Fl.lsE;rw [if_neg fun k=>q' (he.zero.2 k)];exact he.eq
  · have q':e=0:=by simpa using q
    have st:=he.zero.1 q';have hm:=st.m;refine M.o_bind (M.scan ms.length (fun k=>(ms.getD k 0<0∨(M'.length:Int)-1<ms.getD k 0)∨(0<k/\ms.getD k 0<=ms.getD (k-1) 0)) (fun i hi _=>?_) ?_) ?_
    · have e1:0<i->Int.toNat ((i:Int)-1)=i-1:=fun q=>by omega
      simp only [zbO];refine M.o_t (decide_eq_true (by omega)) (M.o_grd (decide_eq_true (by omega)) (M.o_bind (outE _ _ _) fun x hx=>?_));refine M.o_grd ?_ (M.o_grd ?_ (M.o_if (fun q=>M.o_pure (.inl ⟨?_,rfl⟩)) (fun q=>M.o_pure (.inr ⟨?_,rfl⟩))))
      · by_cases h0:0<i
        · exact gOr2 (by omega) (by omega)
        · have:decide (0<(i:Int))=false:=decide_eq_false (by omega);rw [this,Bool.and_false]; rfl
      · by_cases h0:0<i
        · exact gOr2 (by omega) (by omega)
        · have:decide (0<(i:Int))=false:=decide_eq_false (by omega);rw [this,Bool.and_false]; rfl
      · rw [Bool.or_eq_true,Bool.and_eq_true,decide_eq_true_eq,decide_eq_true_eq] at q;rcases q with q | ⟨q1,q2⟩
        · exact .inl (hx.1 q)
        · rw [e1 (by omega)] at q2;exact .inr ⟨by omega,q2⟩
      · rw [Bool.or_eq_false_iff] at q;rintro (k | k)
        · rw [hx.2 k] at q; cases q.1
        · have q2:=q.2;rw [e1 k.1,decide_eq_true (by omega:0<(i:Int)),decide_eq_true k.2] at q2;cases q2
    · simp only [zbO];exact M.o_f (decide_eq_false (by omega)) (M.o_pure rfl)
    rintro z (⟨rfl,i,hi,hbad⟩ | ⟨rfl,hgood⟩)
    · refine M.o_pure ?_;unfold Fl.lsE;rw [if_pos st,if_neg (Fl.inc_bad.2 ⟨i,hi,hbad⟩)]
    · refine M.o_pure ?_;unfold Fl.lsE;rw [if_pos st,if_pos (Classical.byContradiction fun k=>?_)];obtain ⟨j,hj,b⟩:=Fl.inc_bad.1 k;exact hgood j hj b
theorem againstE (a b:Mrk):(zau a b).Out (fun x=>x=true↔(a.place<=b.place/\a.hi<b.lo)∨(b.place<=a.place/\b.hi<a.lo)):=by
  unfold zau;refine M.o_pure ?_;simp only [Bool.or_eq_true,Bool.and_eq_true,decide_eq_true_eq]
theorem refTogether_out (hk:∀ x∈M',Fl.Mok x) (hx:Fl.Ixs M' ms) (hl:ms.length<=1000000):(zaN S M' R' ms).Out (fun b=>b=true↔Fl.Tog M' ms):=by
  unfold zaN;have im:∀ {i},i<ms.length->ms.getD i 0∈ms:=fun {i} hi=>by rw [getD_el ms hi]; exact List.getElem_mem hi
  refine M.o_bind (M.scan ms.length (fun i=>∃ k,k<i/\((((M'.getD (Int.toNat (ms.getD i 0)) default).place<=(M'.getD (Int.toNat (ms.getD k 0)) default).place/\(M'.getD (Int.toNat (ms.getD i 0)) default).hi<(M'.getD (Int.toNat (ms.getD k 0)) default).lo))∨((M'.getD (Int.toNat (ms.getD k 0)) default).place<=(M'.getD (Int.toNat (ms.getD i 0)) default).place/\(M'.getD (Int.toNat (ms.getD k 0)) default).hi<(M'.getD (Int.toNat (ms.getD i 0)) default).lo))) (fun i hi _=>?_) ?_) ?_
  · simp only [zbL];refine M.o_t (decide_eq_true (by omega)) (M.o_bind (M.scan i (fun k=>(((M'.getD (Int.toNat (ms.getD i 0)) default).place<=(M'.getD (Int.toNat (ms.getD k 0)) default).place/\(M'.getD (Int.toNat (ms.getD i 0)) default).hi<(M'.getD (Int.toNat (ms.getD k 0)) default).lo))∨((M'.getD (Int.toNat (ms.getD k 0)) default).place<=(M'.getD (Int.toNat (ms.getD i 0)) default).place/\(M'.getD (Int.toNat (ms.getD k 0)) default).hi<(M'.getD (Int.toNat (ms.getD i 0)) default).lo)) (fun k hk _=>?_) ?_) ?_)
    · have g1:=hx _ (im hi);have g2:=hx _ (im (by omega:k<ms.length));simp only [zch];exact M.o_t (decide_eq_true (by omega)) (M.o_grd (decide_eq_true (by omega)) (M.o_grd (gA2 g1.1 g1.2) (M.o_grd (decide_eq_true (by omega)) (M.o_grd (gA2 g2.1 g2.2) (M.o_bind (againstE _ _) fun x hx=>M.o_if (fun q=>M.o_pure (.inl ⟨hx.1 q,rfl⟩)) (fun q=>M.o_pure (.inr ⟨fun w=>(by rw [hx.2 w] at q; cases q),rfl⟩)))))))
    · simp only [zch];exact M.o_f (decide_eq_false (by omega)) (M.o_pure rfl)
    rintro z (⟨rfl,k,hk,hbad⟩ | ⟨rfl,hgood⟩)
    · exact M.o_pure (.inl ⟨⟨k,hk,hbad⟩,rfl⟩)
    · exact M.o_pure (.inr ⟨fun ⟨k,hk,w⟩=>hgood k hk w,rfl⟩)
  · simp only [zbL];exact M.o_f (decide_eq_false (by omega)) (M.o_pure rfl)
  rintro z (⟨rfl,i,hi,k,hk,hbad⟩ | ⟨rfl,hgood⟩)
  · refine M.o_pure ⟨fun q=>(by cases q),fun q=>?_⟩;rcases hbad with w | w
    · exact absurd w (q _ (im hi) _ (im (by omega)))
    · exact absurd w (q _ (im (by omega)) _ (im hi))
  · refine M.o_pure ⟨fun _ a ha b hb w=>?_,fun _=>rfl⟩;obtain ⟨i,hi,rfl⟩:=mem_getD ha 0;obtain ⟨j,hj,rfl⟩:=mem_getD hb 0;rcases Nat.lt_trichotomy i j with e | rfl | e
    · exact hgood j hj ⟨i,e,.inr w⟩
    · have:=(hx.mok hk ha).lh;omega
    · exact hgood i hi ⟨j,e,.inl w⟩
theorem refAsked_ends (hS:S.length<=1000) (hr:∀ x∈S,x.rows.length<=1000) (hl:ms.length<=1000000) (i:Int):(za1 S M' R' ms i).Ends (Fl.asE S M' R' ms i):=by
  refine M.Out.ends ?_;unfold za1 Fl.asE;refine M.o_bindE (listed_any hS hr hl) (M.o_if (fun q=>?_) (fun q=>?_))
  · have q':Fl.lsE S M' R' ms ≠ 0:=by simpa using q
    rw [if_neg q'];exact M.o_pure rfl
  · have q':Fl.lsE S M' R' ms=0:=by simpa using q
    rw [if_pos q'];obtain ⟨st,hc⟩:=Fl.lsE_zero.1 q';refine M.o_bind (outE _ _ _) fun x hx=>M.o_if (fun q=>?_) (fun q=>?_)
    · have:=hx.1 q;rw [if_neg (by omega)];exact M.o_pure rfl
    · have k:0<=i/\i<R'.length:=by
        have:¬(i<0∨(R'.length:Int)-1<i):=fun w=>by rw [hx.2 w] at q; cases q
        omega
      rw [if_pos k];refine M.o_bind (refTogether_out st.mks hc.2 hl) fun b hb=>M.o_if (fun q=>?_) (fun q=>?_)
      · have q:b=false:=by simpa using q
        rw [if_neg fun w=>by rw [hb.2 w] at q; cases q];exact M.o_pure rfl
      · have q:b=true:=by simpa using q
        rw [if_pos (hb.1 q)];exact M.o_pure rfl
end
end Go.Proofs.YtbldmjejckjflaaGreat
namespace Go.Nm
namespace Fl
theorem lt_at {l:List Int} (h:l.Pairwise (· < ·)) {i j:Nat} (hij:i<j) (hj:j<l.length):l.getD i 0<l.getD j 0:=by
  rw [getD_el l hj,getD_el l (by omega:i<l.length)];exact List.pairwise_iff_getElem.1 h i j (by omega) hj hij
/-- The stages from one to another, in order. -/
structure Stg (l:List Int) (a b:Int):Prop where
  pw:l.Pairwise (· < ·)
  mem:∀ x,x∈l↔a<=x/\x<=b
theorem Stg.at {l:List Int} {a b:Int} (h:Stg l a b) {i:Nat} (hi:i<l.length):a<=l.getD i 0/\l.getD i 0<=b:=(h.mem _).1 (by rw [getD_el l hi]; exact List.getElem_mem hi)
theorem Stg.ends {l:List Int} {a b:Int} (h:Stg l a b) (hab:a<=b):0<l.length/\l.getD 0 0=a/\l.getD (l.length-1) 0=b:=by
  obtain ⟨i,hi,ei⟩:=mem_getD ((h.mem a).2 ⟨Int.le_refl _,hab⟩) 0;obtain ⟨j,hj,ej⟩:=mem_getD ((h.mem b).2 ⟨hab,Int.le_refl _⟩) 0;refine ⟨by omega,?_,?_⟩
  · have q:=h.at (i:=0) (by omega);by_cases e:i=0
    · subst e; exact ei
    · have:=lt_at h.pw (by omega:0<i) hi;omega
  · have q:=h.at (i:=l.length-1) (by omega);by_cases e:j=l.length-1
    · subst e; exact ej
    · have:=lt_at h.pw (by omega:j<l.length-1) (by omega);omega
theorem st_iff {M:List Mrk} {ms:List Int} {p h:Int} (h0:0<=h) (h2:h<=2000):(∀ j,j<ms.length->¬((p<=(M.getD (Int.toNat (ms.getD j 0)) default).place/\h<(M.getD (Int.toNat (ms.getD j 0)) default).lo)∨((M.getD (Int.toNat (ms.getD j 0)) default).place<=p/\(M.getD (Int.toNat (ms.getD j 0)) default).hi<h)))↔stLo M ms p<=h/\h<=stHi M ms p:=by
  constructor
  · intro q;constructor
    · rcases stLo_ex (M:=M) (p:=p) ms with e | ⟨k,hk,h1,e⟩
      · omega
      · obtain ⟨j,hj,rfl⟩:=mem_getD hk 0;have:=q j hj;omega
    · rcases stHi_ex (M:=M) (p:=p) ms with e | ⟨k,hk,h1,e⟩
      · omega
      · obtain ⟨j,hj,rfl⟩:=mem_getD hk 0;have:=q j hj;omega
  · rintro ⟨q1,q2⟩ j hj (⟨w1,w2⟩ | ⟨w1,w2⟩)
    · have:=stLo_ge (M:=M) (p:=p) (ms:=ms) (k:=ms.getD j 0) (by rw [getD_el ms hj]; exact List.getElem_mem hj) w1;omega
    · have:=stHi_ge (M:=M) (p:=p) (ms:=ms) (k:=ms.getD j 0) (by rw [getD_el ms hj]; exact List.getElem_mem hj) w1;omega
theorem car_ex {l:List FRow} {s:Int} (h0:0<l.length) (h1:(l.getD 0 default).stage<=s):∃ j,j<l.length/\(l.getD j default).stage<=s/\(j+1=l.length∨s<(l.getD (j+1) default).stage):=by
  refine Classical.byContradiction fun hc=>?_;have key:∀ k,k<l.length->(l.getD k default).stage<=s:=fun k=>by
    induction k with
    | zero=>intro _; exact h1
    | succ k ih =>
      intro hk;have q:=ih (by omega);exact Classical.byContradiction fun w=>hc ⟨k,by omega,q,.inr (by omega)⟩
  exact hc ⟨l.length-1,by omega,key _ (by omega),.inl (by omega)⟩
open Classical in
noncomputable def sfV (S:List Sect) (M:List Mrk) (R:List Rch) (ms:List Int):List Span × Int:=if lsE S M R ms=0 then (if Tog M ms then (surf S M ms,0) else ([],7)) else ([],lsE S M R ms)
/-- A case that a reach allows. -/
structure Fit (c:Cas) (r:Rch):Prop where
  u0:0<=c.up
  u2:c.up<=2000
  d0:0<=c.down
  du:c.down<=c.up
  a1:r.lo<=c.roughup
  a2:c.roughup<=r.hi
  b1:r.lo<=c.roughdown
  b2:c.roughdown<=r.hi
theorem Fit.ok {S:List Sect} {c:Cas} {r:Rch} (h:Fit c r) (hr:Rok S r):Cok c:=by
  obtain ⟨a,b,c,d,e,f,g,i⟩:=h;have:=hr.l1;have:=hr.h4;constructor <;> omega
open Classical in
noncomputable def flV (S:List Sect) (M:List Mrk) (R:List Rch) (i:Int) (c:Cas):Int × Int:=if Site S M R then (if 0<=i/\i<R.length then (if Fit c (R.getD (Int.toNat i) default) then (fl S (R.getD (Int.toNat i) default) c,0) else (0,4)) else (0,2)) else (0,ckE S M R)
end Fl
end Go.Nm
namespace Go.Proofs.YtbldmjejckjflaaGreat
open Go Go.Nm
section
variable {S:List Sect} {M':List Mrk} {R':List Rch} {ms:List Int} {r:Rch}
theorem refStages_out {i:Int} (h0:0<=i) (h1:i<S.length) (hx:Fl.Ixs M' ms):(za7 S M' R' ms i).Out (fun l=>Fl.Stg l (Fl.stLo M' ms (S.getD (Int.toNat i) default).place) (Fl.stHi M' ms (S.getD (Int.toNat i) default).place)):=by
  have n0:=Fl.stLo_nn (M:=M') (p:=(S.getD (Int.toNat i) default).place) ms;have n2:=Fl.stHi_le (M:=M') (p:=(S.getD (Int.toNat i) default).place) ms;unfold za7;refine M.o_bind (P:=fun x=>Fl.Stg x.2 (Fl.stLo M' ms (S.getD (Int.toNat i) default).place) (Fl.stHi M' ms (S.getD (Int.toNat i) default).place)) ?_ fun x hx=>M.o_pure hx;refine M.o_for 2001 (fun h (s:Nat × List Int)=>s.1=h/\s.2.length<=h/\s.2.Pairwise (· < ·)/\∀ x,x∈s.2↔Fl.stLo M' ms (S.getD (Int.toNat i) default).place<=x/\x<=Fl.stHi M' ms (S.getD (Int.toNat i) default).place/\x<h) ?_ ?_ ⟨rfl,Nat.le_refl _,List.Pairwise.nil,fun x=>⟨fun q=>(by cases q),fun q=>by omega⟩⟩
  · rintro _ ⟨h,l⟩ hh ⟨rfl,k1,k2,k3⟩;dsimp only at hh k1 k2 k3 ⊢;simp only [zbK];refine M.o_t (decide_eq_true (by omega)) (M.o_grd (gA2 h0 h1) (M.o_bind (P:=fun b=>b=true↔Fl.stLo M' ms (S.getD (Int.toNat i) default).place<=(h:Int)/\(h:Int)<=Fl.stHi M' ms (S.getD (Int.toNat i) default).place) ?_ fun b hb=>M.o_if (fun q=>?_) (fun q=>?_)))
    · rw [← Fl.st_iff (by omega) (by omega)];refine M.o_for ms.length (fun j (s:Bool × Nat)=>s.2=j/\(s.1=true↔∀ k,k<j->¬(((S.getD (Int.toNat i) default).place<=(M'.getD (Int.toNat (ms.getD k 0)) default).place/\(h:Int)<(M'.getD (Int.toNat (ms.getD k 0)) default).lo)∨((M'.getD (Int.toNat (ms.getD k 0)) default).place<=(S.getD (Int.toNat i) default).place/\(M'.getD (Int.toNat (ms.getD k 0)) default).hi<(h:Int))))) ?_ ?_ ⟨rfl,fun _ k hk=>by omega,fun _=>rfl⟩
      · rintro _ ⟨f,j⟩ hj ⟨rfl,hf⟩;dsimp only at hj hf ⊢;have g:=hx (ms.getD j 0) (by rw [getD_el ms hj]; exact List.getElem_mem hj);simp only [zbU];refine M.o_t (decide_eq_true (by omega)) (M.o_grd (gOr (by omega)) (M.o_grd (gOr2 g.1 g.2) (M.o_bind (P:=fun x=>f=true->(x=true↔((S.getD (Int.toNat i) default).place<=(M'.getD (Int.toNat (ms.getD j 0)) default).place/\(h:Int)<(M'.getD (Int.toNat (ms.getD j 0)) default).lo)∨((M'.getD (Int.toNat (ms.getD j 0)) default).place<=(S.getD (Int.toNat i) default).place/\(M'.getD (Int.toNat (ms.getD j 0)) default).hi<(h:Int)))) (M.o_opt (fun _=>M.o_mono (againstE _ _) fun x hx _=>hx) (fun q q'=>by rw [q] at q'; cases q')) fun x hx'=>M.o_pure ⟨rfl,?_⟩)));dsimp only;rw [Bool.and_eq_true,Bool.not_eq_true'];constructor
        · rintro ⟨q1,q2⟩ k hk;by_cases e:k=j
          · subst e;intro w;rw [(hx' q1).2 w] at q2; cases q2
          · exact hf.1 q1 k (by omega)
        · intro q;have q1:=hf.2 fun k hk=>q k (by omega);refine ⟨q1,?_⟩;cases x with
          | false=>rfl
          | true=>exact absurd ((hx' q1).1 rfl) (q j (by omega))
      · rintro ⟨f,_⟩ ⟨rfl,hf⟩;simp only [zbU];exact M.o_f (decide_eq_false (by omega)) (M.o_pure hf)
    · have q:=hb.1 q;refine M.o_grd (decide_eq_true (by simp; omega)) (M.o_grd (gA2 (by omega) (by omega)) (M.o_pure ⟨rfl,by simp; omega,?_,fun x=>?_⟩))
      · rw [List.pairwise_append];refine ⟨k2,by simp,fun x hx y hy=>?_⟩;rw [List.mem_singleton] at hy;have:=(k3 x).1 hx;omega
      · rw [List.mem_append,List.mem_singleton,k3];constructor
        · rintro (w | w) <;> omega
        · intro w;by_cases e:x=(h:Int)
          · exact .inr e
          · exact .inl (by omega)
    · refine M.o_grd (gA2 (by omega) (by omega)) (M.o_pure ⟨rfl,by dsimp only; omega,k2,fun x=>?_⟩);rw [k3];constructor
      · intro w; omega
      · intro w;have:¬(x=(h:Int)):=fun e=>by
          subst e;rw [hb.2 ⟨w.1,w.2.1⟩] at q; cases q
        omega
  · rintro ⟨_,l⟩ ⟨rfl,k1,k2,k3⟩;simp only [zbK];refine M.o_f (decide_eq_false (by omega)) (M.o_pure ⟨k2,fun x=>?_⟩);rw [k3];omega
theorem Surface_all:(zaB S M' R' ms).Ends (Fl.sfV S M' R' ms):=by
  unfold Fl.sfV;by_cases h:Fl.lsE S M' R' ms=0
  · rw [if_pos h];obtain ⟨st,hc⟩:=Fl.lsE_zero.1 h;by_cases ht:Fl.Tog M' ms
    · rw [if_pos ht]; exact Surface_ends st hc ht
    · rw [if_neg ht];refine M.Out.ends ?_;unfold zaB;refine M.o_bindE (chosen_ends st hc) (M.o_f rfl (M.o_bind (together_out hc.2) fun b hb=>M.o_t ?_ (M.o_pure rfl)));cases b with
      | false=>rfl
      | true=>exact absurd (hb.1 rfl) ht
  · rw [if_neg h];refine M.Out.ends ?_;unfold zaB;refine M.o_bind chosen_any ?_;intro x hx
    match x,hx with
    | .inl e,⟨_,he⟩=>rw [← he] at h ⊢; exact M.o_t (bne_iff_ne.2 h) (M.o_pure rfl)
    | .inr e,he=>rw [← he] at h ⊢; exact M.o_t (bne_iff_ne.2 h) (M.o_pure rfl)
theorem refSurface_all (hS:S.length<=1000) (hr:∀ x∈S,x.rows.length<=1000) (hl:ms.length<=1000000):(zcd S M' R' ms).Ends (Fl.sfV S M' R' ms):=by
  unfold Fl.sfV zcd;refine M.i_bind (listed_any hS hr hl) ?_;by_cases h:Fl.lsE S M' R' ms=0
  · rw [if_pos h];obtain ⟨st,hc⟩:=Fl.lsE_zero.1 h;refine M.i_f (by simp [h]) (M.Out.ends ?_);refine M.o_bind (refTogether_out st.mks hc.2 hl) fun b hb=>M.o_if (fun q=>?_) (fun q=>?_)
    · have q:b=false:=by simpa using q
      rw [if_neg fun w=>by rw [hb.2 w] at q; cases q];exact M.o_pure rfl
    · have q:b=true:=by simpa using q
      have ht:=hb.1 q;rw [if_pos ht];refine M.o_bind (P:=fun x=>x.2=Fl.surf S M' ms) ?_ fun x hx=>M.o_pure (by rw [hx]);refine M.o_for S.length (fun i (s:Nat × List Span)=>s.1=i/\s.2=(List.range i).map fun i=>(⟨Fl.stLo M' ms (S.getD i default).place,Fl.stHi M' ms (S.getD i default).place⟩:Span)) ?_ ?_ ⟨rfl,rfl⟩
      · rintro _ ⟨i,l⟩ hi ⟨rfl,hl0⟩;dsimp only at hi hl0 ⊢;subst hl0;simp only [zbX];refine M.o_t (decide_eq_true (by omega)) (M.o_bind (refStages_out (by omega) (by omega) hc.2) fun l hl'=>?_);rw [Int.toNat_natCast] at hl';obtain ⟨e0,e1,e2⟩:=hl'.ends (Fl.st_le st.mks hc.2 ht (Int.le_refl _));refine M.o_grd (decide_eq_true (by omega)) (M.o_grd (gA2 (by omega) (by omega)) (M.o_grd (decide_eq_true (by simp; omega)) (M.o_pure ⟨rfl,?_⟩)));dsimp only;rw [List.range_succ,List.map_append,e1,show Int.toNat ((l.length:Int)-1)=l.length-1 by omega,e2];rfl
      · rintro ⟨_,l⟩ ⟨rfl,hl0⟩;simp only [zbX];exact M.o_f (decide_eq_false (by omega)) (M.o_pure hl0)
  · rw [if_neg h];exact M.i_t (bne_iff_ne.2 h) M.i_pure
theorem refCarry_ends {x:Sect} {s:Int} (hr:Fl.Rows x.rows) (h0:0<x.rows.length) (h1:x.rows.length<=1000) (hs:-2000000<=s/\s<=2000000):(zbm x s).Ends (Fl.car x.rows s):=by
  refine M.Out.ends ?_;unfold zbm;refine M.o_bind (P:=fun n=>n=Fl.car x.rows s) ?_ fun n hn=>M.o_pure hn;refine M.o_for x.rows.length (fun k (t:Int × Nat)=>t.2=k/\(s<(x.rows.getD 0 default).stage->t.1=0)/\∀ j,j<k->(x.rows.getD j default).stage<=s->(j+1=x.rows.length∨s<(x.rows.getD (j+1) default).stage)->t.1=Fl.car x.rows s) ?_ ?_ ⟨rfl,fun _=>rfl,fun j hj=>by omega⟩
  · rintro _ ⟨n,k⟩ hk ⟨rfl,k1,k2⟩;dsimp only at hk k1 k2 ⊢;have ek:Int.toNat ((k:Int)+1)=k+1:=by omega
    have b:=hr.el k hk;simp only [zbv];refine M.o_t (decide_eq_true (by omega)) (M.o_grd (decide_eq_true (by omega)) (M.o_if (fun q=>?_) (fun q=>?_)))
    · have q:=of_decide_eq_true q;have z:¬s<(x.rows.getD 0 default).stage:=fun w=>by
        by_cases e:k=0
        · subst e; omega
        · have:=hr.lt (i:=0) (j:=k) (by omega) hk;omega
      refine M.o_grd ?_ (M.o_if (fun q'=>?_) (fun q'=>?_))
      · by_cases e:k+1<x.rows.length
        · exact gOr2 (by omega) (by omega)
        · rw [decide_eq_false (by omega:¬((k:Int)+1<(x.rows.length:Int)))]; rfl
      · rw [Bool.and_eq_true,decide_eq_true_eq,decide_eq_true_eq,ek] at q';have q1:k+1<x.rows.length:=by omega
        have b':=hr.el (k+1) q1;have c':=hr.cm k q1;have e:=Fl.car_btw hr q1 q q'.2;have w:=Fl.ip_mono (a:=x.rows.getD k default) (b:=x.rows.getD (k+1) default) q (Int.le_refl s) (by omega) (by omega) c';unfold Fl.ip at e w;have p0:0<=((x.rows.getD (k+1) default).carry-(x.rows.getD k default).carry)*(s-(x.rows.getD k default).stage):=Int.mul_nonneg (by omega) (by omega);have p1:((x.rows.getD (k+1) default).carry-(x.rows.getD k default).carry)*(s-(x.rows.getD k default).stage)<=100000*2000:=Int.mul_le_mul (by omega) (by omega) (by omega) (by omega);rw [ek];exact M.o_grd (gA2 (by omega) (by omega)) (M.o_grd (gA2 (by omega) (by omega)) (M.o_grd (gA2 (by omega) (by omega)) (M.o_grd (gA2 (by omega) (by omega)) (M.o_grd (gA2 (by omega) (by omega)) (M.o_grd (gA3 (by omega) (by omega) (by omega)) (M.o_grd (gA2 (by omega) (by omega)) (M.o_pure ⟨rfl,fun w=>absurd w z,fun j _ _ _=>e.symm⟩)))))))
      · rw [ek] at q';have nq:¬(k+1<x.rows.length/\s<(x.rows.getD (k+1) default).stage):=fun w=>by
          rw [decide_eq_true (by omega:(k:Int)+1<(x.rows.length:Int)),decide_eq_true w.2] at q';cases q'
        refine M.o_pure ⟨rfl,fun w=>absurd w z,fun j hj hj1 hj2=>?_⟩;dsimp only;by_cases e:j=k
        · subst e;have el:j+1=x.rows.length:=by
            rcases hj2 with w | w
            · exact w
            · exact Classical.byContradiction fun e'=>nq ⟨by omega,w⟩
          exact (Fl.car_last hr el q).symm
        · exfalso;have:(x.rows.getD (j+1) default).stage<=(x.rows.getD k default).stage:=by
            by_cases e':j+1=k
            · rw [e']; exact Int.le_refl _
            · exact Int.le_of_lt (hr.lt (by omega) hk)
          omega
    · have q:=of_decide_eq_false q;refine M.o_pure ⟨rfl,k1,fun j hj hj1 hj2=>?_⟩;by_cases e:j=k
      · subst e; exact absurd hj1 q
      · exact k2 j (by omega) hj1 hj2
  · rintro ⟨n,_⟩ ⟨rfl,k1,k2⟩;simp only [zbv];refine M.o_f (decide_eq_false (by omega)) (M.o_pure ?_);by_cases e:s<(x.rows.getD 0 default).stage
    · rw [Fl.car_zero (by intro w; rw [w] at h0; cases h0) e];exact k1 e
    · obtain ⟨j,hj,h1,h2⟩:=Fl.car_ex (l:=x.rows) (s:=s) h0 (by omega);exact k2 j hj h1 h2
end
end Go.Proofs.YtbldmjejckjflaaGreat
namespace Go.Nm
namespace Fl
section
variable {S:List Sect} {M:List Mrk} {ms:List Int} {r:Rch}
theorem IsLow.uniq {c c':Cas} {n n':Int} (h:IsLow S M ms r c n) (h':IsLow S M ms r c' n'):n=n':=by
  obtain ⟨x,hx,rfl,e,m⟩:=h;obtain ⟨x',hx',rfl,e',m'⟩:=h';have:=m x' hx';have:=m' x hx;omega
theorem IsHigh.uniq {c c':Cas} {n n':Int} (h:IsHigh S M ms r c n) (h':IsHigh S M ms r c' n'):n=n':=by
  obtain ⟨x,hx,rfl,e,m⟩:=h;obtain ⟨x',hx',rfl,e',m'⟩:=h';have:=m x' hx';have:=m' x hx;omega
end
open Classical in
noncomputable def lowV (S:List Sect) (M:List Mrk) (ms:List Int) (r:Rch):Int:=if h:∃ n c,IsLow S M ms r c n then h.choose else 0
open Classical in
noncomputable def highV (S:List Sect) (M:List Mrk) (ms:List Int) (r:Rch):Int:=if h:∃ n c,IsHigh S M ms r c n then h.choose else 0
theorem IsLow.eq {S:List Sect} {M:List Mrk} {ms:List Int} {r:Rch} {c:Cas} {n:Int} (h:IsLow S M ms r c n):n=lowV S M ms r:=by
  unfold lowV;have he:∃ n c,IsLow S M ms r c n:=⟨n,c,h⟩
  rw [dif_pos he];obtain ⟨c',h'⟩:=he.choose_spec;exact h.uniq h'
theorem IsHigh.eq {S:List Sect} {M:List Mrk} {ms:List Int} {r:Rch} {c:Cas} {n:Int} (h:IsHigh S M ms r c n):n=highV S M ms r:=by
  unfold highV;have he:∃ n c,IsHigh S M ms r c n:=⟨n,c,h⟩
  rw [dif_pos he];obtain ⟨c',h'⟩:=he.choose_spec;exact h.uniq h'
open Classical in
noncomputable def pkV (S:List Sect) (M:List Mrk) (R:List Rch) (ms:List Int) (i:Int):Int × Int × Int:=if asE S M R ms i=0 then (lowV S M ms (R.getD (Int.toNat i) default),highV S M ms (R.getD (Int.toNat i) default),0) else (0,0,asE S M R ms i)
/-- Cases of all stages that there can be: the least of the flows with the greatest roughness, the greatest with the least. -/
theorem low_all {S:List Sect} {M:List Mrk} {ms:List Int} {r:Rch} (hS:Secs S) (hr:Rok S r) (hk:∀ x∈M,Mok x) (h:Ixs M ms) (ht:Tog M ms) {c:Cas} {n:Int} (hl:IsLow S M ms r c n) {u d:Int} (u1:stLo M ms (pu S r)<=u) (u2:u<=stHi M ms (pu S r)) (d1:stLo M ms (pd S r)<=d) (d2:d<=stHi M ms (pd S r)) (du:d<=u):n<=fl S r ⟨u,d,r.hi,r.hi⟩:=by
  obtain ⟨x,hx,_,_,m⟩:=hl;have hd:Dn S M ms r d:=⟨d1,by omega⟩
  have n0:=stLo_nn (M:=M) (p:=pd S r) ms;have n2:=stHi_le (M:=M) (p:=pu S r) ms;have l1:=hr.l1;have l2:=hr.lh;have l3:=hr.h4;refine Int.le_trans (m d hd) (fl_mono hS hr (lc_ok hr hk h ht hd) ⟨by dsimp only; omega,du,by dsimp only; omega,by dsimp only; omega,by dsimp only; omega,l3,l3⟩ rfl ?_ (Int.le_refl _) (Int.le_refl _));show max (stLo M ms (pu S r)) d<=u;omega
theorem high_all {S:List Sect} {M:List Mrk} {ms:List Int} {r:Rch} (hS:Secs S) (hr:Rok S r) {c:Cas} {n:Int} (hl:IsHigh S M ms r c n) {u d:Int} (u2:u<=stHi M ms (pu S r)) (d1:stLo M ms (pd S r)<=d) (d2:d<=stHi M ms (pd S r)) (du:d<=u):fl S r ⟨u,d,r.lo,r.lo⟩<=n:=by
  obtain ⟨x,hx,_,_,m⟩:=hl;have hd:Dn S M ms r d:=⟨d1,by omega⟩
  have n0:=stLo_nn (M:=M) (p:=pd S r) ms;have n2:=stHi_le (M:=M) (p:=pu S r) ms;have l1:=hr.l1;have l2:=hr.lh;have l3:=hr.h4;exact Int.le_trans (fl_mono hS hr ⟨by dsimp only; omega,du,by dsimp only; omega,by dsimp only; omega,by dsimp only; omega,by dsimp only; omega,by dsimp only; omega⟩ (hc_ok hr hd) rfl u2 (Int.le_refl _) (Int.le_refl _)) (m d hd)
end Fl
end Go.Nm
namespace Go.Proofs.YtbldmjejckjflaaGreat
open Go Go.Nm
section
variable {S:List Sect} {M':List Mrk} {R':List Rch} {ms:List Int} {r:Rch} {c:Cas}
theorem refRoot_ends {r3 a p N:Int} (hN:N=10000*a*r3*(c.up-c.down) / (p*c.roughdown*((S.getD (Int.toNat r.down) default).place-(S.getD (Int.toNat r.up) default).place))) (h0:0<=N) (h1:N<4611686018427387904):(M.iter (zbC S r c r3 a p) (0,1073741824)).Ends (Fl.rt N):=by
  refine M.Out.ends ?_;refine M.o_iter (fun m (s:Int × Int)=>0<=s.1/\s.1*s.1<=N/\((m=0/\s.2=0/\N<(s.1+1)*(s.1+1))∨∃ k,m=k+1/\s.2=2 ^ k/\k<=30/\s.1+2*s.2<=2147483648/\N<(s.1+2*s.2)*(s.1+2*s.2))) ?_ 31 _ ⟨Int.le_refl _,by simpa using h0,.inr ⟨30,rfl,by decide,Nat.le_refl _,by decide,by simpa using h1⟩⟩;rintro m ⟨o,b⟩ ⟨k0,k1,k2⟩;dsimp only at k0 k1 k2;simp only [zbC];rw [← hN];rcases k2 with ⟨rfl,rfl,k2⟩ | ⟨k,rfl,rfl,k3,k4,k5⟩
  · exact M.o_f rfl (M.o_pure (Fl.rt_uniq k0 k1 k2).symm)
  · have b1:(1:Int)<=2 ^ k:=by have:=Int.pow_pos (n:=(2:Int)) (m:=k) (by decide); omega
    have e:(2:Int) ^ k / 2=if k=0 then 0 else 2 ^ (k-1):=by
      match k with
      | 0=>rfl
      | k+1=>rw [Int.pow_succ,Int.mul_ediv_cancel _ (by decide),if_neg (by omega),Nat.add_sub_cancel]
    have e2:k ≠ 0->2*(2:Int) ^ (k-1)=2 ^ k:=fun h=>by
      match k,h with
      | k+1,_=>rw [Nat.add_sub_cancel,Int.pow_succ]; omega
    have p0:0<=(o+2 ^ k)*(o+2 ^ k):=Int.mul_nonneg (by omega) (by omega);have p1:(o+2 ^ k)*(o+2 ^ k)<=2147483648*2147483648:=Int.mul_le_mul (by omega) (by omega) (by omega) (by decide);refine M.o_t (decide_eq_true (by omega)) (M.o_grd (gA2 (by omega) (by omega)) (M.o_grd (gA2 (by omega) (by omega)) (M.o_if (fun q=>M.o_grd (gA3 (by omega) (by omega) (by decide)) (M.o_pure ?_)) (fun q=>M.o_grd (gA3 (by omega) (by omega) (by decide)) (M.o_pure ?_)))))
    · have q:=of_decide_eq_true q;refine ⟨k,by omega,by dsimp only; omega,q,?_⟩;by_cases h:k=0
      · subst h;refine .inl ⟨rfl,by rw [e,if_pos rfl],?_⟩
        simpa [Int.add_assoc] using k5
      · refine .inr ⟨k-1,by omega,by rw [e,if_neg h],by omega,?_,?_⟩ <;> dsimp only <;> rw [e,if_neg h,e2 h]
        · omega
        · rw [show o+2 ^ k+2 ^ k=o+2*2 ^ k by omega]; exact k5
    · have q:=of_decide_eq_false q;refine ⟨k,by omega,k0,k1,?_⟩;by_cases h:k=0
      · subst h;exact .inl ⟨rfl,by rw [e,if_pos rfl],by simpa using Int.not_le.1 q⟩
      · refine .inr ⟨k-1,by omega,by rw [e,if_neg h],by omega,?_,?_⟩ <;> dsimp only <;> rw [e,if_neg h,e2 h]
        · omega
        · omega
theorem refFlow_ends (hS:Fl.Secs S) (h:Fl.Rok S r) (hc:Fl.Cok c):(zaC S M' R' r c).Ends (Fl.fl S r c):=by
  have hu:=hS.rows _ h.iu;have hd:=hS.rows _ h.id;have k1:=Fl.carU hS h c.up;have k2:=Fl.carD hS h c.down;have k3:=Fl.far hS h;have h0:=h.u0;have h1:=h.ud;have h2:=h.d1;obtain ⟨c1,c2,c3,c4,c5,c6,c7⟩:=hc;unfold zaC;refine M.i_grd (gA2 (by omega) (by omega)) (M.i_grd (gA2 (by omega) (by omega)) (M.i_bind (refCarry_ends hu.1 (by omega) (by omega) (by omega)) (M.i_bind (refCarry_ends hd.1 (by omega) (by omega) (by omega)) ?_)));unfold Fl.fl;dsimp only;generalize Fl.car (S.getD (Int.toNat r.up) default).rows c.up=a at k1 ⊢;generalize Fl.car (S.getD (Int.toNat r.down) default).rows c.down=b at k2 ⊢;have key:∀ a s:Int,(0<=a/\a<=100000)->(1<=s/\s<=400)->(zbc S r c b a s).Ends (Fl.rt (10000*a*b*(c.up-c.down) / (s*c.roughdown*((S.getD (Int.toNat r.down) default).place-(S.getD (Int.toNat r.up) default).place)))):=fun a s ha hs=>by
    unfold zbc;have n:=Fl.num_bd ha k2 (d:=c.up-c.down) (by omega);have d:=Fl.den_bd hs (b:=c.roughdown) (by omega) k3;have up:=Fl.div_mono n.2.2.1 (Int.le_refl _) (by decide:(0:Int)<1) (by omega:(1:Int)<=s*c.roughdown*((S.getD (Int.toNat r.down) default).place-(S.getD (Int.toNat r.up) default).place));rw [Int.ediv_one] at up;refine M.i_grd (gA2 (by omega) (by omega)) (M.i_grd (gA2 (by omega) (by omega)) (M.i_grd (gA2 (by omega) (by omega)) (M.i_grd (gA2 (by omega) (by omega)) (M.i_grd (gA2 (by omega) (by omega)) (M.i_grd (gA2 (by omega) (by omega)) (M.i_grd (gA2 (by omega) (by omega)) (M.i_grd (gA3 (by omega) (by omega) (by omega)) (M.i_bind (refRoot_ends rfl (Int.ediv_nonneg n.2.2.1 (by omega)) ?_) M.i_pure))))))));omega
  cases hn:r.narrow with
  | true=>exact key _ _ k2 ⟨c5,c7⟩
  | false=>exact key _ _ k1 ⟨c4,c6⟩
theorem fitsE (c:Cas) (r:Rch):(zcR c r).Out (fun b=>b=true↔Fl.Fit c r):=by
  unfold zcR;refine M.o_bind (inE _ _ _) fun x hx=>M.o_bind (optE (inE _ _ _)) fun y hy=>M.o_bind (optE (inE _ _ _)) fun z hz=>M.o_bind (optE (inE _ _ _)) fun t ht=>M.o_pure ?_;rw [Bool.and_eq_true,ht,Bool.and_eq_true,hz,Bool.and_eq_true,hy,hx];constructor
  · rintro ⟨⟨⟨q1,_,q2⟩,_,q3⟩,_,q4⟩;exact ⟨q1.1,q1.2,q2.1,q2.2,q3.1,q3.2,q4.1,q4.2⟩
  · intro h;have q1:0<=c.up/\c.up<=2000:=⟨h.u0,h.u2⟩
    have q2:0<=c.down/\c.down<=c.up:=⟨h.d0,h.du⟩
    have q3:r.lo<=c.roughup/\c.roughup<=r.hi:=⟨h.a1,h.a2⟩
    have q4:r.lo<=c.roughdown/\c.roughdown<=r.hi:=⟨h.b1,h.b2⟩
    exact ⟨⟨⟨q1,q1,q2⟩,⟨q1,q1,q2⟩,q3⟩,⟨⟨q1,q1,q2⟩,⟨q1,q1,q2⟩,q3⟩,q4⟩
theorem wrongE (c:Cas) (r:Rch):(zbP r c).Out (fun b=>b=true↔¬Fl.Fit c r):=by
  unfold zbP;have opt2:∀ {b:Bool} {m:M Bool} {p:Prop},m.Out (fun x=>x=true↔p)->(M.opt (!b) m false).Out (fun x=>x=true↔b=false/\p):=fun {b m p} h=>by
    refine M.o_mono (optE h) fun x hx=>?_;rw [hx,Bool.not_eq_true']
  refine M.o_bind (outE _ _ _) fun x hx=>M.o_bind (opt2 (outE _ _ _)) fun y hy=>M.o_bind (opt2 (outE _ _ _)) fun z hz=>M.o_bind (opt2 (outE _ _ _)) fun t ht=>M.o_pure ?_;constructor
  · intro q h;obtain ⟨a,b,e,d,f,g,i,j⟩:=h;rw [Bool.or_eq_true,Bool.or_eq_true,Bool.or_eq_true,Bool.or_eq_true,decide_eq_true_eq] at q;rcases q with (((q | q) | q) | q) | q
    · have:=hx.1 q; omega
    · have:=(hy.1 q).2; omega
    · omega
    · have:=(hz.1 q).2; omega
    · have:=(ht.1 q).2; omega
  · intro h;refine Classical.byContradiction fun q=>h ?_;rw [Bool.not_eq_true,Bool.or_eq_false_iff,Bool.or_eq_false_iff,Bool.or_eq_false_iff,Bool.or_eq_false_iff,decide_eq_false_iff_not] at q;obtain ⟨⟨⟨⟨rfl,rfl⟩,q3⟩,rfl⟩,rfl⟩:=q;have e1:=nt fun w=>Bool.false_ne_true (hx.2 w);have e2:=nt fun w=>Bool.false_ne_true (hy.2 ⟨rfl,w⟩);rw [decide_eq_false q3] at hz ht;have e3:=nt fun w=>Bool.false_ne_true (hz.2 ⟨rfl,w⟩);have e4:=nt fun w=>Bool.false_ne_true (ht.2 ⟨rfl,w⟩);constructor <;> omega
theorem Flow_all (i:Int) (c:Cas):(zaL S M' R' i c).Ends (Fl.flV S M' R' i c):=by
  refine M.Out.ends ?_;unfold zaL Fl.flV;refine M.o_bind opened_any ?_;intro x hx
  match x,hx with
  | .inl e,⟨h0,h1,h2⟩=>rw [if_neg h1,← h2]; exact M.o_t (bne_iff_ne.2 h0) (M.o_pure rfl)
  | .inr e,⟨h0,h1⟩ =>
    subst h0;rw [if_pos h1];refine M.o_f rfl (M.o_bind (inE _ _ _) fun x hx=>M.o_if (fun q=>?_) (fun q=>?_))
    · have q:x=false:=by simpa using q
      rw [if_neg fun w=>by rw [hx.2 (by omega)] at q; cases q];exact M.o_pure rfl
    · have q:x=true:=by simpa using q
      have k:=hx.1 q;have k':0<=i/\i<R'.length:=by omega
      have hl:Int.toNat i<R'.length:=by omega
      rw [if_pos k'];refine M.o_grd (gA2 k'.1 k'.2) (M.o_bind (fitsE _ _) fun y hy=>M.o_if (fun q=>?_) (fun q=>?_))
      · have q:y=false:=by simpa using q
        rw [if_neg fun w=>by rw [hy.2 w] at q; cases q];exact M.o_pure rfl
      · have q:y=true:=by simpa using q
        have ft:=hy.1 q;have hr:Fl.Rok S (R'.getD (Int.toNat i) default):=by rw [getD_el R' hl]; exact h1.rks _ (List.getElem_mem hl)
        rw [if_pos ft];exact M.o_bindE (flow_ends h1.s hr (ft.ok hr)) (M.o_pure rfl)
theorem refFlow_all (hS:S.length<=1000) (hr:∀ x∈S,x.rows.length<=1000) (i:Int) (c:Cas):(zbx S M' R' i c).Ends (Fl.flV S M' R' i c):=by
  refine M.Out.ends ?_;unfold zbx Fl.flV;refine M.o_bind (refCheck_out hS hr) fun e he=>M.o_if (fun q=>?_) (fun q=>?_)
  · have q':e ≠ 0:=by simpa using q
    rw [if_neg fun k=>q' (he.zero.2 k),he.eq];exact M.o_pure rfl
  · have q':e=0:=by simpa using q
    have h1:=he.zero.1 q';rw [if_pos h1];refine M.o_bind (outE _ _ _) fun x hx=>M.o_if (fun q=>?_) (fun q=>?_)
    · have:=hx.1 q;rw [if_neg (by omega)];exact M.o_pure rfl
    · have k:0<=i/\i<R'.length:=by
        have:¬(i<0∨(R'.length:Int)-1<i):=fun w=>by rw [hx.2 w] at q; cases q
        omega
      have hl:Int.toNat i<R'.length:=by omega
      rw [if_pos k];refine M.o_grd (gA2 k.1 k.2) (M.o_bind (wrongE _ _) fun y hy=>M.o_if (fun q=>?_) (fun q=>?_))
      · rw [if_neg (hy.1 q)];exact M.o_pure rfl
      · have ft:Fl.Fit c (R'.getD (Int.toNat i) default):=Classical.byContradiction fun w=>by rw [hy.2 w] at q; cases q
        have hr:Fl.Rok S (R'.getD (Int.toNat i) default):=by rw [getD_el R' hl]; exact h1.rks _ (List.getElem_mem hl)
        rw [if_pos ft];exact M.o_bindE (refFlow_ends h1.s hr (ft.ok hr)) (M.o_pure rfl)
end
end Go.Proofs.YtbldmjejckjflaaGreat
namespace Go.Nm
namespace Fl
/-- What two loops over stages have seen, with the least and the greatest of flows that there can be. -/
def Sn (l2 l3:List Int) (fH fL:Int->Int->Int) (nL nH:Int) (i k:Nat) (s3 s4:Int):Prop :=
  (s3 = -1∨nL<=s3)/\s4<=nH/\∀ i' k',i'<l2.length->k'<l3.length->(i'<i∨(i'=i/\k'<k))->l3.getD k' 0<=l2.getD i' 0->0<=s3/\s3<=fH (l2.getD i' 0) (l3.getD k' 0)/\fL (l2.getD i' 0) (l3.getD k' 0)<=s4
theorem Sn.row {l2 l3:List Int} {fH fL:Int->Int->Int} {nL nH:Int} {i k:Nat} {s3 s4:Int} (h:Sn l2 l3 fH fL nL nH i k s3 s4) (hp:l3.Pairwise (· < ·)) (hk:k=l3.length∨(k<l3.length/\l2.getD i 0<l3.getD k 0)):Sn l2 l3 fH fL nL nH (i+1) 0 s3 s4:=by
  refine ⟨h.1,h.2.1,fun i' k' hi' hk' ho hd=>h.2.2 i' k' hi' hk' ?_ hd⟩;by_cases e:i'<i
  · exact .inl e
  · obtain rfl:i'=i:=by omega
    refine .inr ⟨rfl,?_⟩;rcases hk with w | ⟨w1,w2⟩
    · omega
    · refine Classical.byContradiction fun c=>?_;by_cases e':k'=k
      · subst e'; omega
      · have:=lt_at hp (by omega:k<k') hk';omega
theorem Sn.next {l2 l3:List Int} {fH fL:Int->Int->Int} {nL nH:Int} {i k:Nat} {s3 s4 t3 t4:Int} (h:Sn l2 l3 fH fL nL nH i k s3 s4) (h1:nL<=fH (l2.getD i 0) (l3.getD k 0)) (h0:0<=fH (l2.getD i 0) (l3.getD k 0)) (h2:fL (l2.getD i 0) (l3.getD k 0)<=nH)
    (e3:t3=if s3<0∨fH (l2.getD i 0) (l3.getD k 0)<s3 then fH (l2.getD i 0) (l3.getD k 0) else s3) (e4:t4=if s4<fL (l2.getD i 0) (l3.getD k 0) then fL (l2.getD i 0) (l3.getD k 0) else s4):Sn l2 l3 fH fL nL nH i (k+1) t3 t4:=by
  obtain ⟨a,b,c⟩:=h;have z3:(t3=fH (l2.getD i 0) (l3.getD k 0)/\(s3<0∨fH (l2.getD i 0) (l3.getD k 0)<s3))∨(t3=s3/\¬(s3<0∨fH (l2.getD i 0) (l3.getD k 0)<s3)):=by
    by_cases e:s3<0∨fH (l2.getD i 0) (l3.getD k 0)<s3
    · rw [if_pos e] at e3; exact .inl ⟨e3,e⟩
    · rw [if_neg e] at e3; exact .inr ⟨e3,e⟩
  have z4:(t4=fL (l2.getD i 0) (l3.getD k 0)/\s4<fL (l2.getD i 0) (l3.getD k 0))∨(t4=s4/\¬s4<fL (l2.getD i 0) (l3.getD k 0)):=by
    by_cases e:s4<fL (l2.getD i 0) (l3.getD k 0)
    · rw [if_pos e] at e4; exact .inl ⟨e4,e⟩
    · rw [if_neg e] at e4; exact .inr ⟨e4,e⟩
  refine ⟨by omega,by omega,fun i' k' hi' hk' ho hd=>?_⟩;by_cases e:i'=i/\k'=k
  · obtain ⟨rfl,rfl⟩:=e;omega
  · have:=c i' k' hi' hk' (by omega) hd;omega
theorem fl_le {S:List Sect} {r:Rch} {c:Cas} (hS:Secs S) (h:Rok S r) (hc:Cok c):fl S r c<=1099511627776:=by
  have k1:=carU hS h c.up;have k2:=carD hS h c.down;have k3:=far hS h;obtain ⟨c1,c2,c3,c4,c5,c6,c7⟩:=hc;have key:∀ a s:Int,(0<=a/\a<=100000)->(1<=s/\s<=400)->rt (10000*a*car (S.getD (Int.toNat r.down) default).rows c.down*(c.up-c.down) / (s*c.roughdown*((S.getD (Int.toNat r.down) default).place-(S.getD (Int.toNat r.up) default).place)))<=1099511627776:=fun a s ha hs=>by
    have n:=num_bd ha k2 (d:=c.up-c.down) (by omega);have d:=den_bd hs (b:=c.roughdown) (by omega) k3;have up:=div_mono n.2.2.1 (Int.le_refl _) (by decide:(0:Int)<1) (by omega:(1:Int)<=s*c.roughdown*((S.getD (Int.toNat r.down) default).place-(S.getD (Int.toNat r.up) default).place));have lo:0<=10000*a*car (S.getD (Int.toNat r.down) default).rows c.down*(c.up-c.down) / (s*c.roughdown*((S.getD (Int.toNat r.down) default).place-(S.getD (Int.toNat r.up) default).place)):=Int.ediv_nonneg n.2.2.1 (by omega);rw [Int.ediv_one] at up;generalize 10000*a*car (S.getD (Int.toNat r.down) default).rows c.down*(c.up-c.down) / (s*c.roughdown*((S.getD (Int.toNat r.down) default).place-(S.getD (Int.toNat r.up) default).place))=N at up lo ⊢;have q:=rt_le lo;refine Classical.byContradiction fun w=>?_;have:1099511627776*1099511627776<=rt N*rt N:=Int.mul_le_mul (by omega) (by omega) (by decide) (rt_nn _);omega
  unfold fl;cases hn:r.narrow with
  | true=>exact key _ _ k2 ⟨c5,c7⟩
  | false=>exact key _ _ k1 ⟨c4,c6⟩
section
variable {S:List Sect} {M:List Mrk} {ms:List Int} {r:Rch} {c:Cas} {n:Int}
theorem IsLow.bd (hS:Secs S) (hr:Rok S r) (hk:∀ x∈M,Mok x) (h:Ixs M ms) (ht:Tog M ms) (hl:IsLow S M ms r c n):0<=n/\n<=1099511627776:=by
  obtain ⟨x,hx,rfl,rfl,_⟩:=hl;exact ⟨fl_nn _,fl_le hS hr (lc_ok hr hk h ht hx)⟩
theorem IsHigh.bd (hS:Secs S) (hr:Rok S r) (hl:IsHigh S M ms r c n):0<=n/\n<=1099511627776:=by
  obtain ⟨x,hx,rfl,rfl,_⟩:=hl;exact ⟨fl_nn _,fl_le hS hr (hc_ok hr hx)⟩
/-- A case that the marks allow. -/
structure Law (S:List Sect) (M:List Mrk) (ms:List Int) (r:Rch) (c:Cas):Prop where
  f:Fit c r
  u1:stLo M ms (pu S r)<=c.up
  u2:c.up<=stHi M ms (pu S r)
  d1:stLo M ms (pd S r)<=c.down
  d2:c.down<=stHi M ms (pd S r)
theorem IsLow.law (hr:Rok S r) (hk:∀ x∈M,Mok x) (h:Ixs M ms) (ht:Tog M ms) (hl:IsLow S M ms r c n):Law S M ms r c:=by
  obtain ⟨x,hx,rfl,_⟩:=hl;have ok:=lc_ok hr hk h ht hx;have h4:=st_le hk h ht (Int.le_refl (pu S r));obtain ⟨a,b⟩:=hx;obtain ⟨o1,o2,o3,_⟩:=ok;have:=hr.lh;unfold lc at *;refine ⟨⟨?_,o3,o1,o2,this,Int.le_refl _,this,Int.le_refl _⟩,?_,?_,a,?_⟩ <;> dsimp only at * <;> omega
theorem IsHigh.law (hr:Rok S r) (hk:∀ x∈M,Mok x) (h:Ixs M ms) (ht:Tog M ms) (hl:IsHigh S M ms r c n):Law S M ms r c:=by
  obtain ⟨x,hx,rfl,_⟩:=hl;have ok:=hc_ok hr hx;have h4:=st_le hk h ht (Int.le_refl (pu S r));obtain ⟨a,b⟩:=hx;obtain ⟨o1,o2,o3,_⟩:=ok;have:=hr.lh;unfold hc at *;refine ⟨⟨?_,o3,o1,o2,Int.le_refl _,this,Int.le_refl _,this⟩,?_,?_,a,?_⟩ <;> dsimp only at * <;> omega
end
end Fl
end Go.Nm
namespace Go.Proofs.YtbldmjejckjflaaGreat
open Go Go.Nm
section
variable {S:List Sect} {M':List Mrk} {R':List Rch} {ms:List Int} {r:Rch} {c:Cas}
theorem peak_ends (hS:Fl.Secs S) (hr:Fl.Rok S r) (hk:∀ x∈M',Fl.Mok x) (h:Fl.Ixs M' ms) (ht:Fl.Tog M' ms):(zaA S M' R' ms r).Ends (Fl.lowV S M' ms r,Fl.highV S M' ms r):=by
  refine M.Out.ends (M.o_mono (peak_out hS hr hk h ht) ?_);rintro ⟨a,b⟩ ⟨⟨_,h1⟩,_,h2⟩;rw [← h1.eq,← h2.eq]
theorem lowHigh (hS:Fl.Secs S) (hr:Fl.Rok S r) (hk:∀ x∈M',Fl.Mok x) (h:Fl.Ixs M' ms) (ht:Fl.Tog M' ms):(∃ c,Fl.IsLow S M' ms r c (Fl.lowV S M' ms r))/\∃ c,Fl.IsHigh S M' ms r c (Fl.highV S M' ms r):=by
  obtain ⟨⟨a,b⟩,_,⟨c1,h1⟩,c2,h2⟩:=peak_out (R':=([]:List Rch)) hS hr hk h ht;exact ⟨⟨c1,by rw [← h1.eq]; exact h1⟩,c2,by rw [← h2.eq]; exact h2⟩
theorem refPeak_ends (hS:Fl.Secs S) (hr:Fl.Rok S r) (hk:∀ x∈M',Fl.Mok x) (h:Fl.Ixs M' ms) (ht:Fl.Tog M' ms):(za8 S M' R' ms r).Ends (Fl.lowV S M' ms r,Fl.highV S M' ms r):=by
  obtain ⟨⟨cl,hl⟩,ch,hh⟩:=lowHigh hS hr hk h ht;have n0:=Fl.stLo_nn (M:=M') (p:=Fl.pd S r) ms;have n2:=Fl.stHi_le (M:=M') (p:=Fl.pu S r) ms;have r1:=hr.l1;have r2:=hr.lh;have r3:=hr.h4;have h0:=hr.u0;have h1:=hr.ud;have h2:=hr.d1;refine M.Out.ends ?_;unfold za8;refine M.o_bind (refStages_out (by omega) (by omega) h) fun l2 g2=>M.o_bind (refStages_out (by omega) (by omega) h) fun l3 g3=>?_;have in2:∀ {i},i<l2.length->Fl.stLo M' ms (Fl.pu S r)<=l2.getD i 0/\l2.getD i 0<=Fl.stHi M' ms (Fl.pu S r):=fun hi=>g2.at hi;have in3:∀ {i},i<l3.length->Fl.stLo M' ms (Fl.pd S r)<=l3.getD i 0/\l3.getD i 0<=Fl.stHi M' ms (Fl.pd S r):=fun hi=>g3.at hi;refine M.o_bind (P:=fun x=>x=(Fl.lowV S M' ms r,Fl.highV S M' ms r)) ?_ fun x hx=>M.o_pure (by rw [hx]);refine M.o_for l2.length (fun i (s:Int × Int × Nat)=>s.2.2=i/\Fl.Sn l2 l3 (fun u d=>Fl.fl S r ⟨u,d,r.hi,r.hi⟩) (fun u d=>Fl.fl S r ⟨u,d,r.lo,r.lo⟩) (Fl.lowV S M' ms r) (Fl.highV S M' ms r) i 0 s.1 s.2.1) ?_ ?_ ⟨rfl,.inl rfl,(hh.bd hS hr).1,fun i' k' _ _ ho=>by omega⟩
  · rintro _ ⟨s7,s8,i⟩ hi ⟨rfl,hs⟩;dsimp only at hi hs ⊢;simp only [zbM];refine M.o_t (decide_eq_true (by omega)) (M.o_bind (P:=fun (x:Int × Int)=>Fl.Sn l2 l3 (fun u d=>Fl.fl S r ⟨u,d,r.hi,r.hi⟩) (fun u d=>Fl.fl S r ⟨u,d,r.lo,r.lo⟩) (Fl.lowV S M' ms r) (Fl.highV S M' ms r) (i+1) 0 x.1 x.2) ?_ fun x hx=>M.o_pure ⟨rfl,hx⟩);refine M.o_for l3.length (fun k (s:Int × Int × Nat)=>s.2.2=k/\Fl.Sn l2 l3 (fun u d=>Fl.fl S r ⟨u,d,r.hi,r.hi⟩) (fun u d=>Fl.fl S r ⟨u,d,r.lo,r.lo⟩) (Fl.lowV S M' ms r) (Fl.highV S M' ms r) i k s.1 s.2.1) ?_ ?_ ⟨rfl,hs⟩
    · rintro _ ⟨s3,s4,k⟩ hk' ⟨rfl,hs⟩;dsimp only at hk' hs ⊢;simp only [zb7];refine M.o_grd (gOr (by omega)) (M.o_grd (gOr (by omega)) (M.o_if (fun q=>?_) (fun q=>?_)))
      · rw [Bool.and_eq_true,decide_eq_true_eq,decide_eq_true_eq] at q;have du:=q.2;have a2:=in2 hi;have a3:=in3 hk';have e1:(zaC S M' R' r ⟨l2.getD i 0,l3.getD k 0,r.hi,r.hi⟩).Ends (Fl.fl S r ⟨l2.getD i 0,l3.getD k 0,r.hi,r.hi⟩):=refFlow_ends hS hr ⟨by dsimp only; omega,du,by dsimp only; omega,by dsimp only; omega,by dsimp only; omega,r3,r3⟩;have e2:(zaC S M' R' r ⟨l2.getD i 0,l3.getD k 0,r.lo,r.lo⟩).Ends (Fl.fl S r ⟨l2.getD i 0,l3.getD k 0,r.lo,r.lo⟩):=refFlow_ends hS hr ⟨by dsimp only; omega,du,by dsimp only; omega,r1,r1,by dsimp only; omega,by dsimp only; omega⟩;have k1:=Fl.low_all hS hr hk h ht hl a2.1 a2.2 a3.1 a3.2 du;have k2:=Fl.high_all hS hr hh a2.2 a3.1 a3.2 du;have k0:0<=Fl.fl S r ⟨l2.getD i 0,l3.getD k 0,r.hi,r.hi⟩:=Fl.fl_nn _;refine M.o_grd (decide_eq_true (by omega)) (M.o_grd (decide_eq_true (by omega)) (M.o_bindE e1 (M.o_bindE e2 (M.o_if (fun q=>?_) (fun q=>?_)))))
        · rw [Bool.or_eq_true,decide_eq_true_eq,decide_eq_true_eq] at q;refine M.o_if (fun q'=>M.o_pure ⟨rfl,hs.next k1 k0 k2 (if_pos q).symm (if_pos (of_decide_eq_true q')).symm⟩) (fun q'=>M.o_pure ⟨rfl,hs.next k1 k0 k2 (if_pos q).symm (if_neg (of_decide_eq_false q')).symm⟩)
        · rw [Bool.or_eq_false_iff,decide_eq_false_iff_not,decide_eq_false_iff_not] at q;have q:¬(s3<0∨Fl.fl S r ⟨l2.getD i 0,l3.getD k 0,r.hi,r.hi⟩<s3):=by omega
          refine M.o_if (fun q'=>M.o_pure ⟨rfl,hs.next k1 k0 k2 (if_neg q).symm (if_pos (of_decide_eq_true q')).symm⟩) (fun q'=>M.o_pure ⟨rfl,hs.next k1 k0 k2 (if_neg q).symm (if_neg (of_decide_eq_false q')).symm⟩)
      · rw [decide_eq_true (by omega:(k:Int)<(l3.length:Int)),Bool.true_and,decide_eq_false_iff_not] at q;exact M.o_pure (hs.row g3.pw (.inr ⟨hk',by omega⟩))
    · rintro ⟨s3,s4,_⟩ ⟨rfl,hs⟩;simp only [zb7];have n1:decide ((l3.length:Int)<(l3.length:Int))=false:=decide_eq_false (by omega);refine M.o_grd (by rw [n1]; rfl) (M.o_grd (by rw [n1]; rfl) (M.o_f (by rw [n1]; rfl) (M.o_pure (hs.row g3.pw (.inl rfl)))))
  · rintro ⟨s3,s4,_⟩ ⟨rfl,hs⟩;simp only [zbM];refine M.o_f (decide_eq_false (by omega)) (M.o_pure ?_);obtain ⟨s1,s2,s3'⟩:=hs;dsimp only at s1 s2 s3';have get:∀ u d,Fl.stLo M' ms (Fl.pu S r)<=u->u<=Fl.stHi M' ms (Fl.pu S r)->Fl.stLo M' ms (Fl.pd S r)<=d->d<=Fl.stHi M' ms (Fl.pd S r)->d<=u->0<=s3/\s3<=Fl.fl S r ⟨u,d,r.hi,r.hi⟩/\Fl.fl S r ⟨u,d,r.lo,r.lo⟩<=s4:=fun u d a1 a2 a3 a4 a5=>by
      obtain ⟨i,hi,rfl⟩:=mem_getD ((g2.mem u).2 ⟨a1,a2⟩) 0;obtain ⟨k,hk',rfl⟩:=mem_getD ((g3.mem d).2 ⟨a3,a4⟩) 0;exact s3' i k hi hk' (.inl hi) a5
    have w1:=hl.law hr hk h ht;have w2:=hh.law hr hk h ht;have v1:=get cl.up cl.down w1.u1 w1.u2 w1.d1 w1.d2 w1.f.du;have v2:=get ch.up ch.down w2.u1 w2.u2 w2.d1 w2.d2 w2.f.du;have f1:Fl.lowV S M' ms r=Fl.fl S r ⟨cl.up,cl.down,r.hi,r.hi⟩:=by
      obtain ⟨x,_,rfl,e,_⟩:=hl;exact e
    have f2:Fl.highV S M' ms r=Fl.fl S r ⟨ch.up,ch.down,r.lo,r.lo⟩:=by
      obtain ⟨x,_,rfl,e,_⟩:=hh;exact e
    show (s3,s4)=(Fl.lowV S M' ms r,Fl.highV S M' ms r);rw [Prod.mk.injEq];omega
end
end Go.Proofs.YtbldmjejckjflaaGreat
namespace Go.Nm
namespace Fl
/-- The greatest of the least peaks of some reaches, and the least of the greatest. -/
noncomputable def mxL (S:List Sect) (M:List Mrk) (R:List Rch) (ms:List Int) (k:Nat):Int:=(List.range k).foldl (fun a i=>max a (lowV S M ms (R.getD i default))) 0
noncomputable def mnH (S:List Sect) (M:List Mrk) (R:List Rch) (ms:List Int) (k:Nat):Int:=(List.range k).foldl (fun a i=>min a (highV S M ms (R.getD i default))) 1099511627776
section
variable {S:List Sect} {M:List Mrk} {R:List Rch} {ms:List Int} {k:Nat}
theorem mxL_succ:mxL S M R ms (k+1)=max (mxL S M R ms k) (lowV S M ms (R.getD k default)):=by unfold mxL; rw [List.range_succ,List.foldl_append]; rfl
theorem mnH_succ:mnH S M R ms (k+1)=min (mnH S M R ms k) (highV S M ms (R.getD k default)):=by unfold mnH; rw [List.range_succ,List.foldl_append]; rfl
theorem mxL_ge:∀ n,k<n->lowV S M ms (R.getD k default)<=mxL S M R ms n
  | n+1,h=>by
    rw [mxL_succ];by_cases e:k=n
    · subst e; omega
    · have:=mxL_ge n (by omega); omega
theorem mnH_le:∀ n,k<n->mnH S M R ms n<=highV S M ms (R.getD k default)
  | n+1,h=>by
    rw [mnH_succ];by_cases e:k=n
    · subst e; omega
    · have:=mnH_le n (by omega); omega
end
open Classical in
noncomputable def cmV (S:List Sect) (M:List Mrk) (R:List Rch) (ms:List Int):Int × Int × Int:=if asE S M R ms 0=0 then (if mnH S M R ms R.length<mxL S M R ms R.length then (0,0,5) else (mxL S M R ms R.length,mnH S M R ms R.length,0)) else (0,0,asE S M R ms 0)
end Fl
end Go.Nm
namespace Go.Proofs.YtbldmjejckjflaaGreat
open Go Go.Nm
section
variable {S:List Sect} {M':List Mrk} {R':List Rch} {ms:List Int} {r:Rch} {c:Cas}
theorem asked_any (i:Int):(zav S M' R' ms i).Out (fun x=>(∃ e,e ≠ 0/\e=Fl.asE S M' R' ms i/\(e=7->False)/\x = .inl (0,0,0,0,false,e))∨(Fl.Site S M' R'/\Fl.Inc M' ms/\(0<=i/\i<R'.length)/\x = .inr ((R'.getD (Int.toNat i) default).up,(R'.getD (Int.toNat i) default).down,(R'.getD (Int.toNat i) default).lo,(R'.getD (Int.toNat i) default).hi,(R'.getD (Int.toNat i) default).narrow,0))):=by
  have n7:Fl.lsE S M' R' ms ≠ 7:=by
    unfold Fl.lsE Fl.ckE
    repeat' split
    all_goals decide
  by_cases h:Fl.lsE S M' R' ms=0
  · obtain ⟨st,hc⟩:=Fl.lsE_zero.1 h;by_cases k:0<=i/\i<R'.length
    · exact M.o_of (asked_ends st hc k.1 k.2) (.inr ⟨st,hc,k,rfl⟩)
    · unfold zav;refine M.o_bindE (chosen_ends st hc) (M.o_bind (M.o_opt (Q:=fun x=>x=true↔0<=i/\i<=(R'.length:Int)-1) (fun _=>inE _ _ _) (fun q=>absurd q (by decide))) fun x hx=>?_);have q:x=false:=by
        cases x with
        | false=>rfl
        | true=>exact absurd (by have:=hx.1 rfl; omega) k
      subst q;refine M.o_t rfl (M.o_pure (.inl ⟨2,by decide,?_,by decide,rfl⟩));unfold Fl.asE;rw [if_pos h,if_neg k]
  · have e:Fl.asE S M' R' ms i=Fl.lsE S M' R' ms:=by unfold Fl.asE; rw [if_neg h]
    unfold zav;refine M.o_bind chosen_any ?_;intro x hx
    match x,hx with
    | .inl z,⟨_,he⟩ =>
      have h':=h;rw [← he] at h';have z0:(z==0)=false:=beq_false_of_ne h';exact M.o_bind (P:=fun _=>True) (M.o_opt (fun q=>by rw [z0] at q; cases q) (fun _=>trivial)) fun _ _=>M.o_f (by rw [z0]; rfl) (M.o_t (bne_iff_ne.2 h') (M.o_pure (.inl ⟨z,h',by rw [e]; exact he,fun w=>n7 (by rw [← he]; exact w),rfl⟩)))
    | .inr z,he =>
      have h':=h;rw [← he] at h';have z0:(z==0)=false:=beq_false_of_ne h';exact M.o_bind (P:=fun _=>True) (M.o_opt (fun q=>by rw [z0] at q; cases q) (fun _=>trivial)) fun _ _=>M.o_f (by rw [z0]; rfl) (M.o_t (bne_iff_ne.2 h') (M.o_pure (.inl ⟨z,h',by rw [e]; exact he,fun w=>n7 (by rw [← he]; exact w),rfl⟩)))
theorem Peak_all (i:Int):(za2 S M' R' ms i).Ends (Fl.pkV S M' R' ms i):=by
  refine M.Out.ends ?_;unfold za2 Fl.pkV;refine M.o_bind (asked_any i) ?_;rintro _ (⟨e,h0,h1,_,rfl⟩ | ⟨st,hc,k,rfl⟩)
  · rw [← h1,if_neg h0];exact M.o_t (bne_iff_ne.2 h0) (M.o_pure rfl)
  · refine M.o_f rfl (M.o_bind (together_out hc.2) fun b hb=>M.o_if (fun q=>?_) (fun q=>?_))
    · have q:b=false:=by simpa using q
      have nt:¬Fl.Tog M' ms:=fun w=>by rw [hb.2 w] at q; cases q
      have e:Fl.asE S M' R' ms i=7:=by
        unfold Fl.asE;rw [if_pos (Fl.lsE_zero.2 ⟨st,hc⟩),if_pos k,if_neg nt]
      rw [e,if_neg (by decide)];exact M.o_pure rfl
    · have q:b=true:=by simpa using q
      have a:Fl.Askd S M' R' ms i:=⟨st,hc,hb.1 q,k.1,k.2⟩
      rw [if_pos (Fl.asE_zero.2 a)];exact M.o_bindE (peak_ends st.s a.rok st.mks hc.2 a.t) (M.o_pure rfl)
theorem refPeak_all (hS:S.length<=1000) (hr:∀ x∈S,x.rows.length<=1000) (hl:ms.length<=1000000) (i:Int):(zcY S M' R' ms i).Ends (Fl.pkV S M' R' ms i):=by
  unfold zcY Fl.pkV;refine M.i_bind (refAsked_ends hS hr hl i) ?_;by_cases h:Fl.asE S M' R' ms i=0
  · have a:=Fl.asE_zero.1 h;rw [if_pos h];exact M.i_f (by rw [h]; rfl) (M.i_grd (gA2 a.h0 a.h1) (M.i_bind (refPeak_ends a.s.s a.rok a.s.mks a.c.2 a.t) M.i_pure))
  · rw [if_neg h];exact M.i_t (bne_iff_ne.2 h) M.i_pure
theorem Reached_all (i:Int) (most:Bool):(zcp S M' R' ms i most).Out (fun x=>(Fl.asE S M' R' ms i ≠ 0/\x=(0,0,0,0,Fl.asE S M' R' ms i))∨(Fl.Askd S M' R' ms i/\x.2.2.2.2=0/\(most=true->Fl.IsHigh S M' ms (R'.getD (Int.toNat i) default) ⟨x.1,x.2.1,x.2.2.1,x.2.2.2.1⟩ (Fl.highV S M' ms (R'.getD (Int.toNat i) default)))/\(most=false->Fl.IsLow S M' ms (R'.getD (Int.toNat i) default) ⟨x.1,x.2.1,x.2.2.1,x.2.2.2.1⟩ (Fl.lowV S M' ms (R'.getD (Int.toNat i) default))))):=by
  unfold zcp;refine M.o_bind (asked_any i) ?_;rintro _ (⟨e,h0,h1,_,rfl⟩ | ⟨st,hc,k,rfl⟩)
  · rw [← h1];exact M.o_t (bne_iff_ne.2 h0) (M.o_pure (.inl ⟨h0,rfl⟩))
  · refine M.o_f rfl (M.o_bind (together_out hc.2) fun b hb=>M.o_if (fun q=>?_) (fun q=>?_))
    · have q:b=false:=by simpa using q
      have nt:¬Fl.Tog M' ms:=fun w=>by rw [hb.2 w] at q; cases q
      have e:Fl.asE S M' R' ms i=7:=by
        unfold Fl.asE;rw [if_pos (Fl.lsE_zero.2 ⟨st,hc⟩),if_pos k,if_neg nt]
      rw [e];exact M.o_pure (.inl ⟨by decide,rfl⟩)
    · have q:b=true:=by simpa using q
      have a:Fl.Askd S M' R' ms i:=⟨st,hc,hb.1 q,k.1,k.2⟩
      refine M.o_bindE (by unfold zco; exact M.i_pure) (M.o_if (fun q=>?_) (fun q=>?_))
      · refine M.o_bindE (by unfold zbH; exact M.i_pure) (M.o_bind (bestH_out st.s a.rok st.mks hc.2 a.t) ?_);rintro ⟨x1,x2,x3,x4,n⟩ hx;refine M.o_pure (.inr ⟨a,rfl,fun _=>?_,fun w=>by rw [q] at w; cases w⟩);rw [← hx.eq];exact hx
      · refine M.o_bind (bestL_out st.s a.rok st.mks hc.2 a.t) ?_;rintro ⟨x1,x2,x3,x4,n⟩ hx;refine M.o_pure (.inr ⟨a,rfl,fun w=>(by rw [q] at w; cases w),fun _=>?_⟩);rw [← hx.eq];exact hx
theorem refLies_ends {i:Int} (h0:0<=i) (h1:i<R'.length) (hr:Fl.Rok S (R'.getD (Int.toNat i) default)) (hx:Fl.Ixs M' ms) (hl:ms.length<=1000000) (h:Fl.Law S M' ms (R'.getD (Int.toNat i) default) c):(zcL S M' R' ms i c).Ends true:=by
  refine M.Out.ends ?_;obtain ⟨ft,u1,u2,d1,d2⟩:=h;obtain ⟨f1,f2,f3,f4,_⟩:=id ft;have nu:=(Fl.st_iff (M:=M') (ms:=ms) (p:=Fl.pu S (R'.getD (Int.toNat i) default)) f1 f2).2 ⟨u1,u2⟩;have nd:=(Fl.st_iff (M:=M') (ms:=ms) (p:=Fl.pd S (R'.getD (Int.toNat i) default)) f3 (by omega)).2 ⟨d1,d2⟩;have r0:=hr.u0;have r1:=hr.ud;have r2:=hr.d1;unfold zcL;refine M.o_grd (gA2 h0 h1) (M.o_bind (wrongE _ _) fun x hx'=>M.o_f (by
    cases x with
    | false=>rfl
    | true=>exact absurd ft (hx'.1 rfl)) (M.o_grd (gA2 (by omega) (by omega)) (M.o_grd (gA2 (by omega) (by omega)) (M.o_bind (M.scan ms.length (fun _=>False) (fun j hj _=>?_) ?_) ?_))))
  · have g:=hx (ms.getD j 0) (by rw [getD_el ms hj]; exact List.getElem_mem hj);have n1:=nu j hj;have n2:=nd j hj;unfold Fl.pu at n1;unfold Fl.pd at n2;simp only [zbu];refine M.o_t (decide_eq_true (by omega)) (M.o_grd (decide_eq_true (by omega)) (M.o_grd (gA2 g.1 g.2) (M.o_bind (againstE _ _) fun a ha=>?_)));have a0:a=false:=by
      cases a with
      | false=>rfl
      | true=>exact absurd (ha.1 rfl) n1
    subst a0;refine M.o_bind (M.o_opt (Q:=fun x=>x=false) (fun _=>M.o_mono (againstE _ _) fun b hb=>?_) (fun _=>rfl)) fun b hb=>?_
    · cases b with
      | false=>rfl
      | true=>exact absurd (hb.1 rfl) n2
    · subst hb;exact M.o_f rfl (M.o_pure (.inr ⟨id,rfl⟩))
  · simp only [zbu];exact M.o_f (decide_eq_false (by omega)) (M.o_pure rfl)
  · rintro z (⟨_,_,_,w⟩ | ⟨rfl,_⟩)
    · exact w.elim
    · exact M.o_pure rfl
theorem rok_at (h:Fl.Site S M' R') {k:Nat} (hk:k<R'.length):Fl.Rok S (R'.getD k default):=by
  rw [getD_el R' hk];exact h.rks _ (List.getElem_mem hk)
theorem Common_all:(zct S M' R' ms).Ends (Fl.cmV S M' R' ms):=by
  refine M.Out.ends ?_;unfold zct Fl.cmV;by_cases h:Fl.lsE S M' R' ms=0
  · obtain ⟨st,hc⟩:=Fl.lsE_zero.1 h;have hR:=st.r;have in0:(0:Int)<=0/\(0:Int)<R'.length:=⟨Int.le_refl _,by omega⟩
    refine M.o_bindE (chosen_ends st hc) (M.o_f rfl (M.o_bind (together_out hc.2) fun b hb=>M.o_if (fun q=>?_) (fun q=>?_)))
    · have q:b=false:=by simpa using q
      have nt:¬Fl.Tog M' ms:=fun w=>by rw [hb.2 w] at q; cases q
      have e:Fl.asE S M' R' ms 0=7:=by
        unfold Fl.asE;rw [if_pos h,if_pos in0,if_neg nt]
      rw [e,if_neg (by decide)];exact M.o_pure rfl
    · have q:b=true:=by simpa using q
      have ht:=hb.1 q;have a:Fl.Askd S M' R' ms 0:=⟨st,hc,ht,in0.1,in0.2⟩
      rw [if_pos (Fl.asE_zero.2 a)];have e0:=lowHigh st.s (rok_at st (k:=0) (by omega)) st.mks hc.2 ht;obtain ⟨⟨c1,b1⟩,c2,b2⟩:=e0;have b1:=b1.bd st.s (rok_at st (k:=0) (by omega)) st.mks hc.2 ht;have b2:=b2.bd st.s (rok_at st (k:=0) (by omega));refine M.o_grd (decide_eq_true (by omega)) (M.o_bindE (peak_ends st.s (rok_at st (k:=0) (by omega)) st.mks hc.2 ht) (M.o_bind (P:=fun x=>x=(Fl.mxL S M' R' ms R'.length,Fl.mnH S M' R' ms R'.length)) ?_ ?_))
      · refine M.o_for R'.length (fun k (s:Int × Int × Nat)=>s.2.2=k/\s.1=max (Fl.lowV S M' ms (R'.getD 0 default)) (Fl.mxL S M' R' ms k)/\s.2.1=min (Fl.highV S M' ms (R'.getD 0 default)) (Fl.mnH S M' R' ms k)) ?_ ?_ ⟨rfl,?_,?_⟩
        · rintro _ ⟨s2,s3,k⟩ hk ⟨rfl,k1,k2⟩;dsimp only at hk k1 k2 ⊢;simp only [zbz];refine M.o_t (decide_eq_true (by omega)) (M.o_grd (decide_eq_true (by omega)) (M.o_bindE (peak_ends st.s (rok_at st hk) st.mks hc.2 ht) (M.o_bindE (least_ends _ _) (M.o_pure ⟨rfl,?_,?_⟩)))) <;> dsimp only
          · rw [Fl.mxL_succ]; omega
          · rw [Fl.mnH_succ]; omega
        · rintro ⟨s2,s3,_⟩ ⟨rfl,k1,k2⟩;simp only [zbz];refine M.o_f (decide_eq_false (by omega)) (M.o_pure ?_);have g1:=Fl.mxL_ge (S:=S) (M:=M') (R:=R') (ms:=ms) (k:=0) R'.length (by omega);have g2:=Fl.mnH_le (S:=S) (M:=M') (R:=R') (ms:=ms) (k:=0) R'.length (by omega);dsimp only at k1 k2;show (s2,s3)=_;rw [k1,k2,Prod.mk.injEq];omega
        · show Fl.lowV S M' ms (R'.getD 0 default)=max _ 0;omega
        · show Fl.highV S M' ms (R'.getD 0 default)=min _ 1099511627776;omega
      · rintro _ rfl;refine M.o_if (fun q=>?_) (fun q=>?_)
        · rw [if_pos (of_decide_eq_true q)]; exact M.o_pure rfl
        · rw [if_neg (of_decide_eq_false q)]; exact M.o_pure rfl
  · have e:Fl.asE S M' R' ms 0=Fl.lsE S M' R' ms:=by unfold Fl.asE; rw [if_neg h]
    rw [e,if_neg h];refine M.o_bind chosen_any ?_;intro x hx
    match x,hx with
    | .inl z,⟨_,he⟩=>rw [← he] at h ⊢; exact M.o_t (bne_iff_ne.2 h) (M.o_pure rfl)
    | .inr z,he=>rw [← he] at h ⊢; exact M.o_t (bne_iff_ne.2 h) (M.o_pure rfl)
theorem refCommon_all (hS:S.length<=1000) (hr:∀ x∈S,x.rows.length<=1000) (hl:ms.length<=1000000):(zcw S M' R' ms).Ends (Fl.cmV S M' R' ms):=by
  unfold zcw Fl.cmV;refine M.i_bind (refAsked_ends hS hr hl 0) ?_;by_cases h:Fl.asE S M' R' ms 0=0
  · have a:=Fl.asE_zero.1 h;rw [if_pos h];refine M.i_f (by rw [h]; rfl) (M.i_bind (a:=(Fl.mxL S M' R' ms R'.length,Fl.mnH S M' R' ms R'.length)) ?_ ?_)
    · refine M.i_for (fun k=>(Fl.mxL S M' R' ms k,Fl.mnH S M' R' ms k,k)) R'.length (fun k hk=>?_) ?_
      · simp only [zbA];refine M.i_t (decide_eq_true (by omega)) (M.i_grd (decide_eq_true (by omega)) (M.i_bind (refPeak_ends a.s.s (rok_at a.s hk) a.s.mks a.c.2 a.t) ?_));rw [Fl.mxL_succ,Fl.mnH_succ];exact M.i_pure
      · simp only [zbA];exact M.i_f (decide_eq_false (by omega)) M.i_pure
    · by_cases q:Fl.mnH S M' R' ms R'.length<Fl.mxL S M' R' ms R'.length
      · rw [if_pos q]; exact M.i_t (decide_eq_true q) M.i_pure
      · rw [if_neg q]; exact M.i_f (decide_eq_false q) M.i_pure
  · rw [if_neg h];exact M.i_t (bne_iff_ne.2 h) M.i_pure
end
end Go.Proofs.YtbldmjejckjflaaGreat
namespace Go.Proofs.YtbldmjejckjflaaGreat
open Go Go.Nm
set_option maxRecDepth 100000 in
theorem awake_ends:zam.Ends true:=⟨400,by kernel_rfl⟩
end Go.Proofs.YtbldmjejckjflaaGreat
namespace Go.Nm
namespace Fl
/-- With such a roughness the peaks meet the flows. -/
def Ht (S:List Sect) (M:List Mrk) (ms:List Int) (r:Rch) (f:Span) (n:Int):Prop:=f.lo<=highV S M ms ⟨r.up,r.down,n,n,r.narrow⟩/\lowV S M ms ⟨r.up,r.down,n,n,r.narrow⟩<=f.hi
/-- The first and the last of the numbers up to one that hit. -/
def Fst (p:Int->Prop) (lo x:Int) (s:Option (Int × Int)):Prop:=match s with
  | none=>∀ n,lo<=n->n<x->¬p n
  | some (a,b)=>(lo<=a/\a<x/\p a/\∀ n,lo<=n->n<a->¬p n)/\lo<=b/\b<x/\p b/\∀ n,b<n->n<x->¬p n
theorem Fst.uniq {p:Int->Prop} {lo x:Int} {s s':Option (Int × Int)} (h:Fst p lo x s) (h':Fst p lo x s'):s=s':=by
  match s,s',h,h' with
  | none,none,_,_=>rfl
  | none,some (a,b),h,h'=>exact absurd h'.1.2.2.1 (h a h'.1.1 h'.1.2.1)
  | some (a,b),none,h,h'=>exact absurd h.1.2.2.1 (h' a h.1.1 h.1.2.1)
  | some (a,b),some (a',b'),⟨⟨h1,h2,h3,h4⟩,h5,h6,h7,h8⟩,⟨⟨k1,k2,k3,k4⟩,k5,k6,k7,k8⟩ =>
    have e1:¬a<a':=fun w=>k4 a h1 w h3;have e2:¬a'<a:=fun w=>h4 a' k1 w k3;have e3:¬b<b':=fun w=>h8 b' w k6 k7;have e4:¬b'<b:=fun w=>k8 b w h6 h7;rw [show a=a' by omega,show b=b' by omega]
theorem Fst.hit {p:Int->Prop} {lo x:Int} (hx:lo<=x) (hp:p x) {s:Option (Int × Int)} (h:Fst p lo x s):Fst p lo (x+1) (match s with | none=>some (x,x) | some (a,_)=>some (a,x)):=by
  match s,h with
  | none,h=>exact ⟨⟨hx,by omega,hp,fun n h1 h2=>h n h1 h2⟩,hx,by omega,hp,fun n h1 h2=>by omega⟩
  | some (a,b),⟨⟨h1,h2,h3,h4⟩,_⟩=>exact ⟨⟨h1,by omega,h3,h4⟩,hx,by omega,hp,fun n h1 h2=>by omega⟩
theorem Fst.miss {p:Int->Prop} {lo x:Int} (hp:¬p x) {s:Option (Int × Int)} (h:Fst p lo x s):Fst p lo (x+1) s:=by
  have key:∀ n,¬n<x->n<x+1->¬p n:=fun n h1 h2=>by
    obtain rfl:n=x:=by omega
    exact hp
  match s,h with
  | none,h =>
    intro n h1 h2;by_cases e:n<x
    · exact h n h1 e
    · exact key n e h2
  | some (a,b),⟨⟨h1,h2,h3,h4⟩,h5,h6,h7,h8⟩ =>
    refine ⟨⟨h1,by omega,h3,h4⟩,h5,by omega,h7,fun n k1 k2=>?_⟩;by_cases e:n<x
    · exact h8 n k1 e
    · exact key n e k2
/-- What is answered of how rough a reach can be. -/
def ClR (S:List Sect) (M:List Mrk) (R:List Rch) (ms:List Int) (i:Int) (f:Span) (x:Int × Int × Int):Prop :=
  (asE S M R ms i ≠ 0/\asE S M R ms i ≠ 7/\x=(0,0,asE S M R ms i))∨((asE S M R ms i=0∨asE S M R ms i=7)/\(f.lo<0∨f.hi<f.lo)/\x=(0,0,4))∨(asE S M R ms i=7/\¬(f.lo<0∨f.hi<f.lo)/\x=(0,0,7)) ∨
  (asE S M R ms i=0/\¬(f.lo<0∨f.hi<f.lo)/\∃ s,Fst (Ht S M ms (R.getD (Int.toNat i) default) f) (R.getD (Int.toNat i) default).lo ((R.getD (Int.toNat i) default).hi+1) s/\x=match s with | none=>(0,0,5) | some (a,b)=>(a,b,0))
theorem ClR.uniq {S:List Sect} {M:List Mrk} {R:List Rch} {ms:List Int} {i:Int} {f:Span} {x y:Int × Int × Int} (h:ClR S M R ms i f x) (h':ClR S M R ms i f y):x=y:=by
  rcases h with ⟨h1,h2,rfl⟩ | ⟨h1,h2,rfl⟩ | ⟨h1,h2,rfl⟩ | ⟨h1,h2,s,h3,rfl⟩ <;> rcases h' with ⟨k1,k2,rfl⟩ | ⟨k1,k2,rfl⟩ | ⟨k1,k2,rfl⟩ | ⟨k1,k2,s',k3,rfl⟩
  all_goals first
    | rfl
    | (rw [h3.uniq k3])
    | (exfalso; omega)
end Fl
end Go.Nm
namespace Go.Proofs.YtbldmjejckjflaaGreat
open Go Go.Nm
section
variable {S:List Sect} {M':List Mrk} {R':List Rch} {ms:List Int} {r:Rch} {c:Cas}
theorem rokx (h:Fl.Rok S r) {n:Int} (h0:r.lo<=n) (h1:n<=r.hi):Fl.Rok S ⟨r.up,r.down,n,n,r.narrow⟩:=by
  obtain ⟨a,b,c,d,e,f⟩:=h;exact ⟨a,b,c,Int.le_trans d h0,Int.le_refl _,Int.le_trans h1 f⟩
theorem Calibrate_all (i:Int) (f:Span):(zb0 S M' R' ms i f).Out (Fl.ClR S M' R' ms i f):=by
  unfold zb0;refine M.o_bind (asked_any i) ?_;rintro _ (⟨e,h0,h1,h7,rfl⟩ | ⟨st,hc,k,rfl⟩)
  · refine M.o_t (bne_iff_ne.2 h0) (M.o_pure (.inl ?_));rw [← h1];exact ⟨h0,h7,rfl⟩
  · have aa:Fl.asE S M' R' ms i=0∨Fl.asE S M' R' ms i=7:=by
      unfold Fl.asE;rw [if_pos (Fl.lsE_zero.2 ⟨st,hc⟩),if_pos k];by_cases ht:Fl.Tog M' ms
      · rw [if_pos ht]; exact .inl rfl
      · rw [if_neg ht]; exact .inr rfl
    refine M.o_f rfl (M.o_if (fun q=>?_) (fun q=>?_))
    · rw [Bool.or_eq_true,decide_eq_true_eq,decide_eq_true_eq] at q;exact M.o_pure (.inr (.inl ⟨aa,q,rfl⟩))
    · rw [Bool.or_eq_false_iff,decide_eq_false_iff_not,decide_eq_false_iff_not] at q;have q:¬(f.lo<0∨f.hi<f.lo):=by omega
      refine M.o_bind (together_out hc.2) fun b hb=>M.o_if (fun z=>?_) (fun z=>?_)
      · have z:b=false:=by simpa using z
        have nt:¬Fl.Tog M' ms:=fun w=>by rw [hb.2 w] at z; cases z
        have e:Fl.asE S M' R' ms i=7:=by
          unfold Fl.asE;rw [if_pos (Fl.lsE_zero.2 ⟨st,hc⟩),if_pos k,if_neg nt]
        exact M.o_pure (.inr (.inr (.inl ⟨e,q,rfl⟩)))
      · have z:b=true:=by simpa using z
        have a:Fl.Askd S M' R' ms i:=⟨st,hc,hb.1 z,k.1,k.2⟩
        have hr:=a.rok;have r1:=hr.l1;have r2:=hr.lh;have r3:=hr.h4;refine M.o_bindE (a:=((R'.getD (Int.toNat i) default).lo,(R'.getD (Int.toNat i) default).hi)) (by unfold zaV; exact M.i_pure) ?_;dsimp only;refine M.o_bind (nums_out (fun x (s:Bool × Int × Int)=>Fl.Fst (Fl.Ht S M' ms (R'.getD (Int.toNat i) default) f) (R'.getD (Int.toNat i) default).lo x (bif s.1 then some s.2 else none)) (by omega) (by omega) (by omega) (fun n h1 h2=>by omega) ?_) ?_
        · rintro x ⟨met,a',b'⟩ hx1 hx2 hs;dsimp only at hs;simp only [zaX];refine M.o_bindE (peak_ends st.s (rokx hr hx1 hx2) st.mks hc.2 a.t) (M.o_if (fun hb=>?_) (fun hb=>?_))
          · rw [Bool.or_eq_true,decide_eq_true_eq,decide_eq_true_eq] at hb;exact M.o_pure (hs.miss fun w=>by unfold Fl.Ht at w; omega)
          · rw [Bool.or_eq_false_iff,decide_eq_false_iff_not,decide_eq_false_iff_not] at hb;have ht:Fl.Ht S M' ms (R'.getD (Int.toNat i) default) f x:=by unfold Fl.Ht; omega
            have nx:=hs.hit hx1 ht;cases met with
            | false=>exact M.o_t rfl (M.o_pure nx)
            | true=>exact M.o_f rfl (M.o_pure nx)
        · intro s hs
          match s,hs with
          | .inl (met,a',b'),hs =>
            cases met with
            | false=>exact M.o_t rfl (M.o_pure (.inr (.inr (.inr ⟨Fl.asE_zero.2 a,q,none,hs,rfl⟩))))
            | true=>exact M.o_f rfl (M.o_pure (.inr (.inr (.inr ⟨Fl.asE_zero.2 a,q,some (a',b'),hs,rfl⟩))))
theorem refCalibrate_all (hS:S.length<=1000) (hr:∀ x∈S,x.rows.length<=1000) (hl:ms.length<=1000000) (i:Int) (f:Span):(zcW S M' R' ms i f).Out (Fl.ClR S M' R' ms i f):=by
  unfold zcW;refine M.o_bindE (refAsked_ends hS hr hl i) (M.o_if (fun q=>?_) (fun q=>?_))
  · rw [Bool.and_eq_true,bne_iff_ne,bne_iff_ne] at q;exact M.o_pure (.inl ⟨q.1,q.2,rfl⟩)
  · have aa : Fl.asE S M' R' ms i = 0 ∨ Fl.asE S M' R' ms i = 7 := by
      by_cases e:Fl.asE S M' R' ms i=0
      · exact .inl e
      · right
        refine Classical.byContradiction fun w=>?_;rw [bne_iff_ne.2 e,bne_iff_ne.2 w] at q;cases q
    refine M.o_if (fun q=>?_) (fun q=>?_)
    · rw [Bool.or_eq_true,decide_eq_true_eq,decide_eq_true_eq] at q;exact M.o_pure (.inr (.inl ⟨aa,q,rfl⟩))
    · rw [Bool.or_eq_false_iff,decide_eq_false_iff_not,decide_eq_false_iff_not] at q;have q:¬(f.lo<0∨f.hi<f.lo):=by omega
      by_cases e:Fl.asE S M' R' ms i=0
      · have a:=Fl.asE_zero.1 e;have hr:=a.rok;have r1:=hr.l1;have r2:=hr.lh;have r3:=hr.h4;refine M.o_f (by rw [e]; rfl) (M.o_grd (gA2 a.h0 a.h1) ?_);refine M.o_bind (P:=fun (x:Int × Int)=>Fl.Fst (Fl.Ht S M' ms (R'.getD (Int.toNat i) default) f) (R'.getD (Int.toNat i) default).lo ((R'.getD (Int.toNat i) default).hi+1) (if x.1<0 then none else some x)) ?_ ?_
        · refine M.o_iter (fun m (s:Int × Int × Int)=>m=Int.toNat ((R'.getD (Int.toNat i) default).hi+1-s.2.2)/\(R'.getD (Int.toNat i) default).lo<=s.2.2/\s.2.2<=(R'.getD (Int.toNat i) default).hi+1/\Fl.Fst (Fl.Ht S M' ms (R'.getD (Int.toNat i) default) f) (R'.getD (Int.toNat i) default).lo s.2.2 (if s.1<0 then none else some (s.1,s.2.1))) ?_ _ _ ⟨rfl,Int.le_refl _,by dsimp only; omega,fun n h1 h2=>by dsimp only at h2; omega⟩;rintro m ⟨s3,s4,n⟩ ⟨rfl,n1,n2,hs⟩;dsimp only at n1 n2 hs;simp only [zcC];refine M.o_if (fun w=>?_) (fun w=>?_)
          · have w:=of_decide_eq_true w;refine M.o_bindE (refPeak_ends a.s.s (rokx hr n1 w) a.s.mks a.c.2 a.t) (M.o_if (fun hb=>?_) (fun hb=>?_))
            · rw [Bool.and_eq_true,decide_eq_true_eq,decide_eq_true_eq] at hb;refine M.o_if (fun v=>M.o_grd (gA2 (by omega) (by omega)) (M.o_pure ⟨_,?_,rfl,by dsimp only; omega,by dsimp only; omega,?_⟩)) (fun v=>M.o_grd (gA2 (by omega) (by omega)) (M.o_pure ⟨_,?_,rfl,by dsimp only; omega,by dsimp only; omega,?_⟩))
              · dsimp only; omega
              · rw [if_pos (of_decide_eq_true v)] at hs;rw [if_neg (by dsimp only; omega)];exact hs.hit n1 hb
              · dsimp only; omega
              · rw [if_neg (of_decide_eq_false v)] at hs;rw [if_neg (of_decide_eq_false v)];exact hs.hit n1 hb
            · have nh:¬Fl.Ht S M' ms (R'.getD (Int.toNat i) default) f n:=fun k=>by
                rw [decide_eq_true k.1,decide_eq_true k.2] at hb;cases hb
              exact M.o_grd (gA2 (by omega) (by omega)) (M.o_pure ⟨_,by dsimp only; omega,rfl,by dsimp only; omega,by dsimp only; omega,hs.miss nh⟩)
          · have w:=of_decide_eq_false w;obtain rfl:n=(R'.getD (Int.toNat i) default).hi+1:=by omega
            exact M.o_pure hs
        · rintro ⟨s5,s6⟩ hs;dsimp only at hs ⊢;refine M.o_if (fun v=>M.o_pure (.inr (.inr (.inr ⟨e,q,none,?_,rfl⟩)))) (fun v=>M.o_pure (.inr (.inr (.inr ⟨e,q,some (s5,s6),?_,rfl⟩))))
          · rw [if_pos (of_decide_eq_true v)] at hs; exact hs
          · rw [if_neg (of_decide_eq_false v)] at hs; exact hs
      · have e7:Fl.asE S M' R' ms i=7:=by omega
        rw [e7];exact M.o_t rfl (M.o_pure (.inr (.inr (.inl ⟨e7,q,rfl⟩))))
end
end Go.Proofs.YtbldmjejckjflaaGreat
namespace Go.Proofs.YtbldmjejckjflaaGreat
open Go Go.Nm
section
variable {S:List Sect} {M':List Mrk} {R':List Rch} {ms:List Int} {r:Rch} {c:Cas}
/-- As much as is worked on. -/
structure Few (S:List Sect) (M':List Mrk) (R':List Rch):Prop where
  s:S.length<=8
  m:M'.length<=18
  r:R'.length<=8
  w:∀ x∈S,x.rows.length<=10
theorem big_out:(zby S M' R').Out (fun b=>b=false->Few S M' R'):=by
  unfold zby;refine M.o_if (fun q=>M.o_pure fun h=>by cases h) (fun q=>?_);rw [Bool.or_eq_false_iff,Bool.or_eq_false_iff,Bool.or_eq_false_iff,decide_eq_false_iff_not,decide_eq_false_iff_not,decide_eq_false_iff_not] at q;obtain ⟨⟨⟨q1,_⟩,q2⟩,q3⟩:=q;refine M.o_bind (M.scan S.length (fun i=>10<(S.getD i default).rows.length) (fun i hi _=>?_) ?_) ?_
  · simp only [zbq];refine M.o_t (decide_eq_true (by omega)) (M.o_grd (decide_eq_true (by omega)) (M.o_if (fun q=>M.o_pure (.inl ⟨?_,rfl⟩)) (fun q=>M.o_pure (.inr ⟨?_,rfl⟩))))
    · have:=of_decide_eq_true q; omega
    · have:=of_decide_eq_false q; omega
  · simp only [zbq];exact M.o_f (decide_eq_false (by omega)) (M.o_pure rfl)
  rintro z (⟨rfl,_⟩ | ⟨rfl,hg⟩)
  · exact M.o_pure fun h=>by cases h
  · refine M.o_pure fun _=>⟨by omega,by omega,by omega,fun x hx=>?_⟩
    obtain ⟨i,hi,rfl⟩:=mem_getD hx default;have:=hg i hi;omega
theorem rows_at (h:Few S M' R') {i:Nat} (hi:i<S.length):(S.getD i default).rows.length<=10:=h.w _ (by rw [getD_el S hi]; exact List.getElem_mem hi)
theorem copy_row (l:List FRow) (h:l.length<=1000):(zbs l).Ends l:=by
  unfold zbs;exact M.i_grd (decide_eq_true (by simp; omega)) M.i_pure
theorem copy_ends (h:Few S M' R'):(zbZ S M' R').Ends (S,M',R'):=by
  have h1:=h.m;have h2:=h.r;have h3:=h.s;unfold zbZ zc8 zdr;refine M.i_bind (M.i_grd (decide_eq_true (by simp; omega)) M.i_pure) (M.i_bind (M.i_grd (decide_eq_true (by simp; omega)) M.i_pure) (M.i_bind (a:=(S,S)) ?_ M.i_pure));refine M.i_for (fun i=>(i,S.take i)) S.length (fun i hi=>?_) ?_
  · simp only [zb5];refine M.i_t (decide_eq_true (by omega)) (M.i_grd (decide_eq_true (by omega)) (M.i_bind (copy_row _ (by have:=rows_at h hi; omega)) (M.i_grd (decide_eq_true (by simp; omega)) ?_)));rw [← take_succ_D S i hi default];exact M.i_pure
  · simp only [zb5];rw [List.take_length];exact M.i_f (decide_eq_false (by omega)) M.i_pure
theorem copyInt_ends (h:ms.length<=1000):(zbW ms).Ends ms:=by
  unfold zbW;exact M.i_grd (decide_eq_true (by simp; omega)) M.i_pure
theorem site_ends (h:Few S M' R'):(zbk S M' R').Ends (S,M',R'):=by
  have h1:=h.m;have h2:=h.r;have h3:=h.s;unfold zbk;refine M.i_bind (a:=(S,S)) ?_ (M.i_bind (a:=(M',M')) ?_ (M.i_bind (a:=(R',R')) ?_ M.i_pure))
  · refine M.i_for (fun i=>(i,S.take i)) S.length (fun i hi=>?_) ?_
    · simp only [zb4];have hw:=rows_at h hi;refine M.i_t (decide_eq_true (by omega)) (M.i_grd (decide_eq_true (by omega)) (M.i_bind (a:=((S.getD i default).rows,(S.getD i default).rows)) ?_ (M.i_grd (decide_eq_true (by simp; omega)) ?_)))
      · refine M.i_for (fun k=>(k,(S.getD i default).rows.take k)) (S.getD i default).rows.length (fun k hk=>?_) ?_
        · simp only [zbt];refine M.i_t (decide_eq_true (by omega)) (M.i_grd (decide_eq_true (by omega)) (M.i_grd (decide_eq_true (by simp; omega)) ?_));rw [← take_succ_D (S.getD i default).rows k hk default];exact M.i_pure
        · simp only [zbt];rw [List.take_length];exact M.i_f (decide_eq_false (by omega)) M.i_pure
      · rw [← take_succ_D S i hi default];exact M.i_pure
    · simp only [zb4];rw [List.take_length];exact M.i_f (decide_eq_false (by omega)) M.i_pure
  · refine M.i_for (fun i=>(i,M'.take i)) M'.length (fun i hi=>?_) ?_
    · simp only [zbp];refine M.i_t (decide_eq_true (by omega)) (M.i_grd (decide_eq_true (by omega)) (M.i_grd (decide_eq_true (by simp; omega)) ?_));rw [← take_succ_D M' i hi default];exact M.i_pure
    · simp only [zbp];rw [List.take_length];exact M.i_f (decide_eq_false (by omega)) M.i_pure
  · refine M.i_for (fun i=>(i,R'.take i)) R'.length (fun i hi=>?_) ?_
    · simp only [zbY];refine M.i_t (decide_eq_true (by omega)) (M.i_grd (decide_eq_true (by omega)) (M.i_grd (decide_eq_true (by simp; omega)) ?_));rw [← take_succ_D R' i hi default];exact M.i_pure
    · simp only [zbY];rw [List.take_length];exact M.i_f (decide_eq_false (by omega)) M.i_pure
theorem none_bad {body:Nat->M (Nat ⊕ (Unit ⊕ Unit))} (n:Nat) (round:∀ i,i<n->(body i).Ends (.inl (i+1))) (last:(body n).Ends (.inr (.inr ()))):(M.iter body 0).Ends (.inr ()):=M.i_for (fun i=>i) n round last
theorem sameSpan_ends (a:List Span):(zcv a a).Ends true:=by
  unfold zcv;refine M.i_f (by simp) (M.i_bind (none_bad a.length (fun i hi=>?_) ?_) M.i_pure)
  · simp only [zcb];exact M.i_t (decide_eq_true (by omega)) (M.i_grd (decide_eq_true (by omega)) (M.i_grd (decide_eq_true (by omega)) (M.i_f (by simp) M.i_pure)))
  · simp only [zcb];exact M.i_f (decide_eq_false (by omega)) M.i_pure
theorem sameRow_ends (a:List FRow):(zcN a a).Ends true:=by
  unfold zcN;refine M.i_f (by simp) (M.i_bind (none_bad a.length (fun i hi=>?_) ?_) M.i_pure)
  · simp only [zb3];exact M.i_t (decide_eq_true (by omega)) (M.i_grd (decide_eq_true (by omega)) (M.i_grd (decide_eq_true (by omega)) (M.i_f (by simp) M.i_pure)))
  · simp only [zb3];exact M.i_f (decide_eq_false (by omega)) M.i_pure
theorem sameMark_ends (a:List Mrk):(zcX a a).Ends true:=by
  unfold zcX;refine M.i_f (by simp) (M.i_bind (none_bad a.length (fun i hi=>?_) ?_) M.i_pure)
  · simp only [zbQ];exact M.i_t (decide_eq_true (by omega)) (M.i_grd (decide_eq_true (by omega)) (M.i_grd (decide_eq_true (by omega)) (M.i_f (by simp) M.i_pure)))
  · simp only [zbQ];exact M.i_f (decide_eq_false (by omega)) M.i_pure
theorem sameReach_ends (a:List Rch):(zcy a a).Ends true:=by
  unfold zcy;refine M.i_f (by simp) (M.i_bind (none_bad a.length (fun i hi=>?_) ?_) M.i_pure)
  · simp only [zbE];exact M.i_t (decide_eq_true (by omega)) (M.i_grd (decide_eq_true (by omega)) (M.i_grd (decide_eq_true (by omega)) (M.i_f (by simp) M.i_pure)))
  · simp only [zbE];exact M.i_f (decide_eq_false (by omega)) M.i_pure
theorem sameInt_ends (a:List Int):(zbg a a).Ends true:=by
  unfold zbg;refine M.i_f (by simp) (M.i_bind (none_bad a.length (fun i hi=>?_) ?_) M.i_pure)
  · simp only [zcc];exact M.i_t (decide_eq_true (by omega)) (M.i_grd (decide_eq_true (by omega)) (M.i_grd (decide_eq_true (by omega)) (M.i_f (by simp) M.i_pure)))
  · simp only [zcc];exact M.i_f (decide_eq_false (by omega)) M.i_pure
theorem same_ends:(za9 S M' R' S M' R').Ends true:=by
  unfold za9;refine M.i_bind (M.i_opt (fun _=>sameMark_ends M') (fun q=>by simp at q)) (M.i_bind (M.i_opt (fun _=>sameReach_ends R') (fun q=>by simp at q)) (M.i_f (by simp) (M.i_bind (none_bad S.length (fun i hi=>?_) ?_) M.i_pure)))
  · simp only [zb2];exact M.i_t (decide_eq_true (by omega)) (M.i_grd (decide_eq_true (by omega)) (M.i_grd (decide_eq_true (by omega)) (M.i_bind (M.i_opt (fun _=>sameRow_ends _) (fun q=>by simp at q)) (M.i_f (by simp) M.i_pure))))
  · simp only [zb2];exact M.i_f (decide_eq_false (by omega)) M.i_pure
theorem wide_out (h:Few S M' R') (hl:ms.length<=1000000):(zcs S M' R' ms).Out (fun _=>True):=by
  have hs:=h.s;unfold zcs;refine M.o_bindE (site_ends h) (M.o_bindE (refSurface_all (by omega) (fun x hx=>by have:=h.w x hx; omega) hl) ?_);unfold Fl.sfV;by_cases e:Fl.lsE S M' R' ms=0
  · rw [if_pos e];obtain ⟨st,hc⟩:=Fl.lsE_zero.1 e;by_cases ht:Fl.Tog M' ms
    · rw [if_pos ht];have hn:=Fl.surf_len S M' ms;refine M.o_f rfl (M.o_bind (M.scan S.length (fun i=>60<((Fl.surf S M' ms).getD i default).hi-((Fl.surf S M' ms).getD i default).lo) (fun i hi _=>?_) ?_) ?_)
      · simp only [zb1];have b1:=Fl.stLo_nn (M:=M') (p:=(S.getD i default).place) ms;have b2:=Fl.stHi_le (M:=M') (p:=(S.getD i default).place) ms;have b3:=Fl.st_le st.mks hc.2 ht (Int.le_refl (S.getD i default).place);have bd:0<=((Fl.surf S M' ms).getD i default).hi-((Fl.surf S M' ms).getD i default).lo/\((Fl.surf S M' ms).getD i default).hi-((Fl.surf S M' ms).getD i default).lo<=2000:=by
          rw [Fl.surf_at hi];dsimp only;omega
        exact M.o_t (decide_eq_true (by omega)) (M.o_grd (decide_eq_true (by omega)) (M.o_grd (gA2 (by omega) (by omega)) (M.o_if (fun q=>M.o_pure (.inl ⟨of_decide_eq_true q,rfl⟩)) (fun q=>M.o_pure (.inr ⟨of_decide_eq_false q,rfl⟩)))))
      · simp only [zb1];exact M.o_f (decide_eq_false (by omega)) (M.o_pure rfl)
      · rintro z (⟨rfl,_⟩ | ⟨rfl,_⟩) <;> exact M.o_pure trivial
    · rw [if_neg ht];exact M.o_t rfl (M.o_pure trivial)
  · rw [if_neg e];exact M.o_t (bne_iff_ne.2 e) (M.o_pure trivial)
theorem j0_ends (h:Few S M' R') (hl:ms.length<=18) {i:Int} {f:Span} (a b d e:Int):(zba S M' R' ms i f S M' R' ms S M' R' a b d e).Ends true:=by
  have hs:S.length<=1000:=by have:=h.s; omega
  have hw:∀ x∈S,x.rows.length<=1000:=fun x hx=>by have:=h.w x hx; omega
  have hm:ms.length<=1000000:=by omega
  unfold zba;have e1:=Common_all (S:=S) (M':=M') (R':=R') (ms:=ms);have e2:=refCommon_all (M':=M') (R':=R') hs hw hm;generalize Fl.cmV S M' R' ms=cm at e1 e2;obtain ⟨p,q,t⟩:=cm;refine M.i_bind e1 (M.i_bind e2 (M.i_f (by simp) (M.Out.ends ?_)));refine M.o_bind Check_out fun ck hck=>?_;have g:((ck==0&&decide (0<=i))&&decide (i<(R'.length:Int)))=true->Fl.Site S M' R'/\0<=i/\i<R'.length:=fun w=>by
    rw [Bool.and_eq_true,Bool.and_eq_true,beq_iff_eq,decide_eq_true_eq,decide_eq_true_eq] at w;exact ⟨hck.zero.1 w.1.1,w.1.2,w.2⟩
  refine M.o_grd ?_ (M.o_grd ?_ (M.o_if (fun w=>?_) (fun w=>?_)))
  · cases hb:((ck==0&&decide (0<=i))&&decide (i<(R'.length:Int))) with
    | false=>rfl
    | true =>
      have:=g hb;exact gOr2 this.2.1 this.2.2
  · cases hb:((ck==0&&decide (0<=i))&&decide (i<(R'.length:Int))) with
    | false=>rfl
    | true =>
      obtain ⟨st,i0,i1⟩:=g hb;have hr:=rok_at st (k:=Int.toNat i) (by omega);have r1:=hr.l1;have r2:=hr.lh;have r3:=hr.h4;exact gOr2 (by omega) (by omega)
  · exact M.o_bindE same_ends (M.o_bindE (M.i_opt (fun _=>sameInt_ends ms) (fun q=>by cases q)) (M.o_bindE (M.i_opt (fun _=>awake_ends) (fun q=>by cases q)) (M.o_pure rfl)))
  · refine M.o_bind (Calibrate_all i f) ?_;rintro ⟨x1,x2,x3⟩ hx;refine M.o_bind (refCalibrate_all hs hw hm i f) ?_;rintro ⟨y1,y2,y3⟩ hy;have e:=hx.uniq hy;rw [Prod.mk.injEq,Prod.mk.injEq] at e;obtain ⟨rfl,rfl,rfl⟩:=e;have e0:((x3==x3)&&(decide ((⟨x1,x2⟩:Span)=⟨x1,x2⟩)))=true:=by simp
    dsimp only;rw [e0];exact M.o_bindE (M.i_opt (fun _=>same_ends) (fun q=>by cases q)) (M.o_bindE (M.i_opt (fun _=>sameInt_ends ms) (fun q=>by cases q)) (M.o_bindE (M.i_opt (fun _=>awake_ends) (fun q=>by cases q)) (M.o_pure rfl)))
theorem zci (i:Int) (c:Cas) (most:Bool) (f:Span):(zas S M' R' ms i c most f).Ends true:=by
  refine M.Out.ends ?_;unfold zas;refine M.o_bind big_out fun b hb=>M.o_if (fun _=>M.o_bindE awake_ends (M.o_pure rfl)) (fun q=>?_);rw [Bool.or_eq_false_iff,decide_eq_false_iff_not] at q;have h:=hb q.1;have hl:ms.length<=18:=by omega
  have hs:S.length<=1000:=by have:=h.s; omega
  have hw:∀ x∈S,x.rows.length<=1000:=fun x hx=>by have:=h.w x hx; omega
  have hm:ms.length<=1000000:=by omega
  refine M.o_bindE (copy_ends h) (M.o_bindE (copyInt_ends (by omega)) (M.o_bindE (site_ends h) ?_));have e1:=Surface_all (S:=S) (M':=M') (R':=R') (ms:=ms);have e2:=refSurface_all (M':=M') (R':=R') hs hw hm;have e3:=Flow_all (S:=S) (M':=M') (R':=R') i c;have e4:=refFlow_all (M':=M') (R':=R') hs hw i c;generalize Fl.sfV S M' R' ms=sf at e1 e2;generalize Fl.flV S M' R' i c=fv at e3 e4;obtain ⟨s1,s2⟩:=sf;obtain ⟨f1,f2⟩:=fv;refine M.o_bindE e1 (M.o_bindE e2 (M.o_bindE (M.i_opt (fun _=>sameSpan_ends s1) (fun q=>by simp at q)) (M.o_f (by simp) (M.o_bindE e3 (M.o_bindE e4 ?_)))));refine M.o_f (by simp) (M.o_bind (wide_out h hm) fun wd _=>M.o_if (fun _=>M.o_bindE awake_ends (M.o_pure rfl)) (fun _=>?_));have e5:=Peak_all (S:=S) (M':=M') (R':=R') (ms:=ms) i;have e6:=refPeak_all (M':=M') (R':=R') hs hw hm i;have hp:Fl.pkV S M' R' ms i=if Fl.asE S M' R' ms i=0 then (Fl.lowV S M' ms (R'.getD (Int.toNat i) default),Fl.highV S M' ms (R'.getD (Int.toNat i) default),0) else (0,0,Fl.asE S M' R' ms i):=by unfold Fl.pkV; rfl
  by_cases ha:Fl.asE S M' R' ms i=0
  · rw [if_pos ha] at hp;rw [hp] at e5 e6;have a:=Fl.asE_zero.1 ha;refine M.o_bindE e5 (M.o_bindE e6 ?_);refine M.o_f (by simp) (M.o_bind (Reached_all i most) ?_);rintro ⟨x1,x2,x3,x4,x5⟩ (⟨hn,_⟩ | ⟨_,h0,hi,lo⟩)
    · exact absurd ha hn
    dsimp only at h0 hi lo;subst h0;have e7:=refFlow_all (M':=M') (R':=R') hs hw i ⟨x1,x2,x3,x4⟩;have law:Fl.Law S M' ms (R'.getD (Int.toNat i) default) ⟨x1,x2,x3,x4⟩:=by
      cases most with
      | true=>exact (hi rfl).law a.rok a.s.mks a.c.2 a.t
      | false=>exact (lo rfl).law a.rok a.s.mks a.c.2 a.t
    have fv:Fl.flV S M' R' i ⟨x1,x2,x3,x4⟩=(Fl.fl S (R'.getD (Int.toNat i) default) ⟨x1,x2,x3,x4⟩,0):=by
      unfold Fl.flV;rw [if_pos a.s,if_pos ⟨a.h0,a.h1⟩,if_pos law.f]
    rw [fv] at e7;refine M.o_f rfl (M.o_t rfl (M.o_bindE e7 ?_));refine M.o_bindE (M.i_opt (fun _=>refLies_ends a.h0 a.h1 a.rok a.c.2 hm law) (fun q=>by cases q)) (M.o_f ?_ (M.o_of (j0_ends h hl _ _ _ _) rfl));cases most with
    | true =>
      have:Fl.highV S M' ms (R'.getD (Int.toNat i) default)=Fl.fl S (R'.getD (Int.toNat i) default) ⟨x1,x2,x3,x4⟩:=by
        obtain ⟨x,_,_,e,_⟩:=hi rfl;exact e
      rw [this];simp
    | false =>
      have:Fl.lowV S M' ms (R'.getD (Int.toNat i) default)=Fl.fl S (R'.getD (Int.toNat i) default) ⟨x1,x2,x3,x4⟩:=by
        obtain ⟨x,_,_,e,_⟩:=lo rfl;exact e
      rw [this];simp
  · rw [if_neg ha] at hp;rw [hp] at e5 e6;refine M.o_bindE e5 (M.o_bindE e6 ?_);refine M.o_f (by simp) (M.o_bind (Reached_all i most) ?_);rintro ⟨x1,x2,x3,x4,x5⟩ (⟨_,e⟩ | ⟨hn,_⟩)
    · rw [Prod.mk.injEq,Prod.mk.injEq,Prod.mk.injEq,Prod.mk.injEq] at e;obtain ⟨rfl,rfl,rfl,rfl,rfl⟩:=e;exact M.o_f (by simp) (M.o_f (beq_false_of_ne ha) (M.o_of (j0_ends h hl _ _ _ _) rfl))
    · exact absurd (Fl.asE_zero.2 hn) ha
end
end Go.Proofs.YtbldmjejckjflaaGreat
