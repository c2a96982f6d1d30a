/- Part 7 of the texts on which the proof rests. Conditions: none. -/
import Derived.KernelRfl
import Derived.Test.YtaolcidinlnklaaGreatZA6
set_option linter.unusedVariables false
set_option linter.unusedSimpArgs false
set_option linter.unusedSectionVars false
namespace Go.Nm
namespace Sf
/-- A rating of two marks, and two gaugings that a line through them passes with the shift `y`. -/
structure Ok (p a q b d e lo hi lo' hi' y:Int):Prop where
  kp:0<=p/\p<q/\q<=400
  ka:0<=a/\a<b/\b<=200000
  ks:lo<=a/\a<=hi
  kt:lo'<=b/\b<=hi'
  kn:0<=lo/\hi<=200000
  km:0<=lo'/\hi'<=200000
  ky:-20<=y/\y<=20
  kd:d=p+y
  ke:e=q+y
/-- What a table of shifts is like: nothing is less than 0, and the shift `y` moves nothing. -/
structure Tk (y:Int) (t:List Int):Prop where
  len:t.length=601
  b:∀ k,k<601->0<=t.getD k 0/\t.getD k 0<=2000000000
  z:t.getD (Int.toNat (y+300)) 0=0
theorem set_get {l:List Int} {x:Int} {i k:Nat} (hi:i<l.length):(l.set i x).getD k 0=if k=i then x else l.getD k 0:=by
  simp only [List.getD_eq_getElem?_getD,List.getElem?_set];by_cases e:i=k
  · subst e; simp [hi]
  · rw [if_neg e,if_neg (fun h=>e h.symm)]
end Sf
end Go.Nm
namespace Go.Proofs.YtaolcidinlnklaaGreat
open Go Go.Nm
variable {p a q b d e lo hi lo' hi' y:Int}
/-- The shifts, one behind the other. -/
theorem shifts_out {S X:Type} {bd:S->Int × Int->M (S ⊕ X)} (J:Nat->S->Prop) (Q:X->Prop) {s0:S} (h0:J 0 s0)
    (round:∀ i s,i<601->J i s->(bd s ((i:Int),(i:Int)-300)).Out (fun z=>match z with | .inl s'=>J (i+1) s' | .inr x=>Q x)) :
    (m_shift_shifts_1 (M.yl bd) (.inl s0)).Out (fun z=>match z with | .inl s=>J 601 s | .inr x=>Q x):=by
  obtain ⟨N,hN⟩:∃ N:Nat,N=601:=⟨_,rfl⟩
  unfold m_shift_shifts_1;refine M.o_bind (P:=fun z:(S ⊕ X) ⊕ (S ⊕ X)=>match z with | .inl (.inr x)=>Q x | .inr (.inl s)=>J N s | _=>False) (M.o_for N (fun i (t:Nat × (S ⊕ X))=>t.1=i/\∃ s,t.2 = .inl s/\J i s) ?_ ?_ ⟨rfl,s0,rfl,h0⟩) ?_
  · rintro _ ⟨k,t⟩ hk ⟨rfl,s,rfl,hJ⟩;dsimp only at hk hJ;unfold m_shift_shifts_1_b0;refine M.o_t (decide_eq_true (by omega)) (M.o_grd (gA2 (by omega) (by omega)) (M.o_bind (P:=fun y:Bool × (S ⊕ X)=>(∃ s',y=(true,.inl s')/\J (k+1) s')∨∃ x,y=(false,.inr x)/\Q x) (M.o_bind (round k s (by omega) hJ) ?_) ?_))
    · rintro (s' | x) h
      · exact M.o_pure (.inl ⟨s',rfl,h⟩)
      · exact M.o_pure (.inr ⟨x,rfl,h⟩)
    · rintro _ (⟨s',rfl,h⟩ | ⟨x,rfl,h⟩)
      · exact M.o_f rfl (M.o_pure ⟨rfl,s',rfl,h⟩)
      · exact M.o_t rfl (M.o_pure h)
  · rintro ⟨k,t⟩ ⟨e,s,rfl,hJ⟩;dsimp only at e;subst e;unfold m_shift_shifts_1_b0;exact M.o_f (decide_eq_false (by omega)) (M.o_pure hJ)
  · rintro ((s | x) | (s | x)) h
    · exact h.elim
    · exact M.o_pure h
    · exact M.o_pure (show J 601 s from hN ▸ h)
    · exact h.elim
theorem fin_t {n a b:Int} (h1:a<=n) (h2:n<=b):(m_shift_in n a b).Ends true:=by
  unfold m_shift_in;rw [show (decide (a<=n)&&decide (n<=b))=true by rw [decide_eq_true h1,decide_eq_true h2]; rfl];exact M.i_pure
theorem fstage_t {n:Int} (h1:-2000<=n) (h2:n<=2000):(m_shift_stage n).Ends true:=M.i_bind (fin_t h1 h2) M.i_pure
theorem fflow_t {n:Int} (h1:0<=n) (h2:n<=1000000000):(m_shift_flow n).Ends true:=M.i_bind (fin_t h1 h2) M.i_pure
theorem contains_smk (l:List SMk) (f:SMk->M Bool) (h:∀ t∈l,(f t).Ends false):(zbS l f).Ends false:=by
  unfold zbS zaF;refine M.i_bind (a:=(-1:Int)) (M.i_bind (a:=(.inr ():Int ⊕ Unit)) (M.i_for (fun i=>i) l.length (fun i hi=>?_) ?_) M.i_pure) M.i_pure
  · simp only [zaM];exact M.i_t (decide_eq_true (by omega)) (M.grdD (by omega) (M.i_bind (h _ (by rw [getD_el l hi]; exact List.getElem_mem hi)) (M.i_f rfl M.i_pure)))
  · simp only [zaM];exact M.i_f (decide_eq_false (by omega)) M.i_pure
theorem contains_sgg (l:List SGg) (f:SGg->M Bool) (h:∀ t∈l,(f t).Ends false):(zck l f).Ends false:=by
  unfold zck zd2;refine M.i_bind (a:=(-1:Int)) (M.i_bind (a:=(.inr ():Int ⊕ Unit)) (M.i_for (fun i=>i) l.length (fun i hi=>?_) ?_) M.i_pure) M.i_pure
  · simp only [zdf];exact M.i_t (decide_eq_true (by omega)) (M.grdD (by omega) (M.i_bind (h _ (by rw [getD_el l hi]; exact List.getElem_mem hi)) (M.i_f rfl M.i_pure)))
  · simp only [zdf];exact M.i_f (decide_eq_false (by omega)) M.i_pure
theorem fcheck (h:Sf.Ok p a q b d e lo hi lo' hi' y):(m_shift_Check [⟨p,a⟩,⟨q,b⟩] [⟨1,d,lo,hi⟩,⟨2,e,lo',hi'⟩]).Ends 0:=by
  obtain ⟨hp,ha,hs,ht,hn,hm,hy,hd,he⟩:=h;unfold m_shift_Check m_shift_rated;have r1:(m_shift_every_shift_Mark [(⟨p,a⟩:SMk),⟨q,b⟩] (fun xqz=>m_shift_rated_1 xqz)).Ends true:=by
    refine M.i_bind (contains_smk _ _ fun t ht=>M.i_bind (a:=true) ?_ M.i_pure) M.i_pure;have:(-2000<=t.stage/\t.stage<=2000)/\0<=t.flow/\t.flow<=1000000000:=by
      rcases List.mem_cons.1 ht with rfl | ht
      · dsimp only; omega
      · rw [List.mem_singleton.1 ht]; dsimp only; omega
    exact M.i_bind (fstage_t (by omega) (by omega)) (M.i_bind (M.i_opt (r:=true) (fun _=>fflow_t (by omega) (by omega)) (fun h=>by cases h)) M.i_pure)
  have r2:(m_shift_every_shift_Gauging [(⟨1,d,lo,hi⟩:SGg),⟨2,e,lo',hi'⟩] (fun xqz=>m_shift_Check_1 xqz)).Ends true:=by
    refine M.i_bind (contains_sgg _ _ fun t ht=>M.i_bind (a:=true) ?_ M.i_pure) M.i_pure;have:(0<=t.day/\t.day<=40000)/\(-2000<=t.stage/\t.stage<=2000)/\0<=t.lo/\t.lo<=t.hi/\t.hi<=1000000000:=by
      rcases List.mem_cons.1 ht with rfl | ht
      · dsimp only; omega
      · rw [List.mem_singleton.1 ht]; dsimp only; omega
    exact M.i_bind (fin_t (by omega) (by omega)) (M.i_bind (M.i_opt (r:=true) (fun _=>fstage_t (by omega) (by omega)) (fun h=>by cases h)) (M.i_bind (M.i_opt (r:=true) (fun _=>fin_t (by omega) (by omega)) (fun h=>by cases h)) (M.i_bind (M.i_opt (r:=true) (fun _=>fflow_t (by omega) (by omega)) (fun h=>by cases h)) M.i_pure)))
  have r3:(m_shift_rises [(⟨p,a⟩:SMk),⟨q,b⟩]).Ends true:=by
    unfold m_shift_rises;refine M.i_grd rfl (M.i_bind (a:=(.inr ():Unit ⊕ Unit)) (M.i_for (fun i=>i) 1 (fun i hi=>?_) ?_) M.i_pure)
    · obtain rfl:i=0:=by omega
      simp only [m_shift_rises_b0];refine M.i_t rfl (M.i_grd rfl (M.i_grd rfl (M.i_f ?_ M.i_pure)));show (decide (q<=p)||decide (b<=a))=false;rw [decide_eq_false (by omega),decide_eq_false (by omega)]; rfl
    · simp only [m_shift_rises_b0];exact M.i_f rfl M.i_pure
  have r4:(M.iter (m_shift_Check_b0 [(⟨1,d,lo,hi⟩:SGg),⟨2,e,lo',hi'⟩]) 0).Ends (.inr ()):=⟨20,by rfl⟩
  exact M.i_bind (M.i_bind (fin_t (show (2:Int)<=2 by decide) (show (2:Int)<=12 by decide)) (M.i_f rfl (M.i_bind r1 (M.i_f rfl M.i_pure)))) (M.i_bind (M.i_opt (r:=true) (fun _=>fin_t (show (1:Int)<=2 by decide) (show (2:Int)<=30 by decide)) (fun h=>by cases h)) (M.i_f rfl (M.i_f rfl (M.i_bind r2 (M.i_f rfl (M.i_bind r3 (M.i_f rfl (M.i_bind r4 M.i_pure))))))))
theorem sgcd (y:Nat):∀ x:Nat,(M.iter m_shift_ratio_b0 ((x:Int),(y:Int))).Ends (Nat.gcd x y:Int):=by
  induction y using Nat.strongRecOn with
  | ind y ih =>
    intro x;by_cases h:y=0
    · subst h;refine M.i_stop ?_;simp only [m_shift_ratio_b0];exact M.i_f rfl (by rw [Nat.gcd_zero_right]; exact M.i_pure)
    · refine M.i_next (s':=((y:Int),((x % y:Nat):Int))) ?_ ?_
      · simp only [m_shift_ratio_b0];refine M.i_t (by rw [bne_iff_ne]; omega) (M.i_grd (gA2 (by omega) (by omega)) ?_);rw [← Int.natCast_emod];exact M.i_pure
      · rw [show Nat.gcd x y=Nat.gcd y (x % y) by rw [Nat.gcd_comm x y,Nat.gcd_rec,Nat.gcd_comm]];exact ih (x % y) (Nat.mod_lt _ (by omega)) y
/-- What a shift means is a flow; at the marks it is the marks' own. -/
theorem means_out (h:Sf.Ok p a q b d e lo hi lo' hi' y) {t:Int} (t0:-10000<=t/\t<=10000):(m_shift_means [⟨p,a⟩,⟨q,b⟩] t).Out (fun z=>(1<=z.2/\z.2<=10000)/\(0<=z.1/\z.1<=10000000000)/\(t=p->z=(a,1))/\(t=q->z=(b,1))):=by
  obtain ⟨hp,ha,hs,ht,hn,hm,hy,hd,he⟩:=h;unfold m_shift_means;refine M.o_grd rfl (M.o_grd rfl (M.o_if (fun c=>?_) (fun c=>?_)))
  · have c:t<=p:=of_decide_eq_true c;exact M.o_pure ⟨by dsimp only; omega,by show 0<=a/\a<=_; omega,fun _=>rfl,fun h=>by omega⟩
  · have c:¬ t<=p:=of_decide_eq_false c;refine M.o_if (fun c'=>?_) (fun c'=>?_)
    · have c':q<=t:=of_decide_eq_true c';exact M.o_pure ⟨by dsimp only; omega,by show 0<=b/\b<=_; omega,fun h=>by omega,fun _=>rfl⟩
    · have c':¬ q<=t:=of_decide_eq_false c';have ix:(zaF [(⟨p,a⟩:SMk),⟨q,b⟩] (fun xqz=>m_shift_means_2 xqz t)).Ends 1:=by
        unfold zaF;refine M.i_bind (a:=(.inl 1:Int ⊕ Unit)) (M.i_next (s':=1) ?_ (M.i_stop ?_)) M.i_pure
        · simp only [zaM];exact M.i_t rfl (M.i_grd rfl (M.i_bind (a:=false) (by unfold m_shift_means_2; rw [show decide (t<([(⟨p,a⟩:SMk),⟨q,b⟩].getD 0 default).stage)=false from decide_eq_false (by show ¬ t<p; omega)]; exact M.i_pure) (M.i_f rfl M.i_pure)))
        · simp only [zaM];exact M.i_t rfl (M.i_grd rfl (M.i_bind (a:=true) (by unfold m_shift_means_2; rw [show decide (t<([(⟨p,a⟩:SMk),⟨q,b⟩].getD 1 default).stage)=true from decide_eq_true (by show t<q; omega)]; exact M.i_pure) (M.i_t rfl M.i_pure)))
      refine M.o_bindE ix (M.o_grd rfl (M.o_grd rfl (M.o_grd rfl ?_)));show (M.bind (m_shift_means_1 ⟨p,a⟩ ⟨q,b⟩ t) fun (r0,r1)=>M.pure (r0,r1)).Out _;refine M.o_bind (P:=fun z:Int × Int=>(1<=z.2/\z.2<=10000)/\0<=z.1/\z.1<=10000000000) ?_ (fun z hz=>M.o_pure ⟨hz.1,hz.2,fun h=>by omega,fun h=>by omega⟩);have k1:=Int.mul_nonneg (show 0<=a by omega) (show 0<=q-p by omega);have k2:=Int.mul_nonneg (show 0<=b-a by omega) (show 0<=t-p by omega);have k3:=Int.mul_le_mul (show a<=200000 by omega) (show q-p<=400 by omega) (by omega) (by decide);have k4:=Int.mul_le_mul (show b-a<=200000 by omega) (show t-p<=400 by omega) (by omega) (by decide);unfold m_shift_means_1;dsimp only;refine M.o_grd (gA2 (by omega) (by omega)) (M.o_grd (gA2 (by omega) (by omega)) (M.o_grd (gA2 (by omega) (by omega)) (M.o_grd (gA2 (by omega) (by omega)) (M.o_grd (gA2 (by omega) (by omega)) (M.o_grd (gA2 (by omega) (by omega)) ?_)))));generalize hN:a*(q-p)+(b-a)*(t-p)=N;have n0:0<=N/\N<=200000000:=by omega
      have w0:0<q-p/\q-p<=400:=by omega
      generalize q-p=w at *;obtain ⟨N,rfl⟩:=Int.eq_ofNat_of_zero_le n0.1;obtain ⟨w,rfl⟩:=Int.eq_ofNat_of_zero_le (Int.le_of_lt w0.1);have g0:0<Nat.gcd N w:=Nat.gcd_pos_of_pos_right _ (by omega);have gd:Nat.gcd N w ∣ w:=Nat.gcd_dvd_right _ _;have gl:Nat.gcd N w<=w:=Nat.le_of_dvd (by omega) gd;refine M.o_bind (P:=fun z:Int × Int=>(1<=z.2/\z.2<=10000)/\0<=z.1/\z.1<=10000000000) ?_ (fun z hz=>M.o_pure hz);unfold m_shift_ratio;have em:max (N:Int) (-(N:Int))=(N:Int):=by omega
      rw [em];have d1:=Int.ediv_le_self (Nat.gcd N w:Int) (show (0:Int)<=(N:Int) by omega);have d2:=Int.ediv_nonneg (show (0:Int)<=(N:Int) by omega) (show (0:Int)<=(Nat.gcd N w:Int) by omega);have d3:=Int.ediv_le_self (Nat.gcd N w:Int) (show (0:Int)<=(w:Int) by omega);have d4:(1:Int)<=(w:Int) / (Nat.gcd N w:Int):=by
        have:=Nat.div_pos gl g0;have e:(w:Int) / (Nat.gcd N w:Int)=((w / Nat.gcd N w:Nat):Int):=(Int.natCast_ediv _ _).symm;omega
      exact M.o_grd (gA2 (by omega) (by omega)) (M.o_bindE (sgcd w N) (M.o_grd (gA3 (by omega) (by omega) (by omega)) (M.o_grd (gA3 (by omega) (by omega) (by omega)) (M.o_pure ⟨by dsimp only; omega,by dsimp only; omega⟩))))
theorem passed_out (h:Sf.Ok p a q b d e lo hi lo' hi' y) {gs:List SGg} {ps:List Span} {g:SGg} (hg:g=⟨1,d,lo,hi⟩∨g=⟨2,e,lo',hi'⟩) {s:Int} (s0:-300<=s/\s<=300):(m_shift_book_passed [⟨p,a⟩,⟨q,b⟩] gs ps g s).Out (fun r=>s=y->r=true):=by
  have h':=h;obtain ⟨hp,ha,hs,ht,hn,hm,hy,hd,he⟩:=h';have gb:(-20<=g.stage/\g.stage<=420)/\(0<=g.lo/\g.lo<=200000)/\0<=g.hi/\g.hi<=200000:=by
    rcases hg with rfl | rfl
    · dsimp only; omega
    · dsimp only; omega
  unfold m_shift_book_passed;refine M.o_grd (gA2 (by omega) (by omega)) (M.o_bind (means_out h (t:=g.stage-s) (by omega)) ?_);rintro ⟨r0,r1⟩ ⟨b1,b0,e1,e2⟩;dsimp only at b1 b0 e1 e2 ⊢;have k1:=Int.mul_nonneg gb.2.1.1 (show 0<=r1 by omega);have k2:=Int.mul_nonneg gb.2.2.1 (show 0<=r1 by omega);have k3:=Int.mul_le_mul gb.2.1.2 b1.2 (by omega) (by decide);have k4:=Int.mul_le_mul gb.2.2.2 b1.2 (by omega) (by decide);refine M.o_grd (gA2 (by omega) (by omega)) (M.o_grd (gOr2 (by omega) (by omega)) (M.o_pure fun hsy=>?_));rcases hg with rfl | rfl
  · dsimp only at e1 ⊢;obtain ⟨rfl,rfl⟩:=Prod.mk.injEq .. ▸ e1 (by omega);rw [decide_eq_true (by omega),decide_eq_true (by omega)]; rfl
  · dsimp only at e2 ⊢;obtain ⟨rfl,rfl⟩:=Prod.mk.injEq .. ▸ e2 (by omega);rw [decide_eq_true (by omega),decide_eq_true (by omega)]; rfl
/-- Both gaugings are passed by spans of shifts that hold `y`. -/
theorem fopened_out (h:Sf.Ok p a q b d e lo hi lo' hi' y):(m_shift_opened [⟨p,a⟩,⟨q,b⟩] [⟨1,d,lo,hi⟩,⟨2,e,lo',hi'⟩]).Out (fun z=>∃ s t:Span,z = .inr ([s,t],0)/\(s.lo<=y/\y<=s.hi)/\t.lo<=y/\y<=t.hi):=by
  have hy:=h.ky;unfold m_shift_opened;refine M.o_bindE (fcheck h) (M.o_f rfl (M.o_bind (P:=fun z:List Span × Int × List Span=>∃ s t:Span,z.2.1=0/\z.2.2=[s,t]/\(s.lo<=y/\y<=s.hi)/\t.lo<=y/\y<=t.hi) (M.o_for 2 (fun i (s:Nat × List Span)=>s.1=i/\s.2.length=i/\∀ k,k<i->(s.2.getD k default).lo<=y/\y<=(s.2.getD k default).hi) ?_ ?_ ⟨rfl,rfl,fun k hk=>by omega⟩) ?_))
  · rintro i ⟨k,l⟩ hlt ⟨e1,ln,v⟩;dsimp only at e1 ln v;subst e1;simp only [m_shift_opened_b3];refine M.o_t (decide_eq_true (by show (k:Int)<2; omega)) (M.o_grdD (by show (k:Int)<2; omega) (M.o_bindE (a:=()) M.i_pure (M.o_bind (shifts_out (fun i (s:Int × Int)=>(s.1<=s.2∨s=(1,0))/\((y+300<i)->s.1<=y/\y<=s.2)/\(s.1<=s.2->s.2<i-300)) (fun _=>False) ⟨.inr rfl,fun h=>by omega,fun h=>by dsimp only at h; omega⟩ ?_) ?_)))
    · rintro i ⟨s2,s3⟩ hlt ⟨v1,v2,v3⟩;dsimp only at v1 v2 v3;simp only [m_shift_opened_b2];have hg:[(⟨1,d,lo,hi⟩:SGg),⟨2,e,lo',hi'⟩].getD k default=⟨1,d,lo,hi⟩∨[(⟨1,d,lo,hi⟩:SGg),⟨2,e,lo',hi'⟩].getD k default=⟨2,e,lo',hi'⟩:=by
        rcases (show k=0∨k=1 by omega) with rfl | rfl
        · exact .inl rfl
        · exact .inr rfl
      refine M.o_bind (passed_out h hg (by omega)) ?_;intro r hr;refine M.o_if (fun c=>M.o_if (fun c'=>?_) (fun c'=>?_)) (fun c=>?_)
      · have c':=of_decide_eq_true c';refine M.o_pure ⟨.inl (Int.le_refl _),fun hh=>?_,fun _=>by dsimp only; omega⟩;dsimp only;by_cases g:y+300<(i:Int)
        · have:=v2 g; omega
        · omega
      · have c':=of_decide_eq_false c';have v1:s2<=s3:=by omega
        have v3:=v3 v1;refine M.o_pure ⟨.inl (by dsimp only; omega),fun hh=>?_,fun _=>by dsimp only; omega⟩;dsimp only;by_cases g:y+300<(i:Int)
        · have:=v2 g; omega
        · omega
      · subst c;refine M.o_pure ⟨v1,fun hh=>?_,fun hh=>by have:=v3 hh; dsimp only at *; omega⟩;dsimp only at hh ⊢;by_cases g:y+300<(i:Int)
        · exact v2 g
        · exact absurd (hr (by omega)) (by simp)
    · rintro (⟨s2,s3⟩ | x) hx
      · obtain ⟨v1,v2,v3⟩:=hx;dsimp only at v1 v2 v3;have v2:=v2 (by omega);refine M.o_f (decide_eq_false (by omega)) (M.o_grdD (by simp only [List.length_cons,List.length_nil]; omega) (M.o_pure ⟨rfl,by simp [ln],fun j hj=>?_⟩));dsimp only;rcases Nat.lt_or_ge j k with c | c
        · rw [Ga.appL ln c]; exact v j c
        · obtain rfl:j=k:=by omega
          rw [Ga.appE ln]; exact v2
      · exact hx.elim
  · rintro ⟨k,l⟩ ⟨e1,ln,v⟩;dsimp only at e1 ln v;subst e1;simp only [m_shift_opened_b3];obtain ⟨s,t,rfl⟩:∃ s t,l=[s,t]:=by
      match l,ln with
      | [s,t],_=>exact ⟨s,t,rfl⟩
    exact M.o_f rfl (M.o_pure ⟨s,t,rfl,rfl,v 0 (by decide),v 1 (by decide)⟩)
  · rintro ⟨l,e1,l'⟩ ⟨s,t,h1,h2,h3⟩;dsimp only at h1 h2;subst h1 h2;exact M.o_pure ⟨s,t,rfl,h3⟩
theorem fpasses_out (h:Sf.Ok p a q b d e lo hi lo' hi' y):(m_shift_Passes [⟨p,a⟩,⟨q,b⟩] [⟨1,d,lo,hi⟩,⟨2,e,lo',hi'⟩]).Out (fun z=>∃ s t:Span,z=([s,t],0)/\(s.lo<=y/\y<=s.hi)/\t.lo<=y/\y<=t.hi):=by
  unfold m_shift_Passes;refine M.o_bind (fopened_out h) ?_;rintro _ ⟨s,t,rfl,hs⟩;exact M.o_f rfl (M.o_pure ⟨s,t,rfl,hs⟩)
theorem apart_ends {u v:Int} (hu:-1000<=u/\u<=1000) (hv:-1000<=v/\v<=1000):(m_shift_apart u v).Ends (max (u-v) (v-u)):=by
  unfold m_shift_apart m_shift_greatest;refine M.i_grd (gA2 (by omega) (by omega)) (M.i_grd (gA2 (by omega) (by omega)) (M.i_bind (M.i_bind (a:=max (u-v) (v-u)) (M.i_next (s':=(max (u-v) (v-u),1)) ?_ (M.i_stop ?_)) M.i_pure) M.i_pure))
  · simp only [m_shift_greatest_b0];exact M.i_t rfl (M.i_grd rfl M.i_pure)
  · simp only [m_shift_greatest_b0];exact M.i_f rfl M.i_pure
theorem moves_ends (h:Sf.Ok p a q b d e lo hi lo' hi' y):(m_shift_Moves [⟨p,a⟩,⟨q,b⟩] [⟨1,d,lo,hi⟩,⟨2,e,lo',hi'⟩] [y,y]).Out (fun z=>z=(0,0)):=by
  have hy:=h.ky;unfold m_shift_Moves;refine M.o_bind (fopened_out h) ?_;rintro _ ⟨s,t,rfl,h1,h2⟩;refine M.o_f rfl (M.o_f rfl (M.o_bindE (a:=(.inr 0:Unit ⊕ Int)) (M.i_next (s':=(0,1)) ?_ (M.i_next (s':=(0,2)) ?_ (M.i_stop ?_))) (M.o_pure rfl)))
  · simp only [m_shift_Moves_b0];exact M.i_t rfl (M.i_grd rfl (M.i_grd rfl (M.i_bind (fin_t h1.1 h1.2) (M.i_f rfl (M.i_f rfl M.i_pure)))))
  · simp only [m_shift_Moves_b0];refine M.i_t rfl (M.i_grd rfl (M.i_grd rfl (M.i_bind (fin_t h2.1 h2.2) (M.i_f rfl (M.i_t rfl (M.i_grd rfl (M.i_grd rfl (M.i_bind (apart_ends (u:=y) (v:=y) (by omega) (by omega)) ?_))))))));rw [show max (y-y) (y-y)=0 by omega];exact M.i_grd rfl M.i_pure
  · simp only [m_shift_Moves_b0];exact M.i_f rfl M.i_pure
theorem tk_set {s:Span} {X:Type} (h:s.lo<=y/\y<=s.hi) (hy:-20<=y/\y<=20) {i:Nat} {l:List Int} (hi:i<601) (T:Sf.Tk y l) :
    (M.bind (m_shift_in ((i:Int)-300) s.lo s.hi) fun r2=>bif !r2 then (M.grd (decide ((0:Int)<=(i:Int))&&decide ((i:Int)<(601:Int)))<|M.pure (.inl (l.set (Int.toNat (i:Int)) 1073741824):List Int ⊕ X)) else M.pure (.inl l)).Out (fun z=>match z with | .inl s'=>Sf.Tk y s' | .inr _=>False):=by
  have e:(m_shift_in ((i:Int)-300) s.lo s.hi).Ends (decide (s.lo<=(i:Int)-300)&&decide ((i:Int)-300<=s.hi)):=M.i_pure;refine M.o_bindE e (M.o_if (fun c=>?_) (fun c=>M.o_pure T));have ne:y+300 ≠ (i:Int):=fun e'=>by
    rw [decide_eq_true (show s.lo<=(i:Int)-300 by omega),decide_eq_true (show (i:Int)-300<=s.hi by omega)] at c;cases c
  rw [Int.toNat_natCast];refine M.o_grd (gA2 (by omega) (by omega)) (M.o_pure ⟨by rw [List.length_set]; exact T.len,fun k hk=>?_,?_⟩)
  · rw [Sf.set_get (by rw [T.len]; exact hi)];by_cases c':k=i
    · rw [if_pos c']; decide
    · rw [if_neg c']; exact T.b k hk
  · rw [Sf.set_get (by rw [T.len]; exact hi),if_neg (by omega)]; exact T.z
theorem start_out {s:Span} (h:s.lo<=y/\y<=s.hi) (hy:-20<=y/\y<=20):(m_shift_start s).Out (Sf.Tk y):=by
  unfold m_shift_start;refine M.o_bindE (a:=()) M.i_pure (M.o_bind (shifts_out (fun _ (l:List Int)=>Sf.Tk y l) (fun _=>False) ⟨List.length_replicate,fun k hk=>?_,?_⟩ ?_) ?_)
  · rw [List.getD_eq_getElem?_getD,List.getElem?_replicate,if_pos hk]; decide
  · rw [List.getD_eq_getElem?_getD,List.getElem?_replicate,if_pos (by omega)]; rfl
  · intro i l hi T;simp only [m_shift_start_b0];exact M.o_mono (tk_set h hy hi T) (fun z hz=>by cases z <;> exact hz)
  · rintro (l | x) hx
    · exact M.o_pure hx
    · exact hx.elim
theorem on_out {s:Span} {m:List Int} (h:s.lo<=y/\y<=s.hi) (hy:-20<=y/\y<=20) (T:Sf.Tk y m):(m_shift_moved_on m s).Out (Sf.Tk y):=by
  obtain ⟨N,hN⟩:∃ N:Nat,N=601:=⟨_,rfl⟩
  unfold m_shift_moved_on;have b:∀ k,k<601->0<=m.getD k 0/\m.getD k 0<=2000000000:=T.b;have z:m.getD (Int.toNat (y+300)) 0=0:=T.z;refine M.o_bind (P:=fun l=>Sf.Tk y l) (M.o_for N (fun i (s:List Int × Int × Nat)=>s.2.2=i/\s.1.length=601/\(0<=s.2.1/\s.2.1<=2000000000)/\(∀ k,k<601->0<=s.1.getD k 0/\s.1.getD k 0<=2000000000)/\(y+300<i->s.1.getD (Int.toNat (y+300)) 0=0)) ?_ ?_ ⟨rfl,List.length_replicate,by decide,fun k hk=>?_,fun h=>by omega⟩) ?_
  · rintro i ⟨l,best,k⟩ hi ⟨e,ln,bb,lb,lz⟩;dsimp only at e ln bb lb lz;subst e;unfold m_shift_moved_on_b0;have bk:=b k (by omega);refine M.o_t (decide_eq_true (by omega)) (M.o_grd (gA2 (by omega) (by omega)) (M.o_grd (gA2 (by omega) (by omega)) (M.o_pure ⟨rfl,by rw [List.length_set]; exact ln,by dsimp only; omega,fun j hj=>?_,fun hh=>?_⟩)))
    · dsimp only;rw [Sf.set_get (by omega)];by_cases c:j=k
      · rw [if_pos c]; omega
      · rw [if_neg c]; exact lb j hj
    · dsimp only at hh ⊢;rw [Sf.set_get (by omega)];by_cases c:Int.toNat (y+300)=k
      · rw [if_pos c,← c,z]; omega
      · rw [if_neg c]; exact lz (by omega)
  · rintro ⟨l,best,k⟩ ⟨e,ln,bb,lb,lz⟩;dsimp only at e ln bb lb lz;subst e;unfold m_shift_moved_on_b0;exact M.o_f (decide_eq_false (by omega)) (M.o_pure ⟨ln,lb,lz (by omega)⟩)
  · rw [List.getD_eq_getElem?_getD,List.getElem?_replicate,if_pos hk]; decide
  intro l L;refine M.o_bind (P:=fun l=>Sf.Tk y l) (M.o_for N (fun i (s:List Int × Int × Int)=>s.2.2=600-(i:Int)/\(0<=s.2.1/\s.2.1<=2000000000)/\Sf.Tk y s.1) ?_ ?_ ⟨rfl,by dsimp only; omega,L⟩) ?_
  · rintro i ⟨l,best,k⟩ hi ⟨e,bb,L⟩;dsimp only at e bb L;unfold m_shift_moved_on_b1;have e':Int.toNat k=600-i:=by omega
    have bk:=b (600-i) (by omega);have lk:=L.b (600-i) (by omega);rw [← e'] at bk lk;refine M.o_t (decide_eq_true (by omega)) (M.o_grd (gA2 (by omega) (by omega)) (M.o_grd (gA2 (by omega) (by omega)) (M.o_grd (gA2 (by omega) (by omega)) (M.o_pure ⟨by dsimp only; omega,by dsimp only; omega,by rw [List.length_set]; exact L.len,fun j hj=>?_,?_⟩))))
    · dsimp only;rw [Sf.set_get (by rw [L.len]; omega)];by_cases c:j=Int.toNat k
      · rw [if_pos c]; omega
      · rw [if_neg c]; exact L.b j hj
    · dsimp only;rw [Sf.set_get (by rw [L.len]; omega)];by_cases c:Int.toNat (y+300)=Int.toNat k
      · have lz:=L.z;rw [c] at lz;rw [if_pos c,lz]; omega
      · rw [if_neg c]; exact L.z
  · rintro ⟨l,best,k⟩ ⟨e,bb,L⟩;dsimp only at e bb L;unfold m_shift_moved_on_b1;exact M.o_f (decide_eq_false (by omega)) (M.o_pure L)
  intro l L;refine M.o_bindE (a:=()) M.i_pure (M.o_bind (shifts_out (fun _ (l:List Int)=>Sf.Tk y l) (fun _=>False) L ?_) ?_)
  · intro i l hi T;simp only [m_shift_moved_on_b2];exact M.o_mono (tk_set h hy hi T) (fun z hz=>by cases z <;> exact hz)
  · rintro (l | x) hx
    · exact M.o_pure hx
    · exact hx.elim
theorem behind2_out {s t:Span} (hs:s.lo<=y/\y<=s.hi) (ht:t.lo<=y/\y<=t.hi) (hy:-20<=y/\y<=20):(m_shift_behind [s,t]).Out (fun r=>∃ u v:List Int,r=[⟨u⟩,⟨v⟩]/\Sf.Tk y u/\Sf.Tk y v):=by
  unfold m_shift_behind;have c1:(zbz [s,t]).Ends [s,t]:=⟨20,by rfl⟩
  have c2:(zdx [s,t]).Ends [t,s]:=⟨20,by rfl⟩
  refine M.o_bindE c1 (M.o_bindE c2 (M.o_bind (P:=fun r=>∃ u v:List Int,r=[(⟨u⟩:Tb),⟨v⟩]/\Sf.Tk y u/\Sf.Tk y v) ?_ ?_))
  · unfold m_shift_reckoned;refine M.o_grd rfl (M.o_bind (start_out (s:=[t,s].getD 0 default) ht hy) ?_);intro u U;refine M.o_grd rfl (M.o_bind (P:=fun z:List Tb × List Tb × List Int=>∃ u v:List Int,z.2.1=[(⟨u⟩:Tb),⟨v⟩]/\Sf.Tk y u/\Sf.Tk y v) (M.o_for 1 (fun i (z:List Int × List Tb × Nat)=>z.2.2=i/\Sf.Tk y z.1/\(i=0->z.2.1=[(⟨z.1⟩:Tb)])/\(i=1->∃ u v:List Int,z.2.1=[(⟨u⟩:Tb),⟨v⟩]/\Sf.Tk y u/\Sf.Tk y v)) ?_ ?_ ⟨rfl,U,fun _=>rfl,(fun h=>by cases h)⟩) ?_)
    · rintro i ⟨u,l,k⟩ hi ⟨e1,U,l0,_⟩;dsimp only at e1 U l0;subst e1;obtain rfl:k=0:=by omega
      have l0:=l0 rfl;subst l0;simp only [m_shift_reckoned_b0];refine M.o_t rfl (M.o_grd rfl (M.o_bind (on_out (s:=([t,s].drop 1).getD 0 default) hs hy U) ?_));intro v V;exact M.o_grd (decide_eq_true (by simp only [List.length_cons,List.length_nil]; omega)) (M.o_pure ⟨rfl,V,(fun h=>by cases h),fun _=>⟨u,v,rfl,U,V⟩⟩)
    · rintro ⟨u,l,k⟩ ⟨e1,U,_,l1⟩;dsimp only at e1 U l1;subst e1;simp only [m_shift_reckoned_b0];exact M.o_f rfl (M.o_pure (l1 rfl))
    · rintro ⟨l,l',u⟩ h;exact M.o_pure h
  · rintro _ ⟨u,v,rfl,U,V⟩;have c3:(zeu [(⟨u⟩:Tb),⟨v⟩]).Ends [⟨v⟩,⟨u⟩]:=⟨20,by rfl⟩
    exact M.o_bindE c3 (M.o_pure ⟨v,u,rfl,V,U⟩)
theorem min_zero {l:List Int} (T:Sf.Tk y l) (hy:-20<=y/\y<=20):(zcB l).Out (fun r=>r=0):=by
  have ln:=T.len;obtain ⟨N,hN⟩:∃ N:Nat,N=600:=⟨_,rfl⟩
  unfold zcB;refine M.o_f (decide_eq_false (by omega)) (M.o_grdD (by omega) (M.o_bind (P:=fun r=>r=0) (M.o_for N (fun i (s:Int × Nat)=>s.2=i+1/\(0<=s.1/\s.1<=2000000000)/\∀ k,k<=i->s.1<=l.getD k 0) ?_ ?_ ⟨rfl,T.b 0 (by decide),fun k hk=>?_⟩) (fun r hr=>M.o_pure hr)))
  · rintro i ⟨r,k⟩ hi ⟨e1,rb,rl⟩;dsimp only at e1 rb rl;subst e1;simp only [zch];have b:=T.b (i+1) (by omega);refine M.o_t (decide_eq_true (by omega)) (M.o_grdD (by omega) (M.o_pure ⟨rfl,by dsimp only; omega,fun j hj=>?_⟩));dsimp only;rcases Nat.lt_or_ge j (i+1) with c | c
    · have:=rl j (by omega); omega
    · obtain rfl:j=i+1:=by omega
      omega
  · rintro ⟨r,k⟩ ⟨e1,rb,rl⟩;dsimp only at e1 rb rl;subst e1;simp only [zch];have z:=rl (Int.toNat (y+300)) (by omega);rw [T.z] at z;exact M.o_f (decide_eq_false (by omega)) (M.o_pure (by omega))
  · obtain rfl:k=0:=by omega
    exact Int.le_refl _
/-- A course moves nothing at least. -/
theorem least_out (h:Sf.Ok p a q b d e lo hi lo' hi' y):(m_shift_Least [⟨p,a⟩,⟨q,b⟩] [⟨1,d,lo,hi⟩,⟨2,e,lo',hi'⟩]).Out (fun z=>z.2.1=0/\z.2.2=0):=by
  have hy:=h.ky;unfold m_shift_Least;refine M.o_bind (fopened_out h) ?_;rintro _ ⟨s,t,rfl,h1,h2⟩;refine M.o_f rfl (M.o_bind (behind2_out h1 h2 hy) ?_);rintro _ ⟨u,v,rfl,U,V⟩;have pu:Tb.pad u=u:=Tb.pad_eq U.len;have pv:Tb.pad v=v:=Tb.pad_eq V.len;refine M.o_grd rfl ?_;rw [show ([(⟨u⟩:Tb),⟨v⟩].getD 0 default).v=u from rfl,pu];refine M.o_bind (min_zero U hy) ?_;rintro _ rfl;refine M.o_bind (P:=fun _=>True) (M.o_for 2 (fun i (z:Nat × Int × List Int)=>z.1=i/\(i=0->z.2.1=0/\z.2.2=[])/\(i=1->(0<=z.2.1/\z.2.1<=2000000000)/\∃ x:Int,z.2.2=[x]/\-300<=x/\x<=300)) ?_ ?_ ⟨rfl,fun _=>⟨rfl,rfl⟩,(fun h=>by cases h)⟩) (fun z _=>M.o_pure ⟨rfl,rfl⟩)
  · rintro i ⟨k,left,l⟩ hi ⟨e1,l0,l1⟩;dsimp only at e1 l0 l1;subst e1;simp only [m_shift_Least_b9];refine M.o_t (decide_eq_true (by show (k:Int)<2; omega)) (M.o_grdD (by show (k:Int)<2; omega) (M.o_bindE (a:=()) M.i_pure ?_));rcases (show k=0∨k=1 by omega) with rfl | rfl
    · obtain ⟨rfl,rfl⟩:=l0 rfl;refine M.o_bind (shifts_out (fun i (_:Unit)=>¬ y+300<i) (fun x:List Int × List Int × Int=>x.2.2=0/\∃ n:Int,x.2.1=[n]/\-300<=n/\n<=300) (by omega) ?_) ?_
      · rintro i _ hi nn;simp only [m_shift_Least_b8];refine M.o_f rfl ?_;unfold m_shift_Least_j7;rw [show ([(⟨u⟩:Tb),⟨v⟩].getD 0 default).v=u from rfl,pu,Int.toNat_natCast];have b:=U.b i hi;refine M.o_grd (gA2 (by omega) (by omega)) (M.o_grd (gOr2 (by omega) (by omega)) (M.o_if (fun c=>?_) (fun c=>M.o_pure fun hh=>?_)))
        · simp only [Bool.and_eq_true,bne_iff_ne,beq_iff_eq] at c;exact M.o_grd rfl (M.o_pure ⟨by dsimp only; omega,(i:Int)-300,rfl,by omega,by omega⟩)
        · have e2:i=Int.toNat (y+300):=by omega
          rw [e2,U.z] at c;cases c
      · rintro (x | ⟨l2,l,s⟩) hx
        · exact absurd (show y+300<((601:Nat):Int) by omega) hx
        · obtain ⟨s0,n,ln,n1,n2⟩:=hx;dsimp only at s0 ln;subst s0 ln;exact M.o_pure ⟨rfl,(fun h=>by cases h),fun _=>⟨by dsimp only; omega,n,rfl,n1,n2⟩⟩
    · obtain ⟨lb,x,rfl,x1,x2⟩:=l1 rfl;refine M.o_bind (shifts_out (fun _ (_:Unit)=>True) (fun _:List Int × List Int × Int=>True) trivial ?_) ?_
      · rintro i _ hi _;simp only [m_shift_Least_b8];refine M.o_t rfl (M.o_grd rfl (M.o_grd rfl (M.o_bindE (apart_ends (u:=(i:Int)-300) (v:=x) (by omega) (by omega)) ?_)));unfold m_shift_Least_j7;rw [show ([(⟨u⟩:Tb),⟨v⟩].getD 1 default).v=v from rfl,pv,Int.toNat_natCast];have b:=V.b i hi;exact M.o_grd (gA2 (by omega) (by omega)) (M.o_grd (gOr2 (by omega) (by omega)) (M.o_if (fun c=>M.o_grd rfl (M.o_pure trivial)) (fun c=>M.o_pure trivial)))
      · rintro (x | ⟨l2,l,s⟩) _
        · exact M.o_pure ⟨rfl,(fun h=>by cases h),(fun h=>by cases h)⟩
        · exact M.o_pure ⟨rfl,(fun h=>by cases h),(fun h=>by cases h)⟩
  · rintro ⟨k,left,l⟩ ⟨e1,_,_⟩;dsimp only at e1;subst e1;simp only [m_shift_Least_b9];exact M.o_f rfl (M.o_pure trivial)
end Go.Proofs.YtaolcidinlnklaaGreat
namespace Go.Nm
namespace Fl
/-- A mark that is told less narrowly. -/
structure Wm (m m':Mrk):Prop where
  p:m'.place=m.place
  l0:0<=m'.lo
  l:m'.lo<=m.lo
  h:m.hi<=m'.hi
  h2:m'.hi<=2000
theorem Wm.refl {m:Mrk} (h:Mok m):Wm m m:=⟨rfl,h.l0,Int.le_refl _,Int.le_refl _,h.h2⟩
theorem Truth.wide {S:List Sect} {M l:List Mrk} {R:List Rch} {t ro:List Int} (h:Truth S M R t ro) (hl:l.length=M.length) (w:∀ k,k<M.length->Wm (M.getD k default) (l.getD k default)):Truth S l R t ro:=by
  have key:∀ x∈l,∃ m∈M,Wm m x:=fun x hx=>by
    obtain ⟨k,hk,rfl⟩:=List.getElem_of_mem hx;have:=w k (by omega);rw [getD_el l hk,getD_el M (by omega)] at this;exact ⟨_,List.getElem_mem _,this⟩
  refine { h with site:={ h.site with m:=by rw [hl]; exact h.site.m,mks:=fun x hx=>?_ },m8:=by rw [hl]; exact h.m8,mt:=fun x hx=>?_ }
  · obtain ⟨m,hm,k⟩:=key x hx;have o:=h.site.mks m hm;have p0:=o.p0;have p1:=o.p1;have lh:=o.lh;have kp:=k.p;have kl:=k.l;have kh:=k.h;exact ⟨by omega,by omega,k.l0,by omega,k.h2⟩
  · obtain ⟨m,hm,k⟩:=key x hx;obtain ⟨j,j1,j2,j3,j4,j5⟩:=h.mt m hm;have kp:=k.p;have kl:=k.l;have kh:=k.h;exact ⟨j,j1,by omega,by omega,by omega,by omega⟩
end Fl
end Go.Nm
namespace Go.Proofs.YtaolcidinlnklaaGreat
open Go Go.Nm
theorem aware06_ends:(zbd).Ends true:=⟨400,by kernel_rfl⟩
theorem tf_b0 {hs:List Int} {r3 lo hi real:Int} {M':List Mrk} (hk:∀ x∈M',Fl.Mok x) (hn:M'.length<=16) (hr:hs.getD (Int.toNat r3) 0-hs.getD 0 0=real) (h1:lo<=real) (h2:real<=hi) (h3:-100000000<=lo) (h4:hi<=100000000) :
    (M.iter (za1 hs r3 lo hi) (M',0)).Out (fun z=>z.2.length=M'.length/\∀ k,k<M'.length->Fl.Wm (M'.getD k default) (z.2.getD k default)):=by
  have ok:∀ k,k<M'.length->Fl.Mok (M'.getD k default):=fun k hk'=>by rw [getD_el M' hk']; exact hk _ (List.getElem_mem hk')
  refine M.o_for M'.length (fun i (s:List Mrk × Nat)=>s.2=i/\s.1.length=M'.length/\(∀ k,k<M'.length->Fl.Wm (M'.getD k default) (s.1.getD k default))/\∀ k,i<=k->k<M'.length->s.1.getD k default=M'.getD k default) ?_ ?_ ⟨rfl,rfl,fun k hk'=>.refl (ok k hk'),fun _ _ _=>rfl⟩
  · rintro i ⟨l,k⟩ hi' ⟨e,ln,w,r⟩;dsimp only at e ln w r;subst e;simp only [za1];rw [hr];have o:=ok k hi';have e:=r k (Nat.le_refl _) hi';have l0:=o.l0;have lh:=o.lh;have h2':=o.h2;rw [e];generalize hm:M'.getD k default=m at *;refine M.o_t (decide_eq_true (by omega)) (M.o_grdD (by omega) (M.o_grd (gA2 (by omega) (by omega)) (M.o_grd (gA2 (by omega) (by omega)) (M.o_grd (gA2 (by omega) (by omega)) (M.o_grd (gA2 (by omega) (by omega)) (M.o_grd (gA2 (by omega) (by omega)) (M.o_grd (gA2 (by omega) (by omega)) (M.o_grd (gA2 (by omega) (by omega)) (M.o_grd (gA3 (by omega) (by omega) (by omega)) (M.o_grd (gA2 (by omega) (by omega)) (M.o_grd (gA3 (by omega) (by omega) (by omega)) (M.o_pure ⟨rfl,by rw [List.length_set]; exact ln,fun j hj=>?_,fun j hj1 hj2=>?_⟩))))))))))))
    · dsimp only;rw [gset _ _ _ _ _ (by omega)];by_cases c:j=k
      · subst c;rw [if_pos rfl,hm];exact ⟨rfl,by dsimp only; omega,by dsimp only; omega,by dsimp only; omega,by dsimp only; omega⟩
      · rw [if_neg c]; exact w j hj
    · dsimp only;rw [gset _ _ _ _ _ (by omega),if_neg (by omega)];exact r j (by omega) hj2
  · rintro ⟨l,k⟩ ⟨e,ln,w,r⟩;dsimp only at e ln w r;subst e;simp only [za1];exact M.o_f (decide_eq_false (by omega)) (M.o_pure ⟨ln,w⟩)
theorem tf_b1 {M':List Mrk} (hn:M'.length<=16):(M.iter (zaX M') (0,[])).Ends (Fl.ints M'.length,Fl.ints M'.length):=by
  refine M.i_for (fun i=>(i,Fl.ints i)) M'.length (fun i hi=>?_) ?_
  · simp only [zaX];refine M.i_t (decide_eq_true (by omega)) (M.i_grd (decide_eq_true (by rw [Fl.ints_len]; simp; omega)) ?_);rw [Fl.ints_succ];exact M.i_pure
  · simp only [zaX];exact M.i_f (decide_eq_false (by omega)) M.i_pure
theorem tf_b2 {r8:Int} {s t:Span} (hs:s.lo<=r8-20/\r8-20<=s.hi) (ht:t.lo<=r8-20/\r8-20<=t.hi):(M.iter (zaJ r8 [s,t]) 0).Ends (.inr ()):=by
  refine M.i_next (s':=1) ?_ (M.i_next (s':=2) ?_ (M.i_stop ?_))
  · simp only [zaJ];refine M.i_t rfl (M.i_grd rfl (M.i_f ?_ M.i_pure));show (decide (r8-20<s.lo)||decide (s.hi<r8-20))=false;rw [decide_eq_false (by omega),decide_eq_false (by omega)]; rfl
  · simp only [zaJ];refine M.i_t rfl (M.i_grd rfl (M.i_f ?_ M.i_pure));show (decide (r8-20<t.lo)||decide (t.hi<r8-20))=false;rw [decide_eq_false (by omega),decide_eq_false (by omega)]; rfl
  · simp only [zaJ];exact M.i_f rfl M.i_pure
theorem line_low {r0 r5 r6 T:Int}:(ln ⟨r5,r6,T,r0⟩).at r5=r6*(ln ⟨r5,r6,T,r0⟩).w:=by
  show r6*(T-r5)+(r0-r6)*(r5-r5)=r6*(T-r5);rw [Int.sub_self,Int.mul_zero,Int.add_zero]
set_option maxHeartbeats 2000000 in
theorem topFlooded_ends (nets sites low:List UInt8) (bench at_ sunk:Int):(zco nets sites low bench at_ sunk).Ends true:=by
  obtain ⟨r,hr,rfl⟩:(zco nets sites low bench at_ sunk).Out (fun r=>r=true):=by
    have hnew:∀ p,(zaI p).Ends (0,0):=fun p=>M.i_pure;unfold zco;refine M.o_bindE (hnew nets) (M.o_bind (made_out SOk.zero (by omega) (by omega) (by omega)) ?_);rintro ⟨n,ls,hs,q1,q2⟩ ⟨hA,_⟩;dsimp only at hA ⊢;refine M.o_bindE (hnew sites) (M.o_bind Made_out ?_);rintro ⟨S,M',R',t,ro,u,x⟩ h;dsimp only at h ⊢;have two:=hA.two;have hl:=hA.hh.len;refine M.o_bind (pick_num (v:=bench) (n:=n) (by omega)) ?_;intro k hk;refine M.o_f (decide_eq_false (by omega)) (M.o_bind (between_out (hA.ok (by omega)) (f:=0) (t:=k) (by omega) (by omega)) ?_);rintro ⟨lo,hi,e⟩ hB;dsimp only;rcases btw_zero hB hA.agr with ⟨e0,_,d1,d2⟩ | ⟨e0,_⟩
    rotate_left
    · cases e0;exact M.o_t rfl (M.o_bindE aware06_ends (M.o_pure rfl))
    dsimp only at e0 d1 d2;subst e0;have s1:=dist_size (hA.ok (by omega)) hA.agr (by omega) d1;have s2:=dist_size (hA.ok (by omega)) hA.agr (by omega) d2;have f1:=d1.feas (feas_ln hA.ln);have f2:=d2.feas (feas_ln hA.ln);have b1:=hA.hh.bnd k;have b2:=hA.hh.bnd 0;have ek:hOf hs k=hs.getD (Int.toNat k) 0:=rfl;have ez:hOf hs 0=hs.getD 0 0:=rfl;rw [ek] at b1 f1 f2;rw [ez] at b2 f1 f2;generalize hreal:hs.getD (Int.toNat k) 0-hs.getD 0 0=real at *;refine M.o_f rfl (M.o_grd (gA2 (by omega) (by omega)) (M.o_grdD (by omega) (M.o_grd (gA2 (by omega) (by omega)) (M.o_f (by rw [decide_eq_false (by omega),decide_eq_false (by omega)]; rfl) (M.o_bind (tf_b0 h.site.mks h.site.m.2 hreal (by omega) (by omega) (by omega) (by omega)) ?_)))));rintro ⟨l,l3⟩ ⟨ln3,w⟩;dsimp only at ln3 w ⊢;replace h:=h.wide ln3 w;clear w ln3;have hm:=h.site.m;have hi':0<R'.length:=by have:=h.site.r; omega
    have hr:=h.rok hi';have ix:=Fl.ints_ix l3;have inc:=Fl.ints_inc l3;have tog:=h.tog ix;have hk':=h.site.mks;have hrt:=h.rt (R'.getD 0 default) (by rw [getD_el R' hi']; exact List.getElem_mem hi');have cu:=h.bet ix hr.iu;have cd:=h.bet ix hr.id;have tu:=h.tr _ hr.iu;have tdn:=h.tr _ hr.id;have u0:=hr.u0;have ud:=hr.ud;have d1':=hr.d1;have tt:=h.td (Int.toNat (R'.getD 0 default).up) (Int.toNat (R'.getD 0 default).down) (by omega) hr.id;have ru:=h.ro0 _ hr.iu;have rd:=h.ro0 _ hr.id;have dn:Fl.Dn S l3 (Fl.ints l3.length) (R'.getD 0 default) (t.getD (Int.toNat (R'.getD 0 default).down) 0):=⟨cd.1,by have:=cd.2; have:=cu.2; unfold Fl.pd Fl.pu; omega⟩
    have ok:Fl.Cok ⟨t.getD (Int.toNat (R'.getD 0 default).up) 0,t.getD (Int.toNat (R'.getD 0 default).down) 0,ro.getD (Int.toNat (R'.getD 0 default).up) 0,ro.getD (Int.toNat (R'.getD 0 default).down) 0⟩:=⟨tdn.1,tt,by dsimp only; omega,ru.1,rd.1,ru.2,rd.2⟩
    have fe:(zbu S l3 R' 0 ⟨t.getD (Int.toNat (R'.getD 0 default).up) 0,t.getD (Int.toNat (R'.getD 0 default).down) 0,ro.getD (Int.toNat (R'.getD 0 default).up) 0,ro.getD (Int.toNat (R'.getD 0 default).down) 0⟩).Ends (Fl.fl S (R'.getD 0 default) ⟨t.getD (Int.toNat (R'.getD 0 default).up) 0,t.getD (Int.toNat (R'.getD 0 default).down) 0,ro.getD (Int.toNat (R'.getD 0 default).up) 0,ro.getD (Int.toNat (R'.getD 0 default).down) 0⟩,0):=Flow_ends (i:=0) h.site (by omega) (by omega) ok hrt.1 hrt.2.2.1 hrt.2.1 hrt.2.2.2;have no:∀ a b:Int,0<=a->a<l3.length->0<=b->b<l3.length->(zak S l3 R' a b).Ends false:=fun a b a0 a1 b0 b1=>ahead_false ix tog (by
      unfold Fl.ints; exact List.mem_map.2 ⟨Int.toNat a,List.mem_range.2 (by omega),by omega⟩) (by
      unfold Fl.ints; exact List.mem_map.2 ⟨Int.toNat b,List.mem_range.2 (by omega),by omega⟩)
    refine M.o_bindE (tf_b1 hm.2) (M.o_bind (Most_out h.site no) ?_);rintro ⟨mo,e⟩ ⟨e0,lm⟩;dsimp only at e0 lm;subst e0;dsimp only;refine M.o_grd (decide_eq_true (by omega)) (M.o_bind (Peak_out h.site inc tog (i:=0) (by omega) (by omega)) ?_);rintro ⟨a,b,e⟩ ⟨e0,⟨c1,ha⟩,c2,hb⟩;dsimp only at e0 ha hb;subst e0;dsimp only;replace ha:Fl.IsLow S l3 (Fl.ints l3.length) (R'.getD 0 default) c1 a:=ha;replace hb:Fl.IsHigh S l3 (Fl.ints l3.length) (R'.getD 0 default) c2 b:=hb;have kp:=Fl.pk h.site.s hr hk' ix tog ha hb ok dn cu.1 cu.2 hrt.1 hrt.2.2.1 hrt.2.1 hrt.2.2.2;refine M.o_grd (gA2 (by omega) (by rw [h.tl]; omega)) (M.o_grd (gA2 (by omega) (by rw [h.tl]; omega)) (M.o_grd (gA2 (by omega) (by rw [h.rl]; omega)) (M.o_grd (gA2 (by omega) (by rw [h.rl]; omega)) (M.o_bindE fe ?_))));dsimp only;generalize Fl.fl S (R'.getD 0 default) ⟨t.getD (Int.toNat (R'.getD 0 default).up) 0,t.getD (Int.toNat (R'.getD 0 default).down) 0,ro.getD (Int.toNat (R'.getD 0 default).up) 0,ro.getD (Int.toNat (R'.getD 0 default).down) 0⟩=q at *;generalize t.getD (Int.toNat (R'.getD 0 default).up) 0=T at *;have ll:((mo.length:Int) != ((Fl.ints l3.length).length:Int))=false:=by rw [lm,Fl.ints_len]; simp
    refine M.o_f (by rw [ll,decide_eq_false (by omega),decide_eq_false (by omega)]; rfl) (M.o_bind (sounded_out low) ?_);rintro ⟨v,slo,shi,fine,e⟩ ⟨e0,sv⟩;dsimp only at e0 sv;subst e0;dsimp only;refine M.o_f rfl (M.o_if (fun _=>M.o_bindE aware06_ends (M.o_pure rfl)) (fun c=>?_));simp only [Bool.or_eq_false_iff,Bool.not_eq_false',decide_eq_false_iff_not] at c;obtain ⟨⟨⟨c0,c1'⟩,c2'⟩,c3⟩:=c;obtain ⟨⟨s0,s1'⟩,s2',s3⟩:=sv c0;have h0:0<=T / 2/\T / 2<T:=by omega
    have RX:RR ⟨T / 2,v,T,q⟩:=⟨h0.1,h0.2,by show T<=2000; omega,by show 0<=v; omega,by show v<=q; omega,by show q<=200000; omega⟩
    have hw:=RR.w0 RX;have all:∀ g∈[(⟨T / 2,slo,shi⟩:Gg),⟨T,a,b⟩],GO g/\pasB ⟨T / 2,v,T,q⟩ g=true:=fun g hg=>by
      rcases List.mem_cons.1 hg with rfl | hg
      · refine ⟨⟨h0.1,by show T / 2<=2000; omega,s0,by show slo<=shi; omega,s3⟩,?_⟩;unfold pasB;rw [Bool.and_eq_true,decide_eq_true_iff,decide_eq_true_iff];dsimp only;rw [line_low];exact ⟨mul_le_r (by omega) s1',mul_le_r (by omega) s2'⟩
      · obtain rfl:=List.mem_singleton.1 hg;refine ⟨⟨by show 0<=T; omega,by show T<=2000; omega,kp.1,by show a<=b; omega,by show b<=200000; omega⟩,?_⟩;unfold pasB;rw [Bool.and_eq_true,decide_eq_true_iff,decide_eq_true_iff];dsimp only;rw [line_at];exact ⟨mul_le_r (by omega) kp.2.1,mul_le_r (by omega) kp.2.2⟩
    have hS:∀ g∈[(⟨T / 2,slo,shi⟩:Gg),⟨T,a,b⟩],GO g:=fun g hg=>(all g hg).1;have hP:allP [(⟨T / 2,slo,shi⟩:Gg),⟨T,a,b⟩] ⟨T / 2,v,T,q⟩=true:=List.all_eq_true.2 fun g hg=>(all g hg).2;refine M.o_grd (gA3 (by omega) (by omega) (by omega)) (M.o_bindE (passes1 hS (by simp) (show 2<=24 by decide) RX fun g hg=>(all g hg).2) (M.o_bind (pick_num (n:=2001) (by decide)) ?_));rintro st ⟨st0,st1⟩;refine M.o_bind (Flow_out hS (by simp) (show 2<=24 by decide) RX hP st0 (by omega)) ?_;rintro ⟨k1,k2,k3,k4,k5⟩ ⟨e0,⟨fa,Ra,Pa,e1,e2⟩,⟨fb,Rb,Pb,e3,e4⟩,hall⟩;dsimp only at e0 e1 e2 e3 e4 hall ⊢;subst e0 e1 e2 e3 e4;have kx:=hall _ RX hP;refine M.o_bindE (at1 RX st0 (by omega)) (M.o_bindE (M.i_opt (r:=true) (fun _=>between_true RX Ra Rb kx.1 kx.2) (fun h=>by cases h)) (M.o_f rfl (M.o_bind (pick_num (n:=41) (by decide)) ?_)));rintro r8 ⟨r80,r81⟩;refine M.o_grd (gA2 (by omega) (by omega)) (M.o_grd (gA2 (by omega) (by omega)) (M.o_grd (gA2 (by omega) (by omega)) ?_));have sf:Sf.Ok (T / 2) v T q (T / 2+(r8-20)) (T+(r8-20)) slo shi a b (r8-20):=⟨by omega,by omega,by omega,by omega,by omega,by omega,by omega,rfl,rfl⟩
    refine M.o_bind (fpasses_out sf) ?_;rintro _ ⟨s,t',rfl,y1,y2⟩;refine M.o_bind (moves_ends sf) ?_;rintro _ rfl;refine M.o_bind (least_out sf) ?_;rintro ⟨cz,lz,ez'⟩ ⟨e0,e1⟩;dsimp only at e0 e1;subst e0 e1;exact M.o_f rfl (M.o_bindE (tf_b2 y1 y2) (M.o_bindE aware06_ends (M.o_pure rfl)))
  exact hr
end Go.Proofs.YtaolcidinlnklaaGreat
