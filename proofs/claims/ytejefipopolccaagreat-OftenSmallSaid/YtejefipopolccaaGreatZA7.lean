/- Part 7 of the texts on which the proof rests. Conditions: none. -/
import Derived.KernelRfl
import Derived.Test.YtejefipopolccaaGreatZA6
set_option linter.unusedVariables false
set_option linter.unusedSimpArgs false
set_option linter.unusedSectionVars false
namespace Go.Proofs.YtejefipopolccaaGreat
open Go Go.Nm
theorem b8_out {n:Nat} (hn:n<3000):(M.iter (zbr n) ((n:Int) % 2,0,[])).Out (fun _=>True):=by
  refine M.o_for 4 (fun i (s:Int × Nat × List Pk)=>s.2.1=i/\s.2.2.length=i/\0<=s.1/\s.1<=1+4*(i:Int)) ?_ ?_ ⟨rfl,rfl,by dsimp only; omega,by dsimp only; omega⟩
  · rintro _ ⟨d,i,l⟩ hi ⟨rfl,hl,h0,h1⟩
    dsimp only at hl hi h0 h1 ⊢
    simp only [zbr]
    have d1:0<=(n:Int) / (3*(i:Int)+1):=Int.ediv_nonneg (by omega) (by omega)
    have d2:0<=(n:Int) / (2*(i:Int)+1):=Int.ediv_nonneg (by omega) (by omega)
    refine M.o_t (decide_eq_true (by omega)) (M.o_grd (gA2 (by omega) (by omega)) (M.o_grd (gA2 (by omega) (by omega)) (M.o_grd (gA3 (by omega) (by omega) (by omega)) (M.o_grd (gA2 (by omega) (by omega)) (M.o_grd (gA2 (by omega) (by omega)) (M.o_grd (gA2 (by omega) (by omega)) (M.o_grd (gA2 (by omega) (by omega)) (M.o_grd (gA2 (by omega) (by omega)) (M.o_grd (gA3 (by omega) (by omega) (by omega)) (M.o_grd (gA2 (by omega) (by omega)) (M.o_grd (decide_eq_true (by simp; omega)) (?_))))))))))))
    exact M.o_pure ⟨rfl,by simp [hl],by dsimp only; omega,by dsimp only; omega⟩
  · rintro ⟨d,_,l⟩ ⟨rfl,h⟩
    simp only [zbr]
    exact M.o_f (decide_eq_false (by omega)) (M.o_pure trivial)
theorem b9_out:(M.iter zcw 0).Out (fun r=>r = .inr ()):=by
  refine M.o_for 3000 (fun i k=>k=i) ?_ ?_ rfl
  · rintro _ n hn rfl
    unfold zcw
    refine M.o_t (decide_eq_true (by omega)) (M.o_grd (gA2 (by omega) (by omega)) (M.o_bind (b8_out hn) ?_))
    rintro ⟨_,l⟩ _
    dsimp only
    refine M.o_grd (gA3 (by omega) (by omega) (by omega)) (M.o_grd (gA2 (by omega) (by omega)) (M.o_grd (gA2 (by omega) (by omega)) (M.o_grd (gA2 (by omega) (by omega)) (M.o_grd (gA2 (by omega) (by omega)) (M.o_grd (gA2 (by omega) (by omega)) (M.o_grd (gA2 (by omega) (by omega)) (M.o_grd (gA2 (by omega) (by omega)) (M.o_grd (gA2 (by omega) (by simp only [List.length_cons,List.length_nil]; omega)) (?_)))))))))
    refine M.o_bindE (zc5 ..) (M.o_f rfl ?_)
    refine M.o_if (fun _=>M.o_pure rfl) (fun _=>?_)
    refine M.o_grd (gA2 (by omega) (by omega)) (M.o_grd (gA2 (by omega) (by omega)) (M.o_grd (gA2 (by omega) (by omega)) (M.o_grd (gA2 (by omega) (by simp only [List.length_cons,List.length_nil]; omega)) (M.o_grd (gA2 (by omega) (by omega)) (M.o_grd (gA2 (by omega) (by omega)) (M.o_grd (gA2 (by omega) (by omega)) (?_)))))))
    refine M.o_if (fun _=>?_) (fun _=>?_)
    · refine M.o_grd (gA2 (by omega) (by omega)) (M.o_grd (gA2 (by omega) (by omega)) (M.o_grd (gA2 (by omega) (by omega)) (M.o_grd (gA2 (by omega) (by omega)) (M.o_grd (gA2 (by omega) (by omega)) (M.o_grd (gA2 (by omega) (by omega)) (M.o_grd (gA2 (by omega) (by omega)) (M.o_grd (gA2 (by omega) (by omega)) (?_))))))))
      refine M.o_bindE (zbe ..) (M.o_grd ?_ (M.o_grd ?_ (M.o_grd ?_ (M.o_bind (o_optT (zaU ..)) ?_))))
      · rw [gA2 (by omega) (by omega)]; rfl
      · rw [gA2 (by omega) (by omega)]; rfl
      · rw [gA2 (by omega) (by omega)]; rfl
      rintro _ rfl
      exact M.o_f rfl (M.o_pure rfl)
    · refine M.o_grd (gA2 (by omega) (by omega)) (M.o_grd (gA2 (by omega) (by omega)) (M.o_grd (gA2 (by omega) (by omega)) (M.o_grd (gA2 (by omega) (by omega)) (?_))))
      refine M.o_bindE (zbe ..) (M.o_grd ?_ (M.o_grd ?_ (M.o_grd ?_ (M.o_bind (o_optT (zaU ..)) ?_))))
      · rw [gA2 (by omega) (by omega)]; rfl
      · rw [gA2 (by omega) (by omega)]; rfl
      · rw [gA2 (by omega) (by omega)]; rfl
      rintro _ rfl
      exact M.o_f rfl (M.o_pure rfl)
  · rintro _ rfl
    unfold zcw
    exact M.o_f (by decide) (M.o_pure rfl)
/-- The wide cases: how many. -/
def nn (s:Nat):Nat:=[0,1,8,9,10,11,39,40,41,59,60,61].getD s 0
def plS (i:Nat):List Pk:=(List.range (min i 45)).map fun j:Nat=>(⟨3*(j:Int),((j:Int)*(j:Int)) % 2000⟩:Pk)
def slS (i:Nat):List Int:=(List.range (min i 45)).map fun j:Nat=>(j:Int)
def ylS (i:Nat):List Yr:=(List.range i).map fun j:Nat=>(⟨1800+(j:Int),(j:Int),9*(j:Int)⟩:Yr)
def clS (i:Nat):List Old10:=(List.range (min i 10)).map fun j:Nat=>(⟨(j:Int),40,10*((j:Int)+1),[]⟩:Old10)
def dlS (i:Nat):List Old10:=[⟨0,20,7,(List.range (min i 12)).map fun j:Nat=>(j:Int)⟩]
theorem rm_lt {α:Type} {f:Nat->α} {i k:Nat} (h:i<k):(List.range (min (i+1) k)).map f=(List.range (min i k)).map f++[f i]:=by
  rw [Nat.min_eq_left (show i+1<=k by omega),Nat.min_eq_left (show i<=k by omega),List.range_succ,List.map_append]
  rfl
theorem rm_ge {α:Type} {f:Nat->α} {i k:Nat} (h:¬ i<k):(List.range (min (i+1) k)).map f=(List.range (min i k)).map f:=by
  rw [Nat.min_eq_right (show k<=i+1 by omega),Nat.min_eq_right (show k<=i by omega)]
theorem yl_s (i:Nat):ylS (i+1)=ylS i++[⟨1800+(i:Int),(i:Int),9*(i:Int)⟩]:=by
  unfold ylS
  rw [List.range_succ,List.map_append]
  rfl
theorem v12:∀ s:Nat,s<12->vl12.getD s 0=(nn s:Int)/\nn s<=61:=by decide
theorem b11_out {s:Nat} (hs:s<12):(M.iter (zby s) ([(⟨(0:Int),(20:Int),(7:Int),([])⟩:Old10)],0,[],[],[],[])).Out (fun z=>z=(plS (nn s),slS (nn s),ylS (nn s),clS (nn s),dlS (nn s),slS (nn s),plS (nn s),clS (nn s),ylS (nn s),dlS (nn s))):=by
  obtain ⟨hv,hb⟩:=v12 s hs
  refine M.o_for (nn s) (fun i (z:List Old10 × Nat × List Pk × List Int × List Yr × List Old10)=>z=(dlS i,i,plS i,slS i,ylS i,clS i)) ?_ ?_ rfl
  · rintro i _ hi rfl
    simp only [zby,hv]
    have q0:0<=(i:Int)*(i:Int):=Int.mul_nonneg (by omega) (by omega)
    have q1:(i:Int)*(i:Int)<=61*61:=Int.mul_le_mul (by omega) (by omega) (by omega) (by omega)
    have l1:(plS i).length<=45:=by simp [plS]; omega
    have l2:(slS i).length<=45:=by simp [slS]; omega
    have l3:(ylS i).length<=61:=by simp [ylS]; omega
    have l4:(clS i).length<=10:=by simp [clS]; omega
    have l5:((dlS i).getD 0 default).passed.length<=12:=by simp [dlS]; omega
    have hy:=yl_s i
    refine M.o_t (decide_eq_true (by omega)) ?_
    refine M.o_if (fun ha=>?_) (fun ha=>?_)
    · have ha:=of_decide_eq_true ha
      have hp:plS (i+1)=plS i++[⟨3*(i:Int),((i:Int)*(i:Int)) % 2000⟩]:=rm_lt (show i<45 by omega)
      have hs:slS (i+1)=slS i++[(i:Int)]:=rm_lt (show i<45 by omega)
      refine M.o_grd (gA2 (by omega) (by omega)) (M.o_grd (gA2 (by omega) (by omega)) (M.o_grd (gA2 (by omega) (by omega)) (M.o_grd (decide_eq_true (by simp only [List.length_cons,List.length_nil]; omega)) (M.o_grd (decide_eq_true (by simp only [List.length_cons,List.length_nil]; omega)) (M.o_grd (gA2 (by omega) (by omega)) (M.o_grd (gA2 (by omega) (by omega)) (M.o_grd (decide_eq_true (by simp only [List.length_cons,List.length_nil]; omega)) (?_))))))))
      refine M.o_if (fun hb=>?_) (fun hb=>?_)
      · have hb:=of_decide_eq_true hb
        have hc:clS (i+1)=clS i++[⟨(i:Int),40,10*((i:Int)+1),[]⟩]:=rm_lt (show i<10 by omega)
        refine M.o_grd (gA2 (by omega) (by omega)) (M.o_grd (decide_eq_true (by simp only [List.length_cons,List.length_nil]; omega)) (?_))
        refine M.o_if (fun hc2=>?_) (fun hc2=>?_)
        · have hc2:=of_decide_eq_true hc2
          have hd:dlS (i+1)=[⟨0,20,7,(List.range (min i 12)).map (fun j:Nat=>(j:Int))++[(i:Int)]⟩]:=by unfold dlS; rw [rm_lt (show i<12 by omega)]
          refine M.o_grd (decide_eq_true (by simp [dlS])) (M.o_grd (decide_eq_true (by simp only [List.length_cons,List.length_nil]; omega)) (M.o_grd (gA2 (by omega) (by omega)) (M.o_pure ?_)))
          show _=(dlS (i+1),i+1,plS (i+1),slS (i+1),ylS (i+1),clS (i+1))
          rw [hd,hp,hs,hy,hc]
          rfl
        · have hc2:=of_decide_eq_false hc2
          have hd:dlS (i+1)=[⟨0,20,7,(List.range (min i 12)).map (fun j:Nat=>(j:Int))⟩]:=by unfold dlS; rw [rm_ge (show ¬ i<12 by omega)]
          refine M.o_grd (gA2 (by omega) (by omega)) (M.o_pure ?_)
          show _=(dlS (i+1),i+1,plS (i+1),slS (i+1),ylS (i+1),clS (i+1))
          rw [hd,hp,hs,hy,hc]
          rfl
      · have hb:=of_decide_eq_false hb
        have hc:clS (i+1)=clS i:=rm_ge (show ¬ i<10 by omega)
        refine M.o_if (fun hc2=>?_) (fun hc2=>?_)
        · have hc2:=of_decide_eq_true hc2
          have hd:dlS (i+1)=[⟨0,20,7,(List.range (min i 12)).map (fun j:Nat=>(j:Int))++[(i:Int)]⟩]:=by unfold dlS; rw [rm_lt (show i<12 by omega)]
          refine M.o_grd (decide_eq_true (by simp [dlS])) (M.o_grd (decide_eq_true (by simp only [List.length_cons,List.length_nil]; omega)) (M.o_grd (gA2 (by omega) (by omega)) (M.o_pure ?_)))
          show _=(dlS (i+1),i+1,plS (i+1),slS (i+1),ylS (i+1),clS (i+1))
          rw [hd,hp,hs,hy,hc]
          rfl
        · have hc2:=of_decide_eq_false hc2
          have hd:dlS (i+1)=[⟨0,20,7,(List.range (min i 12)).map (fun j:Nat=>(j:Int))⟩]:=by unfold dlS; rw [rm_ge (show ¬ i<12 by omega)]
          refine M.o_grd (gA2 (by omega) (by omega)) (M.o_pure ?_)
          show _=(dlS (i+1),i+1,plS (i+1),slS (i+1),ylS (i+1),clS (i+1))
          rw [hd,hp,hs,hy,hc]
          rfl
    · have ha:=of_decide_eq_false ha
      have hp:plS (i+1)=plS i:=rm_ge (show ¬ i<45 by omega)
      have hs:slS (i+1)=slS i:=rm_ge (show ¬ i<45 by omega)
      refine M.o_grd (gA2 (by omega) (by omega)) (M.o_grd (gA2 (by omega) (by omega)) (M.o_grd (decide_eq_true (by simp only [List.length_cons,List.length_nil]; omega)) (?_)))
      refine M.o_if (fun hb=>?_) (fun hb=>?_)
      · have hb:=of_decide_eq_true hb
        have hc:clS (i+1)=clS i++[⟨(i:Int),40,10*((i:Int)+1),[]⟩]:=rm_lt (show i<10 by omega)
        refine M.o_grd (gA2 (by omega) (by omega)) (M.o_grd (decide_eq_true (by simp only [List.length_cons,List.length_nil]; omega)) (?_))
        refine M.o_if (fun hc2=>?_) (fun hc2=>?_)
        · have hc2:=of_decide_eq_true hc2
          have hd:dlS (i+1)=[⟨0,20,7,(List.range (min i 12)).map (fun j:Nat=>(j:Int))++[(i:Int)]⟩]:=by unfold dlS; rw [rm_lt (show i<12 by omega)]
          refine M.o_grd (decide_eq_true (by simp [dlS])) (M.o_grd (decide_eq_true (by simp only [List.length_cons,List.length_nil]; omega)) (M.o_grd (gA2 (by omega) (by omega)) (M.o_pure ?_)))
          show _=(dlS (i+1),i+1,plS (i+1),slS (i+1),ylS (i+1),clS (i+1))
          rw [hd,hp,hs,hy,hc]
          rfl
        · have hc2:=of_decide_eq_false hc2
          have hd:dlS (i+1)=[⟨0,20,7,(List.range (min i 12)).map (fun j:Nat=>(j:Int))⟩]:=by unfold dlS; rw [rm_ge (show ¬ i<12 by omega)]
          refine M.o_grd (gA2 (by omega) (by omega)) (M.o_pure ?_)
          show _=(dlS (i+1),i+1,plS (i+1),slS (i+1),ylS (i+1),clS (i+1))
          rw [hd,hp,hs,hy,hc]
          rfl
      · have hb:=of_decide_eq_false hb
        have hc:clS (i+1)=clS i:=rm_ge (show ¬ i<10 by omega)
        refine M.o_if (fun hc2=>?_) (fun hc2=>?_)
        · have hc2:=of_decide_eq_true hc2
          have hd:dlS (i+1)=[⟨0,20,7,(List.range (min i 12)).map (fun j:Nat=>(j:Int))++[(i:Int)]⟩]:=by unfold dlS; rw [rm_lt (show i<12 by omega)]
          refine M.o_grd (decide_eq_true (by simp [dlS])) (M.o_grd (decide_eq_true (by simp only [List.length_cons,List.length_nil]; omega)) (M.o_grd (gA2 (by omega) (by omega)) (M.o_pure ?_)))
          show _=(dlS (i+1),i+1,plS (i+1),slS (i+1),ylS (i+1),clS (i+1))
          rw [hd,hp,hs,hy,hc]
          rfl
        · have hc2:=of_decide_eq_false hc2
          have hd:dlS (i+1)=[⟨0,20,7,(List.range (min i 12)).map (fun j:Nat=>(j:Int))⟩]:=by unfold dlS; rw [rm_ge (show ¬ i<12 by omega)]
          refine M.o_grd (gA2 (by omega) (by omega)) (M.o_pure ?_)
          show _=(dlS (i+1),i+1,plS (i+1),slS (i+1),ylS (i+1),clS (i+1))
          rw [hd,hp,hs,hy,hc]
          rfl
  · rintro _ rfl
    simp only [zby,hv]
    exact M.o_f (decide_eq_false (by omega)) (M.o_pure rfl)
theorem chk_pk:∀ s:Nat,s<12->((Pk.chkP (plS (nn s))==0) != decide ((nn s:Int)<41))=false:=by decide +kernel
theorem chk_yl:∀ s:Nat,s<12->((Bk.chkB (ylS (nn s)) [] 1800 2799==0) != decide ((nn s:Int)<61))=false:=by decide +kernel
theorem chk_cl:∀ s:Nat,s<12->((Bk.chkB [] (clS (nn s)) 0 40==0) != decide ((nn s:Int)<9))=false:=by decide +kernel
theorem chk_dl:∀ s:Nat,s<12->((Bk.chkB [] (dlS (nn s)) 0 20==0) != decide ((nn s:Int)<11))=false:=by decide +kernel
theorem b12_out:(M.iter zca 0).Out (fun r=>r = .inr ()):=by
  refine M.o_for 12 (fun i k=>k=i) ?_ ?_ rfl
  · rintro _ s hs rfl
    obtain ⟨hv,hb⟩:=v12 s hs
    have h1:=chk_pk s hs
    have h2:=chk_yl s hs
    have h3:=chk_cl s hs
    have h4:=chk_dl s hs
    simp only [zca,hv]
    refine M.o_t (decide_eq_true (by simp only [List.length_cons,List.length_nil]; omega)) (M.o_grd (decide_eq_true (by simp only [List.length_cons,List.length_nil]; omega)) (M.o_bind (b11_out hs) ?_))
    rintro _ rfl
    dsimp only
    refine M.o_bindE (zc5 ..) (M.o_bind (o_optT (zbe ..)) ?_)
    rintro _ rfl
    refine M.o_bind (o_optT (zaU ..)) ?_
    rintro _ rfl
    refine M.o_bind (o_optT (zbe ..)) ?_
    rintro _ rfl
    refine M.o_bind (o_optT (zaU ..)) ?_
    rintro _ rfl
    refine M.o_f rfl (M.o_bindE (chk_ends _) ?_)
    rw [h1]
    refine M.o_bind (P:=fun z=>z=Bk.chkB (ylS (nn s)) [] 1800 2799) (M.o_opt (fun _=>⟨_,check_ends _ _ _ _ (by simp [ylS]; omega) (by simp),rfl⟩) (fun h=>by simp at h)) ?_
    rintro _ rfl
    rw [h2]
    refine M.o_bind (P:=fun z=>z=Bk.chkB [] (clS (nn s)) 0 40) (M.o_opt (fun _=>⟨_,check_ends _ _ _ _ (by simp) (by simp [clS]; omega),rfl⟩) (fun h=>by simp at h)) ?_
    rintro _ rfl
    rw [h3]
    refine M.o_bind (P:=fun z=>z=Bk.chkB [] (dlS (nn s)) 0 20) (M.o_opt (fun _=>⟨_,check_ends _ _ _ _ (by simp) (by simp [dlS]),rfl⟩) (fun h=>by simp at h)) ?_
    rintro _ rfl
    rw [h4]
    exact M.o_f rfl (M.o_pure rfl)
  · rintro _ rfl
    simp only [zca]
    exact M.o_f (by decide) (M.o_pure rfl)
/-- The wide book's one old mark. -/
abbrev wideO:List Old10:=[(⟨(2001:Int),(2999:Int),(1000:Int),([(2500:Int)])⟩:Old10)]
theorem wide_ok:Bk.chkB [] wideO 2001 3000=0:=by decide +kernel
theorem wide_0:Bk.chkB [] wideO 2000 3000=110:=by decide +kernel
theorem wide_all:∀ i:Nat,i<1000->(Bk.kn [] wideO (2001+(i:Int))).lo<=(Bk.kn [] wideO (2001+(i:Int))).hi:=by decide +kernel
theorem wide_fine:Bk.Fine [] wideO 2001 3000:=by
  intro z h1 h2
  have:=wide_all (Int.toNat (z-2001)) (by omega)
  rwa [show (2001+((Int.toNat (z-2001):Nat):Int))=z by omega] at this
theorem wide_wr {n a b:Int} (h:a<=n/\n<=b):Bk.WrE [] wideO 2001 3000 2001 3000 n a b 0:=.inr (.inr (.inr (.inr ⟨wide_ok,⟨by decide,by decide,by decide⟩,h,wide_fine,rfl⟩)))
theorem wide_lo:Bk.many (Bk.lop 1000) [] wideO 2001 3000=1:=by decide +kernel
theorem wide_hi:Bk.many (Bk.hip 1000) [] wideO 2001 3000=2:=by decide +kernel
theorem wide_len:(((Bk.kl [] wideO 2001 (Int.toNat (3000+1-2001))).map (Bk.ofs true)).length:Int)=1000:=by decide +kernel
theorem wide_tl:Bk.Top ((Bk.kl [] wideO 2001 (Int.toNat (3000+1-2001))).map Span.lo) 1000 0:=⟨by decide,by decide,by decide +kernel,by decide +kernel⟩
theorem wide_th:Bk.Top ((Bk.kl [] wideO 2001 (Int.toNat (3000+1-2001))).map Span.hi) 1000 999:=⟨by decide,by decide,by decide +kernel,by decide +kernel⟩
theorem w_passed:(zak ([]:List Yr) wideO 2001 3000 2001 3000 1000).Out (fun r=>r=(1,2,0)):=by
  refine M.o_mono (of_passed (by simp) (by simp) ..) ?_
  rintro ⟨a,b,e⟩ h
  have he:e=0:=(Bk.PaE.wr h).uniq (wide_wr ⟨by decide,by decide⟩)
  rcases h with ⟨h1,h2⟩ | ⟨h1,h2,h3,h4⟩
  · exact absurd he h1
  · rw [wide_lo] at h3
    rw [wide_hi] at h4
    exact Prod.ext h3 (Prod.ext h4 h1)
theorem w_told:(zaI ([]:List Yr) wideO 2001 3000 2001 3000 1000 true).Out (fun r=>(r.1.length:Int)=1000/\r.2=0):=by
  refine M.o_mono (of_told (by simp) (by simp) ..) ?_
  rintro ⟨a,e⟩ h
  rcases h with ⟨h1,h2,h3⟩ | ⟨h1,h2,h3⟩
  · exact absurd (h2.uniq (wide_wr ⟨by decide,by decide⟩)) h1
  · exact ⟨h3 ▸ wide_len,h1⟩
theorem w_returns:(zaM ([]:List Yr) wideO 2001 3000 1000).Out (fun r=>r=(1,1000,1,500,0)):=by
  refine M.o_mono (of_returns (by simp) (by simp) ..) ?_
  rintro ⟨a,b,c,d,e⟩ h
  rcases h with ⟨h1,h2,h3⟩ | ⟨h1,h2,x,y,hx,hy,h3,h4,h5,h6,h7,h8⟩
  · exact absurd (h2.uniq (wide_wr ⟨by decide,by decide⟩)) h1
  · rw [wide_lo] at h3
    rw [wide_hi] at h4
    obtain rfl:x=1:=by omega
    obtain rfl:y=2:=by omega
    exact Prod.ext h5 (Prod.ext h6 (Prod.ext h7 (Prod.ext h8 h1)))
theorem w_reaches:(zap ([]:List Yr) wideO 2001 3000 2001 3000 1000).Out (fun r=>r=(0,999,0)):=by
  refine M.o_mono (of_reaches (by simp) (by simp) ..) ?_
  rintro ⟨a,b,e⟩ h
  have he:e=0:=(Bk.ReE.wr h).uniq (wide_wr ⟨by decide,by decide⟩)
  rcases h with ⟨h1,h2⟩ | ⟨h1,h2,h3,h4⟩
  · exact absurd he h1
  · exact Prod.ext (h3.uniq wide_tl) (Prod.ext (h4.uniq wide_th) h1)
theorem zdY:zcO.Ends true:=by
  have key:zcO.Out (fun r=>r=true):=by
    unfold zcO
    refine M.o_bind b6_out ?_
    rintro _ rfl
    refine M.o_bind b9_out ?_
    rintro _ rfl
    refine M.o_bind b12_out ?_
    rintro _ rfl
    refine M.o_bind w_passed ?_
    rintro _ rfl
    refine M.o_bind w_told ?_
    rintro ⟨t,_⟩ ⟨ht,rfl⟩
    dsimp only at ht ⊢
    refine M.o_bind w_returns ?_
    rintro _ rfl
    refine M.o_bind w_reaches ?_
    rintro _ rfl
    dsimp only
    rw [ht]
    refine M.o_bind (P:=fun z=>z=110) (M.o_opt (fun _=>⟨_,check_ends _ _ _ _ (by simp) (by simp),wide_0⟩) (fun h=>by revert h; decide)) ?_
    rintro _ rfl
    refine M.o_bind (o_optT (zc5 ..)) ?_
    rintro _ rfl
    refine M.o_bind (o_optT (zbe ..)) ?_
    rintro _ rfl
    refine M.o_bind (o_optT (zaU ..)) ?_
    rintro _ rfl
    refine M.o_bind (o_optT awake_ends) ?_
    rintro _ rfl
    exact M.o_pure (by decide)
  obtain ⟨r,h,rfl⟩:=key
  exact h
end Go.Proofs.YtejefipopolccaaGreat
