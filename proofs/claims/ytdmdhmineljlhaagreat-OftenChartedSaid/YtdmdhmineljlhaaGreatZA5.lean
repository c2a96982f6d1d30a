/- Part 5 of the texts on which the proof rests. Conditions: none. -/
import Derived.Test.YtdmdhmineljlhaaGreatZA4
set_option linter.unusedVariables false
set_option linter.unusedSimpArgs false
set_option linter.unusedSectionVars false
namespace Go.Nm
namespace Ct
/-- Spans of bounded numbers. -/
def BIn (K:Int) (n:Nat) (l:List Span):Prop:=l.length=n/\∀ i,i<n->(-K<=(l.getD i default).lo/\(l.getD i default).lo<=K)/\-K<=(l.getD i default).hi/\(l.getD i default).hi<=K
theorem BIn.mono {K K':Int} {n:Nat} {l:List Span} (h:BIn K n l) (hK:K<=K'):BIn K' n l:=⟨h.1,fun i hi=>by have:=h.2 i hi; omega⟩
theorem BIn.set {K:Int} {n:Nat} {l:List Span} (h:BIn K n l) (k:Nat) {s:Span} (hs:(-K<=s.lo/\s.lo<=K)/\-K<=s.hi/\s.hi<=K):BIn K n (l.set k s):=by
  refine ⟨by rw [List.length_set]; exact h.1,fun i hi=>?_⟩
  by_cases hk:k<l.length
  · rw [gset _ _ _ _ _ hk]
    split
    · exact hs
    · exact h.2 i hi
  · rw [List.set_eq_of_length_le (by omega)]
    exact h.2 i hi
theorem TIn.set {ts:List Int} {l:List Span} (h:TIn ts l) (k:Nat) {s:Span} (hs:k<ts.length->(-100000000<=s.lo/\s.lo<=ts.getD k 0)/\ts.getD k 0<=s.hi/\s.hi<=100000000):TIn ts (l.set k s):=by
  refine ⟨by rw [List.length_set]; exact h.1,fun i hi=>?_⟩
  by_cases hk:k<l.length
  · rw [gset _ _ _ _ _ hk]
    split
    · rename_i e
      subst e
      exact hs hi
    · exact h.2 i hi
  · rw [List.set_eq_of_length_le (by omega)]
    exact h.2 i hi
theorem TIn.b {pl ph base sc off:Int} {ms:List CMk} {nt:List CNt} {ts ss st:List Int} (R:Rt pl ph base sc off ms nt ts ss st) {l:List Span} (h:TIn ts l):BIn 1000000000 ts.length l:=⟨h.1,fun i hi=>by
  have tl:=R.tl
  have:=h.2 i hi
  have:=R.t i (by omega)
  omega⟩
/-- A hull that holds a number. -/
def Ct1 (top s s2:Int) (m:Bool):Prop:=m=true/\s<=top/\top<=s2
end Ct
end Go.Nm
namespace Go.Proofs.YtdmdhmineljlhaaGreat
open Go Go.Nm
theorem common_b (f:Span) (l:List Span) {K:Int} (hf:(-K<=f.lo/\f.lo<=K)/\-K<=f.hi/\f.hi<=K) (hl:∀ s∈l,(-K<=s.lo/\s.lo<=K)/\-K<=s.hi/\s.hi<=K):(zaq f l).Out (fun r=>(-K<=r.1/\r.1<=K)/\-K<=r.2/\r.2<=K):=by
  unfold zaq
  refine M.o_bind (M.o_for l.length (fun i (z:Int × Int × Nat)=>z.2.2=i/\(-K<=z.1/\z.1<=K)/\-K<=z.2.1/\z.2.1<=K) ?_ ?_ ⟨rfl,hf⟩) (fun r h=>M.o_pure h)
  · rintro i ⟨a,b,_⟩ hi ⟨rfl,h⟩
    rename_i i
    dsimp only at hi h
    have:=hl _ (Ct.memD l hi default)
    simp only [zaw]
    exact M.o_t (decide_eq_true (by omega)) (M.o_grd (decide_eq_true (by omega)) (M.o_pure ⟨rfl,⟨by dsimp only; omega,by dsimp only; omega⟩,by dsimp only; omega,by dsimp only; omega⟩))
  · rintro ⟨a,b,_⟩ ⟨rfl,h⟩
    simp only [zaw]
    exact M.o_f (decide_eq_false (by omega)) (M.o_pure h)
theorem narrow_b {K:Int} {n:Nat} {l:List Span} (h:Ct.BIn K n l) {i:Nat} (hi:i<n) {m:Int} (hm:m=(i:Int)) {s:Span} (hs:(-K<=s.lo/\s.lo<=K)/\-K<=s.hi/\s.hi<=K):(zat m s l).Out (fun r=>Ct.BIn K n r):=by
  subst hm
  have hl:=h.1
  unfold zat
  rw [Int.toNat_natCast]
  refine M.o_grd (gA2 (by omega) (by omega)) (M.o_bind (common_b (K:=K) _ _ (h.2 i hi) fun q hq=>?_) fun r hr=>M.o_pure (h.set i hr))
  rw [List.mem_singleton] at hq
  subst hq
  exact hs
theorem every_any (l:List Span) (so:Span->M Bool) (h:∀ t∈l,∃ b,(so t).Ends b):(zax l so).Out (fun _=>True):=by
  unfold zax zbS zbx
  refine M.o_bind (P:=fun _=>True) (M.o_bind (P:=fun _=>True) (M.o_bind (P:=fun _=>True) (M.o_for l.length (fun i (z:Nat)=>z=i) ?_ ?_ rfl) ?_) fun _ _=>M.o_pure trivial) fun _ _=>M.o_pure trivial
  · rintro _ i hi rfl
    simp only [zap]
    obtain ⟨b,hb⟩:=h _ (Ct.memD l hi default)
    refine M.o_t (decide_eq_true (by omega)) (M.o_grd (decide_eq_true (by omega)) (M.o_bindE (a:=!b) ?_ (M.o_if (fun _=>M.o_pure trivial) (fun _=>M.o_pure rfl))))
    unfold zaW
    exact M.i_bind hb M.i_pure
  · rintro _ rfl
    simp only [zap]
    exact M.o_f (decide_eq_false (by omega)) (M.o_pure trivial)
  · rintro (x | x) _
    · exact M.o_pure trivial
    · exact M.o_pure trivial
theorem greatest49_out (l:List Span) (hl:0<l.length):(zbt l).Out (fun r=>(∃ s∈l,r=s.lo)/\∀ s∈l,s.lo<=r):=by
  unfold zbt
  refine M.o_grd (decide_eq_true (by omega)) (M.o_bindE (a:=(l.getD 0 default).lo) M.i_pure (M.o_bind (M.o_for l.length (fun i (z:Int × Nat)=>z.2=i/\(∃ s∈l,z.1=s.lo)/\∀ j,j<i->(l.getD j default).lo<=z.1) (Q:=fun r=>(∃ s∈l,r=s.lo)/\∀ s∈l,s.lo<=r) ?_ ?_ ⟨rfl,⟨_,Ct.memD l hl default,rfl⟩,fun j hj=>by omega⟩) (fun r h=>M.o_pure h)))
  · rintro i ⟨x,q⟩ hi ⟨e,⟨s,hs,h1⟩,h2⟩
    dsimp only at e h1 h2
    subst e
    simp only [za6]
    refine M.o_t (decide_eq_true (by omega)) (M.o_grd (decide_eq_true (by omega)) (M.o_bindE (a:=(l.getD q default).lo) M.i_pure (M.o_pure ⟨rfl,?_,fun j hj=>?_⟩)))
    · dsimp only
      rcases Int.le_total x (l.getD q default).lo with h | h
      · exact ⟨_,Ct.memD l hi default,Int.max_eq_right h⟩
      · exact ⟨s,hs,(Int.max_eq_left h).trans h1⟩
    · dsimp only
      by_cases e:j=q
      · subst e
        exact Int.le_max_right _ _
      · exact Int.le_trans (h2 j (by omega)) (Int.le_max_left _ _)
  · rintro ⟨x,q⟩ ⟨e,h1,h2⟩
    dsimp only at e h1 h2
    simp only [za6]
    refine M.o_f (decide_eq_false (by omega)) (M.o_pure ⟨h1,fun s hs=>?_⟩)
    obtain ⟨j,hj,rfl⟩:=mem_getD hs default
    exact h2 j hj
theorem greatest50_out (l:List Span) (hl:0<l.length):(zbQ l).Out (fun r=>(∃ s∈l,r=s.hi)/\∀ s∈l,s.hi<=r):=by
  unfold zbQ
  refine M.o_grd (decide_eq_true (by omega)) (M.o_bindE (a:=(l.getD 0 default).hi) M.i_pure (M.o_bind (M.o_for l.length (fun i (z:Int × Nat)=>z.2=i/\(∃ s∈l,z.1=s.hi)/\∀ j,j<i->(l.getD j default).hi<=z.1) (Q:=fun r=>(∃ s∈l,r=s.hi)/\∀ s∈l,s.hi<=r) ?_ ?_ ⟨rfl,⟨_,Ct.memD l hl default,rfl⟩,fun j hj=>by omega⟩) (fun r h=>M.o_pure h)))
  · rintro i ⟨x,q⟩ hi ⟨e,⟨s,hs,h1⟩,h2⟩
    dsimp only at e h1 h2
    subst e
    simp only [zbe]
    refine M.o_t (decide_eq_true (by omega)) (M.o_grd (decide_eq_true (by omega)) (M.o_bindE (a:=(l.getD q default).hi) M.i_pure (M.o_pure ⟨rfl,?_,fun j hj=>?_⟩)))
    · dsimp only
      rcases Int.le_total x (l.getD q default).hi with h | h
      · exact ⟨_,Ct.memD l hi default,Int.max_eq_right h⟩
      · exact ⟨s,hs,(Int.max_eq_left h).trans h1⟩
    · dsimp only
      by_cases e:j=q
      · subst e
        exact Int.le_max_right _ _
      · exact Int.le_trans (h2 j (by omega)) (Int.le_max_left _ _)
  · rintro ⟨x,q⟩ ⟨e,h1,h2⟩
    dsimp only at e h1 h2
    simp only [zbe]
    refine M.o_f (decide_eq_false (by omega)) (M.o_pure ⟨h1,fun s hs=>?_⟩)
    obtain ⟨j,hj,rfl⟩:=mem_getD hs default
    exact h2 j hj
section
variable {pl ph base sc off:Int} {ms:List CMk} {nt:List CNt} {ts ss st:List Int}
theorem narrowed_any (R:Ct.Rt pl ph base sc off ms nt ts ss st) {mp:List (Int × CNt)} {sb:List Bool} (hs:Ct.StO st sb) {times:List Span} (hT:Ct.BIn 1000000000 ts.length times) :
    (zak pl ph base sc off ms nt mp sb times).Out (fun _=>True):=by
  have n40:=R.n40
  have n1:=R.n1
  have tl:=R.tl
  have hTl:=hT.1
  unfold zak
  refine M.o_bindE (a:=times) (M.i_grd (decide_eq_true (by omega)) (M.i_grd (decide_eq_true (by simp; omega)) M.i_pure)) (M.o_bindE (a:=()) M.i_pure (M.o_bind (gaps_out R _ _ _ _ _ hs) ?_))
  rintro _ ⟨l,rfl,hl,hG⟩
  dsimp only
  refine M.o_bind (P:=fun r=>Ct.BIn 10000000000 ts.length r.2) (M.o_for (ms.length-1) (fun i (z:List Span × Nat)=>z.2=i/\Ct.BIn (1000000000+200000000*(i:Int)) ts.length z.1) ?_ ?_ ⟨rfl,hT.mono (by omega)⟩) ?_
  · rintro i ⟨l2,_⟩ hi ⟨rfl,h⟩
    rename_i i
    dsimp only at hi h
    have hll:=h.1
    have h1:=h.2 i (by omega)
    have h2:=hG i (by omega)
    have t1:=R.t i (by omega)
    have t2:=R.t (i+1) (by omega)
    simp only [zas]
    refine M.o_t (decide_eq_true (by omega)) (M.o_grd (decide_eq_true (by omega)) (M.o_grd (decide_eq_true (by omega)) (M.o_grd (gA2 (by omega) (by omega)) (M.o_grd (gA2 (by omega) (by omega)) (M.o_bind (narrow_b (h.mono (K':=1000000000+200000000*((i+1:Nat):Int)) (by omega)) (i:=i+1) (by omega) (by omega) ⟨⟨by dsimp only; omega,by dsimp only; omega⟩,by dsimp only; omega,by dsimp only; omega⟩) (fun r hr=>M.o_pure ⟨rfl,hr⟩))))))
  · rintro ⟨l2,_⟩ ⟨rfl,h⟩
    simp only [zas]
    exact M.o_f (decide_eq_false (by omega)) (M.o_pure (h.mono (by omega)))
  rintro ⟨_,l4⟩ h4
  dsimp only at h4 ⊢
  refine M.o_bind (P:=fun r=>True) (M.o_for (ms.length-1) (fun i (z:List Span × Int)=>z.2=(ms.length:Int)-2-i/\Ct.BIn (10000000000+200000000*(i:Int)) ts.length z.1) ?_ ?_ ⟨by dsimp only; omega,h4.mono (by omega)⟩) ?_
  · rintro i ⟨l2,g⟩ hi ⟨e,h⟩
    dsimp only at e h
    have hll:=h.1
    obtain ⟨k,rfl⟩:∃ k:Nat,g=(k:Int):=⟨Int.toNat g,by omega⟩
    have h1:=h.2 (k+1) (by omega)
    have h2:=hG k (by omega)
    have t1:=R.t k (by omega)
    have t2:=R.t (k+1) (by omega)
    simp only [zav]
    rw [show Int.toNat ((k:Int)+1)=k+1 by omega,Int.toNat_natCast]
    refine M.o_t (decide_eq_true (by omega)) (M.o_grd (gA2 (by omega) (by omega)) (M.o_grd (gA2 (by omega) (by omega)) (M.o_grd (gA2 (by omega) (by omega)) (M.o_grd (gA2 (by omega) (by omega)) (M.o_grd (gA2 (by omega) (by omega)) (M.o_bind (narrow_b (h.mono (K':=10000000000+200000000*((i+1:Nat):Int)) (by omega)) (i:=k) (by omega) rfl ⟨⟨by dsimp only; omega,by dsimp only; omega⟩,by dsimp only; omega,by dsimp only; omega⟩) (fun r hr=>M.o_grd (gA2 (by omega) (by omega)) (M.o_pure ⟨by dsimp only; omega,hr⟩))))))))
  · rintro ⟨l2,g⟩ ⟨e,h⟩
    dsimp only at e
    simp only [zav]
    exact M.o_f (decide_eq_false (by omega)) (M.o_pure trivial)
  rintro ⟨_,l7⟩ _
  exact M.o_bind (every_any _ _ fun s _=>⟨_,M.i_pure⟩) fun _ _=>M.o_pure trivial
theorem parted_out (a b c d e:Int) (ms':List CMk) (nt':List CNt) (mp:List (Int × CNt)) {n:Nat} (hn:1<=n/\n<=40) {times:List Span} (hB:Ct.BIn 1000000000 n times) {mark ahead behind:Int} (hm:0<=mark/\mark<=n) (ha:-1000000000<=ahead/\ahead<=1000000000) (hb:-1000000000<=behind/\behind<=1000000000) :
    (zaU a b c d e ms' nt' mp times mark ahead behind).Out (fun l=>Ct.BIn 1000000000 n l/\∀ ts:List Int,ts.length=n->Ct.TIn ts times->(0<mark->ts.getD (Int.toNat (mark-1)) 0<=ahead)->(mark<n->behind<=ts.getD (Int.toNat mark) 0)->Ct.TIn ts l):=by
  have hl:=hB.1
  unfold zaU
  refine M.o_bindE (a:=times) (M.i_grd (decide_eq_true (by omega)) (M.i_grd (decide_eq_true (by simp; omega)) M.i_pure)) ?_
  refine M.o_if (fun h0=>?_) (fun h0=>?_)
  · have h0:=of_decide_eq_true h0
    have b1:=hB.2 (Int.toNat (mark-1)) (by omega)
    have B1:=hB.set (Int.toNat (mark-1)) (s:={ (times.getD (Int.toNat (mark-1)) default) with hi:=min ((times.getD (Int.toNat (mark-1)) default).hi) ahead }) ⟨b1.1,by dsimp only; omega,by dsimp only; omega⟩
    have T1:∀ ts:List Int,ts.length=n->Ct.TIn ts times->ts.getD (Int.toNat (mark-1)) 0<=ahead->Ct.TIn ts (times.set (Int.toNat (mark-1)) { (times.getD (Int.toNat (mark-1)) default) with hi:=min ((times.getD (Int.toNat (mark-1)) default).hi) ahead }):=fun ts e hT h=>hT.set _ fun hk=>by
      have:=hT.2 _ hk
      exact ⟨this.1,by dsimp only; omega,by dsimp only; omega⟩
    generalize times.set (Int.toNat (mark-1)) { (times.getD (Int.toNat (mark-1)) default) with hi:=min ((times.getD (Int.toNat (mark-1)) default).hi) ahead }=l1 at B1 T1 ⊢
    have hl1:=B1.1
    refine M.o_grd (gA2 (by omega) (by omega)) (M.o_grd (gA2 (by omega) (by omega)) (M.o_if (fun h1=>?_) (fun h1=>?_)))
    · have h1:=of_decide_eq_true h1
      have b2:=B1.2 (Int.toNat mark) (by omega)
      refine M.o_grd (gA2 (by omega) (by omega)) (M.o_pure ⟨B1.set _ ⟨⟨by dsimp only; omega,by dsimp only; omega⟩,b2.2⟩,fun ts e hT g1 g2=>(T1 ts e hT (g1 h0)).set _ fun hk=>?_⟩)
      have k1:=(T1 ts e hT (g1 h0)).2 _ hk
      have:=g2 (by omega)
      exact ⟨⟨by dsimp only; omega,by dsimp only; omega⟩,k1.2⟩
    · exact M.o_pure ⟨B1,fun ts e hT g1 g2=>T1 ts e hT (g1 h0)⟩
  · have h0:=of_decide_eq_false h0
    refine M.o_if (fun h1=>?_) (fun h1=>?_)
    · have h1:=of_decide_eq_true h1
      have b2:=hB.2 (Int.toNat mark) (by omega)
      refine M.o_grd (gA2 (by omega) (by omega)) (M.o_pure ⟨hB.set _ ⟨⟨by dsimp only; omega,by dsimp only; omega⟩,b2.2⟩,fun ts e hT g1 g2=>hT.set _ fun hk=>?_⟩)
      have k1:=hT.2 _ hk
      have:=g2 (by omega)
      exact ⟨⟨by dsimp only; omega,by dsimp only; omega⟩,k1.2⟩
    · exact M.o_pure ⟨hB,fun ts e hT g1 g2=>hT⟩
theorem dwithin_out (R:Ct.Rt pl ph base sc off ms nt ts ss st) (mp:List (Int × CNt)) {times:List Span} (hT:Ct.TIn ts times) {a:Nat} {b:Int} (ha:a<ms.length) (hb:(a:Int)<=b/\b<ms.length) :
    (zbK pl ph base sc off ms nt mp times (a:Int) b (-100000000) 100000000).Out (fun l=>Ct.BIn 1000000000 ts.length l/\(a=0->b+1=(ms.length:Int)->Ct.TIn ts l)):=by
  have n40:=R.n40
  have n1:=R.n1
  have tl:=R.tl
  unfold zbK
  refine M.o_grd (by decide) (M.o_bind (parted_out (n:=ts.length) _ _ _ _ _ _ _ _ ⟨by omega,by omega⟩ (hT.b R) ⟨by omega,by omega⟩ ⟨by omega,by omega⟩ ⟨by omega,by omega⟩) fun l1 h1=>?_)
  refine M.o_grd (gA2 (by omega) (by omega)) (M.o_grd (by decide) (M.o_bind (parted_out (n:=ts.length) _ _ _ _ _ _ _ _ ⟨by omega,by omega⟩ h1.1 ⟨by omega,by omega⟩ ⟨by omega,by omega⟩ ⟨by omega,by omega⟩) fun l2 h2=>M.o_pure ⟨h2.1,fun e1 e2=>?_⟩))
  refine h2.2 ts rfl (h1.2 ts rfl hT (fun h=>by omega) (fun h=>?_)) (fun h=>?_) (fun h=>by omega)
  · have:=R.t (Int.toNat (a:Int)) (by omega)
    omega
  · have:=R.t (Int.toNat (b+1-1)) (by omega)
    omega
/-- The greatest stage of all lies in what is returned. -/
theorem peak_out (R:Ct.Rt pl ph base sc off ms nt ts ss st) {top:Int} (h1:∃ i,i<ms.length/\ss.getD i 0=top) (h2:∀ i,i<ms.length->ss.getD i 0<=top) :
    (zbs pl ph base sc off ms nt st (-100000000) 100000000).Out (fun r=>(-3000000<=r.1/\r.1<=top)/\(top<=r.2.1/\r.2.1<=3000000)/\r.2.2=0):=by
  have n40:=R.n40
  have n1:=R.n1
  have tl:=R.tl
  have sl:=R.sl
  unfold zbs
  refine M.o_bind (read_out R) ?_
  rintro _ ⟨mp,sb,l1,l2,hmp,hsb,hT,hS,rfl⟩
  have hl1:=hT.1
  have hl2:=hS.1
  refine M.o_f rfl (M.o_f (by decide) (M.o_bind (P:=fun r=>(-3000000<=r.1/\r.2.1<=3000000)/\Ct.Ct1 top r.1 r.2.1 r.2.2) (M.o_for ms.length (fun a (z:Int × Int × Bool × Nat)=>z.2.2.2=a/\(-3000000<=z.1/\z.2.1<=3000000)/\(0<a->Ct.Ct1 top z.1 z.2.1 z.2.2.1)) ?_ ?_ ⟨rfl,by dsimp only; omega,fun h=>by omega⟩) ?_))
  · rintro a ⟨x,y,met,_⟩ ha ⟨rfl,hb,hc⟩
    rename_i a
    dsimp only at ha hb hc
    simp only [zbj]
    refine M.o_t (decide_eq_true (by omega)) (M.o_bind (P:=fun r=>(-3000000<=r.1/\r.2.1<=3000000)/\Ct.Ct1 top r.1 r.2.1 r.2.2) (M.o_for (ms.length-a) (fun i (z:Int × Int × Bool × Int)=>z.2.2.2=(a:Int)+(i:Int)/\(-3000000<=z.1/\z.2.1<=3000000)/\(0<a∨ms.length<=a+i->Ct.Ct1 top z.1 z.2.1 z.2.2.1)) ?_ ?_ ⟨by dsimp only; omega,hb,fun h=>hc (by omega)⟩) ?_)
    · rintro i ⟨x,y,met,b⟩ hi ⟨e,hb,hc⟩
      dsimp only at e hb hc
      subst e
      simp only [zaR]
      rw [show max (-100000000:Int) (-100000001) = -100000000 from by decide,show min (100000000:Int) 100000001=100000000 from by decide]
      refine M.o_t (by rw [decide_eq_true (by omega)]; decide) (M.o_bind (dwithin_out R mp hT ha ⟨by omega,by omega⟩) fun l3 h3=>?_)
      have hnar:(zak pl ph base sc off ms nt mp sb l3).Out (fun r=>a=0->ms.length<=a+(i+1)->r.2=true):=by
        by_cases hc:a=0/\ms.length<=a+(i+1)
        · exact M.o_mono (narrowed_out R hsb (h3.2 hc.1 (by omega))) fun r hr _ _=>hr.2
        · exact M.o_mono (narrowed_any R hsb h3.1) fun r _ g1 g2=>absurd ⟨g1,g2⟩ hc
      refine M.o_bind hnar ?_
      rintro ⟨l4,ok⟩ hok
      dsimp only at hok ⊢
      refine M.o_if (fun hk=>?_) (fun hk=>?_)
      · have hw:∀ s∈((l2.take (Int.toNat ((a:Int)+(i:Int)+1))).drop a),∃ j,j<ss.length/\s=l2.getD j default:=fun s hs=>by
          obtain ⟨j,hj,rfl⟩:=mem_getD (List.mem_of_mem_take (List.mem_of_mem_drop hs)) default
          exact ⟨j,by omega,rfl⟩
        have hwl:0<((l2.take (Int.toNat ((a:Int)+(i:Int)+1))).drop a).length:=by rw [List.length_drop,List.length_take]; omega
        refine M.o_grd (gA2 (by omega) (by omega)) (M.o_grd (gA3 (by omega) (by omega) (by omega)) (M.o_bindE (a:=()) M.i_pure (M.o_bind (greatest49_out _ hwl) ?_)))
        rintro r5 ⟨⟨s5,hs5,rfl⟩,hm5⟩
        refine M.o_bindE (a:=()) M.i_pure (M.o_bind (greatest50_out _ hwl) ?_)
        rintro r6 ⟨⟨s6,hs6,rfl⟩,hm6⟩
        obtain ⟨j5,k5,rfl⟩:=hw _ hs5
        obtain ⟨j6,k6,rfl⟩:=hw _ hs6
        have v5:=hS.2 j5 k5
        have v6:=hS.2 j6 k6
        have w5:=h2 j5 (by omega)
        have hit:a=0->ms.length<=a+(i+1)->top<=(l2.getD j6 default).hi:=fun g1 g2=>by
          obtain ⟨q,hq,rfl⟩:=h1
          have m1:l2.getD q default∈((l2.take (Int.toNat ((a:Int)+(i:Int)+1))).drop a):=by
            rw [g1,List.drop_zero,List.take_of_length_le (by omega)]
            exact Ct.memD l2 (by omega) default
          have:=hm6 _ m1
          have:=hS.2 q (by omega)
          omega
        unfold zcp
        cases met with
        | true =>
          refine M.o_bindE (a:=(_,_,_)) M.i_pure (M.o_grd (gA2 (by omega) (by omega)) (M.o_pure ⟨by dsimp only; omega,⟨by dsimp only; omega,by dsimp only; omega⟩,fun h=>⟨rfl,?_⟩⟩))
          dsimp only
          by_cases g:0<a∨ms.length<=a+i
          · obtain ⟨_,c1,c2⟩:=hc g
            omega
          · have:=hit (by omega) (by omega)
            omega
        | false =>
          refine M.o_bindE (a:=(_,_,_)) M.i_pure (M.o_grd (gA2 (by omega) (by omega)) (M.o_pure ⟨by dsimp only; omega,⟨by dsimp only; omega,by dsimp only; omega⟩,fun h=>⟨rfl,?_⟩⟩))
          dsimp only
          by_cases g:0<a∨ms.length<=a+i
          · obtain ⟨c0,_⟩:=hc g
            cases c0
          · have:=hit (by omega) (by omega)
            omega
      · refine M.o_grd (gA2 (by omega) (by omega)) (M.o_pure ⟨by dsimp only; omega,hb,fun h=>hc ?_⟩)
        by_cases g:0<a
        · exact .inl g
        · have:=hok (by omega) (by omega)
          rw [this] at hk
          cases hk
    · rintro ⟨x,y,met,b⟩ ⟨e,hb,hc⟩
      dsimp only at e hb hc
      simp only [zaR]
      exact M.o_f (by rw [decide_eq_false (by omega)]; rfl) (M.o_pure ⟨hb,hc (.inr (by omega))⟩)
    · rintro ⟨x,y,met⟩ ⟨hb,hc⟩
      exact M.o_pure ⟨rfl,hb,fun _=>hc⟩
  · rintro ⟨x,y,met,_⟩ ⟨rfl,hb,hc⟩
    simp only [zbj]
    exact M.o_f (decide_eq_false (by omega)) (M.o_pure ⟨hb,hc (by omega)⟩)
  · rintro ⟨x,y,_⟩ ⟨hb,rfl,hc⟩
    exact M.o_bindE (a:=(x,y,0)) M.i_pure (M.o_pure ⟨⟨hb.1,hc.1⟩,⟨hc.2,hb.2⟩,rfl⟩)
end
end Go.Proofs.YtdmdhmineljlhaaGreat
namespace Go.Nm
namespace Bk
/-- Years that are recorded by charts, with what they really reached. -/
structure Yo (k0:Nat) (s:Nat) (t:List Int) (ys:List Yr):Prop where
  e1:t.length=k0+s
  e2:ys.length=s
  all:∀ i,i<t.length->0<=t.getD i 0/\t.getD i 0<=2000
  y:∀ r∈ys,(1900<=r.year/\r.year<1900+(t.length:Int))/\(0<=r.lo/\r.lo<=t.getD (Int.toNat (r.year-1900)) 0)/\t.getD (Int.toNat (r.year-1900)) 0<=r.hi/\r.hi<=2000
  up:ys.Pairwise fun a b=>a.year<b.year
theorem Yo.step {k0 s:Nat} {t:List Int} {ys:List Yr} (h:Yo k0 s t ys) {x lo hi:Int} (h0:0<=lo/\lo<=x) (h1:x<=hi/\hi<=2000):Yo k0 (s+1) (t++[x]) (ys++[⟨1900+(t.length:Int),lo,hi⟩]):=by
  have e1:=h.e1
  refine ⟨by simp [e1]; omega,by simp [h.e2],fun i hi=>?_,fun r hr=>?_,?_⟩
  · rw [List.length_append,List.length_singleton] at hi
    by_cases c:i<t.length
    · rw [Ct.apL c]
      exact h.all i c
    · rw [Ct.apE (by omega)]
      omega
  · rw [List.length_append,List.length_singleton]
    rcases List.mem_append.1 hr with hr | hr
    · have:=h.y r hr
      rw [Ct.apL (by omega)]
      omega
    · rw [List.mem_singleton] at hr
      subst hr
      dsimp only
      rw [Ct.apE (by omega)]
      omega
  · rw [List.pairwise_append]
    refine ⟨h.up,List.pairwise_singleton _ _,fun a ha b hb=>?_⟩
    rw [List.mem_singleton] at hb
    subst hb
    exact (h.y a ha).1.2
theorem Yo.tr {k0 s:Nat} {t:List Int} {ys:List Yr} (h:Yo k0 s t ys) (h1:1<=t.length/\t.length<=20):Tr ys [] 1900 (1900+(t.length:Int)-1) t:=by
  have e1:=h.e1
  have e2:=h.e2
  have hy:=h.y
  refine ⟨⟨by omega,by omega,by omega,by omega,by omega,by simp,fun o ho=>(by cases ho),⟨fun r hr=>by have:=hy r hr; omega,h.up⟩,⟨fun o ho=>(by cases ho)⟩,fun o ho=>(by cases ho)⟩,by omega,h.all,fun i hi=>?_⟩
  have ha:=h.all i hi
  have hk:kn ys [] (1900+(i:Int))=(match ys.find? (fun r=>r.year==1900+(i:Int)) with
    | some r=>(⟨r.lo,r.hi⟩:Span)
    | none=>⟨0,2000⟩):=rfl
  rw [hk]
  split
  · rename_i r hr
    have hm:=List.mem_of_find?_eq_some hr
    have he:=List.find?_some hr
    have he:r.year=1900+(i:Int):=by simpa using he
    have:=hy r hm
    rw [he,show Int.toNat (1900+(i:Int)-1900)=i by omega] at this
    exact ⟨this.2.1.2,this.2.2.1⟩
  · exact ha
end Bk
end Go.Nm
namespace Go.Proofs.YtdmdhmineljlhaaGreat
open Go Go.Nm
theorem oc_b0 {k:Nat} (hk:k<5):(M.iter zaA ((k:Int),[])).Out (fun y=>y.2=y.1/\y.1.length=k/\∀ i,i<k->0<=y.1.getD i 0/\y.1.getD i 0<=2000):=by
  refine M.o_for k (fun i (z:Int × List Int)=>z.1=(k:Int)-(i:Int)/\z.2.length=i/\∀ j,j<i->0<=z.2.getD j 0/\z.2.getD j 0<=2000) ?_ ?_ ⟨by dsimp only; omega,rfl,fun j hj=>by omega⟩
  · rintro i ⟨n,l⟩ hi ⟨e,hl,h⟩
    dsimp only at e hl h
    subst e
    simp only [zaA]
    refine M.o_t (decide_eq_true (by omega)) (M.o_grd (gA2 (by omega) (by omega)) (M.o_grd (decide_eq_true (by simp; omega)) (M.o_grd (gA2 (by omega) (by omega)) (M.o_pure ⟨by dsimp only; omega,by simp [hl],fun j hj=>?_⟩))))
    dsimp only
    by_cases c:j<i
    · rw [Ct.apL (by omega)]
      exact h j c
    · rw [Ct.apE (by omega)]
      omega
  · rintro ⟨n,l⟩ ⟨e,hl,h⟩
    dsimp only at e hl h
    simp only [zaA]
    exact M.o_f (decide_eq_false (by omega)) (M.o_pure ⟨rfl,hl,h⟩)
theorem oc_b3 (ss:List Int) (h0:0<ss.length):(M.iter (zaH ss) (ss.getD 0 0,0)).Out (fun r=>(∃ i,i<ss.length/\ss.getD i 0=r)/\∀ i,i<ss.length->ss.getD i 0<=r):=by
  refine M.o_for ss.length (fun i (z:Int × Nat)=>z.2=i/\(∃ i,i<ss.length/\ss.getD i 0=z.1)/\∀ j,j<i->ss.getD j 0<=z.1) ?_ ?_ ⟨rfl,⟨0,h0,rfl⟩,fun j hj=>by omega⟩
  · rintro i ⟨x,q⟩ hi ⟨e,⟨k,hk,h1⟩,h2⟩
    dsimp only at e h1 h2
    subst e
    simp only [zaH]
    refine M.o_t (decide_eq_true (by omega)) (M.o_grd (decide_eq_true (by omega)) (M.o_pure ⟨rfl,?_,fun j hj=>?_⟩))
    · dsimp only
      rcases Int.le_total x (ss.getD q 0) with h | h
      · exact ⟨q,hi,(Int.max_eq_right h).symm⟩
      · exact ⟨k,hk,h1.trans (Int.max_eq_left h).symm⟩
    · dsimp only
      by_cases e:j=q
      · subst e
        exact Int.le_max_right _ _
      · exact Int.le_trans (h2 j (by omega)) (Int.le_max_left _ _)
  · rintro ⟨x,q⟩ ⟨e,h1,h2⟩
    dsimp only at e h1 h2
    simp only [zaH]
    exact M.o_f (decide_eq_false (by omega)) (M.o_pure ⟨h1,h2⟩)
theorem oc_b4 (a b c:List UInt8) {k0:Nat} (hk:k0<5) {l:List Int} (hl:l.length=k0) (h:∀ i,i<k0->0<=l.getD i 0/\l.getD i 0<=2000) :
    (M.iter (zaI a b c) (l,0,[])).Out (fun y=>∃ t ys,y = .inr (ys,t,ys,t)/\Bk.Yo k0 3 t ys):=by
  refine M.o_for 3 (fun i (z:List Int × Nat × List Yr)=>z.2.1=i/\Bk.Yo k0 i z.1 z.2.2) ?_ ?_ ⟨rfl,by dsimp only; omega,rfl,fun i hi=>h i (by dsimp only at hi; omega),fun r hr=>(by cases hr),List.Pairwise.nil⟩
  · rintro i ⟨t,q,ys⟩ hi ⟨e,hY⟩
    dsimp only at e hY
    subst e
    have e1:=hY.e1
    have e2:=hY.e2
    have h3:([a,b,c].length:Int)=3:=rfl
    simp only [zaI]
    refine M.o_t (decide_eq_true (by omega)) (M.o_grd (decide_eq_true (by omega)) (M.o_bindE (a:=(0,0)) M.i_pure (M.o_bind (made02_out ⟨by omega,by omega⟩ SOk.zero) ?_)))
    rintro ⟨pl,ph,base,sc,off,ms,nt,ts,ss,st,y1,y2⟩ ⟨R,hbase,hss⟩
    dsimp only at R hbase hss ⊢
    have n1:=R.n1
    have sl:=R.sl
    obtain ⟨top,htop,hmax,hmx⟩:=oc_b3 ss (by omega)
    refine M.o_bind (peak_out R (top:=top) ?_ ?_) ?_
    · obtain ⟨i,hi,e⟩:=hmax
      exact ⟨i,by omega,e⟩
    · exact fun i hi=>hmx i (by omega)
    rintro ⟨slo,shi,_⟩ ⟨⟨g1,g2⟩,⟨g3,g4⟩,rfl⟩
    dsimp only at g1 g2 g3 g4 ⊢
    have g5:-2000<=top/\top<=2000:=by
      obtain ⟨i,hi,e⟩:=hmax
      have:=hss i (by omega)
      omega
    refine M.o_f (by rw [show ((ss.length:Int)==0)=false from beq_eq_false_iff_ne.2 (by omega)]; rfl) (M.o_grd (decide_eq_true (by omega)) (M.o_bindE htop (M.o_f (by rw [decide_eq_false (by omega),decide_eq_false (by omega)]; rfl) ?_)))
    refine M.o_grd (gA2 (by omega) (by omega)) (M.o_grd (gA3 (by omega) (by omega) (by omega)) (M.o_grd (gA2 (by omega) (by omega)) (M.o_grd (gA3 (by omega) (by omega) (by omega)) (M.o_grd (decide_eq_true (by simp; omega)) (M.o_grd (gA3 (by omega) (by omega) (by omega)) (M.o_grd (decide_eq_true (by simp; omega)) (M.o_pure ⟨rfl,hY.step ⟨by omega,by omega⟩ ⟨by omega,by omega⟩⟩)))))))
  · rintro ⟨t,q,ys⟩ ⟨e,hY⟩
    dsimp only at e hY
    subst e
    simp only [zaI]
    exact M.o_f (decide_eq_false (by simp)) (M.o_pure ⟨t,ys,rfl,hY⟩)
theorem zdV (a b c:List UInt8) (d e:Int):(zcA a b c d e).Ends true:=by
  refine M.Out.ends ?_
  unfold zcA
  refine M.o_bind (pick_num (by omega)) fun k hk=>?_
  obtain ⟨k,rfl⟩:∃ n:Nat,k=(n:Int):=⟨Int.toNat k,by omega⟩
  refine M.o_bind (oc_b0 (k:=k) (by omega)) ?_
  rintro ⟨l,l'⟩ ⟨e0,hl,h⟩
  dsimp only at e0 hl h ⊢
  subst e0
  refine M.o_bind (oc_b4 a b c (by omega) hl h) ?_
  rintro _ ⟨t,ys,rfl,hY⟩
  have e1:=hY.e1
  have T:=hY.tr ⟨by omega,by omega⟩
  refine M.o_grd (gA2 (by omega) (by omega)) (M.o_bind (pick_num (by omega)) fun st hst=>?_)
  have hI:Bk.In 1900 (1900+(t.length:Int)-1) 1900 (1900+(t.length:Int)-1):=⟨Int.le_refl _,by omega,Int.le_refl _⟩
  refine M.o_bindE (tr_holds T) (M.o_bindE (tr_passed T hI ⟨by omega,by omega⟩) (M.o_bindE (counted_ends ys [] st (Int.le_refl _) (by omega) (Int.le_refl _) (by omega) (by omega) T.len) ?_))
  have c1:=T.lo_ct hI st
  have c2:=T.ct_hi hI st
  have d1:Bk.many (Bk.lop st) ys [] 1900 (1900+(t.length:Int)-1)<=((Bk.ct t 1900 1900 (Int.toNat (1900+(t.length:Int)-1+1-1900)) st:Nat):Int):=by
    rw [Bk.many_lo]
    unfold Bk.ct
    exact Int.ofNat_le.2 c1
  have d2:((Bk.ct t 1900 1900 (Int.toNat (1900+(t.length:Int)-1+1-1900)) st:Nat):Int)<=Bk.many (Bk.hip st) ys [] 1900 (1900+(t.length:Int)-1):=by
    rw [Bk.many_hi]
    unfold Bk.ct
    exact Int.ofNat_le.2 c2
  dsimp only
  rw [decide_eq_true d1,decide_eq_true d2]
  exact M.o_bind (P:=fun z=>z=true) (M.o_opt (fun _=>⟨true,awake_ends,rfl⟩) (fun h=>by cases h)) (fun z hz=>by subst hz; exact M.o_pure rfl)
end Go.Proofs.YtdmdhmineljlhaaGreat
