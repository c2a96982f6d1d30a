/- Part 4 of the texts on which the proof rests. Conditions: none. -/
import Derived.Test.YtlfkkkbhejeplaaGreatProg
import Derived.Shelf.SlIterI.Nil
import Derived.Shelf.SortM.Plain
import Derived.Shelf.SortM.SortNone
import Derived.Test.YtlfkkkbhejeplaaGreatZA3
set_option linter.unusedVariables false
set_option linter.unusedSimpArgs false
set_option linter.unusedSectionVars false
namespace Go.Nm
namespace Sr
structure ROk (S:Nat) (rs:List Rgt):Prop where
  s1:1<=S
  s2:S<=12
  n1:1<=rs.length
  n2:rs.length<=30
  st:∀ i,i<rs.length->0<=(rs.getD i default).state/\(rs.getD i default).state<S
  am:∀ i,i<rs.length->0<=(rs.getD i default).amount/\(rs.getD i default).amount<=1000000
  ls:∀ i,i<rs.length->0<=(rs.getD i default).loss/\(rs.getD i default).loss<=1000
/-- What is left of a flow. -/
def rem (rs:List Rgt) (f:Int):Nat->Int
  | 0=>f
  | k+1=>rem rs f k-min (rs.getD k default).amount (rem rs f k)
def one (rs:List Rgt) (f:Int) (k:Nat):Int:=(min (rs.getD k default).amount (rem rs f k))*(1000-(rs.getD k default).loss) / 1000
/-- What a state gets. -/
def got (rs:List Rgt) (f:Int) (s:Nat):Nat->Int
  | 0=>0
  | k+1=>got rs f s k+if (rs.getD k default).state=s then one rs f k else 0
variable {S:Nat} {rs:List Rgt} {f f':Int}
theorem rem_bd (h:ROk S rs) (h0:0<=f):∀ k,k<=rs.length->0<=rem rs f k/\rem rs f k<=f
  | 0,_=>⟨h0,Int.le_refl _⟩
  | k+1,hk=>by
    have ih:=rem_bd h h0 k (by omega);have a:=h.am k (by omega);simp only [rem];omega
theorem one_bd (h:ROk S rs) (h0:0<=f) {k:Nat} (hk:k<rs.length):0<=one rs f k/\one rs f k<=min (rs.getD k default).amount (rem rs f k):=by
  have a:=h.am k hk;have l:=h.ls k hk;have r:=rem_bd h h0 k (by omega);have m0:0<=min (rs.getD k default).amount (rem rs f k):=by omega
  unfold one;refine ⟨Int.ediv_nonneg (Int.mul_nonneg m0 (by omega)) (by omega),Int.ediv_le_of_le_mul (by omega) (Int.mul_le_mul_of_nonneg_left (by omega) m0)⟩
theorem rem_mono (h:ROk S rs) (hf:f<=f'):∀ k,k<=rs.length->rem rs f k<=rem rs f' k
  | 0,_=>hf
  | k+1,hk=>by
    have ih:=rem_mono h hf k (by omega);simp only [rem];omega
theorem one_mono (h:ROk S rs) (h0:0<=f) (hf:f<=f') {k:Nat} (hk:k<rs.length):one rs f k<=one rs f' k:=by
  have l:=h.ls k hk;have r:=rem_mono h hf k (by omega);unfold one;exact Int.ediv_le_ediv (by omega) (Int.mul_le_mul_of_nonneg_right (by omega) (by omega))
theorem got_mono (h:ROk S rs) (h0:0<=f) (hf:f<=f') (s:Nat):∀ k,k<=rs.length->got rs f s k<=got rs f' s k
  | 0,_=>Int.le_refl _
  | k+1,hk=>by
    have ih:=got_mono h h0 hf s k (by omega);have:=one_mono h h0 hf (k:=k) (by omega);simp only [got];split <;> omega
theorem got_bd (h:ROk S rs) (h0:0<=f) (s:Nat):∀ k,k<=rs.length->0<=got rs f s k/\got rs f s k<=1000000*k
  | 0,_=>by simp [got]
  | k+1,hk=>by
    have ih:=got_bd h h0 s k (by omega);have:=one_bd h h0 (k:=k) (by omega);have a:=h.am k (by omega);simp only [got];split <;> omega
/-- All together get no more than is gone. -/
theorem got_sum (h:ROk S rs) (h0:0<=f):∀ k,k<=rs.length->Bl.Zs (fun s=>got rs f s k) S<=f-rem rs f k
  | 0,_=>by
    have:=Bl.Zs.ext (f:=fun s=>got rs f s 0) (g:=fun _=>0) (n:=S) fun _ _=>rfl;have e:∀ m:Nat,Bl.Zs (fun _=>(0:Int)) m=0:=fun m=>by
      induction m with
      | zero=>rfl
      | succ m ih=>simp [Bl.Zs,ih]
    rw [this,e];simp [rem]
  | k+1,hk=>by
    have ih:=got_sum h h0 k (by omega);have st:=h.st k (by omega);have o:=one_bd h h0 (k:=k) (by omega);obtain ⟨t,ht⟩:∃ t:Nat,(rs.getD k default).state=(t:Int):=⟨(rs.getD k default).state.toNat,by omega⟩
    have:=Bl.Zs.upd (f:=fun s=>got rs f s k) (g:=fun s=>got rs f s (k+1)) (n:=S) (k:=t) (by omega) fun j _ hj=>by
      simp only [got];rw [if_neg (by omega)];omega
    rw [this];simp only [got,rem];rw [if_pos ht];omega
end Sr
end Go.Nm
namespace Go.Proofs.YtlfkkkbhejeplaaGreat
open Go Go.Nm
variable {S:Nat} {rs:List Rgt} {f:Int}
theorem getD_setJ {l:List Int} {x:Int} {i k:Nat} (hi:i<l.length):(l.set i x).getD k 0=if k=i then x else l.getD k 0:=by
  simp only [List.getD_eq_getElem?_getD,List.getElem?_set];by_cases e:i=k
  · subst e; simp [hi]
  · rw [if_neg e,if_neg (fun h=>e h.symm)]
theorem serve_out (h:Sr.ROk S rs) (h0:0<=f) (h1:f<=1000000000):(m_share_serve (S:Int) rs f).Out (fun r=>r.length=S/\∀ s:Nat,s<S->r.getD s 0=Sr.got rs f s rs.length):=by
  have s1:=h.s1;have s2:=h.s2;have n2:=h.n2;unfold m_share_serve;refine M.o_bindE (a:=f) M.i_pure (M.o_bind (P:=fun y=>∃ s,y.1 = .inl s/\s.length=12/\∀ j:Nat,j<12->s.getD j 0=Sr.got rs f j rs.length) ?_ ?_)
  · unfold m_share_office_taken_1;refine M.o_bind (M.o_for (Q:=fun x=>match x with | .inl _=>False | .inr y=>∃ s,y.1 = .inl s/\s.length=12/\∀ j:Nat,j<12->s.getD j 0=Sr.got rs f j rs.length) rs.length (fun i (t:Int × Nat × (List Int ⊕ Unit))=>t.2.1=i/\t.1=Sr.rem rs f i/\∃ s,t.2.2 = .inl s/\s.length=12/\∀ j:Nat,j<12->s.getD j 0=Sr.got rs f j i) ?_ ?_ ⟨rfl,rfl,_,rfl,List.length_replicate,fun j hj=>?_⟩) ?_
    · rintro _ ⟨fl,k,t⟩ hk ⟨rfl,e,s,e2,hs,hj⟩;dsimp only at hk e e2 hs hj;subst e e2;simp only [m_share_office_taken_1_b0];have r:=Sr.rem_bd h h0 k (by omega);have am:=h.am k hk;have st:=h.st k hk;have ls:=h.ls k hk;have o:=Sr.one_bd h h0 hk;obtain ⟨t,ht⟩:∃ t:Nat,(rs.getD k default).state=(t:Int):=⟨(rs.getD k default).state.toNat,by omega⟩
      have gb:=Sr.got_bd h h0 t k (by omega);have hjt:=hj t (by omega);refine M.o_t (decide_eq_true (by omega)) (M.o_grdD (by omega) (M.o_grd (gA2 (by omega) (by omega)) (M.o_bind (P:=fun y=>∃ s',y=(true,.inl s')/\s'.length=12/\∀ j:Nat,j<12->s'.getD j 0=Sr.got rs f j (k+1)) ?_ ?_)))
      · have mb:0<=min (rs.getD k default).amount (Sr.rem rs f k)*(1000-(rs.getD k default).loss)/\min (rs.getD k default).amount (Sr.rem rs f k)*(1000-(rs.getD k default).loss)<=1000000*1000:=by
          have q0:0<=min (rs.getD k default).amount (Sr.rem rs f k):=by omega
          refine ⟨Int.mul_nonneg q0 (by omega),Int.le_trans (Int.mul_le_mul_of_nonneg_right (show min (rs.getD k default).amount (Sr.rem rs f k)<=1000000 by omega) (by omega)) (Int.mul_le_mul_of_nonneg_left (by omega) (by omega))⟩
        have eo:min (rs.getD k default).amount (Sr.rem rs f k)*(1000-(rs.getD k default).loss) / 1000=Sr.one rs f k:=rfl;refine M.o_bind (P:=fun y=>∃ s',y = .inl s'/\s'.length=12/\∀ j:Nat,j<12->s'.getD j 0=Sr.got rs f j (k+1)) ?_ ?_
        · simp only [m_share_serve_b0];rw [eo,ht,Int.toNat_natCast];refine M.o_grd (gA2 (by omega) (by omega)) (M.o_grd (gA2 (by omega) (by omega)) (M.o_grd (gA2 (by omega) (by omega)) (M.o_grd (by rw [decide_eq_true (by omega),decide_eq_true (by omega),decide_eq_true (by omega)]; rfl) (M.o_grd (gA2 (by omega) (by omega)) (M.o_pure ⟨_,rfl,by simp [hs],fun j hj'=>?_⟩)))));rw [getD_setJ (by omega)];simp only [Sr.got];rw [ht];by_cases c:j=t
          · subst c; rw [if_pos rfl,if_pos rfl,hjt]
          · rw [if_neg c,if_neg (by omega),hj j hj',Int.add_zero]
        · rintro _ ⟨s',rfl,h'⟩;exact M.o_pure ⟨s',rfl,h'⟩
      · rintro _ ⟨s',rfl,h'⟩;exact M.o_f rfl (M.o_pure ⟨rfl,rfl,s',rfl,h'⟩)
    · rintro ⟨fl,k,t⟩ ⟨e0,e,s,e2,hs,hj⟩;dsimp only at e0 e e2 hs hj;subst e0 e e2;simp only [m_share_office_taken_1_b0];exact M.o_f (decide_eq_false (by omega)) (M.o_pure ⟨s,rfl,hs,hj⟩)
    · rw [List.getD_eq_getElem?_getD,List.getElem?_replicate,if_pos hj];rfl
    · rintro (y | ⟨y1,y2⟩) hy
      · exact hy.elim
      · exact M.o_pure hy
  · rintro ⟨y1,q0⟩ ⟨s,e,hs,hj⟩;dsimp only at e;subst e;dsimp only;rw [Int.toNat_natCast];refine M.o_grd (gA2 (by omega) (by omega)) (M.o_grdD (by rw [List.length_take]; omega) (M.o_pure ⟨by rw [List.length_take]; omega,fun j hj'=>?_⟩));rw [takeG hj'];exact hj j (by omega)
end Go.Proofs.YtlfkkkbhejeplaaGreat
namespace Go.Nm
theorem getD_app1 {α:Type} {l:List α} {x d:α} {k:Nat}:(l++[x]).getD k d=if k<l.length then l.getD k d else if k=l.length then x else d:=by
  simp only [List.getD_eq_getElem?_getD];by_cases h:k<l.length
  · rw [if_pos h,List.getElem?_append_left h]
  · rw [if_neg h,List.getElem?_append_right (by omega)];by_cases e:k=l.length
    · subst e; simp
    · rw [if_neg e,List.getElem?_eq_none (by simp; omega)]; rfl
/-- Days that are made, so far. -/
structure M7 (r2 r3:Int) (i:Nat) (s2 s3 flow:Int) (s4:Nat) (l:List DVal) (x:List Int):Prop where
  at_:s4=i
  so:SOk (4+4*i) s2 s3
  f:0<=flow/\flow<=400+39*i
  ln:l.length=i
  lx:x.length=i
  v:∀ k,k<i->(l.getD k default).known=true->(0<=(l.getD k default).lo/\(l.getD k default).lo<=x.getD k 0)/\x.getD k 0<=(l.getD k default).hi/\(l.getD k default).hi<=1000000
  t:∀ k,k<i->0<=x.getD k 0/\x.getD k 0<=2000
  up:∀ k,k+1<i->x.getD (k+1) 0<=x.getD k 0+r2
  dn:∀ k,k+1<i->x.getD k 0-r3<=x.getD (k+1) 0
  lu:∀ k,k+1=i->flow<=x.getD k 0+r2
  ld:∀ k,k+1=i->x.getD k 0-r3<=flow
end Go.Nm
namespace Go.Proofs.YtlfkkkbhejeplaaGreat
open Go Go.Nm
theorem spanned_out {b:List UInt8} {c u x flow:Int} (h:SOk c u x) (hc:c<=1000000) (h0:0<=flow) (h1:flow<=2000):(za3 b u x flow).Out (fun y=>(y.1=true->(0<=y.2.1/\y.2.1<=flow)/\flow<=y.2.2.1/\y.2.2.1<=1000000)/\SOk (c+3) y.2.2.2.1 y.2.2.2.2):=by
  unfold za3;refine M.o_bind (next_out h (by omega) (by omega)) ?_;rintro ⟨a,u1,x1⟩ ⟨k1,l1,_⟩;dsimp only at k1 l1;refine M.o_if (fun hb=>?_) (fun hb=>?_)
  · refine M.o_bind (next_out k1 (by omega) (by omega)) ?_;rintro ⟨a2,u2,x2⟩ ⟨k2,l2,_⟩;dsimp only at k2 l2;refine M.o_bind (within_out k2 (by omega) (by omega) (by omega) (by omega)) ?_;rintro ⟨a3,u3,x3⟩ ⟨k3,_,_⟩;dsimp only at k3;exact M.o_bindE (a:=(a2,a3)) M.i_pure (M.o_pure ⟨fun h=>(by cases h),k3.mono (by omega)⟩)
  · refine M.o_bind (next_out k1 (by omega) (by omega)) ?_;rintro ⟨a2,u2,x2⟩ ⟨k2,l2,_⟩;dsimp only at k2 l2;have l2:=l2 (by omega);refine M.o_grd (gA2 (by omega) (by omega)) (M.o_bind (next_out k2 (by omega) (by omega)) ?_);rintro ⟨a3,u3,x3⟩ ⟨k3,l3,_⟩;dsimp only at k3 l3;have l3:=l3 (by omega);refine M.o_grd (gA2 (by omega) (by omega)) (M.o_bindE (a:=(true,max 0 (flow-a2),flow+a3)) M.i_pure (M.o_pure ⟨fun _=>?_,k3.mono (by omega)⟩));dsimp only;omega
theorem made7_out {b:List UInt8}:(zaJ b 0 0 12).Out (fun y=>Dy.DOk y.1 y.2.1 y.2.2.1 y.2.2.2.1/\y.2.2.1.length<=12/\∀ k,k<y.2.2.2.1.length->y.2.2.2.1.getD k 0<=2000):=by
  unfold zaJ;refine M.o_bind (next_out SOk.zero (by omega) (by omega)) ?_;rintro ⟨r2,u1,x1⟩ ⟨k1,l1,_⟩;dsimp only at k1 l1;have l1:=l1 (by omega);refine M.o_bind (next_out k1 (by omega) (by omega)) ?_;rintro ⟨r3,u2,x2⟩ ⟨k2,l2,_⟩;dsimp only at k2 l2;have l2:=l2 (by omega);refine M.o_bind (within_out k2 (by omega) (by omega) (by omega) (by omega)) ?_;rintro ⟨r4,u3,x3⟩ ⟨k3,l3,l3'⟩;dsimp only at k3 l3 l3';refine M.o_bind (within_out k3 (by omega) (by omega) (by omega) (by omega)) ?_;rintro ⟨r5,u4,x4⟩ ⟨k4,l4,l4'⟩;dsimp only at k4 l4 l4';obtain ⟨n,rfl⟩:∃ n:Nat,r5=n:=⟨r5.toNat,by omega⟩
  have J0:M7 r2 r3 0 u4 x4 r4 0 [] []:=⟨rfl,k4.mono (by omega),by omega,rfl,rfl,fun k hk=>by omega,fun k hk=>by omega,fun k hk=>by omega,fun k hk=>by omega,fun k hk=>by omega,fun k hk=>by omega⟩
  refine M.o_bind (P:=fun z:List DVal × List Int × List Int × List DVal × Int × Int=>∃ s2 s3 fl s4,M7 r2 r3 n s2 s3 fl s4 z.2.2.2.1 z.2.2.1) (M.o_for n (fun i (s:Int × Int × Int × Nat × List DVal × List Int)=>M7 r2 r3 i s.1 s.2.1 s.2.2.1 s.2.2.2.1 s.2.2.2.2.1 s.2.2.2.2.2) ?_ ?_ J0) ?_
  · rintro i ⟨s2,s3,fl,s4,l,x⟩ hi J;dsimp only at J;obtain ⟨rfl,so,f,ln,lx,v,t,up,dn,lu,ld⟩:=J;simp only [zaU];refine M.o_t (decide_eq_true (by omega)) (M.o_grdD (by simp only [List.length_cons,List.length_nil]; omega) (M.o_bind (spanned_out so (by omega) f.1 (by omega)) ?_));rintro ⟨a,lo,hi',u5,x5⟩ ⟨e1,e2⟩;dsimp only at e1 e2;refine M.o_grdD (by simp only [List.length_cons,List.length_nil]; omega) (M.o_grd (gA2 (by omega) (by omega)) (M.o_grd (gA2 (by omega) (by omega)) (M.o_bind (within_out e2 (by omega) (by omega) (by omega) (by omega)) ?_)));rintro ⟨r6,u6,x6⟩ ⟨k6,l6,l6'⟩;dsimp only at k6 l6 l6';refine M.o_grd (gA2 (by omega) (by omega)) (M.o_pure ?_);have gx:∀ k,k<s4->(x++[fl]).getD k 0=x.getD k 0:=fun k hk=>by rw [getD_app1,if_pos (by omega)]
    have gl:∀ k,k<s4->(l++[(⟨a,lo,hi'⟩:DVal)]).getD k default=l.getD k default:=fun k hk=>by rw [getD_app1,if_pos (by omega)]
    have gx':(x++[fl]).getD s4 0=fl:=by rw [getD_app1,if_neg (by omega),if_pos lx.symm]
    have gl':(l++[(⟨a,lo,hi'⟩:DVal)]).getD s4 default=⟨a,lo,hi'⟩:=by rw [getD_app1,if_neg (by omega),if_pos ln.symm]
    refine ⟨rfl,k6.mono (by omega),by dsimp only; omega,by rw [List.length_append,ln]; rfl,by rw [List.length_append,lx]; rfl,fun k hk hk'=>?_,fun k hk=>?_,fun k hk=>?_,fun k hk=>?_,fun k hk=>?_,fun k hk=>?_⟩
    · dsimp only at hk' ⊢;by_cases c:k<s4
      · rw [gl k c] at hk' ⊢; rw [gx k c]; exact v k c hk'
      · obtain rfl:k=s4:=by omega
        rw [gl'] at hk' ⊢; rw [gx']; exact e1 hk'
    · dsimp only;by_cases c:k<s4
      · rw [gx k c]; exact t k c
      · obtain rfl:k=s4:=by omega
        rw [gx']; omega
    · dsimp only;by_cases c:k+1<s4
      · rw [gx k (by omega),gx (k+1) c]; exact up k c
      · obtain rfl:k+1=s4:=by omega
        rw [gx',gx k (by omega)]; exact lu k rfl
    · dsimp only;by_cases c:k+1<s4
      · rw [gx k (by omega),gx (k+1) c]; exact dn k c
      · obtain rfl:k+1=s4:=by omega
        rw [gx',gx k (by omega)]; exact ld k rfl
    · obtain rfl:k=s4:=by omega
      dsimp only;rw [gx']; omega
    · obtain rfl:k=s4:=by omega
      dsimp only;rw [gx']; omega
  · rintro ⟨s2,s3,fl,s4,l,x⟩ J;dsimp only at J;simp only [zaU];exact M.o_f (decide_eq_false (by have:=J.at_; omega)) (M.o_pure ⟨_,_,_,_,J⟩)
  · rintro ⟨z1,z2,x,l,z5,z6⟩ ⟨s2,s3,fl,s4,J⟩;dsimp only at J;have ln:=J.ln;have lx:=J.lx;refine M.o_pure ⟨⟨by dsimp only; omega,by dsimp only; omega,by dsimp only; omega,by dsimp only; omega,by dsimp only; omega,fun k hk=>J.v k (by dsimp only at hk; omega),fun k hk=>?_,fun k hk=>J.up k (by dsimp only at hk; omega),fun k hk=>J.dn k (by dsimp only at hk; omega)⟩,by dsimp only; omega,fun k hk=>(J.t k (by dsimp only at hk; omega)).2⟩;have:=J.t k (by dsimp only at hk; omega);dsimp only;omega
theorem made9_out {b:List UInt8}:(zaQ b 0 0).Out (fun y=>∃ S:Nat,y.1=S/\Sr.ROk S y.2.1):=by
  unfold zaQ;refine M.o_bind (within_out SOk.zero (by omega) (by omega) (by omega) (by omega)) ?_;rintro ⟨r2,u1,x1⟩ ⟨k1,l1,l1'⟩;dsimp only at k1 l1 l1';refine M.o_bind (within_out k1 (by omega) (by omega) (by omega) (by omega)) ?_;rintro ⟨r3,u2,x2⟩ ⟨k2,l2,l2'⟩;dsimp only at k2 l2 l2';obtain ⟨n,rfl⟩:∃ n:Nat,r3=n:=⟨r3.toNat,by omega⟩
  refine M.o_bind (P:=fun z:List Rgt × List Rgt × Int × Int=>z.2.1.length=n/\∀ k,k<n->(0<=(z.2.1.getD k default).state/\(z.2.1.getD k default).state<r2)/\(0<=(z.2.1.getD k default).amount/\(z.2.1.getD k default).amount<=1000000)/\0<=(z.2.1.getD k default).loss/\(z.2.1.getD k default).loss<=1000) (M.o_for n (fun i (s:Int × Int × Nat × List Rgt)=>s.2.2.1=i/\SOk (2+4*i) s.1 s.2.1/\s.2.2.2.length=i/\∀ k,k<i->(0<=(s.2.2.2.getD k default).state/\(s.2.2.2.getD k default).state<r2)/\(0<=(s.2.2.2.getD k default).amount/\(s.2.2.2.getD k default).amount<=1000000)/\0<=(s.2.2.2.getD k default).loss/\(s.2.2.2.getD k default).loss<=1000) ?_ ?_ ⟨rfl,k2.mono (by omega),rfl,fun k hk=>by omega⟩) ?_
  · rintro i ⟨s2,s3,s4,l⟩ hi ⟨e,so,ln,v⟩;dsimp only at e so ln v;subst e;simp only [za2];refine M.o_t (decide_eq_true (by omega)) (M.o_bind (next_out so (by omega) (by omega)) ?_);rintro ⟨a,u3,x3⟩ ⟨k3,l3,_⟩;dsimp only at k3 l3;have l3:=l3 (by omega);refine M.o_bind (next_out k3 (by omega) (by omega)) ?_;rintro ⟨m,u4,x4⟩ ⟨k4,l4,_⟩;dsimp only at k4 l4;have l4:=l4 (by omega);refine M.o_bind (next_out k4 (by omega) (by omega)) ?_;rintro ⟨p,u5,x5⟩ ⟨k5,l5,_⟩;dsimp only at k5 l5;have l5:=l5 (by omega);refine M.o_bind (next_out k5 (by omega) (by omega)) ?_;rintro ⟨q,u6,x6⟩ ⟨k6,l6,_⟩;dsimp only at k6 l6;have l6:=l6 (by omega);have pq:0<=p*q/\p*q<=399:=by
      rcases (show p=0∨p=1 by omega) with rfl | rfl
      · simp
      · omega
    refine M.o_grd (gA2 (by dsimp only; omega) (by dsimp only; omega)) (M.o_grdD (by simp only [List.length_cons,List.length_nil]; omega) (M.o_grd (gA2 (by omega) (by omega)) (M.o_pure ⟨rfl,k6.mono (by omega),by rw [List.length_append,ln]; rfl,fun k hk=>?_⟩)));dsimp only;rw [getD_app1];by_cases c:k<l.length
    · rw [if_pos c]; exact v k (by omega)
    · rw [if_neg c,if_pos (by omega)]; dsimp only; omega
  · rintro ⟨s2,s3,s4,l⟩ ⟨e,so,ln,v⟩;dsimp only at e so ln v;simp only [za2];exact M.o_f (decide_eq_false (by omega)) (M.o_pure ⟨ln,v⟩)
  · rintro ⟨z1,l,z3,z4⟩ ⟨ln,v⟩;dsimp only at ln v;exact M.o_pure ⟨r2.toNat,by dsimp only; omega,by omega,by omega,by dsimp only; omega,by dsimp only; omega,fun k hk=>by have:=(v k (by dsimp only at hk; omega)).1; dsimp only; omega,fun k hk=>(v k (by dsimp only at hk; omega)).2.1,fun k hk=>(v k (by dsimp only at hk; omega)).2.2⟩
end Go.Proofs.YtlfkkkbhejeplaaGreat
namespace Go.Nm
namespace Sr
/-- A border's table. -/
structure TOk (tb:List SPt):Prop where
  n1:2<=tb.length
  n2:tb.length<=12
  ix:∀ k,k<tb.length->0<=(tb.getD k default).index/\(tb.getD k default).index<=1000000
  du:∀ k,k<tb.length->0<=(tb.getD k default).due/\(tb.getD k default).due<=1000000
  si:∀ k,k+1<tb.length->(tb.getD k default).index<(tb.getD (k+1) default).index
  sd:∀ k,k+1<tb.length->(tb.getD k default).due<=(tb.getD (k+1) default).due
variable {tb:List SPt}
theorem TOk.dm (h:TOk tb):∀ {i j:Nat},i<=j->j<tb.length->(tb.getD i default).due<=(tb.getD j default).due:=by
  intro i j hij hj;induction j with
  | zero => obtain rfl : i = 0 := by omega
            exact Int.le_refl _
  | succ j ih =>
    rcases Nat.lt_or_ge i (j+1) with g | g
    · have:=ih (by omega) (by omega);have:=h.sd j hj;omega
    · obtain rfl:i=j+1:=by omega
      exact Int.le_refl _
/-- What is due between two points. -/
def seg (p q:SPt) (x:Int):Int:=p.due+(q.due-p.due)*(x-p.index) / (q.index-p.index)
theorem seg_bd {p q:SPt} {x:Int} (h1:p.index<=x) (h2:x<=q.index) (h3:p.index<q.index) (h4:p.due<=q.due):p.due<=seg p q x/\seg p q x<=q.due:=by
  unfold seg;have a:=Int.mul_nonneg (show 0<=q.due-p.due by omega) (show 0<=x-p.index by omega);have b:=Int.ediv_nonneg a (show 0<=q.index-p.index by omega);have c:=Int.mul_le_mul_of_nonneg_left (show x-p.index<=q.index-p.index by omega) (show 0<=q.due-p.due by omega);have d:=Int.ediv_le_ediv (show 0<q.index-p.index by omega) c;rw [Int.mul_ediv_cancel _ (by omega)] at d;omega
theorem seg_mono {p q:SPt} {x y:Int} (h:x<=y) (h3:p.index<q.index) (h4:p.due<=q.due):seg p q x<=seg p q y:=by
  unfold seg;have c:=Int.mul_le_mul_of_nonneg_left (show x-p.index<=y-p.index by omega) (show 0<=q.due-p.due by omega);have d:=Int.ediv_le_ediv (show 0<q.index-p.index by omega) c;omega
/-- What is due. -/
def Dv (tb:List SPt) (x d:Int):Prop:=∃ k,k<=tb.length/\(∀ j,j<k->(tb.getD j default).index<=x)/\(k<tb.length->x<(tb.getD k default).index) ∧
  d=if k=0 then (tb.getD 0 default).due else if k=tb.length then (tb.getD (k-1) default).due else seg (tb.getD (k-1) default) (tb.getD k default) x
theorem Dv.bd2 (h:TOk tb) {x d:Int} {k:Nat} (hk:k<=tb.length) (h1:∀ j,j<k->(tb.getD j default).index<=x) (h2:k<tb.length->x<(tb.getD k default).index)
    (hd:d=if k=0 then (tb.getD 0 default).due else if k=tb.length then (tb.getD (k-1) default).due else seg (tb.getD (k-1) default) (tb.getD k default) x) :
    (k<tb.length->d<=(tb.getD k default).due)/\(0<k->(tb.getD (k-1) default).due<=d)/\0<=d/\d<=1000000:=by
  have n1:=h.n1;by_cases c0:k=0
  · subst c0;rw [if_pos rfl] at hd;have:=h.du 0 (by omega);exact ⟨fun _=>by omega,fun h=>by omega,by omega,by omega⟩
  · rw [if_neg c0] at hd;have a:=h.du (k-1) (by omega);by_cases c1:k=tb.length
    · rw [if_pos c1] at hd;exact ⟨fun h=>by omega,fun _=>by omega,by omega,by omega⟩
    · rw [if_neg c1] at hd;have b:=h.du k (by omega);have si:=h.si (k-1) (by omega);have sd:=h.sd (k-1) (by omega);rw [show k-1+1=k by omega] at si sd;have s:=seg_bd (h1 (k-1) (by omega)) (Int.le_of_lt (h2 (by omega))) si sd;exact ⟨fun _=>by omega,fun _=>by omega,by omega,by omega⟩
theorem Dv.bd (h:TOk tb) {x d:Int} (hd:Dv tb x d):0<=d/\d<=1000000:=by
  obtain ⟨k,a,b,c,e⟩:=hd;exact (Dv.bd2 h a b c e).2.2
/-- A greater index never has a lesser due. -/
theorem Dv.mono (h:TOk tb) {x y d e:Int} (hd:Dv tb x d) (he:Dv tb y e) (hxy:x<=y):d<=e:=by
  obtain ⟨k,a1,a2,a3,a4⟩:=hd;obtain ⟨m,b1,b2,b3,b4⟩:=he;have p:=Dv.bd2 h a1 a2 a3 a4;have q:=Dv.bd2 h b1 b2 b3 b4;rcases Nat.lt_trichotomy k m with g | g | g
  · have p1:=p.1 (by omega);have q1:=q.2.1 (by omega);have:=h.dm (show k<=m-1 by omega) (by omega);omega
  · subst g;rw [a4,b4];by_cases c0:k=0
    · rw [if_pos c0,if_pos c0]; exact Int.le_refl _
    · rw [if_neg c0,if_neg c0];by_cases c1:k=tb.length
      · rw [if_pos c1,if_pos c1]; exact Int.le_refl _
      · rw [if_neg c1,if_neg c1];have si:=h.si (k-1) (by omega);have sd:=h.sd (k-1) (by omega);rw [show k-1+1=k by omega] at si sd;exact seg_mono hxy si sd
  · have:=a2 m g;have:=b3 (by omega);omega
/-- A year's debt. -/
def stp (cr:Int) (sp:Bool) (d v x:Int):Int:=if sp then 0 else max (-cr) (d+v-x)
theorem stp_mono {cr:Int} {sp:Bool} {d d' v v' x x':Int} (h1:d<=d') (h2:v<=v') (h3:x'<=x):stp cr sp d v x<=stp cr sp d' v' x':=by
  cases sp <;> simp [stp] <;> omega
/-- Debts, year by year. -/
def prv (s:Int) (d:Nat->Int):Nat->Int
  | 0=>s
  | k+1=>d k
structure Ow (tb:List SPt) (cr s:Int) (sp:Nat->Bool) (ix dl:Nat->Int) (n:Nat) (d:Nat->Int):Prop where
  st:∀ k,k<n->∃ v,Dv tb (ix k) v/\d k=stp cr (sp k) (prv s d k) v (dl k)
theorem Ow.mono (h:TOk tb) {cr s s':Int} {sp:Nat->Bool} {ix dl ix' dl' d d':Nat->Int} {n:Nat} (ho:Ow tb cr s sp ix dl n d) (ho':Ow tb cr s' sp ix' dl' n d') (hs:s<=s') (hi:∀ k,k<n->ix k<=ix' k) (hd:∀ k,k<n->dl' k<=dl k):∀ k,k<n->d k<=d' k:=by
  intro k;induction k with
  | zero =>
    intro hk;obtain ⟨v,a,b⟩:=ho.st 0 hk;obtain ⟨v',a',b'⟩:=ho'.st 0 hk;rw [b,b'];exact stp_mono hs (Dv.mono h a a' (hi 0 hk)) (hd 0 hk)
  | succ k ih =>
    intro hk;obtain ⟨v,a,b⟩:=ho.st (k+1) hk;obtain ⟨v',a',b'⟩:=ho'.st (k+1) hk;rw [b,b'];exact stp_mono (ih (by omega)) (Dv.mono h a a' (hi _ hk)) (hd _ hk)
end Sr
end Go.Nm
namespace Go.Proofs.YtlfkkkbhejeplaaGreat
open Go Go.Nm
variable {tb:List SPt}
theorem contains_share_Right (l:List Rgt) (f:Rgt->M Bool) (p:Rgt->Bool) (h:∀ t∈l,(f t).Ends (p t)):(zaO l f).Ends (l.any p):=by
  obtain ⟨r,hr,rfl⟩:(zaO l f).Out (fun r=>r=l.any p):=by
    unfold zaO zbw;have key:(M.iter (zaG l f) 0).Out (fun x=>match x with | .inl k=>0<=k/\l.any p=true | .inr (_:Unit)=>l.any p=false):=by
      refine M.o_for l.length (fun i (s:Nat)=>s=i/\∀ j,j<i->p (l.getD j default)=false) ?_ ?_ ⟨rfl,fun j hj=>by omega⟩
      · rintro _ s hs ⟨rfl,hj⟩;simp only [zaG];have hm:l.getD s default∈l:=by rw [elG l hs]; exact List.getElem_mem hs
        refine M.o_t (decide_eq_true (by omega)) (M.o_grdD (by omega) (M.o_bindE (h _ hm) (M.o_if (fun hb=>M.o_pure ⟨by omega,List.any_eq_true.2 ⟨_,hm,hb⟩⟩) (fun hb=>M.o_pure ⟨rfl,fun j hj'=>?_⟩))));rcases Nat.lt_or_ge j s with g | g
        · exact hj j g
        · obtain rfl:j=s:=by omega
          exact hb
      · rintro _ ⟨rfl,hj⟩;simp only [zaG];refine M.o_f (decide_eq_false (by omega)) (M.o_pure (List.any_eq_false.2 fun x hx=>?_));obtain ⟨k,hk,rfl⟩:=List.getElem_of_mem hx;have:=hj k hk;rw [elG l hk] at this;simp [this]
    refine M.o_bind (P:=fun z=>decide (0<=z)=l.any p) (M.o_bind key ?_) (fun z hz=>M.o_pure hz);rintro (k | _) hk
    · exact M.o_pure (by rw [hk.2]; exact decide_eq_true hk.1)
    · exact M.o_pure (by rw [show l.any p=false from hk]; rfl)
  exact hr
theorem every_share_Right (l:List Rgt) (so:Rgt->M Bool) (h:∀ t∈l,(so t).Ends true):(m_share_every_share_Right l so).Ends true:=by
  unfold m_share_every_share_Right;refine M.i_bind (a:=false) ?_ M.i_pure;have:=contains_share_Right l (fun x=>m_share_every_share_Right__1 x so) (fun _=>false) fun t ht=>M.i_bind (h t ht) M.i_pure
  rwa [show l.any (fun _=>false)=false by simp] at this
theorem contains_share_Point (l:List SPt) (f:SPt->M Bool) (p:SPt->Bool) (h:∀ t∈l,(f t).Ends (p t)):(zaC l f).Ends (l.any p):=by
  obtain ⟨r,hr,rfl⟩:(zaC l f).Out (fun r=>r=l.any p):=by
    unfold zaC zat;have key:(M.iter (zak l f) 0).Out (fun x=>match x with | .inl k=>0<=k/\l.any p=true | .inr (_:Unit)=>l.any p=false):=by
      refine M.o_for l.length (fun i (s:Nat)=>s=i/\∀ j,j<i->p (l.getD j default)=false) ?_ ?_ ⟨rfl,fun j hj=>by omega⟩
      · rintro _ s hs ⟨rfl,hj⟩;simp only [zak];have hm:l.getD s default∈l:=by rw [elG l hs]; exact List.getElem_mem hs
        refine M.o_t (decide_eq_true (by omega)) (M.o_grdD (by omega) (M.o_bindE (h _ hm) (M.o_if (fun hb=>M.o_pure ⟨by omega,List.any_eq_true.2 ⟨_,hm,hb⟩⟩) (fun hb=>M.o_pure ⟨rfl,fun j hj'=>?_⟩))));rcases Nat.lt_or_ge j s with g | g
        · exact hj j g
        · obtain rfl:j=s:=by omega
          exact hb
      · rintro _ ⟨rfl,hj⟩;simp only [zak];refine M.o_f (decide_eq_false (by omega)) (M.o_pure (List.any_eq_false.2 fun x hx=>?_));obtain ⟨k,hk,rfl⟩:=List.getElem_of_mem hx;have:=hj k hk;rw [elG l hk] at this;simp [this]
    refine M.o_bind (P:=fun z=>decide (0<=z)=l.any p) (M.o_bind key ?_) (fun z hz=>M.o_pure hz);rintro (k | _) hk
    · exact M.o_pure (by rw [hk.2]; exact decide_eq_true hk.1)
    · exact M.o_pure (by rw [show l.any p=false from hk]; rfl)
  exact hr
theorem every_share_Point (l:List SPt) (so:SPt->M Bool) (h:∀ t∈l,(so t).Ends true):(m_share_every_share_Point l so).Ends true:=by
  unfold m_share_every_share_Point;refine M.i_bind (a:=false) ?_ M.i_pure;have:=contains_share_Point l (fun x=>m_share_every_share_Point__1 x so) (fun _=>false) fun t ht=>M.i_bind (h t ht) M.i_pure
  rwa [show l.any (fun _=>false)=false by simp] at this
theorem contains_share_Year (l:List SYr) (f:SYr->M Bool) (p:SYr->Bool) (h:∀ t∈l,(f t).Ends (p t)):(zay l f).Ends (l.any p):=by
  obtain ⟨r,hr,rfl⟩:(zay l f).Out (fun r=>r=l.any p):=by
    unfold zay zbf;have key:(M.iter (zaD l f) 0).Out (fun x=>match x with | .inl k=>0<=k/\l.any p=true | .inr (_:Unit)=>l.any p=false):=by
      refine M.o_for l.length (fun i (s:Nat)=>s=i/\∀ j,j<i->p (l.getD j default)=false) ?_ ?_ ⟨rfl,fun j hj=>by omega⟩
      · rintro _ s hs ⟨rfl,hj⟩;simp only [zaD];have hm:l.getD s default∈l:=by rw [elG l hs]; exact List.getElem_mem hs
        refine M.o_t (decide_eq_true (by omega)) (M.o_grdD (by omega) (M.o_bindE (h _ hm) (M.o_if (fun hb=>M.o_pure ⟨by omega,List.any_eq_true.2 ⟨_,hm,hb⟩⟩) (fun hb=>M.o_pure ⟨rfl,fun j hj'=>?_⟩))));rcases Nat.lt_or_ge j s with g | g
        · exact hj j g
        · obtain rfl:j=s:=by omega
          exact hb
      · rintro _ ⟨rfl,hj⟩;simp only [zaD];refine M.o_f (decide_eq_false (by omega)) (M.o_pure (List.any_eq_false.2 fun x hx=>?_));obtain ⟨k,hk,rfl⟩:=List.getElem_of_mem hx;have:=hj k hk;rw [elG l hk] at this;simp [this]
    refine M.o_bind (P:=fun z=>decide (0<=z)=l.any p) (M.o_bind key ?_) (fun z hz=>M.o_pure hz);rintro (k | _) hk
    · exact M.o_pure (by rw [hk.2]; exact decide_eq_true hk.1)
    · exact M.o_pure (by rw [show l.any p=false from hk]; rfl)
  exact hr
theorem every_share_Year (l:List SYr) (so:SYr->M Bool) (h:∀ t∈l,(so t).Ends true):(m_share_every_share_Year l so).Ends true:=by
  unfold m_share_every_share_Year;refine M.i_bind (a:=false) ?_ M.i_pure;have:=contains_share_Year l (fun x=>m_share_every_share_Year__1 x so) (fun _=>false) fun t ht=>M.i_bind (h t ht) M.i_pure
  rwa [show l.any (fun _=>false)=false by simp] at this
theorem contains_int (l:List Int) (f:Int->M Bool) (p:Int->Bool) (h:∀ t∈l,(f t).Ends (p t)):(zam l f).Ends (l.any p):=by
  obtain ⟨r,hr,rfl⟩:(zam l f).Out (fun r=>r=l.any p):=by
    unfold zam zap;have key:(M.iter (zaj l f) 0).Out (fun x=>match x with | .inl k=>0<=k/\l.any p=true | .inr (_:Unit)=>l.any p=false):=by
      refine M.o_for l.length (fun i (s:Nat)=>s=i/\∀ j,j<i->p (l.getD j 0)=false) ?_ ?_ ⟨rfl,fun j hj=>by omega⟩
      · rintro _ s hs ⟨rfl,hj⟩;simp only [zaj];have hm:l.getD s 0∈l:=by rw [elG l hs]; exact List.getElem_mem hs
        refine M.o_t (decide_eq_true (by omega)) (M.o_grdD (by omega) (M.o_bindE (h _ hm) (M.o_if (fun hb=>M.o_pure ⟨by omega,List.any_eq_true.2 ⟨_,hm,hb⟩⟩) (fun hb=>M.o_pure ⟨rfl,fun j hj'=>?_⟩))));rcases Nat.lt_or_ge j s with g | g
        · exact hj j g
        · obtain rfl:j=s:=by omega
          exact hb
      · rintro _ ⟨rfl,hj⟩;simp only [zaj];refine M.o_f (decide_eq_false (by omega)) (M.o_pure (List.any_eq_false.2 fun x hx=>?_));obtain ⟨k,hk,rfl⟩:=List.getElem_of_mem hx;have:=hj k hk;rw [elG l hk] at this;simp [this]
    refine M.o_bind (P:=fun z=>decide (0<=z)=l.any p) (M.o_bind key ?_) (fun z hz=>M.o_pure hz);rintro (k | _) hk
    · exact M.o_pure (by rw [hk.2]; exact decide_eq_true hk.1)
    · exact M.o_pure (by rw [show l.any p=false from hk]; rfl)
  exact hr
theorem every_int (l:List Int) (so:Int->M Bool) (h:∀ t∈l,(so t).Ends true):(m_share_every_int l so).Ends true:=by
  unfold m_share_every_int;refine M.i_bind (a:=false) ?_ M.i_pure;have:=contains_int l (fun x=>m_share_every_int__1 x so) (fun _=>false) fun t ht=>M.i_bind (h t ht) M.i_pure
  rwa [show l.any (fun _=>false)=false by simp] at this

theorem sin_t {n a b:Int} (h1:a<=n) (h2:n<=b):(m_share_in n a b).Ends true:=by
  unfold m_share_in;rw [show (decide (a<=n)&&decide (n<=b))=true by rw [decide_eq_true h1,decide_eq_true h2]; rfl];exact M.i_pure
theorem water_t {n:Int} (h1:0<=n) (h2:n<=1000000000):(m_share_water n).Ends true:=M.i_bind (sin_t h1 h2) M.i_pure
theorem waters_t {s:Span} (h1:0<=s.lo) (h2:s.lo<=s.hi) (h3:s.hi<=1000000000):(m_share_waters s).Ends true :=
  M.i_bind (sin_t h1 h2) (M.i_bind (M.i_opt (r:=true) (fun _=>water_t (by omega) h3) (fun h=>by cases h)) M.i_pure)
theorem scheck {S:Nat} {rs:List Rgt} (h:Sr.ROk S rs):(m_share_Check S rs).Ends 0:=by
  unfold m_share_Check;have s1:=h.s1;have s2:=h.s2;have n1:=h.n1;have n2:=h.n2;refine M.i_bind (sin_t (by omega) (by omega)) (M.i_bind (M.i_opt (r:=true) (fun _=>sin_t (by omega) (by omega)) (fun h=>by cases h)) (M.i_f rfl (M.i_bind (every_share_Right _ _ fun t ht=>?_) (M.i_f rfl M.i_pure))));obtain ⟨i,hi,rfl⟩:=List.getElem_of_mem ht;have a:=h.st i hi;have b:=h.am i hi;have c:=h.ls i hi;rw [elG rs hi] at a b c;unfold m_share_Check_1;refine M.i_grd (gA2 (by omega) (by omega)) (M.i_bind (sin_t (by omega) (by omega)) (M.i_bind (M.i_opt (r:=true) (fun _=>water_t (by omega) (by omega)) (fun h=>by cases h)) (M.i_bind (M.i_opt (r:=true) (fun _=>sin_t (by omega) (by omega)) (fun h=>by cases h)) M.i_pure)))
theorem real_out {S:Nat} {rs:List Rgt} {f:Int} (h:Sr.ROk S rs) (h0:0<=f) (h1:f<=1000000000):(m_share_Real S rs f).Out (fun z=>z.2=0/\z.1.length=S/\∀ s:Nat,s<S->z.1.getD s 0=Sr.got rs f s rs.length):=by
  unfold m_share_Real;refine M.o_bindE (scheck h) (M.o_f rfl (M.o_bindE (water_t h0 h1) (M.o_f rfl (M.o_bind (serve_out h h0 h1) fun r hr=>M.o_pure ⟨rfl,hr⟩))))
theorem shares_out {S:Nat} {rs:List Rgt} {f:Span} (h:Sr.ROk S rs) (h0:0<=f.lo) (h1:f.lo<=f.hi) (h2:f.hi<=1000000000):(m_share_Shares S rs f).Out (fun z=>z.2=0/\z.1.length=S/\∀ s:Nat,s<S->z.1.getD s default=⟨Sr.got rs f.lo s rs.length,Sr.got rs f.hi s rs.length⟩):=by
  unfold m_share_Shares;have s2:=h.s2;refine M.o_bindE (scheck h) (M.o_f rfl (M.o_bindE (waters_t h0 h1 h2) (M.o_f rfl (M.o_bind (serve_out h h0 (by omega)) ?_))));rintro r4 ⟨l4,v4⟩;refine M.o_bind (serve_out h (by omega) h2) ?_;rintro r5 ⟨l5,v5⟩;refine M.o_bind (P:=fun z:List Span × List Span=>z.2.length=S/\∀ s:Nat,s<S->z.2.getD s default=⟨Sr.got rs f.lo s rs.length,Sr.got rs f.hi s rs.length⟩) (M.o_for S (fun i (s:Nat × List Span)=>s.1=i/\s.2.length=i/\∀ k:Nat,k<i->s.2.getD k default=⟨Sr.got rs f.lo k rs.length,Sr.got rs f.hi k rs.length⟩) ?_ ?_ ⟨rfl,rfl,fun k hk=>by omega⟩) (fun z hz=>M.o_pure ⟨rfl,hz⟩)
  · rintro i ⟨s,l⟩ hi ⟨e,ln,v⟩;dsimp only at e ln v;subst e;simp only [m_share_Shares_b0];refine M.o_t (decide_eq_true (by omega)) (M.o_grdD (by omega) (M.o_grdD (by omega) (M.o_grdD (by simp only [List.length_cons,List.length_nil]; omega) (M.o_pure ⟨rfl,by rw [List.length_append,ln]; rfl,fun k hk=>?_⟩))));dsimp only;rw [getD_app1];by_cases c:k<l.length
    · rw [if_pos c]; exact v k (by omega)
    · obtain rfl:k=s:=by omega
      rw [if_neg c,if_pos ln.symm,v4 k hi,v5 k hi]
  · rintro ⟨s,l⟩ ⟨e,ln,v⟩;dsimp only at e ln v;subst e;simp only [m_share_Shares_b0];exact M.o_f (decide_eq_false (by omega)) (M.o_pure ⟨ln,v⟩)
end Go.Proofs.YtlfkkkbhejeplaaGreat
namespace Go.Nm
namespace Bl
def fro (w:BWay) (b:Bool):Int:=match b with
  | false=>w.src
  | true=>w.dst
def to_ (w:BWay) (b:Bool):Int:=match b with
  | false=>w.dst
  | true=>w.src
abbrev Mp:=List (Int × BFar)
def enO:Option BFar->Int
  | some _=>1
  | none=>0
def fiO:Option BFar->Int
  | some f=>11-f.cost
  | none=>0
def suO:Option BFar->Int
  | some f=>f.many
  | none=>0
def En (P:Nat) (mp:Mp):Int:=Zs (fun k=>enO (lookM mp (k:Int))) P
def Fi (P:Nat) (mp:Mp):Int:=Zs (fun k=>fiO (lookM mp (k:Int))) P
def Su (P:Nat) (mp:Mp):Int:=Zs (fun k=>suO (lookM mp (k:Int))) P
/-- A pair is better than another one. -/
def Lx (c m c' m':Int):Prop:=c<c'∨c=c'/\m<m'
/-- A net whose places are below P, none of whose ways leads to where it begins. -/
structure Pl (P:Nat) (L:List BWay):Prop where
  s:∀ k,k<L.length->0<=(L.getD k default).src/\(L.getD k default).src<P
  d:∀ k,k<L.length->0<=(L.getD k default).dst/\(L.getD k default).dst<P
  ne:∀ k,k<L.length->(L.getD k default).src ≠ (L.getD k default).dst
/-- No step that counts is cheaper than the potentials say. -/
def Nc (L:List BWay) (cnt:Nat->Bool->Bool) (p:Int->Int):Prop:=∀ k b,k<L.length->cnt k b=true->p (to_ (L.getD k default) b)-p (fro (L.getD k default) b)<=prc (L.getD k default) b
structure MI (P:Nat) (L:List BWay) (cnt:Nat->Bool->Bool) (p:Int->Int) (a:Int) (mp:Mp):Prop where
  dom:∀ x f,lookM mp x=some f->0<=x/\x<P
  st:∃ f,lookM mp a=some f/\f.cost=0/\f.many=0
  lb:∀ x f,lookM mp x=some f->p x-p a<=f.cost
  ub:∀ x f,lookM mp x=some f->f.cost+1<=En P mp
  m0:∀ x f,lookM mp x=some f->0<=f.many/\f.many<=Fi P mp
  pr:∀ x f,lookM mp x=some f->x=a∨∃ k:Nat,f.way=k/\k<L.length/\cnt k f.back=true/\to_ (L.getD k default) f.back=x/\∃ g,lookM mp (fro (L.getD k default) f.back)=some g/\(g.cost+prc (L.getD k default) f.back<f.cost∨g.cost+prc (L.getD k default) f.back=f.cost/\g.many+1<=f.many)
theorem enO_bd (o:Option BFar):0<=enO o/\enO o<=1:=by cases o <;> simp [enO]
theorem En.le {P:Nat} {mp:Mp}:0<=En P mp/\En P mp<=P:=by
  refine ⟨Zs.nn fun k _=>(enO_bd _).1,?_⟩;have:=Zs.le (f:=fun k=>enO (lookM mp (k:Int))) (g:=fun _=>1) (n:=P) fun k _=>(enO_bd _).2;have e:∀ m:Nat,Zs (fun _=>(1:Int)) m=m:=fun m=>by
    induction m with
    | zero=>rfl
    | succ m ih=>simp only [Zs,ih]; omega
  rw [e] at this;exact this
theorem Zs.const (c:Int):∀ m:Nat,Zs (fun _=>c) m=c*m
  | 0=>by simp [Zs]
  | m+1=>by
    have e:c*((m+1:Nat):Int)=c*(m:Int)+c:=by rw [Int.natCast_add,Int.mul_add]; simp
    rw [e];simp only [Zs,Zs.const c m]
variable {P:Nat} {L:List BWay} {cnt:Nat->Bool->Bool} {p:Int->Int} {a:Int} {mp:Mp}
theorem MI.fi (h:MI P L cnt p a mp) (hP:P<=10) (hp:∀ x:Int,0<=x->x<P->-20<=p x-p a):0<=Fi P mp/\Fi P mp<=31*P:=by
  have hb:∀ k:Nat,k<P->0<=fiO (lookM mp (k:Int))/\fiO (lookM mp (k:Int))<=31:=fun k hk=>by
    cases e:lookM mp (k:Int) with
    | none=>simp [fiO]
    | some f =>
      have:=h.ub _ _ e;have:=En.le (P:=P) (mp:=mp);have a1:=h.lb _ _ e;have a2:=hp (k:Int) (by omega) (by omega);simp only [fiO];omega
  refine ⟨Zs.nn fun k hk=>(hb k hk).1,?_⟩;have:=Zs.le (f:=fun k=>fiO (lookM mp (k:Int))) (g:=fun _=>31) (n:=P) fun k hk=>(hb k hk).2;rw [Zs.const] at this;exact this
theorem MI.su (h:MI P L cnt p a mp) (hP:P<=10) (hp:∀ x:Int,0<=x->x<P->-20<=p x-p a):0<=Su P mp/\Su P mp<=3100:=by
  have b:=h.fi hP hp;have hb:∀ k:Nat,k<P->0<=suO (lookM mp (k:Int))/\suO (lookM mp (k:Int))<=310:=fun k hk=>by
    cases e:lookM mp (k:Int) with
    | none=>simp [suO]
    | some f =>
      have:=h.m0 _ _ e;simp only [suO];omega
  refine ⟨Zs.nn fun k hk=>(hb k hk).1,?_⟩;have:=Zs.le (f:=fun k=>suO (lookM mp (k:Int))) (g:=fun _=>310) (n:=P) fun k hk=>(hb k hk).2;rw [Zs.const] at this;have e:Su P mp=Zs (fun k=>suO (lookM mp (k:Int))) P:=rfl;omega
/-- How much there still is to do. -/
def me (P:Nat) (mp:Mp):Nat:=Int.toNat ((310-Fi P mp)*4000+Su P mp)
/-- One place more, or a better one. -/
theorem MI.relax (h:MI P L cnt p a mp) (hP:P<=10) (hp:∀ x:Int,0<=x->x<P->-20<=p x-p a) (hl:Pl P L) (hn:Nc L cnt p) {k:Nat} {b:Bool} (hk:k<L.length) (hc:cnt k b=true) {g:BFar} (hg:lookM mp (fro (L.getD k default) b)=some g)
    (hb:∀ f,lookM mp (to_ (L.getD k default) b)=some f->Lx (g.cost+prc (L.getD k default) b) (g.many+1) f.cost f.many) :
    MI P L cnt p a (setM mp (to_ (L.getD k default) b) ⟨g.cost+prc (L.getD k default) b,g.many+1,k,b⟩)/\me P (setM mp (to_ (L.getD k default) b) ⟨g.cost+prc (L.getD k default) b,g.many+1,k,b⟩)<me P mp/\lookM (setM mp (to_ (L.getD k default) b) ⟨g.cost+prc (L.getD k default) b,g.many+1,k,b⟩) (fro (L.getD k default) b)=some g:=by
  have hs:=hl.s k hk;have hd:=hl.d k hk;have hne:=hl.ne k hk;generalize ew:L.getD k default=w at *;have hft:fro w b ≠ to_ w b:=by cases b <;> simp only [fro,to_] <;> omega
  have htd:0<=to_ w b/\to_ w b<P:=by cases b <;> simp only [to_] <;> omega
  have hnc:=hn k b hk hc;rw [ew] at hnc;have lg:=h.lb _ _ hg;have ug:=h.ub _ _ hg;have mg:=h.m0 _ _ hg;have eb:=En.le (P:=P) (mp:=mp);have pb:=prc_bd w b;obtain ⟨t,ht⟩:∃ t:Nat,to_ w b=(t:Int):=⟨(to_ w b).toNat,by omega⟩
  generalize hF:(⟨g.cost+prc w b,g.many+1,k,b⟩:BFar)=F;have F1:F.cost=g.cost+prc w b:=by rw [← hF]
  have F2:F.many=g.many+1:=by rw [← hF]
  have F3:F.way=(k:Int):=by rw [← hF]
  have F4:F.back=b:=by rw [← hF]
  have look:∀ x,lookM (setM mp (to_ w b) F) x=if x=to_ w b then some F else lookM mp x:=fun x=>lookM_set mp (to_ w b) F x
  have hta:to_ w b ≠ a:=by
    intro e;obtain ⟨f,f1,f2,f3⟩:=h.st;rcases hb f (by rw [e]; exact f1) with q | ⟨q1,q2⟩
    · rw [e] at hnc; omega
    · omega
  -- what the sums do
  have sumN:∀ G:Option BFar->Int,Zs (fun j:Nat=>G (lookM (setM mp (to_ w b) F) (j:Int))) P=Zs (fun j:Nat=>G (lookM mp (j:Int))) P+(G (some F)-G (lookM mp (to_ w b))):=by
    intro G;have:=Zs.upd (f:=fun j:Nat=>G (lookM mp (j:Int))) (g:=fun j:Nat=>G (lookM (setM mp (to_ w b) F) (j:Int))) (n:=P) (k:=t) (by omega) fun j _ hj=>by
      rw [look,if_neg (by omega)]
    rw [this];rw [look,if_pos ht.symm,ht]
  have eEn:En P (setM mp (to_ w b) F)=En P mp+(1-enO (lookM mp (to_ w b))):=sumN enO;have eFi:Fi P (setM mp (to_ w b) F)=Fi P mp+(11-F.cost-fiO (lookM mp (to_ w b))):=sumN fiO;have eSu:Su P (setM mp (to_ w b) F)=Su P mp+(F.many-suO (lookM mp (to_ w b))):=sumN suO;have hEn:En P mp<=En P (setM mp (to_ w b) F):=by
    have:=enO_bd (lookM mp (to_ w b));omega
  have hEF:F.cost+1<=En P (setM mp (to_ w b) F):=by
    cases e:lookM mp (to_ w b) with
    | none=>rw [e] at eEn; simp only [enO] at eEn; omega
    | some f =>
      have:=h.ub _ _ e;have:=hb f e;unfold Lx at this;omega
  have hFi:Fi P mp<=Fi P (setM mp (to_ w b) F)/\F.many<=Fi P (setM mp (to_ w b) F):=by
    cases e:lookM mp (to_ w b) with
    | none =>
      rw [e] at eFi;simp only [fiO] at eFi;omega
    | some f =>
      have q:=hb f e;have m1:=h.m0 _ _ e;rw [e] at eFi;simp only [fiO] at eFi;unfold Lx at q;omega
  have hMI:MI P L cnt p a (setM mp (to_ w b) F):=by
    refine ⟨fun x f hx=>?_,?_,fun x f hx=>?_,fun x f hx=>?_,fun x f hx=>?_,fun x f hx=>?_⟩
    · rw [look] at hx;split at hx
      · next e=>rw [e]; exact htd
      · exact h.dom x f hx
    · obtain ⟨f,f1,f2,f3⟩:=h.st;exact ⟨f,by rw [look,if_neg (fun e=>hta e.symm)]; exact f1,f2,f3⟩
    · rw [look] at hx;split at hx
      · next e=>obtain rfl:=Option.some.inj hx; rw [e,F1]; omega
      · exact h.lb x f hx
    · rw [look] at hx;split at hx
      · obtain rfl:=Option.some.inj hx; exact hEF
      · exact Int.le_trans (h.ub x f hx) hEn
    · rw [look] at hx;split at hx
      · obtain rfl:=Option.some.inj hx; exact ⟨by omega,hFi.2⟩
      · have:=h.m0 x f hx;exact ⟨this.1,Int.le_trans this.2 hFi.1⟩
    · rw [look] at hx;split at hx
      · next e =>
        obtain rfl:=Option.some.inj hx;refine .inr ⟨k,F3,hk,by rw [F4]; exact hc,by rw [F4,ew,e],g,?_,.inr ?_⟩
        · rw [F4,ew,look,if_neg hft]; exact hg
        · rw [F4,ew]; omega
      · next e =>
        rcases h.pr x f hx with q | ⟨j,j1,j2,j3,j4,g',j5,j6⟩
        · exact .inl q
        · refine .inr ⟨j,j1,j2,j3,j4,?_⟩;rw [look];split
          · next e2 =>
            rw [e2] at j5;have q:=hb g' j5;unfold Lx at q;exact ⟨F,rfl,by omega⟩
          · exact ⟨g',j5,j6⟩
  refine ⟨hMI,?_,?_⟩
  · have b1:=h.fi hP hp;have b2:=hMI.fi hP hp;have b3:=h.su hP hp;have b4:=hMI.su hP hp;unfold me;cases e:lookM mp (to_ w b) with
    | none =>
      rw [e] at eFi;simp only [fiO] at eFi;have:Fi P mp+1<=Fi P (setM mp (to_ w b) F):=by omega
      omega
    | some f =>
      have q:=hb f e;unfold Lx at q;rw [e] at eFi eSu;simp only [fiO] at eFi;simp only [suO] at eSu;rcases q with q | ⟨q1,q2⟩
      · have:Fi P mp+1<=Fi P (setM mp (to_ w b) F):=by omega
        omega
      · have:Fi P mp=Fi P (setM mp (to_ w b) F):=by omega
        omega
  · rw [look,if_neg hft]; exact hg
end Bl
end Go.Nm
namespace Go.Nm
namespace Bl
variable {P:Nat} {L:List BWay} {cnt:Nat->Bool->Bool} {p:Int->Int} {a:Int} {mp:Mp}
/-- All that can be said of places that one step leads to from places below n, and, from n itself, over ways below m. -/
def Fx (L:List BWay) (cnt:Nat->Bool->Bool) (mp:Mp) (n m:Nat):Prop:=∀ k b,k<L.length->cnt k b=true->∀ g,lookM mp (fro (L.getD k default) b)=some g →
  (fro (L.getD k default) b<n∨fro (L.getD k default) b=n/\k<m)->∃ f,lookM mp (to_ (L.getD k default) b)=some f/\(f.cost<g.cost+prc (L.getD k default) b∨f.cost=g.cost+prc (L.getD k default) b/\f.many<=g.many+1)
def bett (o:Option BFar) (c m:Int):Bool:=match o with
  | none=>true
  | some f=>decide (c<f.cost)||(decide (c=f.cost)&&decide (m<f.many))
theorem bett_iff {o:Option BFar} {c m:Int}:bett o c m=true↔∀ f,o=some f->Lx c m f.cost f.many:=by
  cases o with
  | none=>simp [bett]
  | some f=>simp [bett,Lx]
/-- Numbers of a net that are small. -/
structure Nm_ (L:List BWay):Prop where
  n:L.length<=100
  lo:∀ k,k<L.length->-1000000000000<=(L.getD k default).lo/\(L.getD k default).lo<=1000000000000
  hi:∀ k,k<L.length->-1000000000000<=(L.getD k default).hi/\(L.getD k default).hi<=1000000000000
  now:∀ k,k<L.length->-1000000000000<=(L.getD k default).now/\(L.getD k default).now<=1000000000000
/-- How far all places are. -/
structure Far (P:Nat) (L:List BWay) (cnt:Nat->Bool->Bool) (p:Int->Int) (a:Int) (mp:Mp):Prop where
  mi:MI P L cnt p a mp
  fx:Fx L cnt mp P 0
end Bl
end Go.Nm
namespace Go.Proofs.YtlfkkkbhejeplaaGreat
open Go Go.Nm
variable {P:Nat} {L:List BWay} {cnt:Nat->Bool->Bool} {p:Int->Int} {a:Int} {o r:Int}
theorem room_ends (hs:Bl.Nm_ L) {k:Nat} (hk:k<L.length) (b:Bool):(m_balance_desk_room L o r ⟨(k:Int),b⟩).Ends (Bl.prc (L.getD k default) b,Bl.rm (L.getD k default) b):=by
  have h1:=hs.lo k hk;have h2:=hs.hi k hk;have h3:=hs.now k hk;have e:Int.toNat (k:Int)=k:=Int.toNat_natCast k;unfold m_balance_desk_room;refine M.i_grd (gA2 (by dsimp only; omega) (by dsimp only; omega)) ?_;dsimp only;rw [e];generalize L.getD k default=w at *;have j0:∀ now least most:Int,-2000000000000<=now->now<=2000000000000->-2000000000000<=least->least<=2000000000000->-2000000000000<=most->most<=2000000000000 →
      (m_balance_desk_room_j0 now least most).Ends (if now<least then (-1,least-now) else if now<most then (0,most-now) else (1,10000000000)):=by
    intro now least most _ _ _ _ _ _;unfold m_balance_desk_room_j0;by_cases c1:now<least
    · rw [if_pos c1];exact M.i_t (decide_eq_true c1) (M.i_grd (gA2 (by omega) (by omega)) M.i_pure)
    · rw [if_neg c1];refine M.i_f (decide_eq_false c1) ?_;by_cases c2:now<most
      · rw [if_pos c2];exact M.i_t (decide_eq_true c2) (M.i_grd (gA2 (by omega) (by omega)) M.i_pure)
      · rw [if_neg c2];exact M.i_f (decide_eq_false c2) M.i_pure
  cases b with
  | false =>
    refine M.i_f rfl ?_;have:=j0 w.now w.lo w.hi (by omega) (by omega) (by omega) (by omega) (by omega) (by omega);simp only [Bl.prc,Bl.rm];split at this
    · next c=>rw [if_pos c,if_pos c]; exact this
    · next c =>
      rw [if_neg c,if_neg c];split at this
      · next c2=>rw [if_pos c2,if_pos c2]; exact this
      · next c2=>rw [if_neg c2,if_neg c2]; exact this
  | true =>
    refine M.i_t rfl (M.i_grd (gA2 (by omega) (by omega)) (M.i_grd (gA2 (by omega) (by omega)) (M.i_grd (gA2 (by omega) (by omega)) ?_)));have:=j0 (-w.now) (-w.hi) (-w.lo) (by omega) (by omega) (by omega) (by omega) (by omega) (by omega);simp only [Bl.prc,Bl.rm];by_cases c1:w.hi<w.now
    · rw [if_pos (show -w.now < -w.hi by omega)] at this;rw [if_pos c1,if_pos c1,show w.now-w.hi = -w.hi - -w.now by omega];exact this
    · rw [if_neg (show ¬ -w.now < -w.hi by omega)] at this;rw [if_neg c1,if_neg c1];by_cases c2:w.lo<w.now
      · rw [if_pos (show -w.now < -w.lo by omega)] at this;rw [if_pos c2,if_pos c2,show w.now-w.lo = -w.lo - -w.now by omega];exact this
      · rw [if_neg (show ¬ -w.now < -w.lo by omega)] at this;rw [if_neg c2,if_neg c2];exact this
theorem to_ends {k:Nat} (hk:k<L.length) (b:Bool):(m_balance_desk_to L o r ⟨(k:Int),b⟩).Ends (Bl.to_ (L.getD k default) b):=by
  have e:Int.toNat (k:Int)=k:=Int.toNat_natCast k;unfold m_balance_desk_to;cases b with
  | false=>refine M.i_f rfl (M.i_grd (gA2 (by dsimp only; omega) (by dsimp only; omega)) ?_); dsimp only; rw [e]; exact M.i_pure
  | true=>refine M.i_t rfl (M.i_grd (gA2 (by dsimp only; omega) (by dsimp only; omega)) ?_); dsimp only; rw [e]; exact M.i_pure
/-- The steps from a place, one after the other. -/
theorem steps_out {S:Type} (hl:Bl.Pl P L) {bd:S->BStep->M (S ⊕ Unit)} {q:Int} (J:Nat->S->Prop) {s0:S} (h0:J 0 s0)
    (hf:∀ k s,k<L.length->J k s->(L.getD k default).src=q->(bd s ⟨(k:Int),false⟩).Out (fun x=>∃ s',x = .inl s'/\J (k+1) s'))
    (hb:∀ k s,k<L.length->J k s->(L.getD k default).dst=q->(bd s ⟨(k:Int),true⟩).Out (fun x=>∃ s',x = .inl s'/\J (k+1) s'))
    (hn:∀ k s,k<L.length->J k s->(L.getD k default).src ≠ q->(L.getD k default).dst ≠ q->J (k+1) s) :
    (m_balance_desk_steps_1 (M.yl bd) (.inl s0) L o r q).Out (fun x=>∃ s',x = .inl s'/\J L.length s'):=by
  unfold m_balance_desk_steps_1;refine M.o_bind (M.o_for (Q:=fun x=>match x with | .inl _=>False | .inr t=>∃ s',t = .inl s'/\J L.length s') L.length (fun i (t:Nat × (S ⊕ Unit))=>t.1=i/\∃ s',t.2 = .inl s'/\J i s') ?_ ?_ ⟨rfl,s0,rfl,h0⟩) ?_
  · rintro _ ⟨k,t⟩ hk ⟨rfl,s,e,hJ⟩;dsimp only at hk e hJ;subst e;simp only [m_balance_desk_steps_1_b0];have hne:=hl.ne k hk;refine M.o_t (decide_eq_true (by omega)) (M.o_grdD (by omega) ?_);by_cases c1:(L.getD k default).src=q
    · have c2:(L.getD k default).dst ≠ q:=by omega
      have d1:((L.getD k default).src==q)=true:=beq_iff_eq.2 c1;have d2:((L.getD k default).dst==q)=false:=beq_eq_false_iff_ne.2 c2;refine M.o_bind (P:=fun y=>∃ s',y=(true,.inl s')/\J (k+1) s') (M.o_opt (fun _=>M.o_bind (hf k s hk hJ c1) ?_) (fun h=>by rw [d1] at h; cases h)) ?_
      · rintro _ ⟨s',rfl,h'⟩;exact M.o_pure ⟨s',rfl,h'⟩
      · rintro _ ⟨s',rfl,h'⟩;dsimp only;refine M.o_bind (P:=fun y=>y=(false,.inl s')) (M.o_opt (fun h=>by rw [d2] at h; simp at h) (fun _=>rfl)) ?_;rintro _ rfl;dsimp only;refine M.o_f (by rw [d1,d2]; rfl) (M.o_pure ⟨rfl,s',rfl,h'⟩)
    · have d1:((L.getD k default).src==q)=false:=beq_eq_false_iff_ne.2 c1;refine M.o_bind (P:=fun y=>y=(false,.inl s)) (M.o_opt (fun h=>by rw [d1] at h; cases h) (fun _=>rfl)) ?_;rintro _ rfl;dsimp only;by_cases c2:(L.getD k default).dst=q
      · have d2:((L.getD k default).dst==q)=true:=beq_iff_eq.2 c2;refine M.o_bind (P:=fun y=>∃ s',y=(true,.inl s')/\J (k+1) s') (M.o_opt (fun _=>M.o_bind (hb k s hk hJ c2) ?_) (fun h=>by rw [d1,d2] at h; simp at h)) ?_
        · rintro _ ⟨s',rfl,h'⟩;exact M.o_pure ⟨s',rfl,h'⟩
        · rintro _ ⟨s',rfl,h'⟩;dsimp only;exact M.o_f (by rw [d1,d2]; rfl) (M.o_pure ⟨rfl,s',rfl,h'⟩)
      · have d2:((L.getD k default).dst==q)=false:=beq_eq_false_iff_ne.2 c2;refine M.o_bind (P:=fun y=>y=(false,.inl s)) (M.o_opt (fun h=>by rw [d2] at h; simp at h) (fun _=>rfl)) ?_;rintro _ rfl;dsimp only;exact M.o_f (by rw [d1,d2]; rfl) (M.o_pure ⟨rfl,s,rfl,hn k s hk hJ c1 c2⟩)
  · rintro ⟨k,t⟩ ⟨e,s,e2,hJ⟩;dsimp only at e e2 hJ;subst e e2;simp only [m_balance_desk_steps_1_b0];exact M.o_f (decide_eq_false (by omega)) (M.o_pure ⟨s,rfl,hJ⟩)
  · rintro (t | t) ht
    · exact ht.elim
    · exact M.o_pure ht
/-- What one look does. -/
theorem look_out {bd:(Bl.Mp × Bool)->BStep->M ((Bl.Mp × Bool) ⊕ Unit)} (hP:P<=10) (hp:∀ x:Int,0<=x->x<P->-20<=p x-p a) (hl:Bl.Pl P L) (hc:Bl.Nc L cnt p) {q:Nat} {g:BFar}
    (hbd:∀ (mp:Bl.Mp) (s:Bool) (k:Nat) (b:Bool),k<L.length->(∀ f,lookM mp (Bl.to_ (L.getD k default) b)=some f->-1000<=f.cost/\f.cost<=1000/\0<=f.many/\f.many<=1000)->(bd (mp,s) ⟨(k:Int),b⟩).Ends (.inl (
      if (cnt k b&&Bl.bett (lookM mp (Bl.to_ (L.getD k default) b)) (g.cost+Bl.prc (L.getD k default) b) (g.many+1))=true then (setM mp (Bl.to_ (L.getD k default) b) ⟨g.cost+Bl.prc (L.getD k default) b,g.many+1,(k:Int),b⟩,true) else (mp,s))))
    {mp0 mp1:Bl.Mp} {s1:Bool} (hm:Bl.MI P L cnt p a mp1) (hg:lookM mp1 (q:Int)=some g) (h1:Bl.me P mp1<=Bl.me P mp0) (h2:s1=true->Bl.me P mp1<Bl.me P mp0) (h3:s1=false->mp1=mp0/\Bl.Fx L cnt mp1 q 0) :
    (m_balance_desk_steps_1 (M.yl bd) (.inl (mp1,s1)) L o r (q:Int)).Out (fun x=>∃ t,x = .inl t/\Bl.MI P L cnt p a t.1/\Bl.me P t.1<=Bl.me P mp0/\(t.2=true->Bl.me P t.1<Bl.me P mp0)/\(t.2=false->t.1=mp0/\Bl.Fx L cnt t.1 (q+1) 0)):=by
  have one:∀ (k:Nat) (t:Bl.Mp × Bool) (b:Bool),k<L.length->Bl.fro (L.getD k default) b=q →
      (Bl.MI P L cnt p a t.1/\lookM t.1 (q:Int)=some g/\Bl.me P t.1<=Bl.me P mp0/\(t.2=true->Bl.me P t.1<Bl.me P mp0)/\(t.2=false->t.1=mp0/\Bl.Fx L cnt t.1 q k)) →
      (bd t ⟨(k:Int),b⟩).Out (fun x=>∃ t',x = .inl t'/\(Bl.MI P L cnt p a t'.1/\lookM t'.1 (q:Int)=some g/\Bl.me P t'.1<=Bl.me P mp0/\(t'.2=true->Bl.me P t'.1<Bl.me P mp0)/\(t'.2=false->t'.1=mp0/\Bl.Fx L cnt t'.1 q (k+1)))):=by
    rintro k ⟨mp,s⟩ b hk hfr ⟨i1,i2,i3,i4,i5⟩;dsimp only at i1 i2 i3 i4 i5;have bb:=i1.fi hP hp;have hbb:=hbd mp s k b hk fun f hf=>by
      have a1:=i1.lb _ _ hf;have a2:=i1.ub _ _ hf;have a3:=i1.m0 _ _ hf;have a4:=Bl.En.le (P:=P) (mp:=mp);have a5:=i1.dom _ _ hf;have a6:=hp _ a5.1 a5.2;omega
    refine M.o_of hbb ?_;split
    · next c =>
      rw [Bool.and_eq_true,Bl.bett_iff] at c;have hgq:lookM mp (Bl.fro (L.getD k default) b)=some g:=by rw [hfr]; exact i2
      obtain ⟨r1,r2,r3⟩:=i1.relax hP hp hl hc hk c.1 hgq c.2;rw [hfr] at r3;exact ⟨_,rfl,r1,r3,by dsimp only; omega,fun _=>by dsimp only; omega,fun h=>by cases h⟩
    · next c =>
      rw [Bool.and_eq_true,Bl.bett_iff] at c;refine ⟨_,rfl,i1,i2,i3,i4,fun h=>?_⟩;obtain ⟨e,fx⟩:=i5 h;refine ⟨e,fun j b' hj hcj g' hg' hjq=>?_⟩;by_cases hjk:Bl.fro (L.getD j default) b'=q/\j=k
      · obtain ⟨e1,rfl⟩:=hjk;have eb:b'=b:=by
          have hne:=hl.ne j hj;cases b <;> cases b' <;> simp only [Bl.fro] at e1 hfr <;> first | rfl | (exfalso; omega)
        subst eb;rw [hfr] at hg';have:g'=g:=by rw [i2] at hg'; exact (Option.some.inj hg').symm
        subst this;have hnn:¬ ∀ f,lookM mp (Bl.to_ (L.getD j default) b')=some f->Bl.Lx (g'.cost+Bl.prc (L.getD j default) b') (g'.many+1) f.cost f.many:=fun h=>c ⟨hcj,h⟩;cases ef:lookM mp (Bl.to_ (L.getD j default) b') with
        | none=>exact absurd (fun f hf=>by rw [ef] at hf; cases hf) hnn
        | some f =>
          refine ⟨f,rfl,?_⟩;have:¬ Bl.Lx (g'.cost+Bl.prc (L.getD j default) b') (g'.many+1) f.cost f.many:=fun h=>hnn fun f' hf'=>by rw [ef] at hf'; obtain rfl:=Option.some.inj hf'; exact h
          unfold Bl.Lx at this;omega
      · refine fx j b' hj hcj g' hg' ?_;rcases hjq with h | ⟨h,h'⟩
        · exact .inl h
        · exact .inr ⟨h,by omega⟩
  refine M.o_mono (steps_out (o:=o) (r:=r) hl (q:=(q:Int)) (fun k (t:Bl.Mp × Bool)=>Bl.MI P L cnt p a t.1/\lookM t.1 (q:Int)=some g/\Bl.me P t.1<=Bl.me P mp0/\(t.2=true->Bl.me P t.1<Bl.me P mp0)/\(t.2=false->t.1=mp0/\Bl.Fx L cnt t.1 q k)) ⟨hm,hg,h1,h2,h3⟩ (fun k s hk hJ e=>one k s false hk e hJ) (fun k s hk hJ e=>one k s true hk e hJ) fun k s hk hJ e1 e2=>?_) ?_
  · obtain ⟨i1,i2,i3,i4,i5⟩:=hJ;refine ⟨i1,i2,i3,i4,fun h=>?_⟩;obtain ⟨e,fx⟩:=i5 h;refine ⟨e,fun j b' hj hcj g' hg' hjq=>fx j b' hj hcj g' hg' ?_⟩;rcases hjq with h | ⟨h,h'⟩
    · exact .inl h
    · refine .inr ⟨h,?_⟩;rcases Nat.lt_or_eq_of_le (Nat.le_of_lt_succ h') with g1 | rfl
      · exact g1
      · exfalso; cases b' <;> simp only [Bl.fro] at h <;> omega
  · rintro x ⟨t,rfl,i1,i2,i3,i4,i5⟩;refine ⟨t,rfl,i1,i3,i4,fun h=>?_⟩;obtain ⟨e,fx⟩:=i5 h;refine ⟨e,fun j b' hj hcj g' hg' hjq=>fx j b' hj hcj g' hg' ?_⟩;rcases hjq with h | ⟨h,h'⟩
    · rcases Int.lt_or_le (Bl.fro (L.getD j default) b') (q:Int) with g1 | g1
      · exact .inl g1
      · exact .inr ⟨by omega,hj⟩
    · omega
end Go.Proofs.YtlfkkkbhejeplaaGreat
namespace Go.Nm
namespace Bl
variable {P:Nat} {L:List BWay} {cnt:Nat->Bool->Bool} {p:Int->Int} {a:Int}
theorem MI.start (ha:0<=a/\a<P) (F:BFar) (h1:F.cost=0) (h2:F.many=0):MI P L cnt p a (setM [] a F):=by
  have look:∀ x,lookM (setM [] a F) x=if x=a then some F else none:=fun x=>lookM_set [] a F x
  obtain ⟨t,rfl⟩:∃ t:Nat,a=(t:Int):=⟨a.toNat,by omega⟩
  have hE:1<=En P (setM [] (t:Int) F):=by
    have:=Zs.one (f:=fun k=>enO (lookM (setM [] (t:Int) F) (k:Int))) (n:=P) (fun j _=>(enO_bd _).1) (k:=t) (by omega);rw [look,if_pos rfl] at this;exact this
  have hF:0<=Fi P (setM [] (t:Int) F):=Zs.nn fun k _=>by
    rw [look];split
    · simp only [fiO]; omega
    · simp [fiO]
  have key:∀ x f,lookM (setM [] (t:Int) F) x=some f->x=t/\f=F:=fun x f hx=>by
    rw [look] at hx;split at hx
    · next e=>exact ⟨e,(Option.some.inj hx).symm⟩
    · cases hx
  refine ⟨fun x f hx=>?_,⟨F,by rw [look,if_pos rfl],h1,h2⟩,fun x f hx=>?_,fun x f hx=>?_,fun x f hx=>?_,fun x f hx=>.inl (key x f hx).1⟩ <;> obtain ⟨rfl,rfl⟩:=key x f hx <;> omega
theorem bett_eq (o:Option BFar) (c m:Int):((!(o.isSome)||decide (c<(o.getD default).cost))||((c==(o.getD default).cost)&&decide (m<(o.getD default).many)))=bett o c m:=by
  cases o with
  | none=>rfl
  | some f =>
    simp only [Option.isSome_some,Option.getD_some,bett,Bool.not_true,Bool.false_or]
    congr 1
end Bl
end Go.Nm
namespace Go.Proofs.YtlfkkkbhejeplaaGreat
open Go Go.Nm
variable {P:Nat} {L:List BWay} {cnt:Nat->Bool->Bool} {p:Int->Int} {a:Int} {o r:Int}
theorem reach_154_b4 (hs:Bl.Nm_ L) {q:Nat} {mp2:Bl.Mp} {g:BFar} (hg:lookM mp2 (q:Int)=some g) (hc:-1000<=g.cost/\g.cost<=1000/\0<=g.many/\g.many<=1000) (mp:Bl.Mp) (s:Bool) (k:Nat) (b:Bool) (hk:k<L.length) :
    (m_balance_desk_reach_154_b4 L o r q mp2 (mp,s) ⟨(k:Int),b⟩).Ends (.inl (
      if (true&&Bl.bett (lookM mp (Bl.to_ (L.getD k default) b)) (g.cost+Bl.prc (L.getD k default) b) (g.many+1))=true then (setM mp (Bl.to_ (L.getD k default) b) ⟨g.cost+Bl.prc (L.getD k default) b,g.many+1,(k:Int),b⟩,true) else (mp,s))):=by
  have e:(lookM mp2 (q:Int)).getD default=g:=by rw [hg]; rfl
  have pb:=Bl.prc_bd (L.getD k default) b;unfold m_balance_desk_reach_154_b4;refine M.i_bind (a:=true) M.i_pure ?_
  · rw [Bool.true_and];refine M.i_f rfl (M.i_bind (room_ends hs hk b) ?_);dsimp only;rw [e];refine M.i_grd (gA2 (by omega) (by omega)) (M.i_grd (gA2 (by omega) (by omega)) (M.i_bind (to_ends hk b) ?_));rw [Bl.bett_eq];cases hb:Bl.bett (lookM mp (Bl.to_ (L.getD k default) b)) (g.cost+Bl.prc (L.getD k default) b) (g.many+1) with
    | true =>
      rw [if_pos rfl];exact M.i_t rfl (M.i_bind (to_ends hk b) M.i_pure)
    | false =>
      rw [if_neg (by simp)];exact M.i_f rfl M.i_pure
theorem reach_154_out (hs:Bl.Nm_ L) (hP:P<=10) (hp:∀ x:Int,0<=x->x<P->-20<=p x-p a) (hl:Bl.Pl P L) (hc:Bl.Nc L (fun _ _=>true) p) (ho:o+2=P) (ha:0<=a/\a<P) :
    (m_balance_desk_reach_154 L o r a).Out (Bl.Far P L (fun _ _=>true) p a):=by
  unfold m_balance_desk_reach_154;have pass:∀ mp0:Bl.Mp,Bl.MI P L (fun _ _=>true) p a mp0->(M.iter (m_balance_desk_reach_154_b5 L o r) (0,mp0,false)).Out (fun y=>Bl.MI P L (fun _ _=>true) p a y.1/\(y.2=true->Bl.me P y.1<Bl.me P mp0)/\(y.2=false->Bl.Fx L (fun _ _=>true) y.1 P 0)):=by
    intro mp0 h0;refine M.o_for P (fun i (t:Nat × Bl.Mp × Bool)=>t.1=i/\Bl.MI P L (fun _ _=>true) p a t.2.1/\Bl.me P t.2.1<=Bl.me P mp0/\(t.2.2=true->Bl.me P t.2.1<Bl.me P mp0)/\(t.2.2=false->t.2.1=mp0/\Bl.Fx L (fun _ _=>true) t.2.1 i 0)) ?_ ?_ ⟨rfl,h0,Nat.le_refl _,fun h=>(by cases h),fun _=>⟨rfl,fun k b hk hcn g hg hq=>?_⟩⟩
    · rintro _ ⟨i,mp,s⟩ hi ⟨rfl,i1,i2,i3,i4⟩;dsimp only at hi i1 i2 i3 i4;simp only [m_balance_desk_reach_154_b5];refine M.o_t (decide_eq_true (by omega)) ?_;cases hg:lookM mp (i:Int) with
      | none =>
        refine M.o_t (by simp) (M.o_grd (gA2 (by omega) (by omega)) (M.o_pure ⟨rfl,i1,i2,i3,fun h=>⟨(i4 h).1,fun k b hk hcn g hg' hq=>(i4 h).2 k b hk hcn g hg' ?_⟩⟩));rcases hq with h1 | h1
        · rcases Int.lt_or_le (Bl.fro (L.getD k default) b) (i:Int) with g1 | g1
          · exact .inl g1
          · exfalso;have:Bl.fro (L.getD k default) b=(i:Int):=by omega
            rw [this,hg] at hg';cases hg'
        · omega
      | some g =>
        have bb:=i1.fi hP hp;have a1:=i1.lb _ _ hg;have a2:=i1.ub _ _ hg;have a3:=i1.m0 _ _ hg;have a4:=Bl.En.le (P:=P) (mp:=mp);have a5:=i1.dom _ _ hg;have a6:=hp _ a5.1 a5.2;refine M.o_f (by simp) (M.o_bindE (a:=(i:Int)) M.i_pure ?_);refine M.o_bind (look_out (o:=o) (r:=r) (mp0:=mp0) hP hp hl hc (fun mp' s' k b hk _=>reach_154_b4 hs hg (by omega) mp' s' k b hk) i1 hg i2 i3 i4) ?_;rintro _ ⟨⟨mp',s'⟩,rfl,j1,j2,j3,j4⟩;exact M.o_grd (gA2 (by omega) (by omega)) (M.o_pure ⟨rfl,j1,j2,j3,j4⟩)
    · rintro ⟨i,mp,s⟩ ⟨e,i1,i2,i3,i4⟩;dsimp only at e i1 i2 i3 i4;subst e;simp only [m_balance_desk_reach_154_b5];exact M.o_f (decide_eq_false (by omega)) (M.o_pure ⟨i1,i3,fun h=>(i4 h).2⟩)
    · exfalso;rcases hq with h1 | h1
      · have d:=hl.d k hk;have s:=hl.s k hk;cases b <;> simp only [Bl.fro] at h1 <;> omega
      · omega
  refine M.o_bind (M.o_iter (Q:=Bl.Far P L (fun _ _=>true) p a) (fun m (t:Bl.Mp × Bool)=>Bl.MI P L (fun _ _=>true) p a t.1/\(t.2=false->Bl.Fx L (fun _ _=>true) t.1 P 0)/\m=if t.2 then Bl.me P t.1+1 else 0) ?_ _ _ ⟨Bl.MI.start ha _ rfl rfl,fun h=>(by cases h),rfl⟩) fun x hx=>M.o_pure hx;rintro m ⟨mp,s⟩ ⟨h1,h2,rfl⟩;dsimp only at h1 h2;simp only [m_balance_desk_reach_154_b6];cases s with
  | false=>exact M.o_f rfl (M.o_pure ⟨h1,h2 rfl⟩)
  | true =>
    refine M.o_t rfl (M.o_grd (gA2 (by omega) (by omega)) (M.o_bind (pass mp h1) ?_));rintro ⟨mp',s'⟩ ⟨j1,j2,j3⟩;dsimp only at j1 j2 j3;refine M.o_pure ⟨_,?_,j1,j3,rfl⟩;dsimp only;cases s' with
    | true=>have:=j2 rfl; simp; omega
    | false=>simp
/-- Steps that cost nothing, but for one way. -/
def fre (L:List BWay) (t:Nat) (k:Nat) (b:Bool):Bool:=(Bl.prc (L.getD k default) b==0)&&decide (k ≠ t)
theorem shift1_ends (hs:Bl.Nm_ L) {k t:Nat} (hk:k<L.length) (b:Bool):(m_balance_desk_shift_1 ⟨(k:Int),b⟩ L o r (t:Int)).Ends (fre L t k b):=by
  unfold m_balance_desk_shift_1;refine M.i_bind (room_ends hs hk b) ?_;dsimp only;have e:((Bl.prc (L.getD k default) b==0)&&(!(decide ((⟨(k:Int),b⟩:BStep)=⟨(t:Int),true⟩)))&&(!(decide ((⟨(k:Int),b⟩:BStep)=⟨(t:Int),false⟩))))=fre L t k b:=by
    unfold fre;rw [Bool.and_assoc]
    congr 1
    by_cases c:k=t
    · subst c;cases b <;> simp
    · have:¬ ((k:Int)=(t:Int)):=by omega
      simp [c,this]
  rw [e];exact M.i_pure
theorem reach_116_b4 {yy:Nat} (hs:Bl.Nm_ L) {q:Nat} {mp2:Bl.Mp} {g:BFar} (hg:lookM mp2 (q:Int)=some g) (hc:-1000<=g.cost/\g.cost<=1000/\0<=g.many/\g.many<=1000) (mp:Bl.Mp) (s:Bool) (k:Nat) (b:Bool) (hk:k<L.length) :
    (m_balance_desk_reach_116_b4 L o r L o r (yy:Int) q mp2 (mp,s) ⟨(k:Int),b⟩).Ends (.inl (
      if ((fre L yy) k b&&Bl.bett (lookM mp (Bl.to_ (L.getD k default) b)) (g.cost+Bl.prc (L.getD k default) b) (g.many+1))=true then (setM mp (Bl.to_ (L.getD k default) b) ⟨g.cost+Bl.prc (L.getD k default) b,g.many+1,(k:Int),b⟩,true) else (mp,s))):=by
  have e:(lookM mp2 (q:Int)).getD default=g:=by rw [hg]; rfl
  have pb:=Bl.prc_bd (L.getD k default) b;unfold m_balance_desk_reach_116_b4;refine M.i_bind (shift1_ends hs hk b) ?_;cases hcn:(fre L yy) k b with
  | false =>
    rw [Bool.false_and,if_neg (by simp)];exact M.i_t rfl M.i_pure
  | true =>
    rw [Bool.true_and];refine M.i_f rfl (M.i_bind (room_ends hs hk b) ?_);dsimp only;rw [e];refine M.i_grd (gA2 (by omega) (by omega)) (M.i_grd (gA2 (by omega) (by omega)) (M.i_bind (to_ends hk b) ?_));rw [Bl.bett_eq];cases hb:Bl.bett (lookM mp (Bl.to_ (L.getD k default) b)) (g.cost+Bl.prc (L.getD k default) b) (g.many+1) with
    | true =>
      rw [if_pos rfl];exact M.i_t rfl (M.i_bind (to_ends hk b) M.i_pure)
    | false =>
      rw [if_neg (by simp)];exact M.i_f rfl M.i_pure
theorem reach_116_out {yy:Nat} (hs:Bl.Nm_ L) (hP:P<=10) (hp:∀ x:Int,0<=x->x<P->-20<=p x-p a) (hl:Bl.Pl P L) (hc:Bl.Nc L (fre L yy) p) (ho:o+2=P) (ha:0<=a/\a<P) :
    (m_balance_desk_reach_116 L o r a L o r (yy:Int)).Out (Bl.Far P L (fre L yy) p a):=by
  unfold m_balance_desk_reach_116;have pass:∀ mp0:Bl.Mp,Bl.MI P L (fre L yy) p a mp0->(M.iter (m_balance_desk_reach_116_b5 L o r L o r (yy:Int)) (0,mp0,false)).Out (fun y=>Bl.MI P L (fre L yy) p a y.1/\(y.2=true->Bl.me P y.1<Bl.me P mp0)/\(y.2=false->Bl.Fx L (fre L yy) y.1 P 0)):=by
    intro mp0 h0;refine M.o_for P (fun i (t:Nat × Bl.Mp × Bool)=>t.1=i/\Bl.MI P L (fre L yy) p a t.2.1/\Bl.me P t.2.1<=Bl.me P mp0/\(t.2.2=true->Bl.me P t.2.1<Bl.me P mp0)/\(t.2.2=false->t.2.1=mp0/\Bl.Fx L (fre L yy) t.2.1 i 0)) ?_ ?_ ⟨rfl,h0,Nat.le_refl _,fun h=>(by cases h),fun _=>⟨rfl,fun k b hk hcn g hg hq=>?_⟩⟩
    · rintro _ ⟨i,mp,s⟩ hi ⟨rfl,i1,i2,i3,i4⟩;dsimp only at hi i1 i2 i3 i4;simp only [m_balance_desk_reach_116_b5];refine M.o_t (decide_eq_true (by omega)) ?_;cases hg:lookM mp (i:Int) with
      | none =>
        refine M.o_t (by simp) (M.o_grd (gA2 (by omega) (by omega)) (M.o_pure ⟨rfl,i1,i2,i3,fun h=>⟨(i4 h).1,fun k b hk hcn g hg' hq=>(i4 h).2 k b hk hcn g hg' ?_⟩⟩));rcases hq with h1 | h1
        · rcases Int.lt_or_le (Bl.fro (L.getD k default) b) (i:Int) with g1 | g1
          · exact .inl g1
          · exfalso;have:Bl.fro (L.getD k default) b=(i:Int):=by omega
            rw [this,hg] at hg';cases hg'
        · omega
      | some g =>
        have bb:=i1.fi hP hp;have a1:=i1.lb _ _ hg;have a2:=i1.ub _ _ hg;have a3:=i1.m0 _ _ hg;have a4:=Bl.En.le (P:=P) (mp:=mp);have a5:=i1.dom _ _ hg;have a6:=hp _ a5.1 a5.2;refine M.o_f (by simp) (M.o_bindE (a:=(i:Int)) M.i_pure ?_);refine M.o_bind (look_out (o:=o) (r:=r) (mp0:=mp0) hP hp hl hc (fun mp' s' k b hk _=>reach_116_b4 hs hg (by omega) mp' s' k b hk) i1 hg i2 i3 i4) ?_;rintro _ ⟨⟨mp',s'⟩,rfl,j1,j2,j3,j4⟩;exact M.o_grd (gA2 (by omega) (by omega)) (M.o_pure ⟨rfl,j1,j2,j3,j4⟩)
    · rintro ⟨i,mp,s⟩ ⟨e,i1,i2,i3,i4⟩;dsimp only at e i1 i2 i3 i4;subst e;simp only [m_balance_desk_reach_116_b5];exact M.o_f (decide_eq_false (by omega)) (M.o_pure ⟨i1,i3,fun h=>(i4 h).2⟩)
    · exfalso;rcases hq with h1 | h1
      · have d:=hl.d k hk;have s:=hl.s k hk;cases b <;> simp only [Bl.fro] at h1 <;> omega
      · omega
  refine M.o_bind (M.o_iter (Q:=Bl.Far P L (fre L yy) p a) (fun m (t:Bl.Mp × Bool)=>Bl.MI P L (fre L yy) p a t.1/\(t.2=false->Bl.Fx L (fre L yy) t.1 P 0)/\m=if t.2 then Bl.me P t.1+1 else 0) ?_ _ _ ⟨Bl.MI.start ha _ rfl rfl,fun h=>(by cases h),rfl⟩) fun x hx=>M.o_pure hx;rintro m ⟨mp,s⟩ ⟨h1,h2,rfl⟩;dsimp only at h1 h2;simp only [m_balance_desk_reach_116_b6];cases s with
  | false=>exact M.o_f rfl (M.o_pure ⟨h1,h2 rfl⟩)
  | true =>
    refine M.o_t rfl (M.o_grd (gA2 (by omega) (by omega)) (M.o_bind (pass mp h1) ?_));rintro ⟨mp',s'⟩ ⟨j1,j2,j3⟩;dsimp only at j1 j2 j3;refine M.o_pure ⟨_,?_,j1,j3,rfl⟩;dsimp only;cases s' with
    | true=>have:=j2 rfl; simp; omega
    | false=>simp
end Go.Proofs.YtlfkkkbhejeplaaGreat
namespace Go.Nm
namespace Bl
variable {P:Nat} {L L':List BWay} {cnt:Nat->Bool->Bool} {p:Int->Int} {a t:Int} {mp:Mp}
/-- The place ahead of one. -/
def prd (L:List BWay) (mp:Mp) (x:Int):Int:=match lookM mp x with
  | some f=>fro (L.getD f.way.toNat default) f.back
  | none=>x
/-- The places back from one. -/
def plc (L:List BWay) (mp:Mp) (t:Int):Nat->Int
  | 0=>t
  | j+1=>prd L mp (plc L mp t j)
theorem Far.step (h:Far P L cnt p a mp) {x:Int} {f:BFar} (hx:lookM mp x=some f) (hne:x ≠ a):∃ k:Nat,f.way=k/\k<L.length/\cnt k f.back=true/\to_ (L.getD k default) f.back=x/\fro (L.getD k default) f.back=prd L mp x/\∃ g,lookM mp (prd L mp x)=some g/\f.cost=g.cost+prc (L.getD k default) f.back/\f.many=g.many+1:=by
  rcases h.mi.pr x f hx with q | ⟨k,k1,k2,k3,k4,g,g1,g2⟩
  · exact absurd q hne
  · have e:prd L mp x=fro (L.getD k default) f.back:=by
      unfold prd;rw [hx];dsimp only;rw [k1,Int.toNat_natCast]
    have d:=h.mi.dom _ _ g1;obtain ⟨f',f1,f2⟩:=h.fx k f.back k2 k3 g g1 (.inl d.2);rw [k4,hx] at f1;obtain rfl:=Option.some.inj f1;exact ⟨k,k1,k2,k3,k4,e.symm,g,by rw [e]; exact g1,by omega,by omega⟩
/-- How many places lie on the way from one. -/
theorem Far.plc (h:Far P L cnt p a mp) {f:BFar} (ht:lookM mp t=some f):∀ j:Nat,(j:Int)<=f.many->∃ g,lookM mp (Bl.plc L mp t j)=some g/\g.many=f.many-j
  | 0,_=>⟨f,ht,by omega⟩
  | j+1,hj=>by
    obtain ⟨g,g1,g2⟩:=h.plc ht j (by omega);have hne:Bl.plc L mp t j ≠ a:=by
      intro e;obtain ⟨s,s1,s2,s3⟩:=h.mi.st;rw [e,s1] at g1;obtain rfl:=Option.some.inj g1;omega
    obtain ⟨k,_,_,_,_,_,g',h1,h2,h3⟩:=h.step g1 hne;exact ⟨g',h1,by omega⟩
theorem Far.home (h:Far P L cnt p a mp) {x:Int} {f:BFar} (hx:lookM mp x=some f) (h0:f.many=0):x=a:=by
  by_cases e:x=a
  · exact e
  · obtain ⟨k,_,_,_,_,_,g,g1,_,g3⟩:=h.step hx e;have:=h.mi.m0 _ _ g1;omega
theorem Far.away (h:Far P L cnt p a mp) {x:Int} {f:BFar} (hx:lookM mp x=some f) (h0:f.many ≠ 0):x ≠ a:=by
  intro e;obtain ⟨s,s1,s2,s3⟩:=h.mi.st;rw [e,s1] at hx;obtain rfl:=Option.some.inj hx;exact h0 s3
/-- What a way has when it was moved on. -/
def psh (w:BWay) (b:Bool) (n:Int):BWay:={ w with now:=match b with
  | false=>w.now+n
  | true=>w.now-n }
/-- What is moved. -/
structure Mv (L L':List BWay) (cnt:Nat->Bool->Bool) (mp:Mp) (a t n:Int):Prop where
  len:L'.length=L.length
  ex:∀ q,ex L' q=ex L q+n*(q t-q a)
  w:∀ k,k<L.length->L'.getD k default=L.getD k default∨∃ b f g,cnt k b=true/\lookM mp (to_ (L.getD k default) b)=some f/\lookM mp (fro (L.getD k default) b)=some g/\f.cost=g.cost+prc (L.getD k default) b/\n<=rm (L.getD k default) b/\L'.getD k default=psh (L.getD k default) b n
theorem getD_setB {l:List BWay} {x:BWay} {i k:Nat} (hi:i<l.length):(l.set i x).getD k default=if k=i then x else l.getD k default:=by
  simp only [List.getD_eq_getElem?_getD,List.getElem?_set];by_cases e:i=k
  · subst e; simp [hi]
  · rw [if_neg e,if_neg (fun h=>e h.symm)]
theorem ex_set {l:List BWay} {k:Nat} (hk:k<l.length) (b:Bool) (n:Int) (q:Int->Int):ex (l.set k (psh (l.getD k default) b n)) q=ex l q+n*(q (to_ (l.getD k default) b)-q (fro (l.getD k default) b)):=by
  unfold ex;rw [List.length_set];have:=Zs.upd (f:=fun j=>(l.getD j default).now*(q (l.getD j default).dst-q (l.getD j default).src)) (g:=fun j=>((l.set k (psh (l.getD k default) b n)).getD j default).now*(q ((l.set k (psh (l.getD k default) b n)).getD j default).dst-q ((l.set k (psh (l.getD k default) b n)).getD j default).src)) hk fun j hj hne=>by
    rw [getD_setB hk,if_neg hne]
  rw [this,getD_setB hk,if_pos rfl]
  congr 1
  cases b with
  | false=>simp only [psh,to_,fro]; rw [Int.add_mul]; omega
  | true =>
    simp only [psh,to_,fro];rw [Int.sub_mul,show q (l.getD k default).src-q (l.getD k default).dst = -(q (l.getD k default).dst-q (l.getD k default).src) by omega,Int.mul_neg];omega
end Bl
end Go.Nm
namespace Go.Proofs.YtlfkkkbhejeplaaGreat
open Go Go.Nm
variable {P:Nat} {L:List BWay} {cnt:Nat->Bool->Bool} {p:Int->Int} {a t:Int} {o r:Int} {mp:Bl.Mp}
theorem moved_out (hs:Bl.Nm_ L) (hP:P<=10) (hp:∀ x:Int,0<=x->x<P->-20<=p x-p a) (hl:Bl.Pl P L) (h:Bl.Far P L cnt p a mp) {f:BFar} (ht:lookM mp t=some f) {most:Int} (hm:1<=most) (hm2:most<=1000000000000) :
    (m_balance_desk_moved L o r a t mp most).Out (fun y=>(1<=y.1/\y.1<=most)/\Bl.Mv L y.2 cnt mp a t y.1):=by
  have bb:=h.mi.fi hP hp;have m0:=h.mi.m0 _ _ ht;obtain ⟨Mn,hM⟩:∃ Mn:Nat,f.many=(Mn:Int):=⟨f.many.toNat,by omega⟩
  -- the entries on the way
  have hpl:∀ j:Nat,j<=Mn->∃ g,lookM mp (Bl.plc L mp t j)=some g/\g.many=(Mn:Int)-j:=fun j hj=>by
    obtain ⟨g,g1,g2⟩:=h.plc ht j (by omega);exact ⟨g,g1,by omega⟩
  have hst:∀ j:Nat,j<Mn->∃ (k:Nat) (b:Bool) (fj gj:BFar),lookM mp (Bl.plc L mp t j)=some fj/\fj.way=k/\fj.back=b/\k<L.length/\cnt k b=true/\Bl.to_ (L.getD k default) b=Bl.plc L mp t j/\Bl.fro (L.getD k default) b=Bl.plc L mp t (j+1)/\lookM mp (Bl.plc L mp t (j+1))=some gj/\fj.cost=gj.cost+Bl.prc (L.getD k default) b:=fun j hj=>by
    obtain ⟨g,g1,g2⟩:=hpl j (by omega);obtain ⟨k,k1,k2,k3,k4,k5,g',g3,g4,g5⟩:=h.step g1 (h.away g1 (by omega));exact ⟨k,g.back,g,g',g1,k1,rfl,k2,k3,k4,k5,g3,g4⟩
  have hinj:∀ i j:Nat,i<=Mn->j<=Mn->Bl.plc L mp t i=Bl.plc L mp t j->i=j:=fun i j hi hj e=>by
    obtain ⟨g,g1,g2⟩:=hpl i hi;obtain ⟨g',g3,g4⟩:=hpl j hj;rw [e,g3] at g1;obtain rfl:=Option.some.inj g1;omega
  have hend:Bl.plc L mp t Mn=a:=by
    obtain ⟨g,g1,g2⟩:=hpl Mn (Nat.le_refl _);exact h.home g1 (by omega)
  unfold m_balance_desk_moved
  -- the trail
  refine M.o_bind (P:=fun y=>y.2.length=Mn/\∀ j,j<Mn->∃ fj,lookM mp (Bl.plc L mp t j)=some fj/\y.2.getD j default=⟨fj.way,fj.back⟩) (M.o_for Mn (fun i (s:Int × List BStep)=>s.1=Bl.plc L mp t i/\s.2.length=i/\∀ j,j<i->∃ fj,lookM mp (Bl.plc L mp t j)=some fj/\s.2.getD j default=⟨fj.way,fj.back⟩) ?_ ?_ ⟨rfl,rfl,fun j hj=>by omega⟩) ?_
  · rintro i ⟨x,l2⟩ hi ⟨e,hl2,hj⟩;dsimp only at e hl2 hj;subst e;obtain ⟨k,b,fj,gj,f1,f2,f3,f4,f5,f6,f7,f8,f9⟩:=hst i hi;obtain ⟨g,g1,g2⟩:=hpl i (by omega);have hne:Bl.plc L mp t i ≠ a:=h.away g1 (by omega);simp only [m_balance_desk_moved_b0];rw [f1];simp only [Option.getD_some];refine M.o_t (by simpa using hne) (M.o_grdD (by simp; omega) ?_);have:=to_ends (L:=L) (o:=o) (r:=r) f4 (!b);rw [f2,f3];refine M.o_bindE this (M.o_pure ⟨?_,by simp [hl2],fun j hj'=>?_⟩)
    · rw [← f7]; cases b <;> rfl
    · dsimp only;by_cases e:j<i
      · obtain ⟨fj',j1,j2⟩:=hj j e;refine ⟨fj',j1,?_⟩;rw [List.getD_eq_getElem?_getD,List.getElem?_append_left (by omega),← List.getD_eq_getElem?_getD];exact j2
      · obtain rfl:j=i:=by omega
        refine ⟨fj,f1,?_⟩;rw [List.getD_eq_getElem?_getD,List.getElem?_append_right (by omega),hl2];simp [f2,f3]
  · rintro ⟨x,l2⟩ ⟨e,hl2,hj⟩;dsimp only at e hl2 hj;subst e;simp only [m_balance_desk_moved_b0];exact M.o_f (by rw [hend]; simp) (M.o_pure ⟨hl2,hj⟩)
  rintro ⟨l3,ts⟩ ⟨hts,htj⟩;dsimp only at hts htj ⊢;have htd:∀ j,j<Mn->∃ (k:Nat) (b:Bool) (fj gj:BFar),ts.getD j default=⟨(k:Int),b⟩/\k<L.length/\cnt k b=true/\Bl.to_ (L.getD k default) b=Bl.plc L mp t j/\Bl.fro (L.getD k default) b=Bl.plc L mp t (j+1)/\lookM mp (Bl.plc L mp t j)=some fj/\lookM mp (Bl.plc L mp t (j+1))=some gj/\fj.cost=gj.cost+Bl.prc (L.getD k default) b:=fun j hj=>by
    obtain ⟨k,b,fj,gj,f1,f2,f3,f4,f5,f6,f7,f8,f9⟩:=hst j hj;obtain ⟨fj',j1,j2⟩:=htj j hj;rw [f1] at j1;obtain rfl:=Option.some.inj j1;exact ⟨k,b,fj,gj,by rw [j2,f2,f3],f4,f5,f6,f7,f1,f8,f9⟩
  have hway:∀ i j:Nat,i<Mn->j<Mn->(ts.getD i default).way=(ts.getD j default).way->i=j:=fun i j hi hj e=>by
    obtain ⟨k,b,fj,gj,e1,e2,e3,e4,e5,_⟩:=htd i hi;obtain ⟨k',b',fj',gj',e1',e2',e3',e4',e5',_⟩:=htd j hj;rw [e1,e1'] at e;dsimp only at e;obtain rfl:k=k':=by omega
    by_cases hb:b=b'
    · subst hb;rw [e4] at e4';exact hinj i j (by omega) (by omega) e4'
    · have x1:Bl.plc L mp t i=Bl.plc L mp t (j+1):=by rw [← e4,← e5']; cases b <;> cases b' <;> first | rfl | exact absurd rfl hb
      have x2:Bl.plc L mp t (i+1)=Bl.plc L mp t j:=by rw [← e5,← e4']; cases b <;> cases b' <;> first | rfl | exact absurd rfl hb
      have y1:=hinj i (j+1) (by omega) (by omega) x1;have y2:=hinj (i+1) j (by omega) (by omega) x2;omega
  -- how much there is room for
  refine M.o_bind (P:=fun n=>(1<=n/\n<=most)/\∀ j,j<Mn->∀ (k:Nat) b,ts.getD j default=⟨(k:Int),b⟩->n<=Bl.rm (L.getD k default) b) (M.o_for Mn (fun i (s:Int × Nat)=>s.2=i/\(1<=s.1/\s.1<=most)/\∀ j,j<i->∀ (k:Nat) b,ts.getD j default=⟨(k:Int),b⟩->s.1<=Bl.rm (L.getD k default) b) ?_ ?_ ⟨rfl,⟨hm,Int.le_refl _⟩,fun j hj=>by omega⟩) ?_
  · rintro _ ⟨n,i⟩ hi ⟨rfl,⟨n1,n2⟩,hj⟩;dsimp only at hi n1 n2 hj;simp only [m_balance_desk_moved_b1];obtain ⟨k,b,fj,gj,e1,e2,_⟩:=htd i hi;have rp:=Bl.rm_pos (L.getD k default) b;refine M.o_t (decide_eq_true (by omega)) (M.o_grdD (by omega) ?_);rw [e1];refine M.o_bindE (room_ends hs e2 b) (M.o_pure ⟨rfl,⟨by dsimp only; omega,by dsimp only; omega⟩,fun j hj' k' b' e=>?_⟩);dsimp only;by_cases c:j<i
    · have:=hj j c k' b' e;omega
    · obtain rfl:j=i:=by omega
      rw [e1] at e;have e3:=congrArg BStep.way e;have e4:=congrArg BStep.back e;dsimp only at e3 e4;obtain rfl:k=k':=by omega
      subst e4;omega
  · rintro ⟨n,i⟩ ⟨e,hn,hj⟩;dsimp only at e hn hj;subst e;simp only [m_balance_desk_moved_b1];exact M.o_f (decide_eq_false (by omega)) (M.o_pure ⟨hn,hj⟩)
  rintro n ⟨⟨n1,n2⟩,hroom⟩
  -- it is moved
  refine M.o_bind (P:=fun y=>Bl.Mv L y.2 cnt mp a t n) (M.o_for Mn (fun i (s:List BWay × Nat)=>s.2=i/\s.1.length=L.length/\(∀ q,Bl.ex s.1 q=Bl.ex L q+n*(q t-q (Bl.plc L mp t i)))/\(∀ k,k<L.length->(∀ j,j<i->(ts.getD j default).way ≠ (k:Int))->s.1.getD k default=L.getD k default)/\∀ j,j<i->∀ (k:Nat) b,ts.getD j default=⟨(k:Int),b⟩->s.1.getD k default=Bl.psh (L.getD k default) b n) ?_ ?_ ⟨rfl,rfl,fun q=>?_,fun k _ _=>rfl,fun j hj=>by omega⟩) ?_
  · rintro _ ⟨K,i⟩ hi ⟨rfl,hlen,hex,hun,hdo⟩;dsimp only at hi hlen hex hun hdo;simp only [m_balance_desk_moved_b2];obtain ⟨k,b,fj,gj,e1,e2,e3,e4,e5,_⟩:=htd i hi;have hk:K.getD k default=L.getD k default:=hun k e2 fun j hj e=>by
      have:=hway j i (by omega) hi (by rw [e,e1]);omega
    have nw:=hs.now k e2;have hkl:k<K.length:=by omega
    refine M.o_t (decide_eq_true (by omega)) (M.o_grdD (by omega) ?_);rw [e1];have mv1:(m_balance_desk_moved_1 ⟨(k:Int),b⟩ K o r n).Ends (K.set k (Bl.psh (K.getD k default) b n)):=by
      unfold m_balance_desk_moved_1;have et:Int.toNat (k:Int)=k:=Int.toNat_natCast k;cases b with
      | false =>
        refine M.i_f rfl (M.i_grd (gA2 (by dsimp only; omega) (by dsimp only; omega)) ?_);dsimp only;rw [et];exact M.i_grd (gA2 (by rw [hk]; omega) (by rw [hk]; omega)) M.i_pure
      | true =>
        refine M.i_t rfl (M.i_grd (gA2 (by dsimp only; omega) (by dsimp only; omega)) ?_);dsimp only;rw [et];exact M.i_grd (gA2 (by rw [hk]; omega) (by rw [hk]; omega)) M.i_pure
    refine M.o_bindE mv1 (M.o_pure ⟨rfl,by simp [hlen],fun q=>?_,fun k' hk' hj=>?_,fun j hj k' b' e=>?_⟩)
    · dsimp only;rw [Bl.ex_set hkl,hex,hk,e4,e5,Int.add_assoc,← Int.mul_add]
      congr 2
      omega
    · dsimp only;have hne:k' ≠ k:=by
        intro e;subst e;exact hj i (by omega) (by rw [e1])
      rw [Bl.getD_setB hkl,if_neg hne];exact hun k' hk' fun j hj'=>hj j (by omega)
    · dsimp only;rw [Bl.getD_setB hkl];by_cases c:j<i
      · have hne:k' ≠ k:=by
          intro e';subst e';have:=hway j i (by omega) hi (by rw [e,e1]);omega
        rw [if_neg hne];exact hdo j c k' b' e
      · obtain rfl:j=i:=by omega
        rw [e1] at e;have e3:=congrArg BStep.way e;have e4:=congrArg BStep.back e;dsimp only at e3 e4;obtain rfl:k=k':=by omega
        subst e4;rw [if_pos rfl,hk]
  · rintro ⟨K,i⟩ ⟨e,hlen,hex,hun,hdo⟩;dsimp only at e hlen hex hun hdo;subst e;simp only [m_balance_desk_moved_b2];refine M.o_f (decide_eq_false (by omega)) (M.o_pure ⟨hlen,fun q=>by rw [hex,hend],fun k hk=>?_⟩);by_cases c:∃ j,j<i/\(ts.getD j default).way=(k:Int)
    · obtain ⟨j,j1,j2⟩:=c;obtain ⟨k',b,fj,gj,e1,e2,e3,e4,e5,e6,e7,e8⟩:=htd j j1;rw [e1] at j2;dsimp only at j2;obtain rfl:k'=k:=by omega
      exact .inr ⟨b,fj,gj,e3,by rw [e4]; exact e6,by rw [e5]; exact e7,e8,hroom j j1 k' b e1,hdo j j1 k' b e1⟩
    · exact .inl (hun k hk fun j hj e=>c ⟨j,hj,e⟩)
  · dsimp only;rw [show Bl.plc L mp t 0=t from rfl,Int.sub_self,Int.mul_zero,Int.add_zero]
  rintro ⟨K1,K2⟩ hK;exact M.o_pure ⟨⟨n1,n2⟩,hK⟩
end Go.Proofs.YtlfkkkbhejeplaaGreat
namespace Go.Nm
namespace Bl
variable {P:Nat} {L L':List BWay} {cnt:Nat->Bool->Bool} {p:Int->Int} {a t:Int} {mp:Mp}
/-- Different places below P are no more than P. -/
theorem few:∀ (P n:Nat) (f:Nat->Nat),(∀ i,i<n->f i<P)->(∀ i j,i<n->j<n->f i=f j->i=j)->n<=P
  | 0,n,f,h,_=>by
    rcases Nat.eq_zero_or_pos n with e | e
    · omega
    · exact absurd (h 0 e) (by omega)
  | P + 1, n, f, h, hi => by
    rcases Nat.eq_zero_or_pos n with e | e
    · omega
    -- without the last one,each that is P takes its place
    have:=few P (n-1) (fun i=>if f i=P then f (n-1) else f i) (fun i hi'=>by
      split
      · next e1 =>
        have h1:=h (n-1) (by omega);have:f (n-1) ≠ P:=fun e2=>by
          have:=hi i (n-1) (by omega) (by omega) (by omega);omega
        omega
      · have:=h i (by omega); omega) (fun i j hi1 hj1 e1=>by
      split at e1 <;> split at e1
      · exact hi i j (by omega) (by omega) (by omega)
      · have:=hi (n-1) j (by omega) (by omega) e1; omega
      · have:=hi i (n-1) (by omega) (by omega) e1; omega
      · exact hi i j (by omega) (by omega) e1)
    omega
theorem Far.inj (h:Far P L cnt p a mp) {f:BFar} (ht:lookM mp t=some f):f.many+1<=P:=by
  have m0:=h.mi.m0 _ _ ht;have hp:∀ j:Nat,(j:Int)<=f.many->0<=Bl.plc L mp t j/\Bl.plc L mp t j<P:=fun j hj=>by
    obtain ⟨g,g1,_⟩:=h.plc ht j hj;exact h.mi.dom _ _ g1
  have:=few P (f.many.toNat+1) (fun j=>(Bl.plc L mp t j).toNat) (fun i hi=>by
    have:=hp i (by omega);omega) (fun i j hi hj e=>by
    have h1:=hp i (by omega);have h2:=hp j (by omega);have e2:Bl.plc L mp t i=Bl.plc L mp t j:=by omega
    obtain ⟨g,g1,g2⟩:=h.plc ht i (by omega);obtain ⟨g',g3,g4⟩:=h.plc ht j (by omega);rw [e2,g3] at g1;obtain rfl:=Option.some.inj g1;omega)
  omega
theorem Far.low (h:Far P L cnt p a mp):∀ (m:Nat) (x:Int) (f:BFar),lookM mp x=some f->f.many=m->-(m:Int)<=f.cost
  | 0,x,f,hx,hm=>by
    have e:=h.home hx (by omega);obtain ⟨s,s1,s2,s3⟩:=h.mi.st;rw [e,s1] at hx;obtain rfl:=Option.some.inj hx;omega
  | m+1,x,f,hx,hm=>by
    obtain ⟨k,_,_,_,_,_,g,g1,g2,g3⟩:=h.step hx (h.away hx (by omega));have ih:=h.low m _ g g1 (by omega);have:=prc_bd (L.getD k default) f.back;omega
theorem Far.bd (h:Far P L cnt p a mp) (hP:P<=10) {x:Int} {f:BFar} (hx:lookM mp x=some f):-9<=f.cost/\f.cost<=9:=by
  have m0:=h.mi.m0 _ _ hx;have i:=h.inj hx;have l:=h.low f.many.toNat x f hx (by omega);have u:=h.mi.ub _ _ hx;have e:=En.le (P:=P) (mp:=mp);omega
/-- The costs as potentials. -/
def pot (mp:Mp) (x:Int):Int:=match lookM mp x with
  | some f=>f.cost
  | none=>0
theorem pot_some {x:Int} {f:BFar} (h:lookM mp x=some f):pot mp x=f.cost:=by
  unfold pot;rw [h]
theorem pot_bd (h:Far P L cnt p a mp) (hP:P<=10) (x:Int):-9<=pot mp x/\pot mp x<=9:=by
  unfold pot;cases e:lookM mp x with
  | none=>dsimp only; omega
  | some f=>exact h.bd hP e
theorem psh_shape (w:BWay) (b:Bool) (n:Int):psh w b n={ w with now:=(psh w b n).now }:=by cases b <;> rfl
theorem Mv.sm {n:Int} (h:Mv L L' cnt mp a t n):Sm L L':=⟨h.len,fun k hk=>by
  rcases h.w k hk with e | ⟨b,f,g,_,_,_,_,_,e⟩
  · rw [e]
  · rw [e]; exact psh_shape _ _ _⟩
/-- After a move on cheapest ways none is cheaper than nothing. -/
theorem Mv.noneg {n:Int} (hr:Right L) (hn:1<=n) (h:Mv L L' (fun _ _=>true) mp a t n) (hf:Far P L (fun _ _=>true) p a mp) (hall:∀ k,k<L.length->(∃ f,lookM mp (L.getD k default).src=some f)/\∃ f,lookM mp (L.getD k default).dst=some f) (hP:Pl P L):NoNeg L' (pot mp):=by
  intro k hk;rw [h.len] at hk;obtain ⟨⟨f,hf1⟩,⟨g,hg1⟩⟩:=hall k hk;have hs:=hP.s k hk;have hd:=hP.d k hk;have e1:=pot_some hf1;have e2:=pot_some hg1;have n1:g.cost<=f.cost+prc (L.getD k default) false:=by
    obtain ⟨f',q1,q2⟩:=hf.fx k false hk rfl f hf1 (.inl hs.2);rw [show to_ (L.getD k default) false=(L.getD k default).dst from rfl,hg1] at q1;obtain rfl:=Option.some.inj q1;omega
  have n2:f.cost<=g.cost+prc (L.getD k default) true:=by
    obtain ⟨f',q1,q2⟩:=hf.fx k true hk rfl g hg1 (.inl hd.2);rw [show to_ (L.getD k default) true=(L.getD k default).src from rfl,hf1] at q1;obtain rfl:=Option.some.inj q1;omega
  rcases h.w k hk with e | ⟨b,f',g',_,h1,h2,h3,h4,e⟩
  · rw [e,e1,e2];omega
  · have sd:(L'.getD k default).dst=(L.getD k default).dst/\(L'.getD k default).src=(L.getD k default).src:=by rw [e]; cases b <;> exact ⟨rfl,rfl⟩
    rw [sd.1,sd.2,e1,e2,e];cases b with
    | false =>
      rw [show to_ (L.getD k default) false=(L.getD k default).dst from rfl,hg1] at h1;rw [show fro (L.getD k default) false=(L.getD k default).src from rfl,hf1] at h2;obtain rfl:=Option.some.inj h1;obtain rfl:=Option.some.inj h2;rcases slope_fwd (L.getD k default) (hr k hk) (n:=n) (g:=g.cost-f.cost) (by omega) h4 (by omega) with q | q
      · exact q
      · omega
    | true =>
      rw [show to_ (L.getD k default) true=(L.getD k default).src from rfl,hf1] at h1;rw [show fro (L.getD k default) true=(L.getD k default).dst from rfl,hg1] at h2;obtain rfl:=Option.some.inj h1;obtain rfl:=Option.some.inj h2;rcases slope_back (L.getD k default) (hr k hk) (n:=n) (g:=g.cost-f.cost) (by omega) h4 (by omega) with q | q
      · exact q
      · omega
/-! ### What places have too much -/
def ind (y:Int) (x:Int):Int:=if x=y then 1 else 0
def exN (L:List BWay) (q:Int->Int) (n:Nat):Int:=Zs (fun k=>(L.getD k default).now*(q (L.getD k default).dst-q (L.getD k default).src)) n
theorem ex_eq (q:Int->Int):ex L q=exN L q L.length:=rfl
theorem Zs.mul (c:Int) (f:Nat->Int):∀ n:Nat,Zs (fun k=>c*f k) n=c*Zs f n
  | 0=>by simp [Zs]
  | n+1=>by simp only [Zs,Zs.mul c f n,Int.mul_add]
theorem pick (q:Int->Int) {x:Int} (h0:0<=x) (h1:x<10):Zs (fun j=>q (j:Int)*ind (j:Int) x) 10=q x:=by
  obtain ⟨t,rfl⟩:∃ t:Nat,x=(t:Int):=⟨x.toNat,by omega⟩
  have:=Zs.upd (f:=fun _=>0) (g:=fun j=>q (j:Int)*ind (j:Int) (t:Int)) (n:=10) (k:=t) (by omega) fun j _ hj=>by
    have:¬ ((t:Int)=(j:Int)):=by omega
    simp [ind,this]
  rw [this,Zs.const];simp [ind]
theorem ex_sum (hl:Pl P L) (hP:P<=10) (q:Int->Int):∀ n:Nat,n<=L.length->exN L q n=Zs (fun j=>q (j:Int)*exN L (ind (j:Int)) n) 10
  | 0,_=>by
    have e:Zs (fun j:Nat=>q (j:Int)*exN L (ind (j:Int)) 0) 10=Zs (fun _=>0) 10:=Zs.ext fun j _=>by simp [exN,Zs]
    rw [e,Zs.const];simp [exN,Zs]
  | n+1,hn=>by
    have ih:=ex_sum hl hP q n (by omega);have s:=hl.s n (by omega);have d:=hl.d n (by omega);have e1:=pick q (x:=(L.getD n default).dst) d.1 (by omega);have e2:=pick q (x:=(L.getD n default).src) s.1 (by omega);show exN L q n+(L.getD n default).now*(q (L.getD n default).dst-q (L.getD n default).src)=_;rw [ih,← e1,← e2,← Zs.sub,← Zs.mul,← Zs.add];refine Zs.ext fun j _=>?_;show _=q (j:Int)*(exN L (ind (j:Int)) n+(L.getD n default).now*(ind (j:Int) (L.getD n default).dst-ind (j:Int) (L.getD n default).src));rw [Int.mul_add]
    congr 1
    rw [← Int.mul_sub,Int.mul_left_comm]
theorem bal_of (hl:Pl P L) (hP:P<=10) (h:∀ j:Nat,j<10->ex L (ind (j:Int))=0):Bal L:=by
  intro q;rw [ex_eq,ex_sum hl hP q L.length (Nat.le_refl _)];have:=Zs.ext (f:=fun j:Nat=>q (j:Int)*exN L (ind (j:Int)) L.length) (g:=fun _=>0) (n:=10) fun j hj=>by
    have:=h j hj;rw [ex_eq] at this;rw [this,Int.mul_zero]
  rw [this,Zs.const];rfl
theorem ex_zero (hl:Pl P L) (hP:P<=10):Zs (fun j=>ex L (ind (j:Int))) 10=0:=by
  have:=ex_sum hl hP (fun _=>1) L.length (Nat.le_refl _);have e:exN L (fun _=>1) L.length=0:=by
    unfold exN;have:=Zs.ext (f:=fun k=>(L.getD k default).now*((1:Int)-1)) (g:=fun _=>0) (n:=L.length) fun k _=>by simp
    rw [this,Zs.const,Int.zero_mul]
  rw [e] at this;rw [this];exact Zs.ext fun j _=>by rw [Int.one_mul]; rfl
end Bl
end Go.Nm
namespace Go.Nm
namespace Bl
variable {P:Nat} {L L' L0:List BWay} {p:Int->Int}
theorem Sm.refl (L:List BWay):Sm L L:=⟨rfl,fun _ _=>rfl⟩
theorem Sm.trans (h:Sm L0 L) (h':Sm L L'):Sm L0 L':=⟨by rw [h'.len,h.len],fun k hk=>by rw [h'.eq k (by rw [h.len]; exact hk),h.eq k hk]⟩
theorem Sm.s (h:Sm L0 L) {k:Nat} (hk:k<L0.length):(L.getD k default).src=(L0.getD k default).src:=by rw [h.eq k hk]
theorem Sm.d (h:Sm L0 L) {k:Nat} (hk:k<L0.length):(L.getD k default).dst=(L0.getD k default).dst:=by rw [h.eq k hk]
theorem Sm.lo (h:Sm L0 L) {k:Nat} (hk:k<L0.length):(L.getD k default).lo=(L0.getD k default).lo:=by rw [h.eq k hk]
theorem Sm.hi (h:Sm L0 L) {k:Nat} (hk:k<L0.length):(L.getD k default).hi=(L0.getD k default).hi:=by rw [h.eq k hk]
theorem Sm.pl (h:Sm L0 L) (hp:Pl P L0):Pl P L:=⟨fun k hk=>by rw [h.len] at hk; rw [h.s hk]; exact hp.s k hk,fun k hk=>by rw [h.len] at hk; rw [h.d hk]; exact hp.d k hk,fun k hk=>by rw [h.len] at hk; rw [h.s hk,h.d hk]; exact hp.ne k hk⟩
theorem Sm.right (h:Sm L0 L) (hp:Right L0):Right L:=fun k hk=>by rw [h.len] at hk; rw [h.lo hk,h.hi hk]; exact hp k hk
theorem Pl.mono {Q:Nat} (h:Pl P L) (hq:P<=Q):Pl Q L:=⟨fun k hk=>⟨(h.s k hk).1,by have:=(h.s k hk).2; omega⟩,fun k hk=>⟨(h.d k hk).1,by have:=(h.d k hk).2; omega⟩,h.ne⟩
/-- From outside a way leads to each station. -/
def Cn (o:Nat) (L:List BWay):Prop:=∀ x:Nat,x<o->∃ k,k<L.length/\(L.getD k default).src=o/\(L.getD k default).dst=x
theorem Sm.cn {o:Nat} (h:Sm L0 L) (hp:Cn o L0):Cn o L:=fun x hx=>by
  obtain ⟨k,k1,k2,k3⟩:=hp x hx;exact ⟨k,by rw [h.len]; exact k1,by rw [h.s k1]; exact k2,by rw [h.d k1]; exact k3⟩
/-- With all steps all places are reached. -/
theorem Far.all {o:Nat} {a:Int} {mp:Mp} (h:Far P L (fun _ _=>true) p a mp) (hl:Pl (o+1) L) (hP:o+1<=P) (hc:Cn o L) (ha:0<=a/\a<=o):∀ x:Int,0<=x->x<=o->∃ f,lookM mp x=some f:=by
  have go:∀ (k:Nat) (b:Bool),k<L.length->(∃ f,lookM mp (fro (L.getD k default) b)=some f)->∃ f,lookM mp (to_ (L.getD k default) b)=some f:=fun k b hk ⟨g,hg⟩=>by
    have d:=h.mi.dom _ _ hg;obtain ⟨f,f1,_⟩:=h.fx k b hk rfl g hg (.inl d.2);exact ⟨f,f1⟩
  have hA:∃ f,lookM mp a=some f:=by
    obtain ⟨f,f1,_⟩:=h.mi.st;exact ⟨f,f1⟩
  have hO:∃ f,lookM mp (o:Int)=some f:=by
    by_cases e:a=o
    · rw [← e]; exact hA
    · obtain ⟨y,hy⟩:∃ y:Nat,a=(y:Int):=⟨a.toNat,by omega⟩
      obtain ⟨k,k1,k2,k3⟩:=hc y (by omega);have:=go k true k1 (by show ∃ f,lookM mp (L.getD k default).dst=some f; rw [k3,← hy]; exact hA);rw [show to_ (L.getD k default) true=(L.getD k default).src from rfl,k2] at this;exact this
  intro x h0 h1;by_cases e:x=o
  · rw [e]; exact hO
  · obtain ⟨y,rfl⟩:∃ y:Nat,x=(y:Int):=⟨x.toNat,by omega⟩
    obtain ⟨k,k1,k2,k3⟩:=hc y (by omega);have:=go k false k1 (by show ∃ f,lookM mp (L.getD k default).src=some f; rw [k2]; exact hO);rw [show to_ (L.getD k default) false=(L.getD k default).dst from rfl,k3] at this;exact this
theorem exN_bd (h:∀ k,k<L.length->-1000000000000<=(L.getD k default).now/\(L.getD k default).now<=1000000000000) (j:Int):∀ n:Nat,n<=L.length->-(1000000000000*(n:Int))<=exN L (ind j) n/\exN L (ind j) n<=1000000000000*n
  | 0,_=>by simp [exN,Zs]
  | n+1,hn=>by
    have ih:=exN_bd h j n (by omega);have b:=h n (by omega);have e:exN L (ind j) (n+1)=exN L (ind j) n+(L.getD n default).now*(ind j (L.getD n default).dst-ind j (L.getD n default).src):=rfl;rw [e];have:ind j (L.getD n default).dst-ind j (L.getD n default).src = -1∨ind j (L.getD n default).dst-ind j (L.getD n default).src=0∨ind j (L.getD n default).dst-ind j (L.getD n default).src=1:=by
      unfold ind;split <;> split <;> omega
    rcases this with q | q | q <;> rw [q] <;> omega
/-- A place where no way begins or ends has nothing too much. -/
theorem ex_none {n:Nat} (hl:Pl n L) {j:Nat} (hj:n<=j):ex L (ind (j:Int))=0:=by
  have:=Zs.ext (f:=fun k=>(L.getD k default).now*(ind (j:Int) (L.getD k default).dst-ind (j:Int) (L.getD k default).src)) (g:=fun _=>0) (n:=L.length) fun k hk=>by
    have s:=hl.s k hk;have d:=hl.d k hk;have e1:ind (j:Int) (L.getD k default).dst=0:=by unfold ind; rw [if_neg (by omega)]
    have e2:ind (j:Int) (L.getD k default).src=0:=by unfold ind; rw [if_neg (by omega)]
    rw [e1,e2];simp
  unfold ex;rw [this,Zs.const,Int.zero_mul]
/-- What is too much, all together. -/
def Xs (L:List BWay):Int:=Zs (fun j=>max 0 (ex L (ind (j:Int)))) 10
theorem Xs.nn:0<=Xs L:=Zs.nn fun _ _=>by omega
theorem neg_of {m:Nat->Int} {n:Nat} (h0:Zs m n=0) {j:Nat} (hj:j<n) (hm:m j ≠ 0):(∃ i,i<n/\0<m i)/\∃ i,i<n/\m i<0:=by
  constructor
  · refine Classical.byContradiction fun hc=>?_;have h1:∀ i,i<n->0<=-(m i):=fun i hi=>by
      have:¬ 0<m i:=fun h=>hc ⟨i,hi,h⟩;omega
    have h2:=Zs.one h1 hj;have h3:=Zs.mul (-1) m n;have h4:=Zs.ext (f:=fun k=>-1*m k) (g:=fun k=>-(m k)) (n:=n) fun k _=>by omega
    rw [h4] at h3;have:m j<0:=by have:¬ 0<m j:=fun h=>hc ⟨j,hj,h⟩; omega
    omega
  · refine Classical.byContradiction fun hc=>?_;have h1:∀ i,i<n->0<=m i:=fun i hi=>by
      have:¬ m i<0:=fun h=>hc ⟨i,hi,h⟩;omega
    have h2:=Zs.one h1 hj;have:0<m j:=by have:=h1 j hj; omega
    omega
/-- A net that is being settled. -/
structure Stt (o:Nat) (L0 L:List BWay):Prop where
  sm:Sm L0 L
  ng:∃ q,NoNeg L q/\∀ x,-9<=q x/\q x<=9
  bd:∀ k,k<L.length->-100000000000<=(L.getD k default).now-Xs L/\(L.getD k default).now+Xs L<=100000000000
end Bl
end Go.Nm
namespace Go.Proofs.YtlfkkkbhejeplaaGreat
open Go Go.Nm
variable {P:Nat} {L L0:List BWay} {p:Int->Int} {a t:Int} {r:Int} {mp:Bl.Mp}
theorem getD_setI {l:List Int} {x:Int} {i k:Nat} (hi:i<l.length):(l.set i x).getD k 0=if k=i then x else l.getD k 0:=by
  simp only [List.getD_eq_getElem?_getD,List.getElem?_set];by_cases e:i=k
  · subst e; simp [hi]
  · rw [if_neg e,if_neg (fun h=>e h.symm)]
theorem over_out {o:Int} (hs:Bl.Nm_ L) (hl:Bl.Pl P L) (hP:P<=10):(m_balance_desk_over L o r).Out (fun m=>m.length=10/\∀ j:Nat,j<10->m.getD j 0=Bl.ex L (Bl.ind (j:Int))):=by
  unfold m_balance_desk_over;refine M.o_bind (M.o_for (Q:=fun m=>m.length=10/\∀ j:Nat,j<10->m.getD j 0=Bl.ex L (Bl.ind (j:Int))) L.length (fun i (s:List Int × Nat)=>s.2=i/\s.1.length=10/\∀ j:Nat,j<10->s.1.getD j 0=Bl.exN L (Bl.ind (j:Int)) i) ?_ ?_ ⟨rfl,List.length_replicate,fun j hj=>?_⟩) fun x hx=>M.o_pure hx
  · rintro _ ⟨s,k⟩ hk ⟨rfl,h10,hj⟩;dsimp only at hk h10 hj;simp only [m_balance_desk_over_b0];have sv:=hl.s k hk;have dv:=hl.d k hk;have ne:=hl.ne k hk;have nw:=hs.now k hk;have n100:=hs.n;generalize hw:L.getD k default=w at *;obtain ⟨x,hx⟩:∃ x:Nat,w.src=(x:Int):=⟨w.src.toNat,by omega⟩
    obtain ⟨y,hy⟩:∃ y:Nat,w.dst=(y:Int):=⟨w.dst.toNat,by omega⟩
    rw [hx,hy,Int.toNat_natCast,Int.toNat_natCast];have bx:=Bl.exN_bd hs.now (x:Int) k (by omega);have by_:=Bl.exN_bd hs.now (y:Int) k (by omega);have hxs:=hj x (by omega);have hys:=hj y (by omega);have e1:(s.set x (s.getD x 0-w.now)).getD y 0=s.getD y 0:=by rw [getD_setI (by omega),if_neg (by omega)]
    rw [e1];refine M.o_t (decide_eq_true (by omega)) (M.o_grdD (by omega) (M.o_grd (gA2 (by omega) (by omega)) (M.o_grd (gA2 (by omega) (by omega)) (M.o_grd (gA2 (by omega) (by omega)) (M.o_grd (gA2 (by omega) (by omega)) (M.o_pure ⟨rfl,by simp [h10],fun j hj'=>?_⟩))))));dsimp only;rw [getD_setI (by rw [List.length_set]; omega),getD_setI (by omega)];show _=Bl.exN L (Bl.ind (j:Int)) k+(L.getD k default).now*(Bl.ind (j:Int) (L.getD k default).dst-Bl.ind (j:Int) (L.getD k default).src);rw [hw,hx,hy];unfold Bl.ind;by_cases c1:j=y
    · subst c1;rw [if_pos rfl,if_pos rfl,if_neg (by omega),hys];unfold Bl.ind;omega
    · rw [if_neg c1,if_neg (show ¬ ((y:Int)=(j:Int)) by omega)];by_cases c2:j=x
      · subst c2;rw [if_pos rfl,if_pos rfl,hxs];unfold Bl.ind;omega
      · rw [if_neg c2,if_neg (show ¬ ((x:Int)=(j:Int)) by omega),hj j hj'];unfold Bl.ind;omega
  · rintro ⟨s,k⟩ ⟨e,h10,hj⟩;dsimp only at e h10 hj;subst e;simp only [m_balance_desk_over_b0];exact M.o_f (decide_eq_false (by omega)) (M.o_pure ⟨h10,fun j hj'=>by rw [hj j hj']; rfl⟩)
  · dsimp only;rw [List.getD_eq_getElem?_getD,List.getElem?_replicate,if_pos hj];rfl
theorem index_pos {s:List Int} (h:∃ j,j<s.length/\0<s.getD j 0):(zap s (fun xqz=>m_balance_desk_settle_2 xqz)).Out (fun x=>∃ j:Nat,x=j/\j<s.length/\0<s.getD j 0):=by
  unfold zap;refine M.o_bind (P:=fun x=>match x with | .inl k=>∃ j:Nat,k=(j:Int)/\j<s.length/\0<s.getD j 0 | .inr (_:Unit)=>False) (M.o_for s.length (fun i (k:Nat)=>k=i/\∀ j,j<i->¬ 0<s.getD j 0) ?_ ?_ ⟨rfl,fun j hj=>by omega⟩) ?_
  · rintro _ k hk ⟨rfl,hj⟩;simp only [zaj];refine M.o_t (decide_eq_true (by omega)) (M.o_grdD (by omega) (M.o_bindE (a:=decide (0<s.getD k 0)) M.i_pure (M.o_if (fun hb=>M.o_pure ⟨k,rfl,hk,of_decide_eq_true hb⟩) (fun hb=>M.o_pure ⟨rfl,fun j hj'=>?_⟩))));rcases Nat.lt_or_ge j k with g | g
    · exact hj j g
    · obtain rfl:j=k:=by omega
      exact of_decide_eq_false hb
  · rintro k ⟨rfl,hj⟩;simp only [zaj];obtain ⟨j,j1,j2⟩:=h;exact absurd j2 (hj j j1)
  · rintro (k | u) hk
    · exact M.o_pure hk
    · exact hk.elim
/-- The place to which it is cheapest. -/
theorem to_out {m:List Int} (h10:m.length=10) {q:Nat} (hq:q<10) (hpos:0<m.getD q 0) (hex:∃ j:Nat,j<10/\m.getD j 0<0/\∃ f,lookM mp (j:Int)=some f) :
    (M.iter (m_balance_desk_settle_b1 m (q:Int) mp) (0,(q:Int),0,0,0,false)).Out (fun y=>∃ j:Nat,y.1=(j:Int)/\j<10/\m.getD j 0<0/\∃ f,lookM mp (j:Int)=some f):=by
  refine M.o_for 10 (fun i (s:Nat × Int × Int × Int × Int × Bool)=>s.1=i/\((s.2.1=(q:Int)/\∀ j:Nat,j<i->¬ (m.getD j 0<0/\∃ f,lookM mp (j:Int)=some f))∨∃ j:Nat,s.2.1=(j:Int)/\j<10/\m.getD j 0<0/\∃ f,lookM mp (j:Int)=some f)) ?_ ?_ ⟨rfl,.inl ⟨rfl,fun j hj=>by omega⟩⟩
  · rintro _ ⟨i,s2,s3,s4,s5,s6⟩ hi ⟨rfl,hJ⟩;dsimp only at hi hJ;simp only [m_balance_desk_settle_b1];refine M.o_t (decide_eq_true (by omega)) (M.o_grd (gA2 (by omega) (by omega)) (M.o_if (fun hb=>M.o_pure ⟨rfl,?_⟩) (fun hb=>?_)))
    · dsimp only;rcases hJ with ⟨e,hn⟩ | hJ
      · refine .inl ⟨e,fun j hj=>?_⟩;rcases Nat.lt_or_ge j i with g | g
        · exact hn j g
        · obtain rfl:j=i:=by omega
          rintro ⟨c1,f,c2⟩;rw [c2,Option.isSome_some,Bool.not_true,Bool.or_false] at hb;have:=of_decide_eq_true hb;omega
      · exact .inr hJ
    · have hm:m.getD i 0<0/\∃ f,lookM mp (i:Int)=some f:=by
        rw [Bool.or_eq_false_iff] at hb;obtain ⟨b1,b2⟩:=hb;refine ⟨by have:=of_decide_eq_false b1; omega,?_⟩;cases e:lookM mp (i:Int) with
        | none=>rw [e] at b2; simp at b2
        | some f=>exact ⟨f,rfl⟩
      refine M.o_if (fun hb2=>M.o_pure ⟨rfl,.inr ⟨i,rfl,hi,hm.1,hm.2⟩⟩) (fun hb2=>M.o_pure ⟨rfl,?_⟩);dsimp only;rcases hJ with ⟨e,hn⟩ | hJ
      · rw [e] at hb2; simp at hb2
      · exact .inr hJ
  · rintro ⟨i,s2,s3,s4,s5,s6⟩ ⟨e,hJ⟩;dsimp only at e hJ;subst e;simp only [m_balance_desk_settle_b1];refine M.o_f (decide_eq_false (by omega)) (M.o_pure ?_);dsimp only;rcases hJ with ⟨e,hn⟩ | hJ
    · obtain ⟨j,j1,j2,j3⟩:=hex;exact absurd ⟨j2,j3⟩ (hn j j1)
    · exact hJ
theorem settle_out {o:Nat} (ho:o+2<=10) (hl0:Bl.Pl (o+1) L0) (hr0:Bl.Right L0) (hc0:Bl.Cn o L0) (hn:L0.length<=100) (hlo:∀ k,k<L0.length->-1000000000<=(L0.getD k default).lo/\(L0.getD k default).hi<=1000000000) (h0:Bl.Stt o L0 L0) :
    (m_balance_desk_settle L0 (o:Int) r).Out (fun L=>Bl.Stt o L0 L/\Bl.Bal L):=by
  have nm:∀ L,Bl.Stt o L0 L->Bl.Nm_ L:=fun L h=>⟨by rw [h.sm.len]; exact hn,fun k hk=>by
      have hk':k<L0.length:=by rw [← h.sm.len]; exact hk
      have:=hlo k hk';have:=hr0 k hk';rw [h.sm.lo hk']; omega,fun k hk=>by
      have hk':k<L0.length:=by rw [← h.sm.len]; exact hk
      have:=hlo k hk';have:=hr0 k hk';rw [h.sm.hi hk']; omega,fun k hk=>by
      have:=h.bd k hk;have:=Bl.Xs.nn (L:=L);omega⟩
  unfold m_balance_desk_settle;refine M.o_bind (over_out (nm L0 h0) hl0 (by omega)) ?_;rintro m0 ⟨m1,m2⟩;refine M.o_bind (M.o_iter (Q:=fun y=>Bl.Stt o L0 y.2/\Bl.Bal y.2) (fun m (s:List BWay × List Int)=>Bl.Stt o L0 s.1/\s.2.length=10/\(∀ j:Nat,j<10->s.2.getD j 0=Bl.ex s.1 (Bl.ind (j:Int)))/\m=(Bl.Xs s.1).toNat) ?_ _ _ ⟨h0,m1,m2,rfl⟩) fun x hx=>M.o_pure hx;rintro _ ⟨l,m⟩ ⟨S,h10,hm,rfl⟩;dsimp only at S h10 hm;have hl:=S.sm.pl hl0;have hl9:Bl.Pl (o+2) l:=hl.mono (by omega);have hr:=S.sm.right hr0;have hc:=S.sm.cn hc0;have hs:=nm l S;simp only [m_balance_desk_settle_b2];refine M.o_if (fun hb=>?_) (fun hb=>?_)
  · -- something is left
    have hne:m ≠ List.replicate 10 0:=by simpa using hb
    have hj:∃ j:Nat,j<10/\Bl.ex l (Bl.ind (j:Int)) ≠ 0:=by
      refine Classical.byContradiction fun hc'=>hne ?_;refine List.ext_getElem (by rw [h10,List.length_replicate]) fun j h1 h2=>?_;rw [List.getElem_replicate];have:=hm j (by omega);rw [List.getD_eq_getElem?_getD,List.getElem?_eq_getElem h1] at this;simp only [Option.getD_some] at this;rw [this];exact Classical.byContradiction fun h3=>hc' ⟨j,by omega,h3⟩
    obtain ⟨j,j1,j2⟩:=hj;obtain ⟨⟨x,x1,x2⟩,⟨y,y1,y2⟩⟩:=Bl.neg_of (m:=fun j:Nat=>Bl.ex l (Bl.ind (j:Int))) (Bl.ex_zero hl (by omega)) j1 j2;refine M.o_bind (index_pos ⟨x,by omega,by rw [hm x x1]; exact x2⟩) ?_;rintro _ ⟨q,rfl,q1,q2⟩;have q1:q<10:=by omega
    have eq:m.getD q 0=Bl.ex l (Bl.ind (q:Int)):=hm q q1;have qo:(q:Int)<=o:=by
      refine Classical.byContradiction fun hc'=>?_;rw [eq,Bl.ex_none hl (show o+1<=q by omega)] at q2;omega
    obtain ⟨w,ng,wb⟩:=S.ng;refine M.o_bind (reach_154_out (P:=o+2) (p:=w) hs ho (fun x _ _=>by have:=wb x; have:=wb (q:Int); omega) hl9 (fun k b hk _=>by
      have:=ng k hk;cases b <;> simp only [Bl.to_,Bl.fro] <;> omega) (by omega) ⟨by omega,by omega⟩) ?_
    intro mp F;have all:=F.all hl (by omega) hc ⟨by omega,qo⟩;have yo:(y:Int)<=o:=by
      refine Classical.byContradiction fun hc'=>?_;rw [Bl.ex_none hl (show o+1<=y by omega)] at y2;omega
    refine M.o_bind (to_out h10 q1 q2 ⟨y,y1,by rw [hm y y1]; exact y2,all _ (by omega) yo⟩) ?_;rintro ⟨s7,s8,s9,s10,s11⟩ ⟨z,rfl,z1,z2,f,zf⟩;dsimp only;have ez:m.getD z 0=Bl.ex l (Bl.ind (z:Int)):=hm z z1;rw [Int.toNat_natCast,Int.toNat_natCast];have bq:=Bl.exN_bd hs.now (q:Int) l.length (Nat.le_refl _);have bz:=Bl.exN_bd hs.now (z:Int) l.length (Nat.le_refl _);rw [← Bl.ex_eq] at bq bz;have n100:=hs.n;refine M.o_grd (gA2 (by omega) (by omega)) (M.o_grd (gA2 (by omega) (by omega)) (M.o_grd (gA2 (by omega) (by omega)) ?_));have hx1:0<Bl.Xs l:=by
      have:=Bl.Zs.one (f:=fun j:Nat=>max 0 (Bl.ex l (Bl.ind (j:Int)))) (n:=10) (fun _ _=>by omega) q1;show 0<Bl.Zs _ 10;omega
    have hxq:Bl.ex l (Bl.ind (q:Int))<=Bl.Xs l:=by
      have:=Bl.Zs.one (f:=fun j:Nat=>max 0 (Bl.ex l (Bl.ind (j:Int)))) (n:=10) (fun _ _=>by omega) q1;show _<=Bl.Zs _ 10;omega
    have hb0:Bl.Xs l<=100000000000∨l.length=0:=by
      rcases Nat.eq_zero_or_pos l.length with e | e
      · exact .inr e
      · have:=S.bd 0 e; left; omega
    have hlen:l.length ≠ 0:=by
      intro e;have:Bl.ex l (Bl.ind (q:Int))=0:=by unfold Bl.ex; rw [e]; rfl
      omega
    refine M.o_bind (moved_out (o:=(o:Int)) (r:=r) hs ho (fun x _ _=>by have:=wb x; have:=wb (q:Int); omega) hl9 F zf (most:=min (m.getD q 0) (-(m.getD z 0))) (by omega) (by omega)) ?_;rintro ⟨n,l'⟩ ⟨⟨n1,n2⟩,V⟩;dsimp only at n1 n2 V ⊢;have ng':=V.noneg hr n1 F (fun k hk=>by
      have s:=hl.s k hk;have d:=hl.d k hk;exact ⟨all _ s.1 (by omega),all _ d.1 (by omega)⟩) hl9
    have hqz:q ≠ z:=by intro e; subst e; omega
    -- what is left
    have hX:Bl.Xs l'=Bl.Xs l-n:=by
      have e1:∀ j:Nat,Bl.ex l' (Bl.ind (j:Int))=Bl.ex l (Bl.ind (j:Int))+n*(Bl.ind (j:Int) (z:Int)-Bl.ind (j:Int) (q:Int)):=fun j=>V.ex _;have:=Bl.Zs.upd (f:=fun j:Nat=>max 0 (Bl.ex l (Bl.ind (j:Int)))) (g:=fun j:Nat=>max 0 (Bl.ex l' (Bl.ind (j:Int)))) (n:=10) q1 fun j hj hne=>by
        have e:=e1 j;have i2:Bl.ind (j:Int) (q:Int)=0:=by unfold Bl.ind; rw [if_neg (by omega)]
        by_cases c:j=z
        · subst c;have i1:Bl.ind (j:Int) (j:Int)=1:=by unfold Bl.ind; rw [if_pos rfl]
          rw [i1,i2] at e;omega
        · have i1:Bl.ind (j:Int) (z:Int)=0:=by unfold Bl.ind; rw [if_neg (by omega)]
          rw [i1,i2] at e;omega
      have e:=e1 q;have i1:Bl.ind (q:Int) (z:Int)=0:=by unfold Bl.ind; rw [if_neg (by omega)]
      have i2:Bl.ind (q:Int) (q:Int)=1:=by unfold Bl.ind; rw [if_pos rfl]
      rw [i1,i2] at e;show Bl.Zs _ 10=Bl.Zs _ 10-n
      try dsimp only at this
      omega
    have S':Bl.Stt o L0 l':=⟨S.sm.trans V.sm,⟨_,ng',fun x=>Bl.pot_bd F ho x⟩,fun k hk=>by
      rw [V.len] at hk;have b:=S.bd k hk;rw [hX];rcases V.w k hk with e | ⟨b',f',g',_,_,_,_,_,e⟩
      · rw [e]; omega
      · rw [e];cases b' <;> simp only [Bl.psh] <;> omega⟩
    refine M.o_bind (over_out (nm l' S') (S'.sm.pl hl0) (by omega)) ?_;rintro m' ⟨k1,k2⟩;exact M.o_pure ⟨_,by have:=Bl.Xs.nn (L:=l'); dsimp only; omega,S',k1,k2,rfl⟩
  · have e:m=List.replicate 10 0:=by simpa using hb
    refine M.o_pure ⟨S,Bl.bal_of hl (by omega) fun j hj=>?_⟩;rw [← hm j hj,e,List.getD_eq_getElem?_getD,List.getElem?_replicate,if_pos hj];rfl
end Go.Proofs.YtlfkkkbhejeplaaGreat
namespace Go.Nm
namespace Bl
variable {P:Nat} {L L' L0 T:List BWay} {p:Int->Int}
/-- What can be. -/
structure Fe (L T:List BWay):Prop where
  sm:Sm L T
  bal:Bal T
  fit:Fits T
theorem Fe.up (h:Fe L0 L) (ht:Fe L T):Fe L0 T:=⟨h.sm.trans ht.sm,ht.bal,ht.fit⟩
theorem Fe.dn (h:Fe L0 L) (ht:Fe L0 T):Fe L T:=⟨⟨by rw [ht.sm.len,h.sm.len],fun k hk=>by
  have hk':k<L0.length:=by rw [← h.sm.len]; exact hk
  rw [ht.sm.eq k hk',h.sm.eq k hk']⟩,ht.bal,ht.fit⟩
theorem prc_fit {w:BWay} (h:w.lo<=w.now/\w.now<=w.hi):(prc w false=0/\w.now<w.hi/\rm w false=w.hi-w.now∨prc w false=1/\w.hi<=w.now)/\(prc w true=0/\w.lo<w.now/\rm w true=w.now-w.lo∨prc w true=1/\w.now<=w.lo):=by
  have a1:¬ w.now<w.lo:=by omega
  have a2:¬ w.hi<w.now:=by omega
  simp only [prc,rm,if_neg a1,if_neg a2];constructor
  · by_cases c:w.now<w.hi
    · rw [if_pos c,if_pos c]; exact .inl ⟨rfl,c,rfl⟩
    · rw [if_neg c]; exact .inr ⟨rfl,by omega⟩
  · by_cases c:w.lo<w.now
    · rw [if_pos c,if_pos c]; exact .inl ⟨rfl,c,rfl⟩
    · rw [if_neg c]; exact .inr ⟨rfl,by omega⟩
end Bl
end Go.Nm
namespace Go.Proofs.YtlfkkkbhejeplaaGreat
open Go Go.Nm
variable {P:Nat} {L L0:List BWay} {p:Int->Int} {a t:Int} {o r:Int} {mp:Bl.Mp}
theorem to_neg (w:BWay) (b:Bool):Bl.to_ w (!b)=Bl.fro w b:=by cases b <;> rfl
/-- One way, up or down, as far as can be. -/
theorem shift_out (hP:P<=10) (ho:o+2=P) (hl0:Bl.Pl P L0) (hr0:Bl.Right L0) (hn:L0.length<=100) (hlo:∀ k,k<L0.length->-1000000000<=(L0.getD k default).lo/\(L0.getD k default).hi<=1000000000) (h0:Bl.Fe L0 L0) {y:Nat} (hy:y<L0.length) (hb:∀ T,Bl.Fe L0 T->-40000000<=(T.getD y default).now/\(T.getD y default).now<=40000000) (up:Bool) :
    (m_balance_desk_shift L0 o r (y:Int) up 100000000).Out (fun z=>Bl.Fe L0 z.2/\∀ T,Bl.Fe L0 T->match up with
      | true=>(T.getD y default).now<=(z.2.getD y default).now
      | false=>(z.2.getD y default).now<=(T.getD y default).now):=by
  unfold m_balance_desk_shift;refine M.o_bind (M.o_iter (Q:=fun z=>Bl.Fe L0 z.2.2/\∀ T,Bl.Fe L0 T->match up with
      | true=>(T.getD y default).now<=(z.2.2.getD y default).now
      | false=>(z.2.2.getD y default).now<=(T.getD y default).now) (fun m (s:List BWay × Int)=>Bl.Fe L0 s.1/\(match up with
      | true=>s.2=(s.1.getD y default).now-(L0.getD y default).now
      | false=>s.2=(L0.getD y default).now-(s.1.getD y default).now)/\0<=s.2/\m=(100000000-s.2).toNat) ?_ _ _ ⟨h0,by cases up <;> (dsimp only; omega),Int.le_refl _,rfl⟩) fun x hx=>M.o_pure hx
  rintro _ ⟨l,tot⟩ ⟨F,htot,h0t,rfl⟩;dsimp only at F htot h0t;have hl:=F.sm.pl hl0;have hyl:y<l.length:=by rw [F.sm.len]; exact hy
  have b1:=hb _ F;have b2:=hb _ h0;have ft:tot<=80000000:=by cases up <;> (dsimp only at htot; omega)
  have hs:Bl.Nm_ l:=⟨by rw [F.sm.len]; exact hn,fun k hk=>by
      have hk':k<L0.length:=by rw [← F.sm.len]; exact hk
      have:=hlo k hk';have:=hr0 k hk';rw [F.sm.lo hk']; omega,fun k hk=>by
      have hk':k<L0.length:=by rw [← F.sm.len]; exact hk
      have:=hlo k hk';have:=hr0 k hk';rw [F.sm.hi hk']; omega,fun k hk=>by
      have hk':k<L0.length:=by rw [← F.sm.len]; exact hk
      have:=hlo k hk';have:=F.fit k hk;rw [F.sm.lo hk',F.sm.hi hk'] at this;omega⟩
  simp only [m_balance_desk_shift_b0];have fy:=F.fit y hyl;have pf:=Bl.prc_fit fy;have sy:=hl.s y hyl;have dy:=hl.d y hyl;refine M.o_t (decide_eq_true (by omega)) (M.o_bindE (room_ends hs hyl (!up)) (M.o_bindE (to_ends hyl (!up)) (M.o_bindE (to_ends hyl up) (M.o_bind (reach_116_out (yy:=y) (p:=fun _=>0) hs hP (fun x _ _=>by omega) hl (fun k b hk hc=>?_) ho ?_) ?_))))
  · have:=hc;unfold fre at this;rw [Bool.and_eq_true,beq_iff_eq] at this;rw [this.1];dsimp only;omega
  · cases up <;> simp only [Bl.to_,Bool.not_true,Bool.not_false] <;> omega
  intro mp R;refine M.o_if (fun hbr=>M.o_pure ⟨F,fun T hT=>?_⟩) (fun hbr=>?_)
  · -- no more
    have hT':Bl.Fe l T:=F.dn hT;have fT:=hT.fit y (by rw [hT.sm.len]; exact hy);have eT1:(T.getD y default).lo=(l.getD y default).lo:=hT'.sm.lo hyl;have eT2:(T.getD y default).hi=(l.getD y default).hi:=hT'.sm.hi hyl;dsimp only at hbr ⊢;rw [Bool.or_eq_true] at hbr;rcases hbr with hbr | hbr
    · -- a cut
      have hto:lookM mp (Bl.to_ (l.getD y default) up)=none:=by
        cases e:lookM mp (Bl.to_ (l.getD y default) up) with
        | none=>rfl
        | some f=>rw [e] at hbr; simp at hbr
      have hfr:(lookM mp (Bl.to_ (l.getD y default) (!up))).isSome=true:=by
        obtain ⟨f,f1,_⟩:=R.mi.st;rw [f1]; rfl
      have clo:∀ (k:Nat) (b:Bool),k<l.length->k ≠ y->(lookM mp (Bl.fro (l.getD k default) b)).isSome=true->(lookM mp (Bl.to_ (l.getD k default) b)).isSome=false->Bl.prc (l.getD k default) b ≠ 0:=fun k b hk hky h1 h2 h3=>by
        obtain ⟨g,hg⟩:=Option.isSome_iff_exists.1 h1;have d:=R.mi.dom _ _ hg;obtain ⟨f,f1,_⟩:=R.fx k b hk (by unfold fre; rw [h3,decide_eq_true hky]; rfl) g hg (.inl d.2);rw [f1] at h2;cases h2
      have ho_:∀ k,k<l.length->k ≠ y->(lookM mp (l.getD k default).src).isSome=true->(lookM mp (l.getD k default).dst).isSome=false->(l.getD k default).hi<=(l.getD k default).now:=fun k hk hky h1 h2=>by
        have:=clo k false hk hky h1 h2;have q:=(Bl.prc_fit (F.fit k hk)).1;omega
      have hi_:∀ k,k<l.length->k ≠ y->(lookM mp (l.getD k default).src).isSome=false->(lookM mp (l.getD k default).dst).isSome=true->(l.getD k default).now<=(l.getD k default).lo:=fun k hk hky h1 h2=>by
        have:=clo k true hk hky h2 h1;have q:=(Bl.prc_fit (F.fit k hk)).2;omega
      cases up with
      | true=>exact Bl.cut_up F.bal hT.bal hT'.sm hT.fit hyl (fun x=>(lookM mp x).isSome) hfr (by rw [show (l.getD y default).src=Bl.to_ (l.getD y default) true from rfl,hto]; rfl) ho_ hi_
      | false=>exact Bl.cut_down F.bal hT.bal hT'.sm hT.fit hyl (fun x=>(lookM mp x).isSome) hfr (by rw [show (l.getD y default).dst=Bl.to_ (l.getD y default) false from rfl,hto]; rfl) ho_ hi_
    · have hbr:=of_decide_eq_true hbr;cases up with
      | true=>simp only [Bool.not_true] at hbr; dsimp only; omega
      | false=>simp only [Bool.not_false] at hbr; dsimp only; omega
  · rw [Bool.or_eq_false_iff] at hbr;obtain ⟨br1,br2⟩:=hbr;have br2:=of_decide_eq_false br2;obtain ⟨f,hf⟩:∃ f,lookM mp (Bl.to_ (l.getD y default) up)=some f:=by
      cases e:lookM mp (Bl.to_ (l.getD y default) up) with
      | none=>rw [e] at br1; simp at br1
      | some f=>exact ⟨f,rfl⟩
    have rp:=Bl.rm_pos (l.getD y default) (!up);refine M.o_grd (gA2 (by omega) (by omega)) (M.o_bind (moved_out (o:=o) (r:=r) hs hP (fun x _ _=>by omega) hl R hf (most:=min (Bl.rm (l.getD y default) (!up)) (100000000-tot)) (by omega) (by omega)) ?_);rintro ⟨n,l'⟩ ⟨⟨n1,n2⟩,V⟩;dsimp only at n1 n2 V ⊢;have ey:l'.getD y default=l.getD y default:=by
      rcases V.w y hyl with e | ⟨b,f',g',c,_⟩
      · exact e
      · unfold fre at c;simp at c
    have hyl':y<l'.length:=by rw [V.len]; exact hyl
    have hroom:match up with
        | true=>n<=(l.getD y default).hi-(l.getD y default).now
        | false=>n<=(l.getD y default).now-(l.getD y default).lo:=by
      cases up with
      | true=>simp only [Bool.not_true] at n2 br2; dsimp only; omega
      | false=>simp only [Bool.not_false] at n2 br2; dsimp only; omega
    have key:∀ b:Bool,b = !up->Bl.Fe L0 (l'.set y (Bl.psh (l'.getD y default) b n)):=fun b hb'=>by
      have sm2:Bl.Sm l (l'.set y (Bl.psh (l'.getD y default) b n)):=⟨by rw [List.length_set,V.len],fun k hk=>by
        rw [Bl.getD_setB hyl'];split
        · next e=>subst e; rw [ey]; exact Bl.psh_shape _ _ _
        · exact V.sm.eq k hk⟩
      refine F.up ⟨sm2,fun q=>?_,fun k hk=>?_⟩
      · rw [Bl.ex_set hyl',V.ex,ey,F.bal q,hb',to_neg];rw [show Bl.fro (l.getD y default) (!up)=Bl.to_ (l.getD y default) up by cases up <;> rfl,Int.zero_add,← Int.mul_add];rw [show q (Bl.to_ (l.getD y default) up)-q (Bl.fro (l.getD y default) up)+(q (Bl.fro (l.getD y default) up)-q (Bl.to_ (l.getD y default) up))=0 by omega];simp
      · rw [List.length_set,V.len] at hk;rw [Bl.getD_setB hyl'];split
        · next e =>
          subst e;rw [ey,hb'];cases up with
          | true=>simp only [Bl.psh,Bool.not_true]; dsimp only at hroom; omega
          | false=>simp only [Bl.psh,Bool.not_false]; dsimp only at hroom; omega
        · rcases V.w k hk with e | ⟨b',f',g',c1,_,_,_,c5,e⟩
          · rw [e]; exact F.fit k hk
          · have q:=Bl.prc_fit (F.fit k hk);have c0:Bl.prc (l.getD k default) b'=0:=by
              unfold fre at c1;rw [Bool.and_eq_true,beq_iff_eq] at c1;exact c1.1
            have fk:=F.fit k hk;rw [e];cases b' with
            | true=>simp only [Bl.psh]; omega
            | false=>simp only [Bl.psh]; omega
    have et:Int.toNat (y:Int)=y:=Int.toNat_natCast y;have hby:=hb _ (key (!up) rfl);rw [Bl.getD_setB hyl',if_pos rfl,ey] at hby;have k2:=key (!up) rfl;cases up with
    | true =>
      dsimp only at htot;refine M.o_t rfl (M.o_grd (gA2 (by omega) (by omega)) ?_);rw [et];refine M.o_grd (gA2 (by rw [ey]; omega) (by rw [ey]; omega)) (M.o_grd (gA2 (by omega) (by omega)) (M.o_pure ⟨_,?_,k2,?_,by dsimp only; omega,rfl⟩))
      · dsimp only; omega
      · dsimp only;rw [Bl.getD_setB hyl',if_pos rfl,ey];dsimp only;omega
    | false =>
      dsimp only at htot;refine M.o_f rfl (M.o_grd (gA2 (by omega) (by omega)) ?_);rw [et];refine M.o_grd (gA2 (by rw [ey]; omega) (by rw [ey]; omega)) (M.o_grd (gA2 (by omega) (by omega)) (M.o_pure ⟨_,?_,k2,?_,by dsimp only; omega,rfl⟩))
      · dsimp only; omega
      · dsimp only;rw [Bl.getD_setB hyl',if_pos rfl,ey];dsimp only;omega
/-- The least and the greatest that can pass. -/
theorem span_out (hP:P<=10) (ho:o+2=P) (hl0:Bl.Pl P L0) (hr0:Bl.Right L0) (hn:L0.length<=100) (hlo:∀ k,k<L0.length->-1000000000<=(L0.getD k default).lo/\(L0.getD k default).hi<=1000000000) (h0:Bl.Fe L0 L0) {y:Nat} (hy:y<L0.length) (hb:∀ T,Bl.Fe L0 T->-40000000<=(T.getD y default).now/\(T.getD y default).now<=40000000) :
    (m_balance_desk_span L0 o r (y:Int)).Out (fun z=>(∃ T,Bl.Fe L0 T/\z.1=(T.getD y default).now)/\(∃ T,Bl.Fe L0 T/\z.2=(T.getD y default).now)/\∀ T,Bl.Fe L0 T->z.1<=(T.getD y default).now/\(T.getD y default).now<=z.2):=by
  unfold m_balance_desk_span;have cp:(m_balance_desk_copied L0 o r).Ends (L0,o,r):=M.i_bind (M.i_grd (decide_eq_true (by omega)) (M.i_grd (decide_eq_true (by simp; omega)) M.i_pure)) M.i_pure;refine M.o_bindE cp (M.o_bindE cp ?_);dsimp only;refine M.o_bind (shift_out hP ho hl0 hr0 hn hlo h0 hy hb false) ?_;rintro ⟨n,l⟩ ⟨F,hF⟩;refine M.o_bind (shift_out hP ho hl0 hr0 hn hlo h0 hy hb true) ?_;rintro ⟨n2,l2⟩ ⟨G,hG⟩;dsimp only at F hF G hG ⊢;have e1:=F.sm.len;have e2:=G.sm.len;refine M.o_grd (gA2 (by omega) (by omega)) (M.o_grd (gA2 (by omega) (by omega)) (M.o_pure ?_));rw [Int.toNat_natCast];exact ⟨⟨l,F,rfl⟩,⟨l2,G,rfl⟩,fun T hT=>⟨hF T hT,hG T hT⟩⟩
end Go.Proofs.YtlfkkkbhejeplaaGreat
namespace Go.Proofs.YtlfkkkbhejeplaaGreat
open Go Go.Nm
variable {a0 a1 b0 b1 g0 g1 n0 n1 n2 n3 n4:Int}
/-- The ways of the net, with what passes. -/
abbrev L3 (a0 a1 b0 b1 g0 g1 n0 n1 n2 n3 n4:Int):List BWay:=[⟨0,1,a0,a1,n0⟩,⟨1,2,b0,b1,n1⟩,⟨3,0,0,1000000,n2⟩,⟨3,1,g0,g1,n3⟩,⟨3,2,-1000000,0,n4⟩]
abbrev G3 (g0 g1:Int):List Span:=[⟨0,1000000⟩,⟨g0,g1⟩,⟨-1000000,0⟩]
abbrev R3 (a0 a1 b0 b1:Int):List BRch:=[⟨0,1,a0,a1⟩,⟨1,2,b0,b1⟩]
theorem begun_ends:(m_balance_begun (G3 g0 g1) (R3 a0 a1 b0 b1)).Ends (L3 a0 a1 b0 b1 g0 g1 (min (max 0 a0) a1) (min (max 0 b0) b1) (min (max 0 0) 1000000) (min (max 0 g0) g1) (min (max 0 (-1000000)) 0),3,2):=⟨20,by rfl⟩
theorem truth_ends:(m_balance_desk_truth (L3 a0 a1 b0 b1 g0 g1 n0 n1 n2 n3 n4) 3 2).Ends ([n0,n1],[n2,n3,n4]):=⟨20,by rfl⟩
theorem off_zero {x:Int} {s:Span} (h1:s.lo<=x) (h2:x<=s.hi) (b1:-1000000000<=s.lo) (b2:s.hi<=1000000000):(m_balance_off x s).Ends 0:=by
  unfold m_balance_off;rw [show (max (max 0 (s.lo-x)) (x-s.hi))=0 by omega];exact M.i_grd (gA2 (by omega) (by omega)) (M.i_grd (gA2 (by omega) (by omega)) M.i_pure)
theorem sum0_ends:(m_balance_sum [0,0,0,0,0]).Ends 0:=⟨20,by rfl⟩
/-- All fits: nothing is off. -/
theorem cost_zero (ha:a0<=n0/\n0<=a1) (hb:b0<=n1/\n1<=b1) (h2:0<=n2/\n2<=1000000) (h3:g0<=n3/\n3<=g1) (h4:-1000000<=n4/\n4<=0)
    (ba:0<=a0/\a1<=1000000) (bb:0<=b0/\b1<=1000000) (bg:-1000000<=g0/\g1<=1000000):(m_balance_cost (G3 g0 g1) (R3 a0 a1 b0 b1) [n0,n1] [n2,n3,n4]).Ends 0:=by
  have o0:=off_zero (x:=n0) (s:=⟨a0,a1⟩) ha.1 ha.2 (by dsimp only; omega) (by dsimp only; omega);have o1:=off_zero (x:=n1) (s:=⟨b0,b1⟩) hb.1 hb.2 (by dsimp only; omega) (by dsimp only; omega);have o2:=off_zero (x:=n2) (s:=⟨0,1000000⟩) h2.1 h2.2 (by dsimp only; omega) (by dsimp only; omega);have o3:=off_zero (x:=n3) (s:=⟨g0,g1⟩) h3.1 h3.2 (by dsimp only; omega) (by dsimp only; omega);have o4:=off_zero (x:=n4) (s:=⟨-1000000,0⟩) h4.1 h4.2 (by dsimp only; omega) (by dsimp only; omega);unfold m_balance_cost;refine M.i_bind (a:=([0,0],[0,0])) (M.i_next (s':=(1,[0])) ?_ (M.i_next (s':=(2,[0,0])) ?_ (M.i_stop ?_))) (M.i_bind (a:=([0,0,0,0,0],[0,0,0,0,0])) (M.i_next (s':=([0,0,0],1)) ?_ (M.i_next (s':=([0,0,0,0],2)) ?_ (M.i_next (s':=([0,0,0,0,0],3)) ?_ (M.i_stop ?_)))) (M.i_bind sum0_ends M.i_pure))
  · simp only [m_balance_cost_b0];exact M.i_t rfl (M.i_grd rfl (M.i_grd rfl (M.i_bind o0 (M.i_grd rfl M.i_pure))))
  · simp only [m_balance_cost_b0];exact M.i_t rfl (M.i_grd rfl (M.i_grd rfl (M.i_bind o1 (M.i_grd rfl M.i_pure))))
  · simp only [m_balance_cost_b0];exact M.i_f rfl M.i_pure
  · simp only [m_balance_cost_b1];exact M.i_t rfl (M.i_grd rfl (M.i_grd rfl (M.i_bind o2 (M.i_grd rfl M.i_pure))))
  · simp only [m_balance_cost_b1];exact M.i_t rfl (M.i_grd rfl (M.i_grd rfl (M.i_bind o3 (M.i_grd rfl M.i_pure))))
  · simp only [m_balance_cost_b1];exact M.i_t rfl (M.i_grd rfl (M.i_grd rfl (M.i_bind o4 (M.i_grd rfl M.i_pure))))
  · simp only [m_balance_cost_b1];exact M.i_f rfl M.i_pure
theorem bin_t {n a b:Int} (h1:a<=n) (h2:n<=b):(m_balance_in n a b).Ends true:=by
  unfold m_balance_in;rw [show (decide (a<=n)&&decide (n<=b))=true by rw [decide_eq_true h1,decide_eq_true h2]; rfl];exact M.i_pure
theorem flowing_t {s:Span} (h1:-1000000<=s.lo) (h2:s.lo<=s.hi) (h3:s.hi<=1000000):(m_balance_flowing s).Ends true :=
  M.i_bind (bin_t h1 h2) (M.i_bind (M.i_opt (r:=true) (fun _=>bin_t (by omega) h3) (fun h=>by cases h)) M.i_pure)
theorem bcheck (ba:0<=a0/\a0<=a1/\a1<=1000000) (bb:0<=b0/\b0<=b1/\b1<=1000000) (bg:-1000000<=g0/\g0<=g1/\g1<=1000000):(m_balance_Check (G3 g0 g1) (R3 a0 a1 b0 b1)).Ends 0:=by
  unfold m_balance_Check;refine M.i_bind (bin_t (n:=3) (a:=1) (b:=8) (by decide) (by decide)) (M.i_f rfl (M.i_bind (a:=true) ?_ (M.i_f rfl (M.i_bind (a:=(.inr ():Int ⊕ Unit)) (M.i_next (s':=1) ?_ (M.i_next (s':=2) ?_ (M.i_stop ?_))) (show (M.pure (0:Int)).Ends 0 from M.i_pure)))))
  · unfold m_balance_every_api_Span;refine M.i_bind (a:=false) ?_ M.i_pure;have:=contains_sp (G3 g0 g1) (fun x=>m_balance_every_api_Span__1 x fun xqz=>m_balance_flowing xqz) (fun _=>false) fun t ht=>M.i_bind (a:=true) (by
      simp only [List.mem_cons,List.not_mem_nil,or_false] at ht;rcases ht with rfl | rfl | rfl
      · exact flowing_t (by decide) (by decide) (by decide)
      · exact flowing_t bg.1 bg.2.1 bg.2.2
      · exact flowing_t (by decide) (by decide) (by decide)) M.i_pure
    rwa [show (G3 g0 g1).any (fun _=>false)=false by simp] at this
  · simp only [m_balance_Check_b0];exact M.i_t rfl (M.i_grd rfl (M.i_bind (bin_t (n:=0) (a:=0) (b:=2) (by decide) (by decide)) (M.i_bind (M.i_opt (r:=true) (fun _=>bin_t (n:=1) (a:=0) (b:=2) (by decide) (by decide)) (fun h=>by cases h)) (M.i_f rfl (M.i_bind (flowing_t (s:=⟨a0,a1⟩) (by dsimp only; omega) ba.2.1 ba.2.2) (M.i_f rfl M.i_pure))))))
  · simp only [m_balance_Check_b0];exact M.i_t rfl (M.i_grd rfl (M.i_bind (bin_t (n:=1) (a:=0) (b:=2) (by decide) (by decide)) (M.i_bind (M.i_opt (r:=true) (fun _=>bin_t (n:=2) (a:=0) (b:=2) (by decide) (by decide)) (fun h=>by cases h)) (M.i_f rfl (M.i_bind (flowing_t (s:=⟨b0,b1⟩) (by dsimp only; omega) bb.2.1 bb.2.2) (M.i_f rfl M.i_pure))))))
  · simp only [m_balance_Check_b0];exact M.i_f rfl M.i_pure
end Go.Proofs.YtlfkkkbhejeplaaGreat
namespace Go.Proofs.YtlfkkkbhejeplaaGreat
open Go Go.Nm
variable {a0 a1 b0 b1 g0 g1 n0 n1 n2 n3 n4:Int}
theorem sm5 {L:List BWay} (h:Bl.Sm (L3 a0 a1 b0 b1 g0 g1 n0 n1 n2 n3 n4) L):∃ m0 m1 m2 m3 m4,L=L3 a0 a1 b0 b1 g0 g1 m0 m1 m2 m3 m4:=by
  have hl:L.length=5:=h.len;rcases L with _ | ⟨x0,_ | ⟨x1,_ | ⟨x2,_ | ⟨x3,_ | ⟨x4,_ | ⟨x5,l⟩⟩⟩⟩⟩⟩
  · cases hl
  · cases hl
  · cases hl
  · cases hl
  · cases hl
  · refine ⟨x0.now,x1.now,x2.now,x3.now,x4.now,?_⟩;have e0:=h.eq 0 (show 0<5 by decide);have e1:=h.eq 1 (show 1<5 by decide);have e2:=h.eq 2 (show 2<5 by decide);have e3:=h.eq 3 (show 3<5 by decide);have e4:=h.eq 4 (show 4<5 by decide);simp only [L3,List.cons.injEq,and_true];exact ⟨e0,e1,e2,e3,e4⟩
  · simp at hl
theorem ex5 (p:Int->Int):Bl.ex (L3 a0 a1 b0 b1 g0 g1 n0 n1 n2 n3 n4) p=n0*(p 1-p 0)+n1*(p 2-p 1)+n2*(p 0-p 3)+n3*(p 1-p 3)+n4*(p 2-p 3):=by
  show (0:Int)+_+_+_+_+_=_;rw [Int.zero_add];rfl
theorem bal5 {U L:Int}:Bl.Bal (L3 a0 a1 b0 b1 g0 g1 U L U (L-U) (-L)):=fun p=>by
  rw [ex5];simp only [Int.mul_sub,Int.sub_mul,Int.neg_mul];omega
theorem pl5:Bl.Pl 4 (L3 a0 a1 b0 b1 g0 g1 n0 n1 n2 n3 n4):=by
  refine ⟨fun k hk=>?_,fun k hk=>?_,fun k hk=>?_⟩ <;>
  · have hk:k<5:=hk;rcases (show k=0∨k=1∨k=2∨k=3∨k=4 by omega) with rfl | rfl | rfl | rfl | rfl <;> simp
theorem cn5:Bl.Cn 3 (L3 a0 a1 b0 b1 g0 g1 n0 n1 n2 n3 n4):=fun x hx=>by
  rcases (show x=0∨x=1∨x=2 by omega) with rfl | rfl | rfl
  · exact ⟨2,(show 2<5 by decide),rfl,rfl⟩
  · exact ⟨3,(show 3<5 by decide),rfl,rfl⟩
  · exact ⟨4,(show 4<5 by decide),rfl,rfl⟩
theorem all5 {Q:BWay->Prop} (h0:Q ⟨0,1,a0,a1,n0⟩) (h1:Q ⟨1,2,b0,b1,n1⟩) (h2:Q ⟨3,0,0,1000000,n2⟩) (h3:Q ⟨3,1,g0,g1,n3⟩) (h4:Q ⟨3,2,-1000000,0,n4⟩):∀ k,k<(L3 a0 a1 b0 b1 g0 g1 n0 n1 n2 n3 n4).length->Q ((L3 a0 a1 b0 b1 g0 g1 n0 n1 n2 n3 n4).getD k default):=fun k hk=>by
  have hk:k<5:=hk;rcases (show k=0∨k=1∨k=2∨k=3∨k=4 by omega) with rfl | rfl | rfl | rfl | rfl
  · exact h0
  · exact h1
  · exact h2
  · exact h3
  · exact h4
/-- What is told of the net. -/
structure N3 (a0 a1 b0 b1 g0 g1 U L:Int):Prop where
  a:0<=a0/\a0<=U/\U<=a1/\a1<=1000000
  b:0<=b0/\b0<=L/\L<=b1/\b1<=1000000
  g:-1000000<=g0/\g0<=L-U/\L-U<=g1/\g1<=1000000
theorem one_bd {w c d:Int} (hw:-1000000<=w/\w<=1000000) (x:Int):-1000000<=w*(Bl.ind x c-Bl.ind x d)/\w*(Bl.ind x c-Bl.ind x d)<=1000000:=by
  unfold Bl.ind;split <;> split <;> simp <;> omega
theorem fitting_out {U L:Int} (h:N3 a0 a1 b0 b1 g0 g1 U L):(m_balance_fitting (G3 g0 g1) (R3 a0 a1 b0 b1)).Out (fun z=>∃ m0 m1 m2 m3 m4,z = .inr (L3 a0 a1 b0 b1 g0 g1 m0 m1 m2 m3 m4,3,2,0)/\Bl.Fe (L3 a0 a1 b0 b1 g0 g1 m0 m1 m2 m3 m4) (L3 a0 a1 b0 b1 g0 g1 m0 m1 m2 m3 m4)):=by
  obtain ⟨ha,hb,hg⟩:=h;unfold m_balance_fitting;refine M.o_bind (P:=fun z=>∃ m0 m1 m2 m3 m4,z = .inr (L3 a0 a1 b0 b1 g0 g1 m0 m1 m2 m3 m4,3,2,0,0)/\Bl.Fe (L3 a0 a1 b0 b1 g0 g1 m0 m1 m2 m3 m4) (L3 a0 a1 b0 b1 g0 g1 m0 m1 m2 m3 m4)) ?_ ?_
  · unfold m_balance_settled;refine M.o_bindE (bcheck (by omega) (by omega) (by omega)) (M.o_f rfl (M.o_bindE begun_ends ?_));have right:Bl.Right (L3 a0 a1 b0 b1 g0 g1 (min (max 0 a0) a1) (min (max 0 b0) b1) (min (max 0 0) 1000000) (min (max 0 g0) g1) (min (max 0 (-1000000)) 0)):=all5 (Q:=fun w=>w.lo<=w.hi) (by dsimp only; omega) (by dsimp only; omega) (by decide) (by dsimp only; omega) (by decide);have stt:Bl.Stt 3 (L3 a0 a1 b0 b1 g0 g1 (min (max 0 a0) a1) (min (max 0 b0) b1) (min (max 0 0) 1000000) (min (max 0 g0) g1) (min (max 0 (-1000000)) 0)) (L3 a0 a1 b0 b1 g0 g1 (min (max 0 a0) a1) (min (max 0 b0) b1) (min (max 0 0) 1000000) (min (max 0 g0) g1) (min (max 0 (-1000000)) 0)):=by
      have fit:=all5 (a0:=a0) (a1:=a1) (b0:=b0) (b1:=b1) (g0:=g0) (g1:=g1) (n0:=min (max 0 a0) a1) (n1:=min (max 0 b0) b1) (n2:=min (max 0 0) 1000000) (n3:=min (max 0 g0) g1) (n4:=min (max 0 (-1000000)) 0) (Q:=fun w=>(w.lo<=w.now/\w.now<=w.hi)/\-1000000<=w.now/\w.now<=1000000) (by dsimp only; omega) (by dsimp only; omega) (by decide) (by dsimp only; omega) (by decide);refine ⟨Bl.Sm.refl _,⟨fun _=>0,fun k hk=>?_,fun _=>by dsimp only; omega⟩,fun k hk=>?_⟩
      · have:=Bl.prc_fit (fit k hk).1;dsimp only;omega
      · have eb:∀ x:Int,Bl.ex (L3 a0 a1 b0 b1 g0 g1 (min (max 0 a0) a1) (min (max 0 b0) b1) (min (max 0 0) 1000000) (min (max 0 g0) g1) (min (max 0 (-1000000)) 0)) (Bl.ind x)<=5000000:=fun x=>by
          rw [ex5];have q0:=one_bd (w:=min (max 0 a0) a1) (c:=1) (d:=0) (by omega) x;have q1:=one_bd (w:=min (max 0 b0) b1) (c:=2) (d:=1) (by omega) x;have q2:=one_bd (w:=min (max 0 0) 1000000) (c:=0) (d:=3) (by decide) x;have q3:=one_bd (w:=min (max 0 g0) g1) (c:=1) (d:=3) (by omega) x;have q4:=one_bd (w:=min (max 0 (-1000000)) 0) (c:=2) (d:=3) (by decide) x;omega
        have xb:Bl.Xs (L3 a0 a1 b0 b1 g0 g1 (min (max 0 a0) a1) (min (max 0 b0) b1) (min (max 0 0) 1000000) (min (max 0 g0) g1) (min (max 0 (-1000000)) 0))<=Bl.Zs (fun _=>5000000) 10:=Bl.Zs.le fun k _=>by have:=eb k; omega
        have xc:Bl.Zs (fun _=>(5000000:Int)) 10=50000000:=by decide
        have xn:=Bl.Xs.nn (L:=L3 a0 a1 b0 b1 g0 g1 (min (max 0 a0) a1) (min (max 0 b0) b1) (min (max 0 0) 1000000) (min (max 0 g0) g1) (min (max 0 (-1000000)) 0));have:=(fit k hk).2;omega
    refine M.o_bind (settle_out (o:=3) (by omega) pl5 right cn5 (by show 5<=100; omega) (all5 (Q:=fun w=>-1000000000<=w.lo/\w.hi<=1000000000) (by dsimp only; omega) (by dsimp only; omega) (by decide) (by dsimp only; omega) (by decide)) stt) ?_;rintro l ⟨st,bal⟩;obtain ⟨m0,m1,m2,m3,m4,rfl⟩:=sm5 st.sm;have right':Bl.Right (L3 a0 a1 b0 b1 g0 g1 m0 m1 m2 m3 m4):=all5 (Q:=fun w=>w.lo<=w.hi) (by dsimp only; omega) (by dsimp only; omega) (by dsimp only; omega) (by dsimp only; omega) (by dsimp only; omega);obtain ⟨q,nq,_⟩:=st.ng;have smT:Bl.Sm (L3 a0 a1 b0 b1 g0 g1 m0 m1 m2 m3 m4) (L3 a0 a1 b0 b1 g0 g1 U L U (L-U) (-L)):=⟨rfl,fun k hk=>by
      have hk:k<5:=hk;rcases (show k=0∨k=1∨k=2∨k=3∨k=4 by omega) with rfl | rfl | rfl | rfl | rfl <;> rfl⟩
    have fits:=Bl.fits_of right' nq bal bal5 smT (all5 (Q:=fun w=>w.lo<=w.now/\w.now<=w.hi) (by dsimp only; omega) (by dsimp only; omega) (by dsimp only; omega) (by dsimp only; omega) (by dsimp only; omega));have f0:=fits 0 (show 0<5 by decide);have f1:=fits 1 (show 1<5 by decide);have f2:=fits 2 (show 2<5 by decide);have f3:=fits 3 (show 3<5 by decide);have f4:=fits 4 (show 4<5 by decide);exact M.o_bindE truth_ends (M.o_bindE (cost_zero f0 f1 f2 f3 f4 (by omega) (by omega) (by omega)) (M.o_pure ⟨m0,m1,m2,m3,m4,rfl,Bl.Sm.refl _,bal,fits⟩))
  · rintro _ ⟨m0,m1,m2,m3,m4,rfl,F⟩;exact M.o_f rfl (M.o_pure ⟨m0,m1,m2,m3,m4,rfl,F⟩)
end Go.Proofs.YtlfkkkbhejeplaaGreat
namespace Go.Proofs.YtlfkkkbhejeplaaGreat
open Go Go.Nm
variable {a0 a1 b0 b1 g0 g1 m0 m1 m2 m3 m4 U L:Int}
/-- What a way lets pass, in all that can be. -/
def Sp3 (W:List BWay) (y:Nat) (lo hi:Int):Prop:=(∃ T,Bl.Fe W T/\lo=(T.getD y default).now)/\(∃ T,Bl.Fe W T/\hi=(T.getD y default).now)/\∀ T,Bl.Fe W T->lo<=(T.getD y default).now/\(T.getD y default).now<=hi
theorem span5 (h:N3 a0 a1 b0 b1 g0 g1 U L) (F:Bl.Fe (L3 a0 a1 b0 b1 g0 g1 m0 m1 m2 m3 m4) (L3 a0 a1 b0 b1 g0 g1 m0 m1 m2 m3 m4)) {y:Nat} (hy:y<5) :
    (m_balance_desk_span (L3 a0 a1 b0 b1 g0 g1 m0 m1 m2 m3 m4) 3 2 (y:Int)).Out (fun z=>Sp3 (L3 a0 a1 b0 b1 g0 g1 m0 m1 m2 m3 m4) y z.1 z.2):=by
  obtain ⟨ha,hb,hg⟩:=h;have lim:=all5 (a0:=a0) (a1:=a1) (b0:=b0) (b1:=b1) (g0:=g0) (g1:=g1) (n0:=m0) (n1:=m1) (n2:=m2) (n3:=m3) (n4:=m4) (Q:=fun w=>(-1000000<=w.lo/\w.hi<=1000000)/\w.lo<=w.hi) (by dsimp only; omega) (by dsimp only; omega) (by dsimp only; omega) (by dsimp only; omega) (by dsimp only; omega);refine span_out (P:=5) (o:=3) (by omega) (by omega) (pl5.mono (by omega)) (fun k hk=>(lim k hk).2) (by show 5<=100; omega) (fun k hk=>by have:=(lim k hk).1; omega) F hy (fun T hT=>?_);have f:=hT.fit y (by rw [hT.sm.len]; exact hy);have e1:=hT.sm.lo (k:=y) hy;have e2:=hT.sm.hi (k:=y) hy;have:=(lim y hy).1;omega
theorem spans_out (h:N3 a0 a1 b0 b1 g0 g1 U L):(m_balance_Spans (G3 g0 g1) (R3 a0 a1 b0 b1)).Out (fun z=>z.2.2=0/\∃ m0 m1 m2 m3 m4 x y,z.1=[x,y]/\Bl.Fe (L3 a0 a1 b0 b1 g0 g1 m0 m1 m2 m3 m4) (L3 a0 a1 b0 b1 g0 g1 m0 m1 m2 m3 m4)/\Sp3 (L3 a0 a1 b0 b1 g0 g1 m0 m1 m2 m3 m4) 0 x.lo x.hi/\Sp3 (L3 a0 a1 b0 b1 g0 g1 m0 m1 m2 m3 m4) 1 y.lo y.hi):=by
  unfold m_balance_Spans;refine M.o_bind (fitting_out h) ?_;rintro _ ⟨m0,m1,m2,m3,m4,rfl,F⟩;refine M.o_f rfl (M.o_bind (P:=fun z:List Span × List Span × List Span × List Span=>∃ x y,z.2.2.2=[x,y]/\Sp3 (L3 a0 a1 b0 b1 g0 g1 m0 m1 m2 m3 m4) 0 x.lo x.hi/\Sp3 (L3 a0 a1 b0 b1 g0 g1 m0 m1 m2 m3 m4) 1 y.lo y.hi) (M.o_for 5 (fun i (s:Nat × List Span × List Span)=>s.1=i/\s.2.2.length<=i/\(i=0->s.2.1=[])/\(i=1->∃ x,s.2.1=[x]/\Sp3 (L3 a0 a1 b0 b1 g0 g1 m0 m1 m2 m3 m4) 0 x.lo x.hi)/\(2<=i->∃ x y,s.2.1=[x,y]/\Sp3 (L3 a0 a1 b0 b1 g0 g1 m0 m1 m2 m3 m4) 0 x.lo x.hi/\Sp3 (L3 a0 a1 b0 b1 g0 g1 m0 m1 m2 m3 m4) 1 y.lo y.hi)) ?_ ?_ ⟨rfl,Nat.le_refl _,fun _=>rfl,fun h=>(by omega),fun h=>(by omega)⟩) ?_)
  · rintro i ⟨s,l,l2⟩ hi ⟨e,e0,e1,e2,e3⟩;dsimp only at e e0 e1 e2 e3;subst e;simp only [m_balance_Spans_b0];refine M.o_t (decide_eq_true (by show (s:Int)<5; omega)) (M.o_bind (span5 h F hi) ?_);rintro ⟨lo,hi'⟩ sp;dsimp only at sp;refine M.o_if (fun c=>?_) (fun c=>?_)
    · have c:=of_decide_eq_true c;rcases (show s=0∨s=1 by omega) with rfl | rfl
      · rw [e1 rfl];exact M.o_grdD (by simp only [List.length_cons,List.length_nil]; omega) (M.o_pure ⟨rfl,by dsimp only; omega,fun h=>by omega,fun _=>⟨⟨lo,hi'⟩,rfl,sp⟩,fun h=>by omega⟩)
      · obtain ⟨x,rfl,hx⟩:=e2 rfl;exact M.o_grdD (by simp only [List.length_cons,List.length_nil]; omega) (M.o_pure ⟨rfl,by dsimp only; omega,fun h=>by omega,fun h=>by omega,fun _=>⟨x,⟨lo,hi'⟩,rfl,hx,sp⟩⟩)
    · have c:=of_decide_eq_false c;exact M.o_grdD (by simp only [List.length_cons,List.length_nil]; omega) (M.o_pure ⟨rfl,by simp only [List.length_append,List.length_cons,List.length_nil]; omega,fun h=>by omega,fun h=>by omega,fun _=>e3 (by omega)⟩)
  · rintro ⟨s,l,l2⟩ ⟨e,e0,e1,e2,e3⟩;dsimp only at e e0 e1 e2 e3;subst e;simp only [m_balance_Spans_b0];exact M.o_f (decide_eq_false (by show ¬ ((5:Int)<5); omega)) (M.o_pure (e3 (by omega)))
  · rintro ⟨z1,z2,z3,z4⟩ ⟨x,y,e,hx,hy⟩;dsimp only at e;subst e;exact M.o_pure ⟨rfl,m0,m1,m2,m3,m4,x,y,rfl,F,hx,hy⟩
end Go.Proofs.YtlfkkkbhejeplaaGreat
namespace Go.Proofs.YtlfkkkbhejeplaaGreat
open Go Go.Nm
variable {a0 a1 b0 b1 g0 g1 m0 m1 m2 m3 m4 m5 U L:Int}
/-- The net with a gate through which the gains of the group come. -/
abbrev L4 (a0 a1 b0 b1 g0 g1 n0 n1 n2 n3 n4 n5:Int):List BWay:=[⟨0,1,a0,a1,n0⟩,⟨1,2,b0,b1,n1⟩,⟨4,0,0,1000000,n2⟩,⟨4,1,g0,g1,n3⟩,⟨3,2,-1000000,0,n4⟩,⟨3,4,-100000000,100000000,n5⟩]
theorem sm6 {n0 n1 n2 n3 n4 n5:Int} {T:List BWay} (h:Bl.Sm (L4 a0 a1 b0 b1 g0 g1 n0 n1 n2 n3 n4 n5) T):∃ m0 m1 m2 m3 m4 m5,T=L4 a0 a1 b0 b1 g0 g1 m0 m1 m2 m3 m4 m5:=by
  have hl:T.length=6:=h.len;rcases T with _ | ⟨x0,_ | ⟨x1,_ | ⟨x2,_ | ⟨x3,_ | ⟨x4,_ | ⟨x5,_ | ⟨x6,l⟩⟩⟩⟩⟩⟩⟩
  · cases hl
  · cases hl
  · cases hl
  · cases hl
  · cases hl
  · cases hl
  · refine ⟨x0.now,x1.now,x2.now,x3.now,x4.now,x5.now,?_⟩;have e0:=h.eq 0 (show 0<6 by decide);have e1:=h.eq 1 (show 1<6 by decide);have e2:=h.eq 2 (show 2<6 by decide);have e3:=h.eq 3 (show 3<6 by decide);have e4:=h.eq 4 (show 4<6 by decide);have e5:=h.eq 5 (show 5<6 by decide);simp only [L4,List.cons.injEq,and_true];exact ⟨e0,e1,e2,e3,e4,e5⟩
  · simp at hl
theorem ex6 (p:Int->Int):Bl.ex (L4 a0 a1 b0 b1 g0 g1 m0 m1 m2 m3 m4 m5) p=m0*(p 1-p 0)+m1*(p 2-p 1)+m2*(p 0-p 4)+m3*(p 1-p 4)+m4*(p 2-p 3)+m5*(p 4-p 3):=by
  show (0:Int)+_+_+_+_+_+_=_;rw [Int.zero_add];rfl
theorem all6 {n0 n1 n2 n3 n4 n5:Int} {Q:BWay->Prop} (h0:Q ⟨0,1,a0,a1,n0⟩) (h1:Q ⟨1,2,b0,b1,n1⟩) (h2:Q ⟨4,0,0,1000000,n2⟩) (h3:Q ⟨4,1,g0,g1,n3⟩) (h4:Q ⟨3,2,-1000000,0,n4⟩) (h5:Q ⟨3,4,-100000000,100000000,n5⟩):∀ k,k<(L4 a0 a1 b0 b1 g0 g1 n0 n1 n2 n3 n4 n5).length->Q ((L4 a0 a1 b0 b1 g0 g1 n0 n1 n2 n3 n4 n5).getD k default):=fun k hk=>by
  have hk:k<6:=hk;rcases (show k=0∨k=1∨k=2∨k=3∨k=4∨k=5 by omega) with rfl | rfl | rfl | rfl | rfl | rfl
  · exact h0
  · exact h1
  · exact h2
  · exact h3
  · exact h4
  · exact h5
/-- What can be with the gate can be without. -/
theorem down {n0 n1 n2 n3 n4 n5 k0 k1 k2 k3 k4:Int} (F:Bl.Fe (L4 a0 a1 b0 b1 g0 g1 m0 m1 m2 m3 m4 m5) (L4 a0 a1 b0 b1 g0 g1 n0 n1 n2 n3 n4 n5)):Bl.Fe (L3 a0 a1 b0 b1 g0 g1 k0 k1 k2 k3 k4) (L3 a0 a1 b0 b1 g0 g1 n0 n1 n2 n3 n4)/\n5=n1:=by
  have f0:=F.fit 0 (show 0<6 by decide);have f1:=F.fit 1 (show 1<6 by decide);have f2:=F.fit 2 (show 2<6 by decide);have f3:=F.fit 3 (show 3<6 by decide);have f4:=F.fit 4 (show 4<6 by decide);have q:=fun x=>by have:=F.bal (Bl.ind x); rw [ex6] at this; exact this
  have q0:=q 0;have q1:=q 1;have q4:=q 4;simp [Bl.ind] at q0 q1 q4;refine ⟨⟨⟨rfl,fun k hk=>?_⟩,fun p=>?_,all5 (Q:=fun w=>w.lo<=w.now/\w.now<=w.hi) f0 f1 f2 f3 f4⟩,by omega⟩
  · have hk:k<5:=hk;rcases (show k=0∨k=1∨k=2∨k=3∨k=4 by omega) with rfl | rfl | rfl | rfl | rfl <;> rfl
  · have:=F.bal (fun x=>if x=4 then p 3 else p x);rw [ex6] at this;simp at this;rw [ex5];omega
/-- What can be without the gate can be with it. -/
theorem upw {n0 n1 n2 n3 n4 k0 k1 k2 k3 k4:Int} (g:-2000000<=g0/\g1<=2000000) (F:Bl.Fe (L3 a0 a1 b0 b1 g0 g1 k0 k1 k2 k3 k4) (L3 a0 a1 b0 b1 g0 g1 n0 n1 n2 n3 n4)):Bl.Fe (L4 a0 a1 b0 b1 g0 g1 m0 m1 m2 m3 m4 m5) (L4 a0 a1 b0 b1 g0 g1 n0 n1 n2 n3 n4 n1)/\n1=n2+n3:=by
  have f0:=F.fit 0 (show 0<5 by decide);have f1:=F.fit 1 (show 1<5 by decide);have f2:=F.fit 2 (show 2<5 by decide);have f3:=F.fit 3 (show 3<5 by decide);have f4:=F.fit 4 (show 4<5 by decide);have q:=fun x=>by have:=F.bal (Bl.ind x); rw [ex5] at this; exact this
  have q0:=q 0;have q1:=q 1;simp [Bl.ind] at q0 q1;have e:n1=n2+n3:=by omega
  simp only [List.getD_cons_zero,List.getD_cons_succ] at f2 f3;refine ⟨⟨⟨rfl,fun k hk=>?_⟩,fun p=>?_,all6 (Q:=fun w=>w.lo<=w.now/\w.now<=w.hi) f0 f1 f2 f3 f4 (by dsimp only at f2 f3 ⊢; omega)⟩,e⟩
  · have hk:k<6:=hk;rcases (show k=0∨k=1∨k=2∨k=3∨k=4∨k=5 by omega) with rfl | rfl | rfl | rfl | rfl | rfl <;> rfl
  · have:=F.bal p;rw [ex5] at this;rw [ex6];subst e;simp only [Int.mul_sub,Int.add_mul] at this ⊢;omega
end Go.Proofs.YtlfkkkbhejeplaaGreat
namespace Go.Proofs.YtlfkkkbhejeplaaGreat
open Go Go.Nm
variable {a0 a1 b0 b1 g0 g1 m0 m1 m2 m3 m4 m5 U L:Int}
theorem fe_any {n0 n1 n2 n3 n4:Int} {T:List BWay} (F:Bl.Fe (L3 a0 a1 b0 b1 g0 g1 m0 m1 m2 m3 m4) T):Bl.Fe (L3 a0 a1 b0 b1 g0 g1 n0 n1 n2 n3 n4) T:=by
  obtain ⟨k0,k1,k2,k3,k4,rfl⟩:=sm5 F.sm;refine ⟨⟨rfl,fun k hk=>?_⟩,F.bal,F.fit⟩;have hk:k<5:=hk;rcases (show k=0∨k=1∨k=2∨k=3∨k=4 by omega) with rfl | rfl | rfl | rfl | rfl <;> rfl
theorem sp3_eq {n0 n1 n2 n3 n4 a b c d:Int} {y:Nat} (h:Sp3 (L3 a0 a1 b0 b1 g0 g1 m0 m1 m2 m3 m4) y a b) (h':Sp3 (L3 a0 a1 b0 b1 g0 g1 n0 n1 n2 n3 n4) y c d):a=c/\b=d:=by
  obtain ⟨⟨T,t1,t2⟩,⟨S,s1,s2⟩,h3⟩:=h;obtain ⟨⟨T',t1',t2'⟩,⟨S',s1',s2'⟩,h3'⟩:=h';have q1:=h3 _ (fe_any t1');have q2:=h3 _ (fe_any s1');have q3:=h3' _ (fe_any t1);have q4:=h3' _ (fe_any s1);omega
theorem group_out (h:N3 a0 a1 b0 b1 g0 g1 U L):(m_balance_Group (G3 g0 g1) (R3 a0 a1 b0 b1) [0,1]).Out (fun z=>z.2.2=0/\∃ m0 m1 m2 m3 m4,Sp3 (L3 a0 a1 b0 b1 g0 g1 m0 m1 m2 m3 m4) 1 z.1 z.2.1):=by
  have h':=h;obtain ⟨ha,hb,hg⟩:=h';unfold m_balance_Group;have lp:(M.iter (m_balance_Group_b0 (G3 g0 g1) [0,1]) (0,-1,0)).Ends 0:=⟨20,by rfl⟩
  refine M.o_bindE (bcheck (by omega) (by omega) (by omega)) (M.o_bindE lp (M.o_f rfl ?_));unfold m_balance_Group_j2;refine M.o_f rfl (M.o_bind (fitting_out h) ?_);rintro _ ⟨m0,m1,m2,m3,m4,rfl,F⟩;have f2:=F.fit 2 (show 2<5 by decide);have f3:=F.fit 3 (show 3<5 by decide);have cp:(m_balance_desk_copied (L3 a0 a1 b0 b1 g0 g1 m0 m1 m2 m3 m4) 3 2).Ends (L3 a0 a1 b0 b1 g0 g1 m0 m1 m2 m3 m4,3,2):=⟨20,by rfl⟩
  simp only [List.getD_cons_zero,List.getD_cons_succ] at f2 f3;have lp1:(M.iter (m_balance_Group_b1 [0,1] 3 2) (L3 a0 a1 b0 b1 g0 g1 m0 m1 m2 m3 m4,0,0)).Ends ([⟨0,1,a0,a1,m0⟩,⟨1,2,b0,b1,m1⟩,⟨4,0,0,1000000,m2⟩,⟨4,1,g0,g1,m3⟩,⟨3,2,-1000000,0,m4⟩],0+m2+m3,[⟨0,1,a0,a1,m0⟩,⟨1,2,b0,b1,m1⟩,⟨4,0,0,1000000,m2⟩,⟨4,1,g0,g1,m3⟩,⟨3,2,-1000000,0,m4⟩]):=by
    refine M.i_next (s':=([⟨0,1,a0,a1,m0⟩,⟨1,2,b0,b1,m1⟩,⟨4,0,0,1000000,m2⟩,⟨3,1,g0,g1,m3⟩,⟨3,2,-1000000,0,m4⟩],0+m2,1)) ?_ (M.i_next (s':=([⟨0,1,a0,a1,m0⟩,⟨1,2,b0,b1,m1⟩,⟨4,0,0,1000000,m2⟩,⟨4,1,g0,g1,m3⟩,⟨3,2,-1000000,0,m4⟩],0+m2+m3,2)) ?_ (M.i_stop ?_))
    · simp only [m_balance_Group_b1];exact M.i_t rfl (M.i_grd rfl (M.i_grd rfl (M.i_grd rfl (M.i_grd (show (decide ((-9223372036854775808:Int)<=0+m2)&&decide (0+m2<=(9223372036854775807:Int)))=true from gA2 (by omega) (by omega)) M.i_pure))))
    · simp only [m_balance_Group_b1];exact M.i_t rfl (M.i_grd rfl (M.i_grd rfl (M.i_grd rfl (M.i_grd (show (decide ((-9223372036854775808:Int)<=0+m2+m3)&&decide (0+m2+m3<=(9223372036854775807:Int)))=true from gA2 (by omega) (by omega)) M.i_pure))))
    · simp only [m_balance_Group_b1];exact M.i_f rfl M.i_pure
  refine M.o_f rfl (M.o_bindE cp (M.o_grd rfl (M.o_bindE lp1 (M.o_grd rfl (M.o_grd rfl ?_)))));have e5:m1=m2+m3:=(upw (m0:=0) (m1:=0) (m2:=0) (m3:=0) (m4:=0) (m5:=0) (by omega) F).2;have W:Bl.Fe (L4 a0 a1 b0 b1 g0 g1 m0 m1 m2 m3 m4 (0+m2+m3)) (L4 a0 a1 b0 b1 g0 g1 m0 m1 m2 m3 m4 (0+m2+m3)):=by
    have:=(upw (m0:=m0) (m1:=m1) (m2:=m2) (m3:=m3) (m4:=m4) (m5:=0+m2+m3) (by omega) F).1;rw [show m1=0+m2+m3 by omega] at this ⊢;exact this
  have lim:=all6 (a0:=a0) (a1:=a1) (b0:=b0) (b1:=b1) (g0:=g0) (g1:=g1) (n0:=m0) (n1:=m1) (n2:=m2) (n3:=m3) (n4:=m4) (n5:=0+m2+m3) (Q:=fun w=>(-1000000000<=w.lo/\w.hi<=1000000000)/\w.lo<=w.hi) (by dsimp only; omega) (by dsimp only; omega) (by dsimp only; omega) (by dsimp only; omega) (by dsimp only; omega) (by dsimp only; omega);have pl6:Bl.Pl 5 (L4 a0 a1 b0 b1 g0 g1 m0 m1 m2 m3 m4 (0+m2+m3)):=by
    refine ⟨all6 (Q:=fun w=>0<=w.src/\w.src<5) ?_ ?_ ?_ ?_ ?_ ?_,all6 (Q:=fun w=>0<=w.dst/\w.dst<5) ?_ ?_ ?_ ?_ ?_ ?_,all6 (Q:=fun w=>w.src ≠ w.dst) ?_ ?_ ?_ ?_ ?_ ?_⟩ <;> simp
  refine M.o_bind (span_out (P:=5) (o:=3) (L0:=L4 a0 a1 b0 b1 g0 g1 m0 m1 m2 m3 m4 (0+m2+m3)) (y:=5) (by omega) (by omega) pl6 (fun k hk=>(lim k hk).2) (by show 6<=100; omega) (fun k hk=>(lim k hk).1) W (show 5<6 by decide) (fun T hT=>?_)) ?_
  · obtain ⟨n0,n1,n2,n3,n4,n5,rfl⟩:=sm6 hT.sm;have d:=down (k0:=0) (k1:=0) (k2:=0) (k3:=0) (k4:=0) hT;have f1:=hT.fit 1 (show 1<6 by decide);have e:=d.2;simp only [List.getD_cons_zero,List.getD_cons_succ] at f1 ⊢;omega
  · rintro ⟨lo,hi⟩ ⟨⟨T,t1,t2⟩,⟨S,s1,s2⟩,all⟩;dsimp only at t2 s2 all;obtain ⟨n0,n1,n2,n3,n4,n5,rfl⟩:=sm6 t1.sm;obtain ⟨k0,k1,k2,k3,k4,k5,rfl⟩:=sm6 s1.sm;have d:=down (k0:=m0) (k1:=m1) (k2:=m2) (k3:=m3) (k4:=m4) t1;have d':=down (k0:=m0) (k1:=m1) (k2:=m2) (k3:=m3) (k4:=m4) s1;refine M.o_pure ⟨rfl,m0,m1,m2,m3,m4,⟨_,d.1,?_⟩,⟨_,d'.1,?_⟩,fun T hT=>?_⟩
    · exact t2.trans d.2
    · exact s2.trans d'.2
    · obtain ⟨j0,j1,j2,j3,j4,rfl⟩:=sm5 hT.sm;exact all _ (upw (by omega) hT).1
end Go.Proofs.YtlfkkkbhejeplaaGreat
namespace Go.Nm
namespace Sr
/-- Years that hold their truth. -/
structure YOk (ys:List SYr) (ts:List STr):Prop where
  n:ys.length<=40
  len:ts.length=ys.length
  i:∀ k,k<ys.length->0<=(ys.getD k default).ilo/\(ys.getD k default).ilo<=(ts.getD k default).index/\(ts.getD k default).index<=(ys.getD k default).ihi/\(ys.getD k default).ihi<=1000000
  d:∀ k,k<ys.length->0<=(ys.getD k default).dlo/\(ys.getD k default).dlo<=(ts.getD k default).delivered/\(ts.getD k default).delivered<=(ys.getD k default).dhi/\(ys.getD k default).dhi<=1000000
end Sr
end Go.Nm
namespace Go.Proofs.YtlfkkkbhejeplaaGreat
open Go Go.Nm
variable {tb:List SPt} {cr:Int}
theorem cborder (h:Sr.TOk tb) (hc:0<=cr/\cr<=1000000):(m_share_CheckBorder tb cr).Ends 0:=by
  have n1:=h.n1;have n2:=h.n2;unfold m_share_CheckBorder;refine M.i_bind (sin_t (by omega) (by omega)) (M.i_f rfl (M.i_bind (every_share_Point _ _ fun t ht=>?_) (M.i_bind (M.i_opt (r:=true) (fun _=>water_t (by omega) (by omega)) (fun h=>by cases h)) (M.i_f rfl (M.i_grd (decide_eq_true (by omega)) (M.i_bind (a:=(.inr ():Unit ⊕ Unit)) ?_ M.i_pure))))))
  · obtain ⟨i,hi,rfl⟩:=List.getElem_of_mem ht;have a:=h.ix i hi;have b:=h.du i hi;rw [elG tb hi] at a b;exact M.i_bind (water_t (by omega) (by omega)) (M.i_bind (M.i_opt (r:=true) (fun _=>water_t (by omega) (by omega)) (fun h=>by cases h)) M.i_pure)
  · refine M.i_for (fun i=>i) (tb.length-1) (fun i hi=>?_) ?_
    · simp only [m_share_CheckBorder_b0];have s:=h.si i (by omega);have d:=h.sd i (by omega);rw [show Int.toNat ((i:Int)+1)=i+1 by omega];exact M.i_t (decide_eq_true (by rw [List.length_drop]; omega)) (M.i_grd (decide_eq_true (by omega)) (M.i_grd (gA2 (by omega) (by omega)) (M.i_f (by rw [decide_eq_false (by omega),decide_eq_false (by omega)]; rfl) M.i_pure)))
    · simp only [m_share_CheckBorder_b0];exact M.i_f (decide_eq_false (by rw [List.length_drop]; omega)) M.i_pure
theorem asked_ok (h:Sr.TOk tb) (hc:0<=cr/\cr<=1000000) {s:Span} (hs:-1000000<=s.lo/\s.lo<=s.hi/\s.hi<=1000000) {ys:List SYr} {ts:List STr} (hy:Sr.YOk ys ts):(m_share_asked tb cr s ys).Ends 0:=by
  have n:=hy.n;unfold m_share_asked;refine M.i_bind (cborder h hc) (M.i_f rfl (M.i_bind (sin_t (by omega) (by omega)) (M.i_f (by rw [decide_eq_false (by omega)]; rfl) (M.i_f (decide_eq_false (by omega)) (M.i_bind (every_share_Year _ _ fun t ht=>?_) (M.i_f rfl M.i_pure))))));obtain ⟨i,hi,rfl⟩:=List.getElem_of_mem ht;have a:=hy.i i hi;have b:=hy.d i hi;rw [elG ys hi] at a b;exact M.i_bind (waters_t (by dsimp only; omega) (by dsimp only; omega) (by dsimp only; omega)) (M.i_bind (M.i_opt (r:=true) (fun _=>waters_t (by dsimp only; omega) (by dsimp only; omega) (by dsimp only; omega)) (fun h=>by cases h)) M.i_pure)
/-- The first point behind an index. -/
theorem behind_out (tb:List SPt) (x:Int):(zat tb (fun xqz=>m_share_Border_due_1 xqz x)).Out (fun r=>r = -1/\(∀ j,j<tb.length->(tb.getD j default).index<=x)∨∃ k:Nat,r=k/\k<tb.length/\(∀ j,j<k->(tb.getD j default).index<=x)/\x<(tb.getD k default).index):=by
  unfold zat;refine M.o_bind (P:=fun z:Int ⊕ Unit=>match z with | .inl r=>∃ k:Nat,r=k/\k<tb.length/\(∀ j,j<k->(tb.getD j default).index<=x)/\x<(tb.getD k default).index | .inr _=>∀ j,j<tb.length->(tb.getD j default).index<=x) (M.o_for tb.length (fun i (s:Nat)=>s=i/\∀ j,j<i->(tb.getD j default).index<=x) ?_ ?_ ⟨rfl,fun j hj=>by omega⟩) ?_
  · rintro _ s hs ⟨rfl,hj⟩;simp only [zak];refine M.o_t (decide_eq_true (by omega)) (M.o_grdD (by omega) (M.o_bindE (a:=decide (x<(tb.getD s default).index)) M.i_pure (M.o_if (fun hb=>M.o_pure ⟨s,rfl,hs,hj,of_decide_eq_true hb⟩) (fun hb=>M.o_pure ⟨rfl,fun j hj'=>?_⟩))));have hb:=of_decide_eq_false hb;rcases Nat.lt_or_ge j s with g | g
    · exact hj j g
    · obtain rfl:j=s:=by omega
      omega
  · rintro _ ⟨rfl,hj⟩;simp only [zak];exact M.o_f (decide_eq_false (by omega)) (M.o_pure hj)
  · rintro (r | _) h
    · exact M.o_pure (.inr h)
    · exact M.o_pure (.inl ⟨rfl,h⟩)
theorem due_out (h:Sr.TOk tb) {x:Int} (hx:0<=x/\x<=1000000):(m_share_Border_due tb cr x).Out (Sr.Dv tb x):=by
  have n1:=h.n1;have n2:=h.n2;unfold m_share_Border_due;refine M.o_bind (behind_out tb x) ?_;rintro r (⟨rfl,h1⟩ | ⟨k,rfl,h1,h2,h3⟩)
  · refine M.o_f rfl (M.o_t rfl (M.o_grd (gA2 (by omega) (by omega)) (M.o_pure ⟨tb.length,Nat.le_refl _,h1,fun h=>by omega,?_⟩)));rw [if_neg (by omega),if_pos rfl,show Int.toNat ((tb.length:Int)-1)=tb.length-1 by omega]
  · by_cases c:k=0
    · subst c;exact M.o_t rfl (M.o_grdD (by omega) (M.o_pure ⟨0,by omega,h2,fun _=>h3,by rw [if_pos rfl]⟩))
    · have e1:Int.toNat (k:Int)=k:=Int.toNat_natCast k;have e2:Int.toNat ((k:Int)-1)=k-1:=by omega
      rw [e1,e2];have a:=h.ix k h1;have b:=h.du k h1;have a':=h.ix (k-1) (by omega);have b':=h.du (k-1) (by omega);have si:=h.si (k-1) (by omega);have sd:=h.sd (k-1) (by omega);rw [show k-1+1=k by omega] at si sd;have i1:=h2 (k-1) (by omega);have s:=Sr.seg_bd i1 (Int.le_of_lt h3) si sd;have m0:=Int.mul_nonneg (show 0<=(tb.getD k default).due-(tb.getD (k-1) default).due by omega) (show 0<=x-(tb.getD (k-1) default).index by omega);have m1:=Int.mul_le_mul (show (tb.getD k default).due-(tb.getD (k-1) default).due<=1000000 by omega) (show x-(tb.getD (k-1) default).index<=1000000 by omega) (by omega) (by decide);unfold Sr.seg at s;refine M.o_f (by rw [beq_eq_false_iff_ne]; omega) (M.o_f (by rw [beq_eq_false_iff_ne]; omega) (M.o_grd (gA2 (by omega) (by omega)) (M.o_grd (gA2 (by omega) (by omega)) (M.o_grd (gA2 (by omega) (by omega)) (M.o_grd (gA2 (by omega) (by omega)) (M.o_grd (gA2 (by omega) (by omega)) (M.o_grd (gA2 (by omega) (by omega)) (M.o_grd (gA2 (by omega) (by omega)) (M.o_grd (by rw [decide_eq_true (by omega),decide_eq_true (by omega),decide_eq_true (by omega)]; rfl) (M.o_grd (gA2 (by omega) (by omega)) (M.o_pure ⟨k,by omega,h2,fun _=>h3,?_⟩)))))))))));rw [if_neg c,if_neg (by omega)];rfl
end Go.Proofs.YtlfkkkbhejeplaaGreat
namespace Go.Proofs.YtlfkkkbhejeplaaGreat
open Go Go.Nm
variable {tb:List SPt} {cr:Int}
theorem goes_out (h:Sr.TOk tb) (hc:0<=cr/\cr<=1000000) {t:STr} {sp:Bool} {mp:Int->Option Int} (hm:∀ i v,mp i=some v->Sr.Dv tb i v) {d:Int} (hd:-1000000000000<=d/\d<=1000000000000) (h1:0<=t.index/\t.index<=1000000) (h2:0<=t.delivered/\t.delivered<=1000000) :
    (m_share_Border_goes_1 t sp mp tb cr d).Out (fun z=>z.2.2=z.1/\(∃ v,Sr.Dv tb t.index v/\z.1=Sr.stp cr sp d v t.delivered)/\∀ i v,z.2.1 i=some v->Sr.Dv tb i v):=by
  have go:∀ (v:Int) (mp':Int->Option Int),Sr.Dv tb t.index v->(∀ i v,mp' i=some v->Sr.Dv tb i v)->(m_share_Border_goes_1_j0 t sp cr d v mp').Out (fun z=>z.2.2=z.1/\(∃ v,Sr.Dv tb t.index v/\z.1=Sr.stp cr sp d v t.delivered)/\∀ i v,z.2.1 i=some v->Sr.Dv tb i v):=fun v mp' hv hm'=>by
    have b:=Sr.Dv.bd h hv;unfold m_share_Border_goes_1_j0;refine M.o_grd (gA2 (by omega) (by omega)) (M.o_grd (gA2 (by omega) (by omega)) (M.o_grd (gA2 (by omega) (by omega)) (M.o_if (fun e=>?_) (fun e=>?_))))
    · subst e;exact M.o_pure ⟨rfl,⟨v,hv,rfl⟩,hm'⟩
    · subst e;exact M.o_pure ⟨rfl,⟨v,hv,rfl⟩,hm'⟩
  unfold m_share_Border_goes_1;refine M.o_if (fun e=>?_) (fun e=>?_)
  · refine M.o_bind (due_out h h1) fun v hv=>go v _ hv fun i w hw=>?_;by_cases c:i=t.index
    · subst c;simp [updF] at hw;subst hw;exact hv
    · simp [updF,c] at hw;exact hm i w hw
  · cases hv:mp t.index with
    | none=>rw [hv] at e; cases e
    | some v=>exact go v mp (hm _ _ hv) hm
/-- Debts so far: l holds them, s is the last. -/
structure DB (tb:List SPt) (cr st:Int) (sp:Nat->Bool) (ix dl:Nat->Int) (i:Nat) (mp:Int->Option Int) (s:Int) (d:Nat->Int):Prop where
  fm:∀ i v,mp i=some v->Sr.Dv tb i v
  fs:s=Sr.prv st d i
  lo:-1000000<=s
  hi:s<=1000000+1000000*i
  ow:Sr.Ow tb cr st sp ix dl i d
theorem DB.ext {st:Int} {sp:Nat->Bool} {ix dl:Nat->Int} {i:Nat} {mp:Int->Option Int} {s:Int} {d d':Nat->Int} (h:DB tb cr st sp ix dl i mp s d) (e:∀ k,k<i->d' k=d k):DB tb cr st sp ix dl i mp s d':=by
  have pe:∀ k,k<=i->Sr.prv st d' k=Sr.prv st d k:=fun k hk=>by
    cases k with
    | zero=>rfl
    | succ k=>exact e k hk
  refine ⟨h.fm,by rw [pe i (Nat.le_refl _)]; exact h.fs,h.lo,h.hi,⟨fun k hk=>?_⟩⟩;obtain ⟨v,a,b⟩:=h.ow.st k hk;exact ⟨v,a,by rw [e k hk,pe k (by omega)]; exact b⟩
theorem DB.step (ht:Sr.TOk tb) (hc:0<=cr/\cr<=1000000) {st:Int} {sp:Nat->Bool} {ix dl:Nat->Int} {i:Nat} {mp mp':Int->Option Int} {s s' v:Int} {d:Nat->Int} (h:DB tb cr st sp ix dl i mp s d) (hm:∀ i v,mp' i=some v->Sr.Dv tb i v) (hv:Sr.Dv tb (ix i) v) (hd:0<=dl i) (e:s'=Sr.stp cr (sp i) s v (dl i)) (ed:d i=s'):DB tb cr st sp ix dl (i+1) mp' s' d:=by
  have b:=Sr.Dv.bd ht hv;have h1:=h.lo;have h2:=h.hi;refine ⟨hm,ed.symm,?_,?_,⟨fun k hk=>?_⟩⟩
  · rw [e]; cases sp i <;> simp [Sr.stp] <;> omega
  · rw [e]; cases sp i <;> simp [Sr.stp] <;> omega
  · rcases Nat.lt_or_ge k i with g | g
    · exact h.ow.st k g
    · obtain rfl:k=i:=by omega
      exact ⟨v,hv,by rw [ed,e,← h.fs]⟩
theorem owed_out (h:Sr.TOk tb) (hc:0<=cr/\cr<=1000000) {st:Int} (hs:-1000000<=st/\st<=1000000) {ys:List SYr} {ts:List STr} (hy:Sr.YOk ys ts) :
    (m_share_Owed tb cr st ys ts).Out (fun z=>z.2=0/\z.1.length=ys.length/\Sr.Ow tb cr st (fun k=>(ys.getD k default).spill) (fun k=>(ts.getD k default).index) (fun k=>(ts.getD k default).delivered) ys.length (fun k=>z.1.getD k 0)):=by
  have n:=hy.n;have ln:=hy.len;unfold m_share_Owed;refine M.o_bindE (asked_ok h hc (s:=⟨st,st⟩) (by dsimp only; omega) hy) (M.o_f rfl (M.o_f (by rw [bne_eq_false_iff_eq]; omega) (M.o_bindE (a:=(fun _=>none,cr,st)) M.i_pure ?_)));refine M.o_bind (P:=fun z:(List Int × (Int->Option Int) × Int) ⊕ (List Int × List Int × (Int->Option Int) × Int)=>∃ a l b c,z = .inr (a,l,b,c)/\l.length=ys.length/\Sr.Ow tb cr st (fun k=>(ys.getD k default).spill) (fun k=>(ts.getD k default).index) (fun k=>(ts.getD k default).delivered) ys.length (fun k=>l.getD k 0)) (M.o_for ys.length (fun i (s:(Int->Option Int) × Int × Nat × List Int)=>s.2.2.1=i/\s.2.2.2.length=i/\DB tb cr st (fun k=>(ys.getD k default).spill) (fun k=>(ts.getD k default).index) (fun k=>(ts.getD k default).delivered) i s.1 s.2.1 (fun k=>s.2.2.2.getD k 0)) ?_ ?_ ⟨rfl,rfl,⟨fun i v hv=>(by cases hv),rfl,hs.1,by dsimp only; omega,⟨fun k hk=>by omega⟩⟩⟩) ?_
  · rintro i ⟨mp,s,s2,l⟩ hi ⟨e,el,D⟩;dsimp only at e el D;subst e;simp only [m_share_Owed_b0];have a:=hy.i s2 hi;have b:=hy.d s2 hi;have d1:=D.lo;have d2:=D.hi;refine M.o_t (decide_eq_true (by omega)) (M.o_grdD (by omega) (M.o_grdD (by omega) (M.o_bindE (sin_t a.2.1 a.2.2.1) (M.o_bindE (M.i_opt (r:=true) (fun _=>sin_t b.2.1 b.2.2.1) (fun h=>by cases h)) (M.o_f rfl (M.o_bind (goes_out h hc D.fm (by omega) (by omega) (by omega)) ?_))))));rintro ⟨r5,mp',q0⟩ ⟨e0,⟨v,hv,e1⟩,hm⟩;dsimp only at e0 e1 hm;subst e0;refine M.o_grdD (by simp only [List.length_cons,List.length_nil]; omega) (M.o_pure ⟨rfl,by simp only [List.length_append,List.length_cons,List.length_nil]; omega,?_⟩);refine DB.step h hc (v:=v) (D.ext (d':=fun k=>(l++[q0]).getD k 0) fun k hk=>?_) hm hv (by omega) e1 ?_
    · rw [getD_app1,if_pos (by omega)]
    · rw [getD_app1,if_neg (by omega),if_pos (by omega)]
  · rintro ⟨mp,s,s2,l⟩ ⟨e,el,D⟩;dsimp only at e el D;subst e;simp only [m_share_Owed_b0];exact M.o_f (decide_eq_false (by omega)) (M.o_pure ⟨_,l,_,_,rfl,el,D.ow⟩)
  · rintro _ ⟨a,l,b,c,rfl,el,ow⟩;exact M.o_pure ⟨rfl,el,ow⟩
end Go.Proofs.YtlfkkkbhejeplaaGreat
namespace Go.Proofs.YtlfkkkbhejeplaaGreat
open Go Go.Nm
variable {tb:List SPt} {cr:Int}
theorem debts_out (h:Sr.TOk tb) (hc:0<=cr/\cr<=1000000) {st:Span} (hs:-1000000<=st.lo/\st.lo<=st.hi/\st.hi<=1000000) {ys:List SYr} {ts:List STr} (hy:Sr.YOk ys ts) :
    (m_share_Debts tb cr st ys).Out (fun z=>z.2=0/\z.1.length=ys.length/\Sr.Ow tb cr st.lo (fun k=>(ys.getD k default).spill) (fun k=>(ys.getD k default).ilo) (fun k=>(ys.getD k default).dhi) ys.length (fun k=>(z.1.getD k default).lo) ∧
      Sr.Ow tb cr st.hi (fun k=>(ys.getD k default).spill) (fun k=>(ys.getD k default).ihi) (fun k=>(ys.getD k default).dlo) ys.length (fun k=>(z.1.getD k default).hi)/\Sr.prv st.hi (fun k=>(z.1.getD k default).hi) ys.length<=41000000):=by
  have n:=hy.n;unfold m_share_Debts;refine M.o_bindE (asked_ok h hc hs hy) (M.o_f rfl (M.o_bindE (a:=(fun _=>none,cr,st.lo)) M.i_pure (M.o_bindE (a:=(fun _=>none,cr,st.hi)) M.i_pure (M.o_bindE (a:=()) M.i_pure (M.o_bindE (a:=()) M.i_pure ?_)))));refine M.o_bind (P:=fun z:List Span × List Span × (Int->Option Int) × Int × (Int->Option Int) × Int=>z.2.1.length=ys.length/\Sr.Ow tb cr st.lo (fun k=>(ys.getD k default).spill) (fun k=>(ys.getD k default).ilo) (fun k=>(ys.getD k default).dhi) ys.length (fun k=>(z.2.1.getD k default).lo) ∧
      Sr.Ow tb cr st.hi (fun k=>(ys.getD k default).spill) (fun k=>(ys.getD k default).ihi) (fun k=>(ys.getD k default).dlo) ys.length (fun k=>(z.2.1.getD k default).hi)/\Sr.prv st.hi (fun k=>(z.2.1.getD k default).hi) ys.length<=41000000)
    (M.o_for ys.length (fun i (s:(Int->Option Int) × Int × (Int->Option Int) × Int × Nat × List Span)=>s.2.2.2.2.1=i/\s.2.2.2.2.2.length=i ∧
      DB tb cr st.lo (fun k=>(ys.getD k default).spill) (fun k=>(ys.getD k default).ilo) (fun k=>(ys.getD k default).dhi) i s.1 s.2.1 (fun k=>(s.2.2.2.2.2.getD k default).lo) ∧
      DB tb cr st.hi (fun k=>(ys.getD k default).spill) (fun k=>(ys.getD k default).ihi) (fun k=>(ys.getD k default).dlo) i s.2.2.1 s.2.2.2.1 (fun k=>(s.2.2.2.2.2.getD k default).hi)) ?_ ?_
      ⟨rfl,rfl,⟨fun i v hv=>(by cases hv),rfl,hs.1,by dsimp only; omega,⟨fun k hk=>by omega⟩⟩,⟨fun i v hv=>(by cases hv),rfl,by dsimp only; omega,by dsimp only; omega,⟨fun k hk=>by omega⟩⟩⟩) ?_
  · rintro i ⟨mp,s,mp2,s2,s3,l⟩ hi ⟨e,el,D,D'⟩;dsimp only at e el D D';subst e;simp only [m_share_Debts_b0];have a:=hy.i s3 hi;have b:=hy.d s3 hi;have d1:=D.lo;have d2:=D.hi;have d3:=D'.lo;have d4:=D'.hi;refine M.o_t (decide_eq_true (by omega)) (M.o_grdD (by omega) (M.o_bindE (a:=(ys.getD s3 default).ilo) M.i_pure (M.o_bindE (a:=(ys.getD s3 default).dhi) M.i_pure (M.o_bind (goes_out h hc D.fm (by omega) (by dsimp only; omega) (by dsimp only; omega)) ?_))));rintro ⟨r5,mp',q0⟩ ⟨e0,⟨v,hv,e1⟩,hm⟩;dsimp only at e0 e1 hm hv;subst e0;refine M.o_bindE (a:=(ys.getD s3 default).ihi) M.i_pure (M.o_bindE (a:=(ys.getD s3 default).dlo) M.i_pure (M.o_bind (goes_out h hc D'.fm (by omega) (by dsimp only; omega) (by dsimp only; omega)) ?_));rintro ⟨r8,mp2',q02⟩ ⟨e0',⟨v',hv',e1'⟩,hm'⟩;dsimp only at e0' e1' hm' hv';subst e0';refine M.o_grdD (by simp only [List.length_cons,List.length_nil]; omega) (M.o_pure ⟨rfl,by simp only [List.length_append,List.length_cons,List.length_nil]; omega,?_,?_⟩)
    · refine DB.step h hc (v:=v) (D.ext (d':=fun k=>((l++[(⟨q0,q02⟩:Span)]).getD k default).lo) fun k hk=>?_) hm hv (by omega) e1 ?_
      · rw [getD_app1,if_pos (by omega)]
      · rw [getD_app1,if_neg (by omega),if_pos (by omega)]
    · refine DB.step h hc (v:=v') (D'.ext (d':=fun k=>((l++[(⟨q0,q02⟩:Span)]).getD k default).hi) fun k hk=>?_) hm' hv' (by omega) e1' ?_
      · rw [getD_app1,if_pos (by omega)]
      · rw [getD_app1,if_neg (by omega),if_pos (by omega)]
  · rintro ⟨mp,s,mp2,s2,s3,l⟩ ⟨e,el,D,D'⟩;dsimp only at e el D D';subst e;simp only [m_share_Debts_b0];exact M.o_f (decide_eq_false (by omega)) (M.o_pure ⟨el,D.ow,D'.ow,by have:=D'.hi; rw [← D'.fs]; omega⟩)
  · rintro ⟨z1,l,z3,z4,z5,z6⟩ ⟨el,o1,o2,o3⟩;exact M.o_pure ⟨rfl,el,o1,o2,o3⟩
/-- Of a debt nothing is left behind twenty years, if nobody lacks water. -/
theorem payback_out {w p:Int} {can:List Int} (hw:0<=w/\w<=1000000000) (hp:1<=p/\p<=100) (n:can.length=40) (hcan:∀ k,k<40->can.getD k 0=1000000000) :
    (m_share_Payback w (1+w / 20) p can).Out (fun z=>z.2=0/\z.1.length<=40/\(∀ k,k<z.1.length->0<=z.1.getD k 0/\z.1.getD k 0<=1000000000)/\Bl.Zs (fun k=>z.1.getD k 0) z.1.length=w):=by
  have q0:=Int.ediv_nonneg hw.1 (show (0:Int)<=20 by decide);have q1:w<20*(w / 20)+20:=by omega
  generalize hq:w / 20=q at *;unfold m_share_Payback;refine M.o_bindE (water_t hw.1 hw.2) (M.o_f rfl (M.o_f (decide_eq_false (by omega)) (M.o_bindE (sin_t (by omega) (by omega)) (M.o_bindE (M.i_opt (r:=true) (fun _=>sin_t (by omega) (by omega)) (fun h=>by cases h)) (M.o_bindE (M.i_opt (r:=true) (fun _=>every_int _ _ fun t ht=>?_) (fun h=>by cases h)) (M.o_f rfl ?_))))))
  · obtain ⟨i,hi,rfl⟩:=List.getElem_of_mem ht;have:=hcan i (by omega);rw [elG can hi] at this;exact water_t (by omega) (by omega)
  refine M.o_bind (P:=fun z:Int × List Int × List Int=>z.1=0/\z.2.2.length<=40/\(∀ k,k<z.2.2.length->0<=z.2.2.getD k 0/\z.2.2.getD k 0<=1000000000)/\Bl.Zs (fun k=>z.2.2.getD k 0) z.2.2.length=w)
    (M.o_for 40 (fun i (s:Int × Nat × List Int)=>s.2.1=i/\s.2.2.length=i/\(0<=s.1/\s.1<=w)/\(s.1=0∨s.1+(i:Int)*(1+q)<=w)/\(∀ k,k<i->0<=s.2.2.getD k 0/\s.2.2.getD k 0<=1000000000)/\Bl.Zs (fun k=>s.2.2.getD k 0) i=w-s.1) ?_ ?_
      ⟨rfl,rfl,⟨hw.1,Int.le_refl _⟩,.inr (by dsimp only; simp),fun k hk=>by omega,by simp [Bl.Zs]⟩) ?_
  · rintro i ⟨d,s,l⟩ hi ⟨e,el,b,g,v,z⟩;dsimp only at e el b g v z;subst e;simp only [m_share_Payback_b0];refine M.o_t (decide_eq_true (by omega)) (M.o_grdD (by omega) (M.o_if (fun c=>?_) (fun c=>?_)))
    · have c:=eq_of_beq c;subst c;refine M.o_pure ⟨rfl,by dsimp only; omega,fun k hk=>v k (by dsimp only at hk; omega),?_⟩;dsimp only;rw [el,z]; omega
    · have c:d ≠ 0:=fun h=>by subst h; simp at c
      have e1:=hcan s hi;rw [e1];have k0:=Int.ediv_nonneg (show 0<=d+p-1 by omega) (show 0<=p by omega);have k1:=Int.ediv_le_self p (show 0<=d+p-1 by omega);generalize hm:min (min d 1000000000) (max (1+q) ((d+p-1) / p))=m;have m1:0<=m/\m<=d:=by omega
      have m2:m=d∨1+q<=m:=by omega
      refine M.o_grd (gA2 (by omega) (by omega)) (M.o_grd (gA2 (by omega) (by omega)) (M.o_grd (gA3 (by omega) (by omega) (by omega)) (M.o_grdD (by simp only [List.length_cons,List.length_nil]; omega) (M.o_grd (gA2 (by omega) (by omega)) (M.o_pure ⟨rfl,by simp only [List.length_append,List.length_cons,List.length_nil]; omega,by dsimp only; omega,?_,fun k hk=>?_,?_⟩)))))
      · dsimp only;have:((s+1:Nat):Int)*(1+q)=(s:Int)*(1+q)+(1+q):=by rw [Int.natCast_add,Int.add_mul]; simp
        rw [this];omega
      · dsimp only;rw [getD_app1];by_cases c':k<l.length
        · rw [if_pos c']; exact v k (by omega)
        · rw [if_neg c',if_pos (by omega)]; omega
      · dsimp only;have x:Bl.Zs (fun k=>(l++[m]).getD k 0) s=Bl.Zs (fun k=>l.getD k 0) s:=Bl.Zs.ext fun k hk=>by
          rw [getD_app1,if_pos (by omega)]
        show Bl.Zs (fun k=>(l++[m]).getD k 0) s+(l++[m]).getD s 0=_;rw [x,z,getD_app1,if_neg (by omega),if_pos el.symm];omega
  · rintro ⟨d,s,l⟩ ⟨e,el,b,g,v,z⟩;dsimp only at e el b g v z;subst e;simp only [m_share_Payback_b0];have d0:d=0:=by
      rcases g with g | g
      · exact g
      · rw [show ((40:Nat):Int)=40 from rfl] at g; omega
    subst d0;refine M.o_f (decide_eq_false (by omega)) (M.o_pure ⟨rfl,by dsimp only; omega,fun k hk=>v k (by dsimp only at hk; omega),?_⟩);dsimp only;rw [el,z]; omega
  · rintro ⟨d,l0,l⟩ ⟨e,el,v,z⟩;dsimp only at e el v z;subst e;exact M.o_f rfl (M.o_pure ⟨rfl,el,v,z⟩)
end Go.Proofs.YtlfkkkbhejeplaaGreat
namespace Go.Nm
/-- A table that is made, so far. -/
structure Mt9 (i:Nat) (s2 s3 index due:Int) (s4:Nat) (l:List SPt):Prop where
  at_:s4=i
  so:SOk (4+2*i) s2 s3
  ix:0<=index/\index<=50+60*i
  du:0<=due/\due<=20+50*i
  ln:l.length=i
  v:∀ k,k<i->(0<=(l.getD k default).index/\(l.getD k default).index<=1000000)/\0<=(l.getD k default).due/\(l.getD k default).due<=1000000
  up:∀ k,k+1<i->(l.getD k default).index<(l.getD (k+1) default).index/\(l.getD k default).due<=(l.getD (k+1) default).due
  la:∀ k,k+1=i->(l.getD k default).index<index/\(l.getD k default).due<=due
end Go.Nm
namespace Go.Proofs.YtlfkkkbhejeplaaGreat
open Go Go.Nm
theorem bordered_out {b:List UInt8}:(zaR b 0 0 5).Out (fun y=>Sr.TOk y.1/\(0<=y.2.1/\y.2.1<=1000000)/\(-1000000<=y.2.2.1/\y.2.2.1<=y.2.2.2.1/\y.2.2.2.1<=1000000)/\Sr.YOk y.2.2.2.2.1 y.2.2.2.2.2.1/\1<=y.2.2.2.2.1.length):=by
  unfold zaR;refine M.o_bind (next_out SOk.zero (by omega) (by omega)) ?_;rintro ⟨r2,u1,x1⟩ ⟨k1,l1,_⟩;dsimp only at k1 l1;have l1:=l1 (by omega);refine M.o_bind (next_out k1 (by omega) (by omega)) ?_;rintro ⟨r3,u2,x2⟩ ⟨k2,l2,_⟩;dsimp only at k2 l2;have l2:=l2 (by omega);refine M.o_bind (next_out k2 (by omega) (by omega)) ?_;rintro ⟨r4,u3,x3⟩ ⟨k3,l3,_⟩;dsimp only at k3 l3;have l3:=l3 (by omega);refine M.o_bind (within_out k3 (by omega) (by omega) (by omega) (by omega)) ?_;rintro ⟨r5,u4,x4⟩ ⟨k4,l4,l4'⟩;dsimp only at k4 l4 l4';obtain ⟨n,rfl⟩:∃ n:Nat,r5=n:=⟨r5.toNat,by omega⟩
  refine M.o_bind (P:=fun z:Int × Int × List SPt × List SPt=>SOk 16 z.1 z.2.1/\Sr.TOk z.2.2.2) (M.o_for n (fun i (s:Int × Int × Int × Int × Nat × List SPt)=>Mt9 i s.1 s.2.1 s.2.2.1 s.2.2.2.1 s.2.2.2.2.1 s.2.2.2.2.2) ?_ ?_
    ⟨rfl,k4.mono (by omega),by dsimp only; omega,by dsimp only; omega,rfl,fun k hk=>by omega,fun k hk=>by omega,fun k hk=>by omega⟩) ?_
  · rintro i ⟨s2,s3,index,due,s4,l⟩ hi ⟨e,so,ix,du,ln,v,up,la⟩;dsimp only at e so ix du ln v up la;subst e;simp only [za6];refine M.o_t (decide_eq_true (by omega)) (M.o_grdD (by simp only [List.length_cons,List.length_nil]; omega) (M.o_bind (within_out so (by omega) (by omega) (by omega) (by omega)) ?_));rintro ⟨r6,u5,x5⟩ ⟨k5,l5,l5'⟩;dsimp only at k5 l5 l5';refine M.o_grd (gA2 (by omega) (by omega)) (M.o_bind (next_out k5 (by omega) (by omega)) ?_);rintro ⟨r7,u6,x6⟩ ⟨k6,l6,_⟩;dsimp only at k6 l6;have l6:=l6 (by omega);have gl:∀ k,k<s4->(l++[(⟨index,due⟩:SPt)]).getD k default=l.getD k default:=fun k hk=>by rw [getD_app1,if_pos (by omega)]
    have gn:(l++[(⟨index,due⟩:SPt)]).getD s4 default=⟨index,due⟩:=by rw [getD_app1,if_neg (by omega),if_pos ln.symm]
    refine M.o_grd (gA2 (by omega) (by omega)) (M.o_grd (gA2 (by omega) (by omega)) (M.o_pure ⟨rfl,k6.mono (by omega),by dsimp only; omega,by dsimp only; omega,by simp only [List.length_append,List.length_cons,List.length_nil]; omega,fun k hk=>?_,fun k hk=>?_,fun k hk=>?_⟩))
    · dsimp only;rcases Nat.lt_or_ge k s4 with c | c
      · rw [gl k c]; exact v k c
      · obtain rfl:k=s4:=by omega
        rw [gn]; dsimp only; omega
    · dsimp only;rcases Nat.lt_or_ge (k+1) s4 with c | c
      · rw [gl k (by omega),gl (k+1) c]; exact up k c
      · obtain rfl:k+1=s4:=by omega
        rw [gl k (by omega),gn]; exact la k rfl
    · obtain rfl:k=s4:=by omega
      dsimp only;rw [gn]; dsimp only; omega
  · rintro ⟨s2,s3,index,due,s4,l⟩ ⟨e,so,ix,du,ln,v,up,la⟩;dsimp only at e so ix du ln v up la;subst e;simp only [za6];exact M.o_f (decide_eq_false (by omega)) (M.o_pure ⟨so.mono (by omega),by dsimp only; omega,by dsimp only; omega,fun k hk=>(v k (by dsimp only at hk; omega)).1,fun k hk=>(v k (by dsimp only at hk; omega)).2,fun k hk=>(up k (by dsimp only at hk; omega)).1,fun k hk=>(up k (by dsimp only at hk; omega)).2⟩)
  rintro ⟨s5,s6,l2,l3⟩ ⟨so,tok⟩;dsimp only at so tok;refine M.o_bind (within_out so (by omega) (by omega) (by omega) (by omega)) ?_;rintro ⟨r8,u7,x7⟩ ⟨k7,l7,l7'⟩;dsimp only at k7 l7 l7';refine M.o_bind (next_out k7 (by omega) (by omega)) ?_;rintro ⟨r9,u8,x8⟩ ⟨k8,l8,_⟩;dsimp only at k8 l8;have l8:=l8 (by omega);refine M.o_grd (gA2 (by omega) (by omega)) (M.o_bindE (a:=(r8,r8+r9)) M.i_pure (M.o_bind (within_out k8 (by omega) (by omega) (by omega) (by omega)) ?_));rintro ⟨r10,u9,x9⟩ ⟨k9,l9,l9'⟩;dsimp only at k9 l9 l9';obtain ⟨m,rfl⟩:∃ m:Nat,r10=m:=⟨r10.toNat,by omega⟩
  refine M.o_bind (P:=fun z:List SYr × List STr × List STr × List SYr × Int × Int=>Sr.YOk z.2.2.2.1 z.2.2.1/\1<=z.2.2.2.1.length) (M.o_for m (fun i (s:Int × Int × Nat × List SYr × List STr)=>s.2.2.1=i/\SOk (19+7*i) s.1 s.2.1/\s.2.2.2.1.length=i/\s.2.2.2.2.length=i/\∀ k,k<i →
      (0<=(s.2.2.2.1.getD k default).ilo/\(s.2.2.2.1.getD k default).ilo<=(s.2.2.2.2.getD k default).index/\(s.2.2.2.2.getD k default).index<=(s.2.2.2.1.getD k default).ihi/\(s.2.2.2.1.getD k default).ihi<=1000000) ∧
      0<=(s.2.2.2.1.getD k default).dlo/\(s.2.2.2.1.getD k default).dlo<=(s.2.2.2.2.getD k default).delivered/\(s.2.2.2.2.getD k default).delivered<=(s.2.2.2.1.getD k default).dhi/\(s.2.2.2.1.getD k default).dhi<=1000000) ?_ ?_ ⟨rfl,k9.mono (by omega),rfl,rfl,fun k hk=>by omega⟩) ?_
  · rintro i ⟨s7,s8,s9,ly,lz⟩ hi ⟨e,so,ln,lm,v⟩;dsimp only at e so ln lm v;subst e;simp only [zaW];refine M.o_t (decide_eq_true (by omega)) (M.o_bind (next_out so (by omega) (by omega)) ?_);rintro ⟨r11,u1,x1⟩ ⟨k1,l1,_⟩;dsimp only at k1 l1;have l1:=l1 (by omega);refine M.o_bind (next_out k1 (by omega) (by omega)) ?_;rintro ⟨r12,u2,x2⟩ ⟨k2,l2,_⟩;dsimp only at k2 l2;have l2:=l2 (by omega);refine M.o_bind (next_out k2 (by omega) (by omega)) ?_;rintro ⟨r13,u3,x3⟩ ⟨k3,l3,_⟩;dsimp only at k3 l3;have l3:=l3 (by omega);refine M.o_grd (gA2 (by omega) (by omega)) (M.o_bind (next_out k3 (by omega) (by omega)) ?_);rintro ⟨r14,u4,x4⟩ ⟨k4,l4,_⟩;dsimp only at k4 l4;have l4:=l4 (by omega);refine M.o_grd (gA2 (by omega) (by omega)) (M.o_bindE (a:=(max 0 (r11-r13),r11+r14)) M.i_pure (M.o_bind (next_out k4 (by omega) (by omega)) ?_));rintro ⟨r16,u5,x5⟩ ⟨k5,l5,_⟩;dsimp only at k5 l5;have l5:=l5 (by omega);refine M.o_grd (gA2 (by omega) (by omega)) (M.o_bind (next_out k5 (by omega) (by omega)) ?_);rintro ⟨r17,u6,x6⟩ ⟨k6,l6,_⟩;dsimp only at k6 l6;have l6:=l6 (by omega);refine M.o_grd (gA2 (by omega) (by omega)) (M.o_bindE (a:=(max 0 (r12-r16),r12+r17)) M.i_pure (M.o_bind (next_out k6 (by omega) (by omega)) ?_));rintro ⟨r19,u7,x7⟩ ⟨k7,_,_⟩;dsimp only at k7;refine M.o_grdD (by simp only [List.length_cons,List.length_nil]; omega) (M.o_grdD (by simp only [List.length_cons,List.length_nil]; omega) (M.o_grd (gA2 (by omega) (by omega)) (M.o_pure ⟨rfl,k7.mono (by omega),by simp only [List.length_append,List.length_cons,List.length_nil]; omega,by simp only [List.length_append,List.length_cons,List.length_nil]; omega,fun k hk=>?_⟩)));dsimp only;rw [getD_app1,getD_app1];rcases Nat.lt_or_ge k s9 with c | c
    · rw [if_pos (by omega),if_pos (by omega)]; exact v k c
    · rw [if_neg (by omega),if_pos (by omega),if_neg (by omega),if_pos (by omega)];dsimp only;omega
  · rintro ⟨s7,s8,s9,ly,lz⟩ ⟨e,so,ln,lm,v⟩;dsimp only at e so ln lm v;subst e;simp only [zaW];exact M.o_f (decide_eq_false (by omega)) (M.o_pure ⟨⟨by dsimp only; omega,by dsimp only; omega,fun k hk=>(v k (by dsimp only at hk; omega)).1,fun k hk=>(v k (by dsimp only at hk; omega)).2⟩,by dsimp only; omega⟩)
  · rintro ⟨l6,l7,l8,l9,s10,s11⟩ ⟨y,y1⟩;dsimp only at y y1;exact M.o_pure ⟨tok,by dsimp only; omega,by dsimp only; omega,y,y1⟩
end Go.Proofs.YtlfkkkbhejeplaaGreat
section
set_option maxRecDepth 100000
set_option maxHeartbeats 16000000
namespace Go.Proofs.YtlfkkkbhejeplaaGreat
open Go Go.Nm
attribute [local irreducible] gd execOp SL SLD SLT WR
def zbG (aa:Int):M (Int × Int × (List DVal)) :=
  M.bind (za5 20 30) fun (r0,r1,r2) =>
  M.bind (za5 aa 90) fun (ab,ac,ae) =>
  M.pure (10,5,([(⟨r0,(r1:Int),(r2:Int)⟩:DVal),(⟨false,(0:Int),(0:Int)⟩:DVal),(⟨false,(0:Int),(0:Int)⟩:DVal),(⟨ab,(ac:Int),(ae:Int)⟩:DVal)]))
theorem zdy {R}(aa){r}(hM:(zbG aa).Ends r)(w)(H:St w w [] R):Ret Tryz.prog 27 #[I aa] w fun v w'=>∃ y0 y1 y2 u0,(y0,y1,y2)=r/\v = .agg #[I y0,I y1,u0]/\St w w' [cOwn (α:=DVal) 74 u0 y2] R:=by
 refine ret_of_W Tryz.func27 rfl rfl rfl ?_;refine kA 2 ?_;intro ag ah H;refine kC 3 @zbv ?_;intro ai r0 r1 r2 hM H;refine kC 3 @zbv ?_;intro aj ab ac ae hM H;refine kL 0 (α:=DVal) [⟨r0,r1,r2⟩,⟨false,0,0⟩,⟨false,0,0⟩,⟨ab,ac,ae⟩] ?_;intro ak al H;refine kS 1 ?_;intro ao H;exact kR 1 [0]

def zav (lo hi:Int):M (Int × Int) :=
  M.pure (lo,hi)
theorem zaK {R}(lo hi){r}(hM:(zav lo hi).Ends r)(w)(H:St w w [] R):Ret Tryz.prog 59 #[I lo,I hi] w fun v w'=>∃ y0 y1,(y0,y1)=r/\v = .agg #[I y0,I y1]/\St w w' [] R:=by
 refine ret_of_W Tryz.func59 rfl rfl rfl ?_;refine kA 2 ?_;intro aa ab H;refine kS 6 ?_;intro ac H;exact kR 1 []

def zb2 (lo hi:Int):M ((List Span) × (List BRch)) :=
  M.bind (zav 100 120) fun (r0,r1) =>
  M.bind (zav 0 10) fun (aa,ab) =>
  M.bind (zav (-200) (-100)) fun (ac,ae) =>
  M.bind (zav 90 115) fun (ag,ah) =>
  M.bind (zav lo hi) fun (ai,aj) =>
  M.pure (([(⟨(r0:Int),(r1:Int)⟩:Span),(⟨(aa:Int),(ab:Int)⟩:Span),(⟨(ac:Int),(ae:Int)⟩:Span)]),([(⟨(0:Int),(1:Int),(ag:Int),(ah:Int)⟩:BRch),(⟨(1:Int),(2:Int),(ai:Int),(aj:Int)⟩:BRch)]))
theorem zcX {R}(lo hi){r}(hM:(zb2 lo hi).Ends r)(w)(H:St w w [] R):Ret Tryz.prog 28 #[I lo,I hi] w fun v w'=>∃ y0 y1 u0 u1,(y0,y1)=r/\v = .agg #[u0,u1]/\St w w' [cOwn (α:=Span) 32 u0 y0,cOwn (α:=BRch) 40 u1 y1] R:=by
 refine ret_of_W Tryz.func28 rfl rfl rfl ?_;refine kA 2 ?_;intro ak al H;refine kC 3 @zaK ?_;intro ao r0 r1 hM H;refine kC 0 @zaK ?_;intro ap aa ab hM H;refine kC 0 @zaK ?_;intro aq ac ae hM H;refine kL 0 (α:=Span) [⟨r0,r1⟩,⟨aa,ab⟩,⟨ac,ae⟩] ?_;intro au av H;refine kC 0 @zaK ?_;intro aw ag ah hM H;refine kC 3 @zaK ?_;intro ax ai aj hM H;refine kL 1 (α:=BRch) [⟨0,1,ag,ah⟩,⟨1,2,ai,aj⟩] ?_;intro ay az H;refine kS 1 ?_;intro aA H;exact kR 1 [1,0]

def zbI  : M (Int × (List Rgt)) :=
  M.pure (2,([(⟨(0:Int),(100:Int),(50:Int)⟩:Rgt),(⟨(1:Int),(60:Int),(100:Int)⟩:Rgt),(⟨(0:Int),(40:Int),(0:Int)⟩:Rgt)]))
theorem zc2 {R r}(hM:(zbI).Ends r)(w)(H:St w w [] R):Ret Tryz.prog 29 #[] w fun v w'=>∃ y0 y1 u0,(y0,y1)=r/\v = .agg #[I y0,u0]/\St w w' [cOwn (α:=Rgt) 122 u0 y1] R:=by
 refine ret_of_W Tryz.func29 rfl rfl rfl ?_;refine kA 2 ?_;intro aa ab H;refine kL 6 (α:=Rgt) [⟨0,100,50⟩,⟨1,60,100⟩,⟨0,40,0⟩] ?_;intro ac ae H;refine kS 1 ?_;intro ag H;exact kR 1 [0]

def zcO  : M ((List Yr) × (List Old10) × Int × Int) :=
  M.pure (([(⟨(1905:Int),(400:Int),(420:Int)⟩:Yr),(⟨(1906:Int),(250:Int),(250:Int)⟩:Yr)]),([(⟨(1900:Int),(1904:Int),(500:Int),([(1902:Int)])⟩:Old10)]),1900,1909)
theorem zdc {R r}(hM:(zcO).Ends r)(w)(H:St w w [] R):Ret Tryz.prog 31 #[] w fun v w'=>∃ y0 y1 y2 y3 u0 u1 rr2 ah,(y0,y1,y2,y3)=r/\v = .agg #[u0,u1,I y2,I y3]/\St w w' [cOwn (α:=Yr) 154 u0 y0,cOwn (α:=Raw 3) 156 u1 rr2,cRo ah] R/\RepR (α:=Old10) ah.cells rr2 y1:=by
 refine ret_of_W Tryz.func31 rfl rfl rfl ?_;refine kA 2 ?_;intro ap aq H;refine kL 7 (α:=Yr) [⟨1905,400,420⟩,⟨1906,250,250⟩] ?_;intro ac au H;refine kL 0 (α:=Int) [1902] ?_;intro ae av H;refine kG 1 ?_;obtain ⟨aw,H⟩:=H.emptyE;obtain ⟨ax,H,aj⟩:=H.freezeE (k:=1) rfl;replace H:=H.nf;have aa:=aj;obtain ⟨ak,H,ay,al⟩:=H.joinE (i:=0) (j:=1) rfl rfl;replace aa:=aa.mono al;obtain ⟨ab,ai⟩:∃ r:Raw 3,r.cs=[I 1900,I 1904,I 500,ae]:=⟨Raw.of [I 1900,I 1904,I 500,ae] rfl (by simp only [List.all_cons,List.all_nil,Bool.true_and,Bool.and_true,Sl.oc aa]; try rfl),rfl⟩
 have ao:RepR (α:=Old10) ak.cells [ab] [(⟨(1900:Int),(1904:Int),(500:Int),([(1902:Int)])⟩:Old10)]:=.cons (by rw [ai]; exact ⟨_,rfl,aa⟩)<|.nil
 refine t_bs (α:=Raw 3) T97.h [.agg #[I 1900,I 1904,I 500,ae]] [ab] H rfl (.cons (by rw [show (Flat.enc ab:List Value)=ab.cs from rfl,ai]; rfl) (Flat.rep_enc _ _)<|.nil) rfl rfl rfl ?_;intro ag az H;replace H:=H.nf;refine s_val (x_bld (ps:=[(2,I 1900),(3,I 1909),(0,ac),(1,ag)]) (zs:=[.slice none 0 0,.slice none 0 0,I 0,I 0]) (L':=[ac,ag,I 1900,I 1909]) rfl Tryz.underlying99 Al99.h rfl (Bd99 Tryz.underlying99) (.cons (cs:=[I 1900]) rfl rfl rfl rfl rfl<|.cons (cs:=[I 1909]) rfl rfl rfl rfl rfl<|.cons (cs:=[ac]) (Sl.cells (H.os 4)) rfl rfl rfl rfl<|.cons (cs:=[ag]) (Sl.cells (rowSl rfl (H.get (k:=0) rfl) (roLe _ (H.get (k:=1) rfl)) ao)) rfl rfl rfl rfl<|.nil)) ?_;refine kS 0 ?_;intro aA H;refine s_nil ?_;replace H:=H.pk [0,1,4,5];exact kR 0 [2,0,1]

def zaz (lo hi:Int):M (Int × Int) :=
  M.pure (lo,hi)
theorem zaZ {R}(lo hi){r}(hM:(zaz lo hi).Ends r)(w)(H:St w w [] R):Ret Tryz.prog 67 #[I lo,I hi] w fun v w'=>∃ y0 y1,(y0,y1)=r/\v = .agg #[I y0,I y1]/\St w w' [] R:=by
 refine ret_of_W Tryz.func67 rfl rfl rfl ?_;refine kA 2 ?_;intro aa ab H;refine kS 6 ?_;intro ac H;exact kR 1 []

def zcq (lead:Int):M ((List Int) × (List Span) × (List Int) × (List Town) × Int × Int × (List Flood)) :=
  M.bind (zaz 5 6) fun (r0,r1) =>
  M.bind (zaz 2 4) fun (aa,ab) =>
  M.bind (zaz 3 5) fun (ac,ae) =>
  M.bind (zaz 1 2) fun (ag,ah) =>
  M.pure (([(2:Int),(2:Int),(3:Int),(-1:Int)]),([(⟨(r0:Int),(r1:Int)⟩:Span),(⟨(aa:Int),(ab:Int)⟩:Span),(⟨(ac:Int),(ae:Int)⟩:Span),(⟨(0:Int),(0:Int)⟩:Span)]),([(0:Int),(1:Int)]),([(⟨(3:Int),(lead:Int),(300:Int)⟩:Town)]),ag,ah,([(⟨(0:Int),([(200:Int),(250:Int),(310:Int)])⟩:Flood),(⟨(1:Int),([(280:Int),(240:Int),(290:Int)])⟩:Flood),(⟨(0:Int),([(100:Int),(260:Int),(300:Int)])⟩:Flood)]))
theorem zds {R}(lead){r}(hM:(zcq lead).Ends r)(w)(H:St w w [] R):Ret Tryz.prog 33 #[I lead] w fun v w'=>∃ y0 y1 y2 y3 y4 y5 y6 u0 u1 u2 u3 u4 rr5 ax,(y0,y1,y2,y3,y4,y5,y6)=r/\v = .agg #[u0,u1,u2,u3,I y4,I y5,u4]/\St w w' [cOwn (α:=Int) 3 u0 y0,cOwn (α:=Span) 32 u1 y1,cOwn (α:=Int) 3 u2 y2,cOwn (α:=Town) 164 u3 y3,cOwn (α:=Raw 1) 166 u4 rr5,cRo ax] R/\RepR (α:=Flood) ax.cells rr5 y6:=by
 refine ret_of_W Tryz.func33 rfl rfl rfl ?_;refine kA 2 ?_;intro aP aQ H;refine kL 3 (α:=Int) [2,2,3,-1] ?_;intro ai aR H;refine kC 0 @zaZ ?_;intro aS r0 r1 hM H;refine kC 0 @zaZ ?_;intro aT aC aD hM H;refine kC 0 @zaZ ?_;intro aU aE aF hM H;refine kL 1 (α:=Span) [⟨r0,r1⟩,⟨aC,aD⟩,⟨aE,aF⟩,⟨0,0⟩] ?_;intro aj aV H;refine kL 0 (α:=Int) [0,1] ?_;intro ak aW H;refine kL 2 (α:=Town) [⟨3,lead,300⟩] ?_;intro al aX H;refine kC 0 @zaZ ?_;intro aY ao ap hM H;refine kL 0 (α:=Int) [200,250,310] ?_;intro aq aZ H;refine kL 1 (α:=Int) [280,240,290] ?_;intro au a7 H;refine kL 1 (α:=Int) [100,260,300] ?_;intro av a8 H;refine kG 1 ?_;obtain ⟨bc,H⟩:=H.emptyE;obtain ⟨bf,H,aG⟩:=H.freezeE (k:=3) rfl;replace H:=H.nf;have aa:=aG;obtain ⟨bh,H,bi,aH⟩:=H.joinE (i:=0) (j:=3) rfl rfl;replace aa:=aa.mono aH;obtain ⟨bj,H,aI⟩:=H.freezeE (k:=3) rfl;replace H:=H.nf;have ab:=aI;obtain ⟨bm,H,aJ,aK⟩:=H.joinE (i:=0) (j:=3) rfl rfl;replace aa:=aa.mono aJ;replace ab:=ab.mono aK;obtain ⟨bn,H,aL⟩:=H.freezeE (k:=3) rfl;replace H:=H.nf;have ac:=aL;obtain ⟨aM,H,ay,aN⟩:=H.joinE (i:=0) (j:=3) rfl rfl;replace aa:=aa.mono ay;replace ab:=ab.mono ay;replace ac:=ac.mono aN;obtain ⟨ae,az⟩:∃ r:Raw 1,r.cs=[I 0,aq]:=⟨Raw.of [I 0,aq] rfl (by simp only [List.all_cons,List.all_nil,Bool.true_and,Bool.and_true,Sl.oc aa]; try rfl),rfl⟩
 obtain ⟨ag,aA⟩:∃ r:Raw 1,r.cs=[I 1,au]:=⟨Raw.of [I 1,au] rfl (by simp only [List.all_cons,List.all_nil,Bool.true_and,Bool.and_true,Sl.oc ab]; try rfl),rfl⟩
 obtain ⟨ah,aB⟩:∃ r:Raw 1,r.cs=[I 0,av]:=⟨Raw.of [I 0,av] rfl (by simp only [List.all_cons,List.all_nil,Bool.true_and,Bool.and_true,Sl.oc ac]; try rfl),rfl⟩
 have aO:RepR (α:=Flood) aM.cells [ae,ag,ah] [(⟨(0:Int),([(200:Int),(250:Int),(310:Int)])⟩:Flood),(⟨(1:Int),([(280:Int),(240:Int),(290:Int)])⟩:Flood),(⟨(0:Int),([(100:Int),(260:Int),(300:Int)])⟩:Flood)]:=.cons (by rw [az]; exact ⟨_,rfl,aa⟩)<|.cons (by rw [aA]; exact ⟨_,rfl,ab⟩)<|.cons (by rw [aB]; exact ⟨_,rfl,ac⟩)<|.nil
 refine t_bs (α:=Raw 1) T103.h [.agg #[I 0,aq],.agg #[I 1,au],.agg #[I 0,av]] [ae,ag,ah] H rfl (.cons (by rw [show (Flat.enc ae:List Value)=ae.cs from rfl,az]; rfl) (Flat.rep_enc _ _)<|.cons (by rw [show (Flat.enc ag:List Value)=ag.cs from rfl,aA]; rfl) (Flat.rep_enc _ _)<|.cons (by rw [show (Flat.enc ah:List Value)=ah.cs from rfl,aB]; rfl) (Flat.rep_enc _ _)<|.nil) rfl rfl rfl ?_;intro aw bo H;replace H:=H.nf;refine s_val (x_bld (ps:=[(0,ai),(1,aj),(2,ak),(3,al),(4,.agg #[I ao,I ap]),(5,aw)]) (zs:=[.slice none 0 0,.slice none 0 0,.slice none 0 0,.slice none 0 0,I 0,I 0,.slice none 0 0]) (L':=[ai,aj,ak,al,I ao,I ap,aw]) rfl Tryz.underlying105 Al105.h rfl (Bd105 Tryz.underlying105) (.cons (cs:=[ai]) (Sl.cells (H.os 11)) rfl rfl rfl rfl<|.cons (cs:=[aj]) (Sl.cells (H.os 10)) rfl rfl rfl rfl<|.cons (cs:=[ak]) (Sl.cells (H.os 9)) rfl rfl rfl rfl<|.cons (cs:=[al]) (Sl.cells (H.os 8)) rfl rfl rfl rfl<|.cons (cs:=[I ao,I ap]) rfl rfl rfl rfl rfl<|.cons (cs:=[aw]) (Sl.cells (rowSl rfl (H.get (k:=0) rfl) (roLe _ (H.get (k:=1) rfl)) aO)) rfl rfl rfl rfl<|.nil)) ?_;refine kS 0 ?_;intro bp H;refine s_nil ?_;replace H:=H.pk [0,1,8,9,10,11,12];exact kR 0 [5,4,3,2,0,1]

def zad (n aa greatest:Int):M Bool :=
  M.pure ((decide (aa<=n))&&(decide (n<=greatest)))
theorem zaf {R}(n aa greatest){r}(hM:(zad n aa greatest).Ends r)(w)(H:St w w [] R):Ret Tryz.prog 96 #[I n,I aa,I greatest] w fun v w'=>∃ y0,y0=r/\v=B y0/\St w w' [] R:=by
 refine ret_of_W Tryz.func96 rfl rfl rfl ?_;refine kg 16 ?_;exact rt

def zcf (s:List Old10) (f:Old10->M Bool):Nat->M (Nat ⊕ Unit):=fun s2 =>
  bif decide ((s2:Int)<(s.length:Int)) then (
  M.grd (decide ((s2:Int)<(s.length:Int))) <|
  M.bind (f (s.getD s2 default)) fun r2 =>
  bif r2 then (
  M.fail)
  else (
  M.pure (.inl (s2+1))))
  else (
  M.pure (.inr ()))
def zcJ (s:List Old10) (f:Old10->M Bool):M Int :=
  M.bind (M.iter (zcf s f) 0) fun (_:Unit) =>
  M.pure (-1)
theorem zdd {R ae ab ac}(s f)(ag:Reads R ae)(ah:Sl ae ab s)(ak:FnM Tryz.prog R ac f){r}(hM:(zcJ s f).Ends r)(w)(H:St w w [] R):Ret Tryz.prog 200 #[ab,ac] w fun v w'=>∃ y0,y0=r/\v=I y0/\St w w' [] R:=by
 refine ret_of_W Tryz.func200 rfl rfl rfl ?_;have ay:=(ah).len_le;refine kg 12 ?_;obtain ⟨al,ai,ao⟩:=M.e_bind hM;obtain ⟨az,ai⟩:=M.e_iter ai;refine W.loop (fun m σ W=>∃ (s2:Nat) (ρ:Env),σ=upds ρ [(0,ab),(1,ac),(7,I (s.length:Int)),(8,I (s2:Int))]/\M.iterN (zcf s f) m s2=some al/\St w W [] R) ?_ ?_
 ·exact kY
 rintro aA σ aB ⟨s2,ρ,rfl,ap,H⟩;obtain ⟨aC,aD,aE,hM,aq⟩:=M.e_iterN ap;refine kI 5 ?_ ?_
 ·intro au hM;obtain ⟨aF,hM⟩:=M.e_gq hM;refine kg 14 ?_;obtain ⟨aj,av,aa⟩:=Old10_atA ah (i:=(s2:Int)) (by omega) (by omega);replace aa:Sl _ aj (s.getD s2 default).passed:=aa;have aG:=aa.len_le;refine s_val (x_ld (v:=.agg #[I ((s.getD s2 default).src),I ((s.getD s2 default).dst),I ((s.getD s2 default).stage),aj]) rfl (ld_ag Ag156.h Sz156.h (At.mono av (ag.at H)))) ?_;obtain ⟨r2,aw,hM⟩:=M.e_bind hM;refine t_callM H ak rfl rfl (s.getD s2 default) (ag.app _) ⟨_,Old10_mk aa,rfl⟩ aw ?_;intro aH H;refine kI 1 ?_ ?_
  ·intro ax hM;exact (M.e_fail hM).elim
  intro ax hM;exact kX 5
 intro au hM;refine W.exit ?_;obtain rfl:=M.e_inr hM aq;replace hM:=ao;refine kg 4 ?_;exact rt

def zcd (s:List Old10) (f:Old10->M Bool):M Bool :=
  M.bind (zcJ s f) fun r2 =>
  M.pure (decide (0<=r2))
theorem zcS {R aa ab ac}(s f)(ae:Reads R aa)(ag:Sl aa ab s)(ah:FnM Tryz.prog R ac f){r}(hM:(zcd s f).Ends r)(w)(H:St w w [] R):Ret Tryz.prog 190 #[ab,ac] w fun v w'=>∃ y0,y0=r/\v=B y0/\St w w' [] R:=by
 refine ret_of_W Tryz.func190 rfl rfl rfl ?_;refine kC 8 @zdd ?_;intro ai r2 hM H;refine kg 3 ?_;exact rt

def zba (x:Old10) (aa:Old10->M Bool):M Bool :=
  M.bind (aa x) fun r2 =>
  M.pure (!r2)
theorem zdu {R aa ab ac ae}(x ag)(ah:Reads R aa)(ai:Sl aa ab x.passed)(aj:FnM Tryz.prog R ae ag)(al:Has R (cBlk ac [ae] 265)){r}(hM:(zba x ag).Ends r)(w)(H:St w w [] R):Ret Tryz.prog 191 #[.agg #[I x.src,I x.dst,I x.stage,ab],Pq ac] w fun v w'=>∃ y0,y0=r/\v=B y0/\St w w' [] R:=by
 refine ret_of_W Tryz.func191 rfl rfl rfl ?_;refine kB 2 ?_;intro ao ap H;refine kg 6 ?_;obtain ⟨r2,ak,hM⟩:=M.e_bind hM;refine t_callM H aj rfl rfl x (ah.app _) ⟨_,Old10_mk ai,rfl⟩ ak ?_;intro aq H;refine kg 3 ?_;exact rt

def zbn (l:List Old10) (so:Old10->M Bool):M Bool :=
  M.bind (zcd l (fun aa=>zba aa so)) fun r2 =>
  M.pure (!r2)
theorem zbT {R ae aa ag}(l so)(ai:Reads R ae)(aj:Sl ae aa l)(ak:FnM Tryz.prog R ag so){r}(hM:(zbn l so).Ends r)(w)(H:St w w [] R):Ret Tryz.prog 167 #[aa,ag] w fun v w'=>∃ y0,y0=r/\v=B y0/\St w w' [] R:=by
 refine ret_of_W Tryz.func167 rfl rfl rfl ?_;refine kB 2 ?_;intro ab aB H;refine kg 5 ?_;refine s_val (x_mf (fs:=[]) (cs:=[Pq ab]) rfl rfl) ?_;obtain ⟨aC,al,hM⟩:=M.e_bind hM;refine s_call cq [aa,.func (.func 191) #[] #[Pq ab]] rfl (zcS l (fun ac=>zba ac so) (ai.app _) aj ⟨191,[Pq ab],rfl,cq,fun ah aD aE ao ac aF ap aq au av=>by obtain ⟨aG,rfl,aw⟩:=Old10_arg au; exact (zdu ac so aq aw (FnM.app (ak.app _) _) (Has.app (Has.here (k:=0) rfl) _) av ah (St.refl ap)).mono fun ao ah ⟨aH,ax,ay,az⟩=>by subst ax; exact ⟨ay,az⟩⟩ al _ (H.gt 1)) ?_;rintro _ aI ⟨r2,rfl,rfl,aA⟩;replace H:=H.bk aA;refine kg 3 ?_;exact rt

def zbi (o:Old10):M Bool :=
  M.pure (decide ((o.passed.length:Int)<=10))
theorem zdh {R aa ab}(o)(ae:Reads R aa)(ac:Sl aa ab o.passed){r}(hM:(zbi o).Ends r)(w)(H:St w w [] R):Ret Tryz.prog 166 #[.agg #[I o.src,I o.dst,I o.stage,ab]] w fun v w'=>∃ y0,y0=r/\v=B y0/\St w w' [] R:=by
 refine ret_of_W Tryz.func166 rfl rfl rfl ?_;refine kB 2 ?_;intro ag ah H;have ai:=(ac).len_le;refine kg 10 ?_;exact rt

def zcI (ac:List Yr) (ae:List Old10) (aa ab:Int) (x2:Yr):M Bool :=
  M.bind (zad x2.year aa ab) fun r2 =>
  M.bind (M.opt r2 (zad x2.lo 0 x2.hi) false) fun r3 =>
  M.bind (M.opt (r2&&r3) (zad x2.hi 0 2000) false) fun r4 =>
  M.pure ((r2&&r3)&&r4)
theorem zdw {R ac ae ag ah}(ai aj ak al x2)(av:Reads R ac)(aw:Sl ac ae ai)(ax:Reads R ag)(ay:Sl ag ah aj){r}(hM:(zcI ai aj ak al x2).Ends r)(w)(H:St w w [] R):Ret Tryz.prog 168 #[.agg #[ae,ah,I ak,I al],.iface 154 (.agg #[I x2.year,I x2.lo,I x2.hi])] w fun v w'=>∃ y0,y0=r/\v=B y0/\St w w' [] R:=by
 refine ret_of_W Tryz.func168 rfl rfl rfl ?_;refine kB 2 ?_;intro az aA H;refine kg 10 ?_;refine s_val (x_ta0 (z:=.agg #[I 0,I 0]) Tryz.underlying285 (by intro m h_; cases h_) (by decide) Al285.h rfl) ?_;refine kg 3 ?_;refine W.cond false rfl (fun ao=>?_) (fun ao=>?_)
 ·exact absurd ao (by decide)
 refine kg 2 ?_;refine s_val (x_ta1 (v:=.agg #[I x2.year,I x2.lo,I x2.hi]) Tryz.underlying154 (by intro m h_; cases h_) rfl) ?_;refine kg 3 ?_;refine W.cond true rfl (fun ap=>?_) (fun ap=>?_)
 ·refine kA 2 ?_;intro aB aC H;refine ksw ?_;intro aD H;refine kC 9 @zaf ?_;intro aE r2 hM H;refine kg 7 ?_;obtain ⟨r3,aq,hM⟩:=M.e_bind hM;refine t_gcall r2 (gy_t rfl) cq (B r3) (fun _=>[I x2.lo,I 0,I x2.hi]) (fun hg=>lst3 (gd_of hg (I x2.lo)) rfl (gd_of hg (I x2.hi))) H (fun hg=>(zaf x2.lo 0 x2.hi (M.e_opt aq hg) _ (H.give (A:=[]) rfl)).mono fun v_ w_ ⟨y_,aa,ab,H_⟩=>by subst aa; exact ⟨ab,H.via H_⟩) ?_;intro aF H;refine kg 5 ?_;obtain ⟨r4,au,hM⟩:=M.e_bind hM;refine t_gcall (r2&&r3) (gy_t rfl) cq (B r4) (fun _=>[I x2.hi,I 0,I 2000]) (fun hg=>lst3 (gd_of hg (I x2.hi)) rfl rfl) H (fun hg=>(zaf x2.hi 0 2000 (M.e_opt au hg) _ (H.give (A:=[]) rfl)).mono fun v_ w_ ⟨y_,aa,ab,H_⟩=>by subst aa; exact ⟨ab,H.via H_⟩) ?_;intro aG H;refine kg 3 ?_;replace H:=H.pk [];exact rt
 exact absurd ap (by decide)

def zcj (l:List Int) (last:Int):(Int × Nat)->M ((Int × Nat) ⊕ Unit):=fun (first2,s) =>
  bif decide ((s:Int)<(l.length:Int)) then (
  M.grd (decide ((s:Int)<(l.length:Int))) <|
  M.bind (zad (l.getD s 0) first2 last) fun r2 =>
  bif !r2 then (
  M.fail)
  else (
  M.gi ((l.getD s 0)+1) <|
  M.pure (.inl ((l.getD s 0)+1,s+1))))
  else (
  M.pure (.inr ()))
def zbC (l:List Int) (first last:Int):M Bool :=
  M.bind (M.iter (zcj l last) (first,0)) fun (_:Unit) =>
  M.pure true
theorem zdK {R ab aa}(l first last)(ao:Reads R ab)(ae:Sl ab aa l){r}(hM:(zbC l first last).Ends r)(w)(H:St w w [] R):Ret Tryz.prog 192 #[aa,I first,I last] w fun v w'=>∃ y0,y0=r/\v=B y0/\St w w' [] R:=by
 refine ret_of_W Tryz.func192 rfl rfl rfl ?_;have ap:=(ae).len_le;refine kg 12 ?_;obtain ⟨ag,ac,ah⟩:=M.e_bind hM;obtain ⟨aq,ac⟩:=M.e_iter ac;refine W.loop (fun m σ W=>∃ (first2:Int) (s:Nat) (ρ:Env),σ=upds ρ [(1,I first2),(2,I last),(9,aa),(10,I (l.length:Int)),(11,I (s:Int))]/\M.iterN (zcj l last) m (first2,s)=some ag/\St w W [] R) ?_ ?_
 ·exact kY
 rintro au σ av ⟨first2,s,ρ,rfl,ai,H⟩;obtain ⟨aw,ax,ay,hM,aj⟩:=M.e_iterN ai;refine kI 5 ?_ ?_
 ·intro ak hM;obtain ⟨az,hM⟩:=M.e_gq hM;refine kC 15 @zaf ?_;intro aA r2 hM H;refine kI 2 ?_ ?_
  ·intro al hM;exact (M.e_fail hM).elim
  intro al hM;obtain ⟨aB,hM⟩:=M.e_gq hM;exact kX 10
 intro ak hM;refine W.exit ?_;obtain rfl:=M.e_inr hM aj;replace hM:=ah;refine kg 4 ?_;exact rt

def zce (ac:List Yr) (ae:List Old10) (aa ab:Int) (x2:Old10):M Bool :=
  M.bind (zad x2.src aa x2.dst) fun r2 =>
  M.bind (M.opt r2 (zad x2.dst aa ab) false) fun r3 =>
  M.bind (M.opt (r2&&r3) (zad x2.stage 1 2000) false) fun r4 =>
  M.bind (M.opt ((r2&&r3)&&r4) (zbC x2.passed x2.src x2.dst) false) fun r5 =>
  M.pure (((r2&&r3)&&r4)&&r5)
theorem zc8 {R ah ai aj ak al aa}(ao ap ab ac x2)(aB:Reads R ah)(aC:Sl ah ai ao)(aD:Reads R aj)(aE:Sl aj ak ap)(aw:Reads R al)(ax:Sl al aa x2.passed){r}(hM:(zce ao ap ab ac x2).Ends r)(w)(H:St w w [] R):Ret Tryz.prog 168 #[.agg #[ai,ak,I ab,I ac],.iface 156 (.agg #[I x2.src,I x2.dst,I x2.stage,aa])] w fun v w'=>∃ y0,y0=r/\v=B y0/\St w w' [] R:=by
 refine ret_of_W Tryz.func168 rfl rfl rfl ?_;refine kB 2 ?_;intro aF aG H;refine kg 10 ?_;refine s_val (x_ta0 (z:=.agg #[I 0,I 0]) Tryz.underlying285 (by intro m h_; cases h_) (by decide) Al285.h rfl) ?_;refine kg 3 ?_;refine W.cond false rfl (fun aq=>?_) (fun aq=>?_)
 ·exact absurd aq (by decide)
 refine kg 2 ?_;refine s_val (x_ta0 (z:=.agg #[I 0,I 0,I 0]) Tryz.underlying154 (by intro m h_; cases h_) (by decide) Al154.h rfl) ?_;refine kg 3 ?_;refine W.cond false rfl (fun au=>?_) (fun au=>?_)
 ·exact absurd au (by decide)
 refine kg 2 ?_;refine s_val (x_ta1 (v:=.agg #[I x2.src,I x2.dst,I x2.stage,aa]) Tryz.underlying156 (by intro m h_; cases h_) rfl) ?_;refine kg 3 ?_;refine W.cond true rfl (fun av=>?_) (fun av=>?_)
 ·refine kA 2 ?_;intro aH aI H;refine kS 0 ?_;intro aJ H;refine kC 9 @zaf ?_;intro aK r2 hM H;refine kg 7 ?_;obtain ⟨r3,ay,hM⟩:=M.e_bind hM;refine t_gcall r2 (gy_t rfl) cq (B r3) (fun _=>[I x2.dst,I ab,I ac]) (fun hg=>lst3 (gd_of hg (I x2.dst)) (gd_of hg (I ab)) (gd_of hg (I ac))) H (fun hg=>(zaf x2.dst ab ac (M.e_opt ay hg) _ (H.give (A:=[]) rfl)).mono fun v_ w_ ⟨y_,ae,ag,H_⟩=>by subst ae; exact ⟨ag,H.via H_⟩) ?_;intro aL H;refine kg 4 ?_;obtain ⟨r4,az,hM⟩:=M.e_bind hM;refine t_gcall (r2&&r3) (gy_t rfl) cq (B r4) (fun _=>[I x2.stage,I 1,I 2000]) (fun hg=>lst3 (gd_of hg (I x2.stage)) rfl rfl) H (fun hg=>(zaf x2.stage 1 2000 (M.e_opt az hg) _ (H.give (A:=[]) rfl)).mono fun v_ w_ ⟨y_,ae,ag,H_⟩=>by subst ae; exact ⟨ag,H.via H_⟩) ?_;intro aM H;refine kg 8 ?_;obtain ⟨r5,aA,hM⟩:=M.e_bind hM;refine t_gcall ((r2&&r3)&&r4) (gy_t rfl) cq (B r5) (fun _=>[aa,I x2.src,I x2.dst]) (fun hg=>lst3 (gd_of hg (aa)) (gd_of hg (I x2.src)) (gd_of hg (I x2.dst))) H (fun hg=>(zdK x2.passed x2.src x2.dst (aw.app _) ax (M.e_opt aA hg) _ (H.give (A:=[]) rfl)).mono fun v_ w_ ⟨y_,ae,ag,H_⟩=>by subst ae; exact ⟨ag,H.via H_⟩) ?_;intro aN H;refine kg 3 ?_;replace H:=H.pk [];exact rt
 exact absurd av (by decide)

def zbt (o:Old10) (aa:List Yr) (ab:List Old10) (ac ae:Int):M Bool :=
  M.bind (zce aa ab ac ae o) fun r2 =>
  M.pure r2
theorem zdi {R ah ag ai aj aa ak ab}(o al ao ac ae)(aq:Reads R ah)(au:Sl ah ag o.passed)(av:Reads R aj)(aw:Sl aj aa al)(ax:Reads R ak)(ay:Sl ak ab ao)(ap:Has R (cBlk ai [aa,ab,I ac,I ae] 99)){r}(hM:(zbt o al ao ac ae).Ends r)(w)(H:St w w [] R):Ret Tryz.prog 169 #[.agg #[I o.src,I o.dst,I o.stage,ag],Pq ai] w fun v w'=>∃ y0,y0=r/\v=B y0/\St w w' [] R:=by
 refine ret_of_W Tryz.func169 rfl rfl rfl ?_;refine kB 2 ?_;intro az aA H;refine kg 4 ?_;refine s_val (x_ld (v:=.agg #[aa,ab,I ac,I ae]) rfl (ldb_ag (ds:=[aa,ab,I ac,I ae]) Ag99.h Sz99.h (ap.blk H) rfl rfl)) ?_;refine kg 1 ?_;refine s_val (x_mi (v:=.agg #[I o.src,I o.dst,I o.stage,ag]) Tryz.underlying156 (by intro m h_; cases h_) rfl) ?_;refine kC 0 @zc8 ?_;intro aB r2 hM H;refine kg 2 ?_;exact rt

def zbK (aa:List Yr) (ab:List Old10) (ac ae:Int):Nat->M (Nat ⊕ Unit):=fun s =>
  bif decide ((s:Int)<(aa.length:Int)) then (
  M.grd (decide ((s:Int)<(aa.length:Int))) <|
  M.bind (zcI aa ab ac ae (aa.getD s default)) fun r5 =>
  bif !r5 then (
  M.fail)
  else (
  M.grd ((!(decide (0<(s:Int)))||(decide ((-9223372036854775808:Int)<=((s:Int)-1))&&decide (((s:Int)-1)<=(9223372036854775807:Int))))) <|
  M.grd ((!(decide (0<(s:Int)))||(decide ((0:Int)<=((s:Int)-1))&&decide (((s:Int)-1)<(aa.length:Int))))) <|
  bif ((decide (0<(s:Int)))&&(decide (((aa.getD s default).year)<=((aa.getD (Int.toNat ((s:Int)-1)) default).year)))) then (
  M.fail)
  else (
  M.pure (.inl (s+1)))))
  else (
  M.pure (.inr ()))
def zbD (ae:List Yr) (ab:List Old10) (ac aa:Int):M Int :=
  M.bind (zad ac 0 aa) fun r2 =>
  M.bind (M.opt (!(!r2)) (zad aa 0 3000) false) fun r3 =>
  M.grd ((!(!((!r2)||(!r3)))||(decide ((-9223372036854775808:Int)<=(aa-ac))&&decide ((aa-ac)<=(9223372036854775807:Int))))) <|
  bif (((!r2)||(!r3))||(decide (1000<=(aa-ac)))) then (
  M.fail)
  else (
  M.bind (M.opt (!((decide (60<(ae.length:Int)))||(decide (8<(ab.length:Int))))) (zbn ab (fun ag=>zbi ag)) false) fun r4 =>
  bif (((decide (60<(ae.length:Int)))||(decide (8<(ab.length:Int))))||(!r4)) then (
  M.fail)
  else (
  M.bind (M.iter (zbK ae ab ac aa) 0) fun (_:Unit) =>
  M.bind (zbn ab (fun ag=>zbt ag ae ab ac aa)) fun r6 =>
  bif !r6 then (
  M.fail)
  else (
  M.pure 0)))
theorem zdJ {R aH ak aI ag}(aa ac ah ab)(aK:Reads R aH)(ao:Sl aH ak aa)(ap:Reads R aI)(al:Sl aI ag ac){r}(hM:(zbD aa ac ah ab).Ends r)(w)(H:St w w [] R):Ret Tryz.prog 136 #[.agg #[ak,ag,I ah,I ab]] w fun v w'=>∃ y0,y0=r/\v=I y0/\St w w' [] R:=by
 refine ret_of_W Tryz.func136 rfl rfl rfl ?_;refine kB 2 ?_;intro ai bh H;refine kC 14 @zaf ?_;intro bi r2 hM H;refine kg 4 ?_;obtain ⟨r3,aL,hM⟩:=M.e_bind hM;refine t_gcall (!(!r2)) (gy_f rfl) cq (B r3) (fun _=>[I ab,I 0,I 3000]) (fun hg=>lst3 (gd_of hg (I ab)) rfl rfl) H (fun hg=>(zaf ab 0 3000 (M.e_opt aL hg) _ (H.give (A:=[]) rfl)).mono fun v_ w_ ⟨y_,aq,au,H_⟩=>by subst aq; exact ⟨au,H.via H_⟩) ?_;intro bj H;obtain ⟨av,hM⟩:=M.e_grd hM;replace av:=M.imp_of av;simp only [Bool.and_eq_true,decide_eq_true_eq] at av;refine kI 12 ?_ ?_
 ·intro aM hM;exact (M.e_fail hM).elim
 intro aM hM;have bm:=(ao).len_le;have bn:=(al).len_le;refine kg 16 ?_;obtain ⟨r4,aN,hM⟩:=M.e_bind hM;refine t_gcall (!((decide (60<(aa.length:Int)))||(decide (8<(ac.length:Int))))) (gy_f rfl) cq (B r4) (fun _=>[ag,.func (.func 166) #[] #[]]) (fun hg=>lst2 (gd_of hg (ag)) (gd_of hg (.func (.func 166) #[] #[]))) H (fun hg=>(zbT ac (fun ae=>zbi ae) (ap.app _) al ⟨166,[],rfl,cq,fun aj aO aP aw ae aQ ax ay az aA=>by obtain ⟨aR,rfl,aB⟩:=Old10_arg az; exact (zdh ae ay aB aA aj (St.refl ax)).mono fun aw aj ⟨aS,aC,aD,aE⟩=>by subst aC; exact ⟨aD,aE⟩⟩ (M.e_opt aN hg) _ (H.give (A:=[]) rfl)).mono fun v_ w_ ⟨y_,aq,au,H_⟩=>by subst aq; exact ⟨au,H.via H_⟩) ?_;intro bo H;refine kI 4 ?_ ?_
 ·intro aT hM;exact (M.e_fail hM).elim
 intro aT hM;have bp:=(ao).len_le;refine kg 10 ?_;obtain ⟨aU,aJ,aV⟩:=M.e_bind hM;obtain ⟨br,aJ⟩:=M.e_iter aJ;refine W.loop (fun m σ W=>∃ (s:Nat) (ρ:Env),σ=upds ρ [(1,Pq ai),(46,ak),(47,I (aa.length:Int)),(48,I (s:Int))]/\M.iterN (zbK aa ac ah ab) m s=some aU/\St w W [cBlk ai [ak,ag,I ah,I ab] 99] R) ?_ ?_
 ·exact kY
 rintro bt σ bu ⟨s,ρ,rfl,aW,H⟩;obtain ⟨bv,bw,bA,hM,aX⟩:=M.e_iterN aW;refine kI 5 ?_ ?_
 ·intro aY hM;obtain ⟨bB,hM⟩:=M.e_gq hM;refine kA 8 ?_;intro bC bD H;refine kS 1 ?_;intro bE H;refine kg 6 ?_;refine s_val (x_mi (v:=.agg #[I ((aa.getD s default).year),I ((aa.getD s default).lo),I ((aa.getD s default).hi)]) Tryz.underlying154 (by intro m h_; cases h_) rfl) ?_;refine kC 0 @zdw ?_;intro bF r5 hM H;refine kI 3 ?_ ?_
  ·intro aZ hM;exact (M.e_fail hM).elim
  intro aZ hM;refine kD 1 [0,1] [] ?_;intro bG H;obtain ⟨aF,hM⟩:=M.e_grd hM;replace aF:=M.imp_of aF;simp only [Bool.and_eq_true,decide_eq_true_eq] at aF;obtain ⟨aG,hM⟩:=M.e_grd hM;replace aG:=M.imp_of aG;simp only [Bool.and_eq_true,decide_eq_true_eq] at aG;refine kI 16 ?_ ?_
  ·intro a7 hM;exact (M.e_fail hM).elim
  intro a7 hM;exact kXp 5 [1]
 intro aY hM;refine W.exit ?_;obtain rfl:=M.e_inr hM aX;replace hM:=aV;refine kg 5 ?_;refine s_val (x_mf (fs:=[]) (cs:=[Pq ai]) rfl rfl) ?_;obtain ⟨bH,a8,hM⟩:=M.e_bind hM;refine s_call cq [ag,.func (.func 169) #[] #[Pq ai]] rfl (zbT ac (fun ae=>zbt ae aa ac ah ab) (ap.app _) al ⟨169,[Pq ai],rfl,cq,fun aj aO aP aw ae aQ ax ay az aA=>by obtain ⟨aR,rfl,aB⟩:=Old10_arg az; exact (zdi ae aa ac ah ab ay aB (Reads.app (aK.app _) _) ao (Reads.app (ap.app _) _) al (Has.app (Has.here (k:=0) rfl) _) aA aj (St.refl ax)).mono fun aw aj ⟨aS,aC,aD,aE⟩=>by subst aC; exact ⟨aD,aE⟩⟩ a8 _ (H.gt 1)) ?_;rintro _ bI ⟨r6,rfl,rfl,bc⟩;replace H:=H.bk bc;refine kI 2 ?_ ?_
 ·intro bf hM;exact (M.e_fail hM).elim
 intro bf hM;refine kg 5 ?_;exact rt

def zcx (s:List Int) (v:Int):Nat->M (Nat ⊕ (Int ⊕ Unit)):=fun s2 =>
  bif decide ((s2:Int)<(s.length:Int)) then (
  M.grd (decide ((s2:Int)<(s.length:Int))) <|
  bif v==(s.getD s2 0) then (
  M.pure (.inr (.inl (s2:Int))))
  else (
  M.pure (.inl (s2+1))))
  else (
  M.pure (.inr (.inr ())))
def zbN (s:List Int) (v:Int):M Int :=
  M.bind (M.iter (zcx s v) 0) fun x_=>match x_ with
  | (.inl s3)=>(
  M.pure s3)
  | (.inr (_:Unit))=>(
  M.pure (-1))
theorem zda {R ab aa}(s v)(ao:Reads R ab)(ah:Sl ab aa s){r}(hM:(zbN s v).Ends r)(w)(H:St w w [] R):Ret Tryz.prog 170 #[aa,I v] w fun v w'=>∃ y0,y0=r/\v=I y0/\St w w' [] R:=by
 refine ret_of_W Tryz.func170 rfl rfl rfl ?_;have ap:=(ah).len_le;refine kg 12 ?_;obtain ⟨ai,ac,ae⟩:=M.e_bind hM;obtain ⟨aq,ac⟩:=M.e_iter ac;refine W.loop (fun m σ W=>∃ (s2:Nat) (ρ:Env),σ=upds ρ [(0,aa),(1,I v),(7,I (s.length:Int)),(8,I (s2:Int))]/\M.iterN (zcx s v) m s2=some ai/\St w W [] R) ?_ ?_
 ·exact kY
 rintro au σ av ⟨s2,ρ,rfl,aj,H⟩;obtain ⟨aw,ax,ay,hM,ag⟩:=M.e_iterN aj;refine kI 5 ?_ ?_
 ·intro ak hM;obtain ⟨az,hM⟩:=M.e_gq hM;refine kI 17 ?_ ?_
  ·intro al hM;refine kg 5 ?_;obtain rfl:=M.e_inr hM ag;replace hM:=ae;exact rt
  intro al hM;exact kX 5
 intro ak hM;refine W.exit ?_;obtain rfl:=M.e_inr hM ag;replace hM:=ae;refine kg 4 ?_;exact rt

def zbu (s:List Int) (v:Int):M Bool :=
  M.bind (zbN s v) fun r2 =>
  M.pure (decide (0<=r2))
theorem zcG {R aa ab}(s v)(ac:Reads R aa)(ae:Sl aa ab s){r}(hM:(zbu s v).Ends r)(w)(H:St w w [] R):Ret Tryz.prog 137 #[ab,I v] w fun v w'=>∃ y0,y0=r/\v=B y0/\St w w' [] R:=by
 refine ret_of_W Tryz.func137 rfl rfl rfl ?_;refine kC 8 @zda ?_;intro ag r2 hM H;refine kg 3 ?_;exact rt

def zb3 (aa:Int):((List (Int × Span)) × Int)->M (((List (Int × Span)) × Int) ⊕ (List (Int × Span))):=fun (mp,year) =>
  bif decide (year<=aa) then (
  M.gi (year+1) <|
  M.pure (.inl (setM mp (year:Int) (⟨(0:Int),(2000:Int)⟩:Span),year+1)))
  else (
  M.pure (.inr mp))
def zcH (aa:List Yr):((List (Int × Span)) × Nat)->M (((List (Int × Span)) × Nat) ⊕ (List (Int × Span))):=fun (ab,s) =>
  bif decide ((s:Int)<(aa.length:Int)) then (
  M.grd (decide ((s:Int)<(aa.length:Int))) <|
  bif !(decide ((aa.getD s default)=(⟨((aa.getD s default).year:Int),(((lookM ab ((aa.getD s default).year:Int)).getD default).lo:Int),(((lookM ab ((aa.getD s default).year:Int)).getD default).hi:Int)⟩:Yr))) then (
  M.pure (.inl (setM ab ((aa.getD s default).year:Int) (⟨((aa.getD s default).lo:Int),((aa.getD s default).hi:Int)⟩:Span),s+1)))
  else (
  M.fail))
  else (
  M.pure (.inr ab))
def zcQ (aa:List Old10) (ky:Int):(Nat × Int × Int)->M ((Nat × Int × Int) ⊕ (Int × Int)):=fun (s2,s3,s4) =>
  bif decide ((s2:Int)<(aa.length:Int)) then (
  M.grd (decide ((s2:Int)<(aa.length:Int))) <|
  M.bind (zad ky ((aa.getD s2 default).src) ((aa.getD s2 default).dst)) fun r3 =>
  bif !r3 then (
  M.pure (.inl (s2+1,s3,s4)))
  else (
  M.bind (zbu ((aa.getD s2 default).passed) ky) fun r4 =>
  bif r4 then (
  M.pure (.inl (s2+1,max s3 ((aa.getD s2 default).stage),s4)))
  else (
  M.gi (((aa.getD s2 default).stage)-1) <|
  M.pure (.inl (s2+1,s3,min s4 (((aa.getD s2 default).stage)-1))))))
  else (
  M.pure (.inr (s3,s4)))
def zci (aa:List Old10) (ky:Int) (vl:Span):M Span :=
  M.bind (M.iter (zcQ aa ky) (0,(vl).lo,(vl).hi)) fun (s5,s6) =>
  M.pure (⟨(s5:Int),(s6:Int)⟩:Span)
def zcP (ac:List Yr) (ae:List Old10) (aa ab:Int):M (Int × Int × (List (Int × Span)) × Int) :=
  M.bind (zbD ac ae aa ab) fun r2 =>
  bif r2 != 0 then (
  M.fail)
  else (
  M.bind (M.iter (zb3 ab) (([]:List (Int × Span)),aa)) fun ag =>
  M.bind (M.iter (zcH ac) (ag,0)) fun ah =>
  M.bind (M.mapL (zci ae) ah) fun mq =>
  M.pure (aa,ab,mq,0))
theorem zdo {R az ab aA ac}(aa al ag ae)(bu:Reads R az)(aL:Sl az ab aa)(aM:Reads R aA)(aB:Sl aA ac al){r}(hM:(zcP aa al ag ae).Ends r)(w)(H:St w w [] R):Ret Tryz.prog 95 #[.agg #[ab,ac,I ag,I ae]] w fun v w'=>∃ y0 y1 y2 y3 aC aD,(y0,y1,y2,y3)=r/\v = .tuple #[Pq aC,I y3]/\St w w' [cBlk aC [ab,ac,I y0,I y1,.map (some aD)] 198,cMl I encSp aD y2] R:=by
 refine ret_of_W Tryz.func95 rfl rfl rfl ?_;refine kB 2 ?_;intro aj bv H;refine kC 7 @zdJ ?_;intro bw r2 hM H;refine kI 7 ?_ ?_
 ·intro aN hM;exact (M.e_fail hM).elim
 intro aN hM;refine kg 4 ?_;refine t_mkMl (κ:=Int) (ν:=Span) I encSp H ?_;intro ah bA H;refine kB 1 ?_;intro ak bB H;refine kg 10 ?_;obtain ⟨aO,aE,aP⟩:=M.e_bind hM;obtain ⟨aF,aE⟩:=M.e_iter aE;refine W.loop (fun m σ W=>∃ (mp:List (Int × Span)) (year:Int) (ρ:Env),σ=upds ρ [(1,Pq aj),(5,Pq ak),(6,I year)]/\M.iterN (zb3 ae) m (mp,year)=some aO/\St w W [cBlk ak [ab,ac,I ag,I ae,.map (some ah)] 198,cMl I encSp ah mp,cBlk aj [ab,ac,I ag,I ae] 99] R) ?_ ?_
 ·exact kY
 rintro bC σ bD ⟨mp,year,ρ,rfl,aQ,H⟩;obtain ⟨bE,bF,bG,hM,aR⟩:=M.e_iterN aQ;refine kI 8 ?_ ?_
 ·intro aS hM;refine kG 10 ?_;refine t_putMl (i:=1) (kenc:=I) (venc:=encSp) (m:=mp) (k:=(year:Int)) (v:=(⟨(0:Int),(2000:Int)⟩:Span)) (L':=[cBlk ak [ab,ac,I ag,I ae,.map (some ah)] 198,cMl I encSp ah (setM mp (year:Int) (⟨(0:Int),(2000:Int)⟩:Span)),cBlk aj [ab,ac,I ag,I ae] 99]) keyIntSp Tryz.underlying196 H rfl rfl rfl rfl rfl ?_;intro bH H;obtain ⟨bI,hM⟩:=M.e_gq hM;exact kX 6
 intro aS hM;refine W.exit ?_;obtain rfl:=M.e_inr hM aR;replace hM:=aP;have bJ:=(aL).len_le;refine kg 9 ?_;obtain ⟨aT,aG,aU⟩:=M.e_bind hM;obtain ⟨aF,aG⟩:=M.e_iter aG;refine W.loop (fun m σ W=>∃ (ai:List (Int × Span)) (s:Nat) (ρ:Env),σ=upds ρ [(1,Pq aj),(5,Pq ak),(38,ab),(39,I (aa.length:Int)),(40,I (s:Int))]/\M.iterN (zcH aa) m (ai,s)=some aT/\St w W [cBlk ak [ab,ac,I ag,I ae,.map (some ah)] 198,cMl I encSp ah ai,cBlk aj [ab,ac,I ag,I ae] 99] R) ?_ ?_
 ·exact kY
 rintro bK σ bL ⟨ai,s,ρ,rfl,aV,H⟩;obtain ⟨bM,bN,bO,hM,aW⟩:=M.e_iterN aV;refine kI 5 ?_ ?_
 ·intro aX hM;obtain ⟨bP,hM⟩:=M.e_gq hM;refine kA 7 ?_;intro aY bQ H;refine ksw ?_;intro bR H;refine kD 2 [0,1,2,3] [10,11] ?_;intro bS H;refine kg 8 ?_;refine d_q rfl (fun w' H=>q_look (kenc:=I) (venc:=encSp) (f:=lookM ai) (k:=((aa.getD s default).year:Int)) (v:=.agg #[I (((lookM ai ((aa.getD s default).year:Int)).getD default).lo),I (((lookM ai ((aa.getD s default).year:Int)).getD default).hi)]) keyIntSp Tryz.underlying196 Al32.h rfl rfl (mlMap (H.get (k:=2) rfl)) false (by rw [if_neg (by decide),span_val])) ?_;refine kA 2 ?_;intro aZ bT H;refine kN ?_;refine kS 1 ?_;intro bU H;refine kN ?_;refine kg 5 ?_;refine s_val (x_neS (eqT154 (aa.getD s default) (⟨((aa.getD s default).year:Int),(((lookM ai ((aa.getD s default).year:Int)).getD default).lo:Int),(((lookM ai ((aa.getD s default).year:Int)).getD default).hi:Int)⟩:Yr) _) gdT154 rfl rfl) ?_;refine kI 1 ?_ ?_
  ·intro a7 hM;refine kD 0 [0,1,2,4] [8] ?_;intro bV H;refine kG 9 ?_;refine t_putMl (i:=3) (kenc:=I) (venc:=encSp) (m:=ai) (k:=((aa.getD s default).year:Int)) (v:=(⟨((aa.getD s default).lo:Int),((aa.getD s default).hi:Int)⟩:Span)) (L':=[cBlk aZ [I ((aa.getD s default).year),I (((lookM ai ((aa.getD s default).year:Int)).getD default).lo),I (((lookM ai ((aa.getD s default).year:Int)).getD default).hi)] 154,cBlk aY [I ((aa.getD s default).year),I ((aa.getD s default).lo),I ((aa.getD s default).hi)] 154,cBlk ak [ab,ac,I ag,I ae,.map (some ah)] 198,cMl I encSp ah (setM ai ((aa.getD s default).year:Int) (⟨((aa.getD s default).lo:Int),((aa.getD s default).hi:Int)⟩:Span)),cBlk aj [ab,ac,I ag,I ae] 99]) keyIntSp Tryz.underlying196 H rfl rfl rfl rfl rfl ?_;intro bW H;refine kN ?_;refine d_nil ?_;replace H:=H.pk [2,3,4];exact kX 4
  intro a7 hM;exact (M.e_fail hM).elim
 intro aX hM;refine W.exit ?_;obtain rfl:=M.e_inr hM aW;replace hM:=aU;refine kg 7 ?_;refine t_range (i:=1) (kenc:=I) (venc:=encSp) Tryz.underlying196 H rfl rfl ?_;intro aq bX H;replace H:=H.nf;refine kg 2 ?_;obtain ⟨mq,aH,hM⟩:=M.e_bind hM;refine W.loop (fun c_ σ W=>∃ (ao:List (Int × Span)) (ap:List Bool) (aI:Option Nat) (ρ:Env),σ=upds ρ [(1,Pq aj),(5,Pq ak),(70,Pq aq)]/\c_=ap.count true/\ItR ai mq ao ap/\St w W [cBlk ak [ab,ac,I ag,I ae,.map (some ah)] 198,cIt I encSp ah aq ao ap aI,cBlk aj [ab,ac,I ag,I ae] 99] R) ?_ ?_
 ·exact ⟨_,_,_,_,_,jQ,rfl,ItR.init aH,H⟩
 rintro c_ σ a8 ⟨ao,ap,aI,ρ,rfl,rfl,av,H⟩;refine kg 2 ?_;refine t_next (i:=1) H rfl rfl (fun bc=>?_) (fun j_ ky vl bY aw au H=>?_)
 ·refine kg 3 ?_;refine W.cond false rfl (fun h_=>absurd h_ (by decide)) (fun _=>?_);refine W.exit ?_;obtain rfl:=av.fin bc;replace H:St w a8 [cBlk ak [ab,ac,I ag,I ae,.map (some ah)] 198,cMl I encSp ah ao,cBlk aj [ab,ac,I ag,I ae] 99] R:=H.itEnd (i:=1) rfl rfl;exact kR 6 [0,1]
 refine kg 3 ?_;refine W.cond true rfl (fun _=>?_) (fun h_=>absurd h_ (by decide));refine W.skip ?_;obtain ⟨bZ,hM,bf⟩:=av.at_ aH aw au;simp only [zci] at hM;replace H:=H.nf;refine kg 3 ?_;refine s_val (x_entry (v:=vl) (H.get (k:=1) rfl) au rfl) ?_;refine kA 2 ?_;intro ax b5 H;refine kS 1 ?_;intro b6 H;have b7:=(aB).len_le;refine kg 10 ?_;obtain ⟨bh,aJ,bi⟩:=M.e_bind hM;obtain ⟨aF,aJ⟩:=M.e_iter aJ;refine W.loop (fun m σ W=>∃ (s2:Nat) (s3:Int) (s4:Int) (ρ:Env),σ=upds ρ [(1,Pq aj),(5,Pq ak),(10,I ky),(11,Pq ax),(70,Pq aq),(77,ac),(78,I (al.length:Int)),(79,I (s2:Int))]/\M.iterN (zcQ al ky) m (s2,s3,s4)=some bh/\St w W [cBlk ax [I s3,I s4] 32,cBlk ak [ab,ac,I ag,I ae,.map (some ah)] 198,cIt I encSp ah aq ao (ap.set j_ false) (some j_),cBlk aj [ab,ac,I ag,I ae] 99] R) ?_ ?_
 ·exact kY
 rintro b8 σ b9 ⟨s2,s3,s4,ρ,rfl,bj,H⟩;obtain ⟨cb,cc,cd,hM,bm⟩:=M.e_iterN bj;refine kI 5 ?_ ?_
 ·intro bn hM;obtain ⟨ce,hM⟩:=M.e_gq hM;refine kg 6 ?_;obtain ⟨aK,bo,ay⟩:=Old10_atA aB (i:=(s2:Int)) (by omega) (by omega);replace ay:Sl _ aK (al.getD s2 default).passed:=ay;have cf:=ay.len_le;refine s_val (x_ld (v:=.agg #[I ((al.getD s2 default).src),I ((al.getD s2 default).dst),I ((al.getD s2 default).stage),aK]) rfl (ld_ag Ag156.h Sz156.h (At.mono bo (aM.at H)))) ?_;refine kal ?_;intro cg ch H;refine kS 0 ?_;intro cj H;refine kC 9 @zaf ?_;intro ck r3 hM H;refine kI 3 ?_ ?_
  ·intro bp hM;refine W.exit ?_;exact kXp 4 [1,2,3,4]
  intro bp hM;refine kC 5 @zcG ?_;intro ct r4 hM H;refine kI 2 ?_ ?_
  ·intro br hM;refine kS 7 ?_;intro cu H;exact kXp 5 [1,2,3,4]
  intro br hM;obtain ⟨cv,hM⟩:=M.e_gq hM;refine kS 8 ?_;intro cw H;exact kXp 5 [1,2,3,4]
 intro bn hM;refine W.exit ?_;obtain rfl:=M.e_inr hM bm;replace hM:=bi;refine kD 0 [0,1,3] [6] ?_;intro cA H;refine kG 7 ?_;refine t_putIt (i:=2) (j:=j_) (kenc:=I) (venc:=encSp) (m:=ao) (k:=ky) (v:=(⟨(s3:Int),(s4:Int)⟩:Span)) (L':=[cBlk ax [I s3,I s4] 32,cBlk ak [ab,ac,I ag,I ae,.map (some ah)] 198,cIt I encSp ah aq (ao.set j_ (ky,(⟨(s3:Int),(s4:Int)⟩:Span))) (ap.set j_ false) (some j_),cBlk aj [ab,ac,I ag,I ae] 99]) keyIntSp Tryz.underlying196 H rfl rfl au rfl rfl rfl ?_;intro cB H;refine kN ?_;refine d_nil ?_;have bt:=M.e_pure hM;subst bt;exact ⟨_,ItR.less aw,_,_,_,_,jQ,rfl,av.step aw au bf,(H.pk [1,2,3])⟩

def zby (ab:List Yr) (ac:List Old10) (ae ag:Int) (ah:List (Int × Span)) (aa to_:Int):M (Int × Int) :=
  M.pure (aa,to_)
theorem zcy {R aa ab ac ae ag ah}(ai aj ak al ao ap to_)(az:Reads R ab)(aA:Sl ab ac ai)(aB:Reads R ae)(aC:Sl ae ag aj)(aD:Has R (cMl I encSp ah ao))(aE:Has R (cBlk aa [ac,ag,I ak,I al,.map (some ah)] 198)){r}(hM:(zby ai aj ak al ao ap to_).Ends r)(w)(H:St w w [] R):Ret Tryz.prog 62 #[Pq aa,I ap,I to_] w fun v w'=>∃ y0 y1 aq au av,(y0,y1)=r/\v = .func (.func 98) #[] #[Pq aq,Pq au,Pq av]/\St w w' [cBlk aq [I y0] 3,cBlk au [I y1] 3,cBlk av [Pq aa] 142] R:=by
 refine ret_of_W Tryz.func62 rfl rfl rfl ?_;refine kB 2 ?_;intro aw aF H;refine kbx ?_;intro ax aG H;refine kbx ?_;intro ay aH H;refine kg 4 ?_;refine s_val (x_mf (fs:=[]) (cs:=[Pq ax,Pq ay,Pq aw]) rfl rfl) ?_;exact kR 2 [1,0,2]

def zcs {T_:Type} (aa:T_->(Int × Span)->M (Bool × T_)) (ab:Int) (ac:List (Int × Span)):(Int × T_)->M ((Int × T_) ⊕ T_):=fun (year,t2) =>
  bif decide (year<=ab) then (
  M.bind (aa t2 (year,((lookM ac (year:Int)).getD default))) fun (go,t) =>
  bif !go then (
  M.fail)
  else (
  M.gi (year+1) <|
  M.pure (.inl (year+1,t))))
  else (
  M.pure (.inr t2))
def zbj {T_:Type} (aa:T_->(Int × Span)->M (Bool × T_)) (t_:T_) (ab ac:Int) (ag:List Yr) (ah:List Old10) (ai aj:Int) (ae:List (Int × Span)):M T_ :=
  M.bind (M.iter (zcs aa ac ae) (ab,t_)) fun t3 =>
  M.pure t3
theorem zcz {R:List Chunk} {T_:Type} {Y_:T_->List Chunk->Prop} {ab:Value} {ac:List Chunk} {al:Nat} {ae:Nat} {ag:Nat} {ao:Nat} {ap:Cells} {aq:Value} {au:Cells} {av:Value} {aw:Nat} (ah:T_->(Int × Span)->M (Bool × T_)) (t_:T_) (ai:Int) (aj:Int) (ax:List Yr) (ay:List Old10) (az:Int) (aA:Int) (aa:List (Int × Span)) (aC:YieldC Tryz.prog R arISpan Y_ ab ah) (aD:Y_ t_ ac) (aQ:Has R (cBlk al [I ai] 3)) (aR:Has R (cBlk ae [I aj] 3)) (aS:Reads R ap) (aT:Sl ap aq ax) (aU:Reads R au) (aV:Sl au av ay) (aE:Has R (cMl I encSp aw aa)) (aW:Has R (cBlk ao [aq,av,I az,I aA,.map (some aw)] 198)) (aX:Has R (cBlk ag [Pq ao] 142)) {r:T_} (hM:(zbj ah t_ ai aj ax ay az aA aa).Ends r) (w:World) (H:St w w [cAll ac] R):Ret Tryz.prog 98 #[ab,Pq al,Pq ae,Pq ag] w fun v w'=>∃ (y0:T_) (Ls0:List Chunk),y0=r/\v = .tuple #[]/\St w w' [cAll Ls0] R/\Y_ y0 Ls0:=by
 refine ret_of_W Tryz.func98 rfl rfl rfl ?_;refine kg 6 ?_;obtain ⟨aF,ak,aG⟩:=M.e_bind hM;obtain ⟨aY,ak⟩:=M.e_iter ak;refine W.loop (fun m σ W=>∃ (year:Int) (t2:T_) (Ls_t2:List Chunk) (ρ:Env),σ=upds ρ [(0,ab),(2,Pq ae),(3,Pq ag),(5,I year)]/\M.iterN (zcs ah aj aa) m (year,t2)=some aF/\St w W [cAll Ls_t2] R/\Y_ t2 Ls_t2) ?_ ?_
 ·exact ⟨_,ai,t_,ac,_,jQ,ak,H,aD⟩
 rintro aZ σ a7 ⟨year,t2,Ls_t2,ρ,rfl,aH,H,hY_t2⟩;obtain ⟨aI,aJ,a8,hM,aB⟩:=M.e_iterN aH;refine kI 7 ?_ ?_
 ·intro aK hM;refine kg 12 ?_;refine s_val (q_look (kenc:=I) (venc:=encSp) (f:=lookM aa) (k:=(year:Int)) (v:=.agg #[I (((lookM aa (year:Int)).getD default).lo),I (((lookM aa (year:Int)).getD default).hi)]) keyIntSp Tryz.underlying196 Al32.h rfl rfl (mlMap (aE.at H)) false (by rw [if_neg (by decide),span_val])) ?_;obtain ⟨⟨go,t⟩,aL,hM⟩:=M.e_bind hM;refine t_yield (L:=[]) H aC hY_t2 rfl [I year,.agg #[I (((lookM aa (year:Int)).getD default).lo),I (((lookM aa (year:Int)).getD default).hi)]] rfl (year,((lookM aa (year:Int)).getD default)) Reads.none rfl aL ?_;intro aM bc aN H;replace H:=H.nf;refine kI 2 ?_ ?_
  ·intro aO hM;exact (M.e_fail hM).elim
  intro aO hM;obtain ⟨bf,hM⟩:=M.e_gq hM;refine kg 6 ?_;exact ⟨aI,aJ,year+1,t,aM,_,jQ,M.e_inl hM aB,H,aN⟩
 intro aK hM;refine W.exit ?_;obtain rfl:=M.e_inr hM aB;replace hM:=aG;have aP:=M.e_pure hM;exact ⟨_,resE_tmp0 rfl,⟨t2,Ls_t2,aP,rfl,H,hY_t2⟩⟩
def zar  : Unit->(Int × Span)->M (Unit ⊕ Unit):=fun (_:Unit) (x,x2) =>
  bif decide (x2.hi<x2.lo) then (
  M.fail)
  else (
  M.pure (.inl ()))
def zbe (ac:List Yr) (ae:List Old10) (aa ab:Int) (ag:List (Int × Span)):M (Int × Bool) :=
  M.bind (zby ac ae aa ab ag aa ab) fun (ah,ai) =>
  M.bind (zbj (M.yl zar) (.inl ()) ah ai ac ae aa ab ag) fun x_=>match x_ with
  | .inl _=>(
  M.pure (0,false))
  | .inr _=>M.fail
theorem zdz {R aa aE aF aG aH aI}(ap aq au av aw)(ax:Reads R aE)(aJ:Sl aE aF ap)(ay:Reads R aG)(aK:Sl aG aH aq)(az:Has R (cMl I encSp aI aw))(aA:Has R (cBlk aa [aF,aH,I au,I av,.map (some aI)] 198)){r}(hM:(zbe ap aq au av aw).Ends r)(w)(H:St w w [] R):Ret Tryz.prog 97 #[Pq aa] w fun v w'=>∃ y0 y1,(y0,y1)=r/\v = .tuple #[I y0,B y1]/\St w w' [] R:=by
 refine ret_of_WD Tryz.func97 rfl rfl rfl ?_;replace H:St w w [cMk ([])] R:=H.mk0;have aV:=aJ.len_le;have aW:=aK.len_le;unfold zbe at hM;refine WD.seq<|WD.of ?_;refine kg 4 ?_;refine WD.scope<|WD.seq<|WD.of ?_;refine kA 1 ?_;intro aj aX H;refine kal ?_;intro ak aY H;refine ksw ?_;intro aZ H;refine ksw ?_;intro a7 H;refine s_nil<|WD.seq<|WD.of ?_;refine W.label<|WD.seq<|WD.seq<|WD.of ?_;refine kD 0 [0,1,2] [11] ?_;intro a8 H;refine kC 12 @zcy ?_;intro bc ab ac ae ag ah hM H;refine kN ?_;refine d_nil<|WD.block ?_;obtain ⟨bf,aN,hM⟩:=M.e_bind hM;refine WD.range (L:=[cBlk ae [I ab] 3,cBlk ag [I ac] 3,cBlk ah [Pq aa] 142,cBlk ak [B false] 4,cBlk aj [I 0] 3]) [Pq ae,Pq ag,Pq ah] (H.pk [5,0,1,2,3,4]) rfl cq ?_;intro al aB aC aO aD H
 have hYC:YieldC Tryz.prog ([cMk (aB :: ([])),cBlk ae [I ab] 3,cBlk ag [I ac] 3,cBlk ah [Pq aa] 142,cBlk ak [B false] 4,cBlk aj [I 0] 3]++R) arISpan (yJ al aC (fun _ ao=>ao=[]) (fun (_:Unit) _=>False) (fun _=>.ret)) (.func (.yield al) #[] #[]) (M.yl zar):=by
  refine YieldC.mk2 aD (fun _ ao=>ao=[]) (fun (_:Unit) _=>False) (fun _=>.ret) zar (by rintro _ _ h_; obtain ⟨rfl⟩:=h_; rfl) (fun _ _ h_=>h_.elim) rfl (arISpan_len rfl) ?_;intro C_ bh x_ aP;obtain ⟨x,x2⟩:=x_;obtain rfl:=aP;intro w R ai ao s_ r aQ hM H
  skip
  obtain ⟨rfl⟩:=aQ;replace H:=H.nf;refine kA 5 ?_;intro aR bi H;refine ksw ?_;intro bj H;refine s_nil ?_;refine ⟨rfl,[cBlk aR [I x2.lo,I x2.hi] 32],H.pick [0,1,2,3,4,5,6] (by decide) rfl,?_⟩;clear H ai;intro w R ai H;replace ax:=ax.sub ai;replace ay:=ay.sub ai;replace az:=az.sub ai;replace aA:=aA.sub ai;replace hM:(zar () (x,x2)).Ends r:=hM;simp only [zar] at hM;replace H:=H.nf;refine kI 9 ?_ ?_
  ·intro aS hM;exact (M.e_fail hM).elim
  intro aS hM;refine W.skip ?_;exact ⟨(),[],(M.e_pure hM).symm,rfl,H.pick [1,2,3,4,5,6] (by decide) rfl⟩
 replace H:St w aO (cAll (cObj al (.loop aC) :: []) :: [cMk (aB :: ([])),cBlk ae [I ab] 3,cBlk ag [I ac] 3,cBlk ah [Pq aa] 142,cBlk ak [B false] 4,cBlk aj [I 0] 3]) R:=St.bundleB (A:=cObj al (.loop aC) :: []) (T:=[cMk (aB :: ([])),cBlk ae [I ab] 3,cBlk ag [I ac] 3,cBlk ah [Pq aa] 142,cBlk ak [B false] 4,cBlk aj [I 0] 3]) rfl (H.pk [0,1,2,3,4,5,6]);refine (zcz (M.yl zar) (.inl ()) ab ac ap aq au av aw hYC ⟨_,rfl,rfl⟩ (Has.here (k:=1) rfl) (Has.here (k:=2) rfl) (ax.app _) aJ (ay.app _) aK (az.app _) (aA.app _) (Has.here (k:=3) rfl) aN _ (H.gt 6)).mono ?_;rintro vq bm ⟨aT,bn,rfl,hvq,aL,aM⟩;replace H:=H.back aL rfl;clear aL hYC;rcases aT with _ | _
 ·obtain ⟨_,rfl,rfl⟩:=aM;refine ⟨_,[cBlk ae [I ab] 3,cBlk ag [I ac] 3,cBlk ah [Pq aa] 142,cBlk ak [B false] 4,cBlk aj [I 0] 3],H.unbundle.pick [0,1,2,3,4,5,6] (by decide) rfl,aD.nb,?_⟩;intro bo H;rw [aD.pd];replace H:=H.nf
  try simp only []
  replace H:=H.pk [0,4,5];refine WD.seq<|WD.of ?_;refine kD 0 [0,1,2] [] ?_;intro bp H;refine kg 5 ?_;replace H:=H.pk [0];refine WD.of ?_;refine W.ret ?_;refine bodyD_r (H.pk [0]) ?_;intro br H;replace H:=H.nf
  have aU:=M.e_pure hM;exact ⟨_,resE_tmp2 rfl,⟨0,false,aU,rfl,H⟩⟩
 obtain ⟨_,_,h_⟩:=aM; exact h_.elim

end Go.Proofs.YtlfkkkbhejeplaaGreat
end
section
set_option maxRecDepth 100000
set_option maxHeartbeats 16000000
namespace Go.Proofs.YtlfkkkbhejeplaaGreat
open Go Go.Nm
attribute [local irreducible] gd execOp SL SLD SLT WR
def zcu (ab:List Yr) (ac:List Old10) (aa ae aj to_ n first last:Int):M (Int × Int × (List (Int × Span)) × Int) :=
  M.bind (zcP ab ac aa ae) fun (ag,ah,ai,r1) =>
  bif r1 != 0 then (
  M.fail)
  else (
  M.bind (zad aj aa to_) fun r2 =>
  M.bind (M.opt (!(!r2)) (zad to_ aa ae) false) fun r3 =>
  bif ((!r2)||(!r3)) then (
  M.fail)
  else (
  M.bind (zad n first last) fun r4 =>
  bif !r4 then (
  M.fail)
  else (
  M.bind (zbe ab ac ag ah ai) fun (r0,ak) =>
  bif ak then (
  M.fail)
  else (
  M.pure (ag,ah,ai,0)))))
theorem zc0 {R ag ac ah ae}(ai aj aa ab ak to_ n first last)(az:Reads R ag)(aA:Sl ag ac ai)(aB:Reads R ah)(aC:Sl ah ae aj){r}(hM:(zcu ai aj aa ab ak to_ n first last).Ends r)(w)(H:St w w [] R):Ret Tryz.prog 60 #[.agg #[ac,ae,I aa,I ab],I ak,I to_,I n,I first,I last] w fun v w'=>∃ y0 y1 y2 y3 al ao,(y0,y1,y2,y3)=r/\v = .tuple #[Pq al,I y3]/\St w w' [cBlk al [ac,ae,I y0,I y1,.map (some ao)] 198,cMl I encSp ao y2] R:=by
 refine ret_of_W Tryz.func60 rfl rfl rfl ?_;refine kB 2 ?_;intro aD aE H;refine kC 6 @zdo ?_;intro aF aG aH aI r1 aJ aK hM H;refine kI 14 ?_ ?_
 ·intro ap hM;exact (M.e_fail hM).elim
 intro ap hM;refine kC 6 @zaf ?_;intro aL r2 hM H;refine kg 7 ?_;obtain ⟨r3,aq,hM⟩:=M.e_bind hM;refine t_gcall (!(!r2)) (gy_f rfl) cq (B r3) (fun _=>[I to_,I aa,I ab]) (fun hg=>lst3 (gd_of hg (I to_)) (gd_of hg (I aa)) (gd_of hg (I ab))) H (fun hg=>(zaf to_ aa ab (M.e_opt aq hg) _ (H.give (A:=[]) rfl)).mono fun v_ w_ ⟨y_,au,av,H_⟩=>by subst au; exact ⟨av,H.via H_⟩) ?_;intro aM H;refine kI 4 ?_ ?_
 ·intro aw hM;exact (M.e_fail hM).elim
 intro aw hM;refine kC 5 @zaf ?_;intro aN r4 hM H;refine kI 3 ?_ ?_
 ·intro ax hM;exact (M.e_fail hM).elim
 intro ax hM;refine kC 5 @zdz ?_;intro aO r0 aP hM H;refine kI 10 ?_ ?_
 ·intro ay hM;exact (M.e_fail hM).elim
 intro ay hM;exact kR 7 [0,1]

def zcB  : M Unit :=
  M.pure ()
theorem zdb {R r}(hM:(zcB).Ends r)(w)(H:St w w [] R):Ret Tryz.prog 63 #[] w fun v w'=>()=r/\v = .agg #[.func (.func 99) #[] #[]]/\St w w' [] R:=by
 refine ret_of_W Tryz.func63 rfl rfl rfl ?_;refine kA 2 ?_;intro aa ab H;refine kS 4 ?_;intro ac H;exact kR 1 []

def zb4 (s:Span):M Int :=
  M.pure s.lo
theorem zdf {R}(s){r}(hM:(zb4 s).Ends r)(w)(H:St w w [] R):Ret Tryz.prog 99 #[.agg #[I s.lo,I s.hi]] w fun v w'=>∃ y0,y0=r/\v=I y0/\St w w' [] R:=by
 refine ret_of_W Tryz.func99 rfl rfl rfl ?_;refine kB 2 ?_;intro aa ab H;refine kg 8 ?_;exact rt

def zaV (x_stage stage:Int):M Bool :=
  M.pure (decide (x_stage<=stage))
theorem zbA {R}(x_stage stage){r}(hM:(zaV x_stage stage).Ends r)(w)(H:St w w [] R):Ret Tryz.prog 61 #[.agg #[I x_stage],I stage] w fun v w'=>∃ y0,y0=r/\v=B y0/\St w w' [] R:=by
 refine ret_of_W Tryz.func61 rfl rfl rfl ?_;refine kB 2 ?_;intro aa ab H;refine kg 10 ?_;exact rt

def zbs  : M Unit :=
  M.pure ()
theorem zbZ {R r}(hM:(zbs).Ends r)(w)(H:St w w [] R):Ret Tryz.prog 64 #[] w fun v w'=>()=r/\v = .agg #[.func (.func 100) #[] #[]]/\St w w' [] R:=by
 refine ret_of_W Tryz.func64 rfl rfl rfl ?_;refine kA 2 ?_;intro aa ab H;refine kS 4 ?_;intro ac H;exact kR 1 []

def zbb (s:Span):M Int :=
  M.pure s.hi
theorem zbV {R}(s){r}(hM:(zbb s).Ends r)(w)(H:St w w [] R):Ret Tryz.prog 100 #[.agg #[I s.lo,I s.hi]] w fun v w'=>∃ y0,y0=r/\v=I y0/\St w w' [] R:=by
 refine ret_of_W Tryz.func100 rfl rfl rfl ?_;refine kB 2 ?_;intro aa ab H;refine kg 8 ?_;exact rt

def zan (stage:Int):(Int × Int)->(Int × Span)->M ((Int × Int) ⊕ Unit):=fun (s2,s3) (x,x2) =>
  M.bind (zcB) fun (_:Unit) =>
  M.bind (zb4 x2) fun r2 =>
  M.bind (zaV stage r2) fun r3 =>
  bif r3 then (
  M.gi (s2+1) <|
  M.bind (zbs) fun (_:Unit) =>
  M.bind (zbb x2) fun r4 =>
  M.bind (zaV stage r4) fun r5 =>
  bif r5 then (
  M.gi (s3+1) <|
  M.pure (.inl (s2+1,s3+1)))
  else (
  M.pure (.inl (s2+1,s3))))
  else (
  M.bind (zbs) fun (_:Unit) =>
  M.bind (zbb x2) fun r4 =>
  M.bind (zaV stage r4) fun r5 =>
  bif r5 then (
  M.gi (s3+1) <|
  M.pure (.inl (s2,s3+1)))
  else (
  M.pure (.inl (s2,s3))))
def zbg (aa:List Yr) (ab:List Old10) (ai aj ac to_ stage:Int):M (Int × Int × Int) :=
  M.bind (zcu aa ab ai aj ac to_ stage 0 2000) fun (ae,ag,ah,r1) =>
  bif r1 != 0 then (
  M.fail)
  else (
  M.bind (zby aa ab ae ag ah ac to_) fun (ak,al) =>
  M.bind (zbj (M.yl (zan stage)) (.inl (0,0)) ak al aa ab ae ag ah) fun x_=>match x_ with
  | .inl (s2,s3)=>(
  M.pure (s2,s3,0))
  | .inr _=>M.fail)
theorem zdl {R aL ab aM ac}(aE aF ai aj aN to_ stage)(aG:Reads R aL)(aO:Sl aL ab aE)(aH:Reads R aM)(aP:Sl aM ac aF){r}(hM:(zbg aE aF ai aj aN to_ stage).Ends r)(w)(H:St w w [] R):Ret Tryz.prog 30 #[.agg #[ab,ac,I ai,I aj],I aN,I to_,I stage] w fun v w'=>∃ y0 y1 y2,(y0,y1,y2)=r/\v = .tuple #[.agg #[I y0,I y1],I y2]/\St w w' [] R:=by
 refine ret_of_WD Tryz.func30 rfl rfl rfl ?_;replace H:St w w [cMk ([])] R:=H.mk0;have bn:=aO.len_le;have bo:=aP.len_le;unfold zbg at hM;refine WD.seq<|WD.of ?_;refine kB 1 ?_;intro ax bp H;refine kal ?_;intro ay br H;refine kg 2 ?_;refine WD.seq<|WD.of ?_;refine kC 5 @zc0 ?_;intro bt ak al ao r1 ae ag hM H;refine kg 6 ?_;refine WD.seq<|WD.seq<|WD.of ?_;refine kg 4 ?_
 refine WD.cond (r1 != 0) rfl (fun az=>?_) (fun az=>?_)
 ·replace hM:=M.e_t hM az;exact (M.e_fail hM).elim
 replace hM:=M.e_f hM az;replace az:=dI az;refine WD.of<|W.skip<|WD.seq<|WD.of ?_;refine kG 3 ?_;refine s_val (x_mf (fs:=[.agg #[I stage]]) (cs:=[]) rfl rfl) ?_;refine kal ?_;intro aA bu H;refine ksw ?_;intro bv H;refine s_nil<|WD.seq<|WD.of ?_;refine kA 1 ?_;intro ah bw H;refine s_nil<|WD.seq<|WD.seq<|WD.of ?_;refine kC 4 @zcy ?_;intro bA ap aq au av aw hM H;refine s_nil<|WD.block ?_;obtain ⟨bB,aR,hM⟩:=M.e_bind hM;refine WD.range (L:=[cBlk ah [I 0,I 0] 32,cBlk au [I ap] 3,cBlk av [I aq] 3,cBlk aw [Pq ae] 142,cBlk aA [.func (.func 61) #[.agg #[I stage]] #[]] 124,cBlk ae [ab,ac,I ak,I al,.map (some ag)] 198,cMl I encSp ag ao,cBlk ay [I 0,I 0] 32,cBlk ax [ab,ac,I ai,I aj] 99]) [Pq au,Pq av,Pq aw] (H.pk [9,3,0,1,2,4,5,6,7,8]) rfl cq ?_;intro aB aI aJ aS aK H
 have hYC:YieldC Tryz.prog ([cMk (aI :: ([])),cBlk au [I ap] 3,cBlk av [I aq] 3,cBlk aw [Pq ae] 142,cBlk aA [.func (.func 61) #[.agg #[I stage]] #[]] 124,cBlk ae [ab,ac,I ak,I al,.map (some ag)] 198,cMl I encSp ag ao,cBlk ay [I 0,I 0] 32,cBlk ax [ab,ac,I ai,I aj] 99]++R) arISpan (yJ aB aJ (fun (s2,s3) aC=>aC=[cBlk ah [I s2,I s3] 32]) (fun (_:Unit) _=>False) (fun _=>.ret)) (.func (.yield aB) #[] #[]) (M.yl (zan stage)):=by
  refine YieldC.mk2 aK (fun (s2,s3) aC=>aC=[cBlk ah [I s2,I s3] 32]) (fun (_:Unit) _=>False) (fun _=>.ret) (zan stage) (by rintro ⟨s2,s3⟩ _ h_; obtain ⟨rfl⟩:=h_; rfl) (fun _ _ h_=>h_.elim) rfl (arISpan_len rfl) ?_;intro C_ bC x_ aT;obtain ⟨x,x2⟩:=x_;obtain rfl:=aT;intro w R aD aC s_ r aU hM H;obtain ⟨s2,s3⟩:=s_;obtain ⟨rfl⟩:=aU;replace H:=H.nf;refine kA 1 ?_;intro aV bD H;refine ksw ?_;intro bE H;refine s_nil ?_;refine ⟨rfl,[cBlk aV [I x2.lo,I x2.hi] 32],H.pick [0,1,2,3,4,5,6,7,8,9,10] (by decide) rfl,?_⟩;clear H aD;intro w R aD H;replace aG:=aG.sub aD;replace aH:=aH.sub aD;replace hM:(zan stage (s2,s3) (x,x2)).Ends r:=hM;simp only [zan] at hM;replace H:=H.nf;refine kDo 3 [0,1,2,3,4,5,6,7,8,9,10] [(0,true),(3,true),(1,false),(2,true),(4,false),(5,false)] ?_;intro bF H;refine kC 3 @zdb ?_;intro bG hM H;refine kN ?_;refine d_q rfl (fun w' H=>x_fd (cs:=[.func (.func 99) #[] #[]]) (v:=.func (.func 99) #[] #[]) Fd151_0.h Sc85.h rfl rfl)<|d_l rfl ?_;obtain ⟨bH,aW,hM⟩:=M.e_bind hM;refine s_callv (f:=99) rfl cq [.agg #[I x2.lo,I x2.hi]] rfl (zdf x2 aW _ (H.gt 11)) ?_
  rintro _ bI ⟨r2,rfl,rfl,aa⟩;replace H:=H.bk aa;refine kN ?_;refine d_l rfl ?_;obtain ⟨bJ,aX,hM⟩:=M.e_bind hM;refine s_callm (f:=61) (fs:=[.agg #[I stage]]) rfl cq [I r2] rfl (zbA stage r2 aX _ (H.gt 11)) ?_;rintro _ bK ⟨r3,rfl,rfl,aa⟩;replace H:=H.bk aa;refine kN ?_;refine kI 1 ?_ ?_
  ·intro aY hM;obtain ⟨bL,hM⟩:=M.e_gq hM;refine kS 5 ?_;intro bM H;refine kDo 2 [0,1,2,3,4,5,6,7,8,9,10] [(0,true),(3,true),(1,false),(2,true),(4,false),(5,false)] ?_;intro bN H;refine kC 3 @zbZ ?_;intro bO hM H;refine kN ?_;refine d_q rfl (fun w' H=>x_fd (cs:=[.func (.func 100) #[] #[]]) (v:=.func (.func 100) #[] #[]) Fd151_0.h Sc85.h rfl rfl)<|d_l rfl ?_;obtain ⟨bP,aZ,hM⟩:=M.e_bind hM;refine s_callv (f:=100) rfl cq [.agg #[I x2.lo,I x2.hi]] rfl (zbV x2 aZ _ (H.gt 11)) ?_
   rintro _ bQ ⟨r4,rfl,rfl,aa⟩;replace H:=H.bk aa;refine kN ?_;refine d_l rfl ?_;obtain ⟨bR,a7,hM⟩:=M.e_bind hM;refine s_callm (f:=61) (fs:=[.agg #[I stage]]) rfl cq [I r4] rfl (zbA stage r4 a7 _ (H.gt 11)) ?_;rintro _ bS ⟨r5,rfl,rfl,aa⟩;replace H:=H.bk aa;refine kN ?_;refine kI 1 ?_ ?_
   ·intro a8 hM;obtain ⟨bT,hM⟩:=M.e_gq hM;refine kS 5 ?_;intro bU H;refine s_nil ?_;exact ⟨(s2+1,s3+1),[cBlk ah [I (s2+1),I (s3+1)] 32],(M.e_pure hM).symm,rfl,H.pick [1,2,3,4,5,6,7,8,9,10] (by decide) rfl⟩
   intro a8 hM;refine W.skip ?_;exact ⟨(s2+1,s3),[cBlk ah [I (s2+1),I s3] 32],(M.e_pure hM).symm,rfl,H.pick [1,2,3,4,5,6,7,8,9,10] (by decide) rfl⟩
  intro aY hM;refine kDo 2 [0,1,2,3,4,5,6,7,8,9,10] [(0,true),(3,true),(1,false),(2,true),(4,false),(5,false)] ?_;intro bV H;refine kC 3 @zbZ ?_;intro bW hM H;refine kN ?_;refine d_q rfl (fun w' H=>x_fd (cs:=[.func (.func 100) #[] #[]]) (v:=.func (.func 100) #[] #[]) Fd151_0.h Sc85.h rfl rfl)<|d_l rfl ?_;obtain ⟨bX,bc,hM⟩:=M.e_bind hM;refine s_callv (f:=100) rfl cq [.agg #[I x2.lo,I x2.hi]] rfl (zbV x2 bc _ (H.gt 11)) ?_
  rintro _ bY ⟨r4,rfl,rfl,aa⟩;replace H:=H.bk aa;refine kN ?_;refine d_l rfl ?_;obtain ⟨bZ,bf,hM⟩:=M.e_bind hM;refine s_callm (f:=61) (fs:=[.agg #[I stage]]) rfl cq [I r4] rfl (zbA stage r4 bf _ (H.gt 11)) ?_;rintro _ b5 ⟨r5,rfl,rfl,aa⟩;replace H:=H.bk aa;refine kN ?_;refine kI 1 ?_ ?_
  ·intro bh hM;obtain ⟨b6,hM⟩:=M.e_gq hM;refine kS 5 ?_;intro b7 H;refine s_nil ?_;exact ⟨(s2,s3+1),[cBlk ah [I s2,I (s3+1)] 32],(M.e_pure hM).symm,rfl,H.pick [1,2,3,4,5,6,7,8,9,10] (by decide) rfl⟩
  intro bh hM;refine W.skip ?_;exact ⟨(s2,s3),[cBlk ah [I s2,I s3] 32],(M.e_pure hM).symm,rfl,H.pick [1,2,3,4,5,6,7,8,9,10] (by decide) rfl⟩
 replace H:St w aS (cAll (cObj aB (.loop aJ) :: [cBlk ah [I 0,I 0] 32]) :: [cMk (aI :: ([])),cBlk au [I ap] 3,cBlk av [I aq] 3,cBlk aw [Pq ae] 142,cBlk aA [.func (.func 61) #[.agg #[I stage]] #[]] 124,cBlk ae [ab,ac,I ak,I al,.map (some ag)] 198,cMl I encSp ag ao,cBlk ay [I 0,I 0] 32,cBlk ax [ab,ac,I ai,I aj] 99]) R:=St.bundleB (A:=cObj aB (.loop aJ) :: [cBlk ah [I 0,I 0] 32]) (T:=[cMk (aI :: ([])),cBlk au [I ap] 3,cBlk av [I aq] 3,cBlk aw [Pq ae] 142,cBlk aA [.func (.func 61) #[.agg #[I stage]] #[]] 124,cBlk ae [ab,ac,I ak,I al,.map (some ag)] 198,cMl I encSp ag ao,cBlk ay [I 0,I 0] 32,cBlk ax [ab,ac,I ai,I aj] 99]) rfl (H.pk [0,2,1,3,4,5,6,7,8,9,10]);refine (zcz (M.yl (zan stage)) (.inl (0,0)) ap aq aE aF ak al ao hYC ⟨_,rfl,rfl⟩ (Has.here (k:=1) rfl) (Has.here (k:=2) rfl) (aG.app _) aO (aH.app _) aP (Has.here (k:=6) rfl) (Has.here (k:=5) rfl) (Has.here (k:=3) rfl) aR _ (H.gt 9)).mono ?_;rintro vq b8 ⟨bi,b9,rfl,hvq,aa,aQ⟩;replace H:=H.back aa rfl;clear aa hYC;rcases bi with ⟨s2,s3⟩ | _
 ·obtain ⟨_,rfl,rfl⟩:=aQ;refine ⟨_,[cBlk ah [I s2,I s3] 32,cBlk au [I ap] 3,cBlk av [I aq] 3,cBlk aw [Pq ae] 142,cBlk aA [.func (.func 61) #[.agg #[I stage]] #[]] 124,cBlk ae [ab,ac,I ak,I al,.map (some ag)] 198,cMl I encSp ag ao,cBlk ay [I 0,I 0] 32,cBlk ax [ab,ac,I ai,I aj] 99],H.unbundle.pick [0,2,1,3,4,5,6,7,8,9,10] (by decide) rfl,aK.nb,?_⟩;intro cb H;rw [aK.pd];replace H:=H.nf
  try simp only []
  replace H:=H.pk [0,1,8];refine WD.seq<|WD.of ?_;refine kS 2 ?_;intro cc H;refine kg 2 ?_;refine WD.of ?_;refine W.ret ?_;refine bodyD_r (H.pk [0,1,2]) ?_;intro cd H;replace H:=H.nf
  have bj:=(H.bl 1)
  have bm:=M.e_pure hM;exact ⟨_,(resE_ofn (vs:=[.agg #[I s2,I s3],I 0]) rfl rfl (.cell (v:=.agg #[I s2,I s3]) rfl (run_loadVar_ag (ds:=[I s2,I s3]) Ag32.h Sz32.h bj rfl rfl)<|.tmp (v:=I 0) rfl<|.nil)),⟨s2,s3,0,bm,rfl,(H.pk [])⟩⟩
 obtain ⟨_,_,h_⟩:=aQ; exact h_.elim

end Go.Proofs.YtlfkkkbhejeplaaGreat
end
namespace Go.Proofs
open Go.RowKit Go.Maps Go.Sort Go.Shelf
def Tryz.sortA_ren:Go.Shelf.Ren:=⟨fun | 5=>111 | 7=>152 | 8=>153 | 10=>178 | 11=>179 | 12=>180 | 13=>181 | 14=>182 | 15=>183 | 16=>184 | 17=>185 | 18=>186 | 19=>187 | 20=>188 | 30=>195 | 31=>196 | 32=>197 | 33=>198 | 34=>199 | 35=>151 | 40=>202 | n=>n,fun | 0=>0 | 3=>3 | 4=>4 | 5=>5 | 9=>9 | 22=>26 | 23=>26 | 25=>3 | 32=>252 | 35=>274 | 36=>275 | 41=>186 | 44=>281 | 46=>283 | 53=>287 | 57=>291 | 63=>294 | 64=>223 | n=>n,fun | n=>n⟩
theorem Tryz.sortA:Go.Proofs.SlLaysM.n5 Tryz.prog Tryz.sortA_ren:={
  mixed:=by kernel_rfl
  f5 := ⟨"slices.Sort[[]int,int]", by kernel_rfl, Tryz.func111.trans (congrArg some (by kernel_rfl))⟩
  f7 := ⟨"slices.pdqsortOrdered[int]", by kernel_rfl, Tryz.func152.trans (congrArg some (by kernel_rfl))⟩
  f8:=Tryz.func153.trans (congrArg some (by kernel_rfl))
  f10 := ⟨"slices.insertionSortOrdered[int]", by kernel_rfl, Tryz.func178.trans (congrArg some (by kernel_rfl))⟩
  f11 := ⟨"slices.heapSortOrdered[int]", by kernel_rfl, Tryz.func179.trans (congrArg some (by kernel_rfl))⟩
  f12 := ⟨"slices.breakPatternsOrdered[int]", by kernel_rfl, Tryz.func180.trans (congrArg some (by kernel_rfl))⟩
  f13 := ⟨"slices.choosePivotOrdered[int]", by kernel_rfl, Tryz.func181.trans (congrArg some (by kernel_rfl))⟩
  f14 := ⟨"slices.reverseRangeOrdered[int]", by kernel_rfl, Tryz.func182.trans (congrArg some (by kernel_rfl))⟩
  f15 := ⟨"slices.partialInsertionSortOrdered[int]", by kernel_rfl, Tryz.func183.trans (congrArg some (by kernel_rfl))⟩
  f16 := ⟨"cmp.Less[int]", by kernel_rfl, Tryz.func184.trans (congrArg some (by kernel_rfl))⟩
  f17 := ⟨"slices.partitionEqualOrdered[int]", by kernel_rfl, Tryz.func185.trans (congrArg some (by kernel_rfl))⟩
  f18 := ⟨"slices.partitionOrdered[int]", by kernel_rfl, Tryz.func186.trans (congrArg some (by kernel_rfl))⟩
  f19:=Tryz.func187.trans (congrArg some (by kernel_rfl))
  f20:=Tryz.func188.trans (congrArg some (by kernel_rfl))
  f30 := ⟨"slices.siftDownOrdered[int]", by kernel_rfl, Tryz.func195.trans (congrArg some (by kernel_rfl))⟩
  f31:=Tryz.func196.trans (congrArg some (by kernel_rfl))
  f32:=Tryz.func197.trans (congrArg some (by kernel_rfl))
  f33 := ⟨"slices.medianAdjacentOrdered[int]", by kernel_rfl, Tryz.func198.trans (congrArg some (by kernel_rfl))⟩
  f34 := ⟨"slices.medianOrdered[int]", by kernel_rfl, Tryz.func199.trans (congrArg some (by kernel_rfl))⟩
  f35 := ⟨"cmp.isNaN[int]", by kernel_rfl, Tryz.func151.trans (congrArg some (by kernel_rfl))⟩
  f40 := ⟨"slices.order2Ordered[int]", by kernel_rfl, Tryz.func202.trans (congrArg some (by kernel_rfl))⟩
  t0:=Tryz.underlying0
  a0:=Tryz.isAgg0
  z0:=Tryz.sizeOf0
  v0:=Tryz.zeroValue0
  t3:=Tryz.underlying3
  a3:=Tryz.isAgg3
  z3:=Tryz.sizeOf3
  v3:=Tryz.zeroValue3
  t4:=Tryz.underlying4
  a4:=Tryz.isAgg4
  z4:=Tryz.sizeOf4
  v4:=Tryz.zeroValue4
  t5:=Tryz.underlying5
  a5:=Tryz.isAgg5
  z5:=Tryz.sizeOf5
  v5:=Tryz.zeroValue5
  t9:=Tryz.underlying9
  a9:=Tryz.isAgg9
  z9:=Tryz.sizeOf9
  v9:=Tryz.zeroValue9
  t22:=Tryz.underlying26
  a22:=Tryz.isAgg26
  z22:=Tryz.sizeOf26
  v22:=Tryz.zeroValue26
  t23:=Tryz.underlying26
  a23:=Tryz.isAgg26
  z23:=Tryz.sizeOf26
  v23:=Tryz.zeroValue26
  t25:=Tryz.underlying3
  a25:=Tryz.isAgg3
  z25:=Tryz.sizeOf3
  v25:=Tryz.zeroValue3
  t32:=Tryz.underlying252
  a32:=Tryz.isAgg252
  z32:=Tryz.sizeOf252
  v32:=Tryz.zeroValue252
  t35:=Tryz.underlying274
  a35:=Tryz.isAgg274
  z35:=Tryz.sizeOf274
  v35:=Tryz.zeroValue274
  t36:=Tryz.underlying275
  a36:=Tryz.isAgg275
  z36:=Tryz.sizeOf275
  v36:=Tryz.zeroValue275
  t41:=Tryz.underlying186
  a41:=Tryz.isAgg186
  z41:=Tryz.sizeOf186
  v41:=Tryz.zeroValue186
  t44:=Tryz.underlying281
  a44:=Tryz.isAgg281
  z44:=Tryz.sizeOf281
  v44:=Tryz.zeroValue281
  t46:=Tryz.underlying283
  a46:=Tryz.isAgg283
  z46:=Tryz.sizeOf283
  v46:=Tryz.zeroValue283
  t53:=Tryz.underlying287
  a53:=Tryz.isAgg287
  z53:=Tryz.sizeOf287
  v53:=Tryz.zeroValue287
  t57:=Tryz.underlying291
  a57:=Tryz.isAgg291
  z57:=Tryz.sizeOf291
  v57:=Tryz.zeroValue291
  t63:=Tryz.underlying294
  a63:=Tryz.isAgg294
  z63:=Tryz.sizeOf294
  v63:=Tryz.zeroValue294
  t64:=Tryz.underlying223
  a64:=Tryz.isAgg223
  z64:=Tryz.sizeOf223
  v64:=Tryz.zeroValue223 }
end Go.Proofs
namespace Go.Nm
open Go
theorem OwnF.row {B:Nat} {e:TypeId} {w:World} {l:List Int} {g cap:Nat} {cur:Array Value} (ho:OwnF B e w (.slice (some ⟨g,0,none⟩) l.length cap) l) (hg:w.heap[g]?=some (.cells cur e (0,0)))
    (hcs:l.length<=cap) (hsz:cur.size=cap) (hb:B<=g) (hm:cap<=maxLen) (d:Array Int) (hl:d.size=l.length) (q:Nat) :
    OwnF B e (Sort.putRow (Value.int .i64) (Sort.ahead w q) g 0 d) (.slice (some ⟨g,0,none⟩) l.length cap) d.toList/\Grow B (.slice (some ⟨g,0,none⟩) l.length cap) w (Sort.putRow (Value.int .i64) (Sort.ahead w q) g 0 d):=by
  have hs1:Elt.sz Int=1:=rfl;have h1:(Sort.putRow (Value.int .i64) (Sort.ahead w q) g 0 d).heap[g]?=some (.cells (Sort.putCells (Value.int .i64) 0 d cur) e (0,0)):=by
    show (w.heap.modify g _)[g]?=_;rw [Array.getElem?_modify,if_pos rfl,hg];rfl
  have h2:∀ k,k ≠ g->(Sort.putRow (Value.int .i64) (Sort.ahead w q) g 0 d).heap[k]?=w.heap[k]?:=by
    intro k hk;show (w.heap.modify g _)[k]?=_;rw [Array.getElem?_modify,if_neg (fun h=>hk h.symm)]
  refine ⟨⟨by rw [enc_ints]; simp [hs1],.inr ⟨g,cap,_,by simp [hl],hb,h1,by simp [hl]; omega,hm,by simp [hs1,Sort.putCells]; omega,?_⟩⟩,⟨rfl,rfl,by simp [Sort.putRow,Sort.mapBlock,Sort.ahead],fun k _ hk=>?_,fun g' hg'=>(ho.lt g' hg').1,fun a=>by simp⟩⟩
  · rw [enc_ints,hs1];apply List.ext_getElem?;intro i;rw [List.getElem?_take,List.getElem?_map];by_cases hi:i<d.toList.length*1
    · rw [if_pos hi];have hi':i<d.size:=by simpa using hi
      have hc:i<cur.size:=by omega
      simp [Sort.putCells,hi',hc]
    · rw [if_neg hi,List.getElem?_eq_none (by simpa using hi)];rfl
  · refine h2 k (fun e'=>hk ?_);rw [e'];rfl
end Go.Nm
namespace Go.Proofs.YtlfkkkbhejeplaaGreat
open Go Go.Nm Go.Proofs
theorem sort_any {w:World} {v:Value} {l:List Int} (ho:OwnF 0 3 w v l) (hl:l.length<=1000000):Ret Tryz.prog 111 #[v] w fun u w'=>u = .tuple #[]/\OwnF 0 3 w' v (isort l)/\Keep w w'/\∀ b,b<w.heap.size->v.ownBlock ≠ some b->w'.heap[b]?=w.heap[b]?:=by
  have ho':=ho;rcases ho.2 with ⟨rfl,hn⟩ | ⟨g,cap,cur,rfl,hb,hg,hc,hm,hcs,htake⟩
  · obtain rfl:=List.length_eq_zero_iff.1 hn;have h:=AnyM.slices_Sort_int_none Tryz.sortA none 0 w;refine Calls.mono h ?_;rintro _ w' ⟨rfl,rfl⟩;exact ⟨_,rfl,rfl,ho,Keep.refl _,fun _ _ _=>rfl⟩
  · have hs1:Elt.sz Int=1:=rfl;rw [hs1] at hcs htake;rw [enc_ints] at htake;have hcell:∀ j,j<l.length->w.cell? ⟨g,0+j,none⟩=some (.int .i64 (l.getD j 0)):=by
      intro j hj;rw [Nat.zero_add,cell_of_row w g j cur 3 (0,0) hg];have h1:(cur.toList.take (l.length*1))[j]?=(l.map I)[j]?:=by rw [htake]
      rw [List.getElem?_take,if_pos (by omega),List.getElem?_map,getD_some l hj 0] at h1
      simpa using h1
    have hH:Sort.Holds (Value.int .i64) w g 0 l.toArray:=by
      intro j hj;have hj:j<l.length:=by simpa using hj
      refine ⟨?_,by simp [World.frozen?,hg]⟩;rw [hcell j hj];have:l.getD j 0=l.toArray[j]!:=by
        rw [List.getD_eq_getElem?_getD,List.getElem?_eq_getElem hj];simp [getElem!_pos,hj]
      rw [this]
    have h:=AnyM.slices_Sort_int Tryz.sortA g 0 cap l w hH (heap_lt hg) (by omega);refine Calls.mono h ?_;rintro _ w' ⟨rfl,q,os,rfl⟩;rw [merge_isort (List.Perm.refl l)];have hlen:(isort l).length=l.length:=(isort_perm l).length_eq;obtain ⟨h1,h2⟩:=OwnF.row ho hg hc (by omega) hb hm (isort l).toArray (by simp [hlen]) q;have hlt:g<(Sort.putRow (Value.int .i64) (Sort.ahead w q) g 0 (isort l).toArray).heap.size:=Nat.lt_of_lt_of_le (heap_lt hg) h2.size;refine ⟨_,rfl,rfl,?_,⟨h2.os,h2.out,by rw [Sort.size_grow]; exact Nat.le_trans h2.size (Nat.le_add_right _ _)⟩,fun b hb' hne=>?_⟩
    · rcases h1 with ⟨h3,h4 | ⟨g',cap',cur',h5,h6,h7,h8⟩⟩
      · exact absurd h4.1 (by simp)
      · simp only [Value.slice.injEq,Option.some.injEq,Addr.mk.injEq,and_true] at h5;obtain ⟨rfl,_,rfl⟩:=h5;refine ⟨h3,.inr ⟨g,cap,cur',by simp [hlen],h6,by rw [Sort.heap_grow_old _ _ hlt]; exact h7,h8⟩⟩
    · rw [Sort.heap_grow_old _ _ (Nat.lt_of_lt_of_le hb' h2.size)];exact h2.blk b hb' hne
end Go.Proofs.YtlfkkkbhejeplaaGreat
namespace Go.Nm
open Go
theorem St.sorted {w0 w w':World} {L L' R:List Chunk} {k:Nat} {v:Value} {l l':List Int} {e:TypeId} (H:St w0 w L R) (hk:L[k]?=some (cOwn (α:=Int) e v l)) (ho:OwnF 0 e w' v l') (kp:Keep w w') (hs:∀ b,b<w.heap.size->v.ownBlock ≠ some b->w'.heap[b]?=w.heap[b]?)
    (hl:L.set k (cOwn (α:=Int) e v l')=L'):St w0 w' L' R :=
  H.set (c':=cOwn (α:=Int) e v l') hk rfl kp hs (fun b hb=>.inl hb) ho hl
end Go.Nm
section
set_option maxRecDepth 100000
set_option maxHeartbeats 16000000
namespace Go.Proofs.YtlfkkkbhejeplaaGreat
open Go Go.Nm
attribute [local irreducible] gd execOp SL SLD SLT WR
def zaM (ac:List Int) (ae:List Span) (ag:List Int) (ah:List Town) (aa ab:Int) (ai:List Flood) (station:Int):M (Int × Int × Int) :=
  M.pure (station,aa,ab)
theorem za8 {R ah aa ai ab aj ac ak ae al ag}(ao ap aq au av aw ax station)(aC:Reads R ah)(aD:Sl ah aa ao)(aE:Reads R ai)(aF:Sl ai ab ap)(aG:Reads R aj)(aH:Sl aj ac aq)(aI:Reads R ak)(aJ:Sl ak ae au)(aK:Reads R al)(aL:Sl al ag ax){r}(hM:(zaM ao ap aq au av aw ax station).Ends r)(w)(H:St w w [] R):Ret Tryz.prog 107 #[.agg #[aa,ab,ac,ae,I av,I aw,ag],I station] w fun v w'=>∃ y0 y1 y2 ay az,(y0,y1,y2)=r/\v = .func (.func 149) #[] #[Pq ay,Pq az]/\St w w' [cBlk ay [I y0] 3,cBlk az [aa,ab,ac,ae,I y1,I y2,ag] 105] R:=by
 refine ret_of_W Tryz.func107 rfl rfl rfl ?_;refine kB 2 ?_;intro aA aM H;refine kbx ?_;intro aB aN H;refine kg 4 ?_;refine s_val (x_mf (fs:=[]) (cs:=[Pq aB,Pq aA]) rfl rfl) ?_;refine kg 2 ?_;exact rt

def zcK {T_:Type} (ab:T_->(Int × Int)->M (Bool × T_)) (aa:List Int):(Int × Nat × T_)->M ((Int × Nat × T_) ⊕ ((T_ × Int) ⊕ (T_ × Int))):=fun (s,s2,t2) =>
  bif ((s != (-1))&&(decide (s<(aa.length:Int)))) then (
  M.bind (ab t2 ((s2:Int),s)) fun (go,t) =>
  bif !go then (
  M.pure (.inr (.inl (t,s))))
  else (
  M.grd (decide ((0:Int)<=s)&&decide (s<(aa.length:Int))) <|
  M.gi ((s2:Int)+1) <|
  M.pure (.inl (aa.getD (Int.toNat s) 0,s2+1,t))))
  else (
  M.pure (.inr (.inr (t2,s))))
def zaH {T_:Type} (aa:T_->(Int × Int)->M (Bool × T_)) (t_:T_) (ab:Int) (ac:List Int) (ae:List Span) (ag:List Int) (ah:List Town) (ai aj:Int) (ak:List Flood):M (T_ × Int) :=
  M.bind (M.iter (zcK aa ac) (ab,0,t_)) fun x_=>match x_ with
  | (.inl (t3,s3))=>(
  M.pure (t3,s3))
  | (.inr (t4,s4))=>(
  M.pure (t4,s4))
theorem za4 {R:List Chunk} {T_:Type} {Y_:T_->List Chunk->Prop} {ac:Value} {ae:List Chunk} {aa:Nat} {ag:Nat} {ao:Cells} {ap:Value} {aq:Cells} {au:Value} {av:Cells} {aw:Value} {ax:Cells} {ay:Value} {az:Cells} {aA:Value} (ah:T_->(Int × Int)->M (Bool × T_)) (t_:T_) (ai:Int) (ab:List Int) (aB:List Span) (aC:List Int) (aD:List Town) (aE:Int) (aF:Int) (aG:List Flood) (aK:YieldC Tryz.prog R arII Y_ ac ah) (aL:Y_ t_ ae) (aU:Reads R ao) (aM:Sl ao ap ab) (aV:Reads R aq) (aW:Sl aq au aB) (aX:Reads R av) (aY:Sl av aw aC) (aZ:Reads R ax) (a7:Sl ax ay aD) (a8:Reads R az) (bc:Sl az aA aG) (bf:Has R (cBlk ag [ap,au,aw,ay,I aE,I aF,aA] 105)) {r:(T_ × Int)} (hM:(zaH ah t_ ai ab aB aC aD aE aF aG).Ends r) (w:World) (H:St w w [cAll ae,cBlk aa [I ai] 3] R):Ret Tryz.prog 149 #[ac,Pq aa,Pq ag] w fun v w'=>∃ (y0:T_) (y1:Int) (Ls0:List Chunk),(y0,y1)=r/\v = .tuple #[]/\St w w' [cAll Ls0,cBlk aa [I y1] 3] R/\Y_ y0 Ls0:=by
 refine ret_of_W Tryz.func149 rfl rfl rfl ?_;refine kg 5 ?_;obtain ⟨aN,aj,aH⟩:=M.e_bind hM;obtain ⟨bh,aj⟩:=M.e_iter aj;refine W.loop (fun m σ W=>∃ (s:Int) (s2:Nat) (t2:T_) (Ls_t2:List Chunk) (ρ:Env),σ=upds ρ [(0,ac),(1,Pq aa),(2,Pq ag),(4,I (s2:Int))]/\M.iterN (zcK ah ab) m (s,s2,t2)=some aN/\St w W [cAll Ls_t2,cBlk aa [I s] 3] R/\Y_ t2 Ls_t2) ?_ ?_
 ·exact ⟨_,ai,0,t_,ae,_,jQ,aj,H,aL⟩
 rintro bi σ bj ⟨s,s2,t2,Ls_t2,ρ,rfl,aO,H,hY_t2⟩;obtain ⟨aP,aQ,bm,hM,ak⟩:=M.e_iterN aO;have bn:=(aM).len_le;refine kI 13 ?_ ?_
 ·intro aR hM;refine kg 9 ?_;obtain ⟨⟨go,t⟩,aS,hM⟩:=M.e_bind hM;refine t_yield (L:=[cBlk aa [I s] 3]) H aK hY_t2 rfl [I (s2:Int),I s] rfl ((s2:Int),s) Reads.none rfl aS ?_;intro aI bo aJ H;replace H:=H.nf;refine kI 2 ?_ ?_
  ·intro aT hM;refine W.ret ?_;obtain rfl:=M.e_inr hM ak;replace hM:=aH;have al:=M.e_pure hM;exact ⟨_,resE_tmp0 rfl,⟨t,s,aI,al,rfl,H,aJ⟩⟩
  intro aT hM;obtain ⟨bp,hM⟩:=M.e_gq hM;refine kS 7 ?_;intro br H;obtain ⟨bt,hM⟩:=M.e_gq hM;refine kg 6 ?_;exact ⟨aP,aQ,ab.getD (Int.toNat s) 0,s2+1,t,aI,_,jQ,M.e_inl hM ak,H,aJ⟩
 intro aR hM;refine W.exit ?_;obtain rfl:=M.e_inr hM ak;replace hM:=aH;have al:=M.e_pure hM;exact ⟨_,resE_tmp0 rfl,⟨t2,s,Ls_t2,al,rfl,H,hY_t2⟩⟩
def zbJ (l:List Span):(Int × Int × Nat)->M ((Int × Int × Nat) ⊕ (Int × Int)):=fun (s,s2,s3) =>
  bif decide ((s3:Int)<(l.length:Int)) then (
  M.grd (decide ((s3:Int)<(l.length:Int))) <|
  M.gi (s+((l.getD s3 default).lo)) <|
  M.gi (s2+((l.getD s3 default).hi)) <|
  M.pure (.inl (s+((l.getD s3 default).lo),s2+((l.getD s3 default).hi),s3+1)))
  else (
  M.pure (.inr (s,s2)))
def zcM (l:List Span):M (Int × Int) :=
  M.bind (M.iter (zbJ l) (0,0,0)) fun (s4,s5) =>
  M.pure (s4,s5)
theorem zdg {R ab aa}(l)(ap:Reads R ab)(ah:Sl ab aa l){r}(hM:(zcM l).Ends r)(w)(H:St w w [] R):Ret Tryz.prog 174 #[aa] w fun v w'=>∃ y0 y1,(y0,y1)=r/\v = .agg #[I y0,I y1]/\St w w' [] R:=by
 refine ret_of_W Tryz.func174 rfl rfl rfl ?_;refine kA 2 ?_;intro ac aq H;refine kA 3 ?_;intro ae au H;have av:=(ah).len_le;refine kg 9 ?_;obtain ⟨ai,ag,aj⟩:=M.e_bind hM;obtain ⟨aw,ag⟩:=M.e_iter ag;refine W.loop (fun m σ W=>∃ (s:Int) (s2:Int) (s3:Nat) (ρ:Env),σ=upds ρ [(2,Pq ac),(3,Pq ae),(6,aa),(7,I (l.length:Int)),(8,I (s3:Int))]/\M.iterN (zbJ l) m (s,s2,s3)=some ai/\St w W [cBlk ae [I s,I s2] 32,cBlk ac [I 0,I 0] 32] R) ?_ ?_
 ·exact kY
 rintro ax σ ay ⟨s,s2,s3,ρ,rfl,ak,H⟩;obtain ⟨az,aA,aB,hM,al⟩:=M.e_iterN ak;refine kI 5 ?_ ?_
 ·intro ao hM;obtain ⟨aC,hM⟩:=M.e_gq hM;refine kA 7 ?_;intro aD aE H;refine ksw ?_;intro aF H;obtain ⟨aG,hM⟩:=M.e_gq hM;obtain ⟨aH,hM⟩:=M.e_gq hM;refine kS 13 ?_;intro aI H;exact kXp 5 [1,2]
 intro ao hM;refine W.exit ?_;obtain rfl:=M.e_inr hM al;replace hM:=aj;refine kS 3 ?_;intro aJ H;exact kR 1 []

def zau (aa:List Span) (to_:Int):(List Span)->(Int × Int)->M ((List Span) ⊕ ((List Span) × (List Span) × Int × Int)):=fun l (x,x2) =>
  bif x2==to_ then (
  M.bind (zcM l) fun (r0,r1) =>
  M.pure (.inr (l,l,r0,r1)))
  else (
  M.grd (decide ((0:Int)<=x2)&&decide (x2<(aa.length:Int))) <|
  M.grd (decide ((l.length+([(aa.getD (Int.toNat x2) default)]).length)*16<=140737488355328)) <|
  M.pure (.inl (l++([(aa.getD (Int.toNat x2) default)]))))
def za7 (ab:List Int) (aa:List Span) (ac:List Int) (ae:List Town) (ah ai:Int) (ag:List Flood) (aj to_:Int):M (Int × Int × Bool) :=
  M.bind (zaM ab aa ac ae ah ai ag aj) fun (ak,al,ao) =>
  M.bind (zaH (M.yl (zau aa to_)) (.inl ([])) ak ab aa ac ae al ao ag) fun x_=>match x_ with
  | (.inl l,q0)=>(
  M.pure (0,0,false))
  | (.inr (l2,l3,s,s2),q0)=>(
  M.pure (s,s2,true))
theorem zct {R ao aV ah aW ai aX aj aY ak aZ al bn}(aF aa aG aH aB aC aI a7 to_)(aJ:Reads R aV)(a8:Sl aV ah aF)(aK:Reads R aW)(bc:Sl aW ai aa)(aL:Reads R aX)(bf:Sl aX aj aG)(aM:Reads R aY)(bh:Sl aY ak aH)(aN:Reads R aZ)(bi:Sl aZ al aI)(aO:Has R (cBlk ao [ah,ai,aj,ak,I aB,I aC,al,.map (some bn)] 202)){r}(hM:(za7 aF aa aG aH aB aC aI a7 to_).Ends r)(w)(H:St w w [] R):Ret Tryz.prog 146 #[Pq ao,I a7,I to_] w fun v w'=>∃ y0 y1 y2,(y0,y1,y2)=r/\v = .tuple #[.agg #[I y0,I y1],B y2]/\St w w' [] R:=by
 refine ret_of_WD Tryz.func146 rfl rfl rfl ?_;replace H:St w w [cMk ([])] R:=H.mk0;have bF:=a8.len_le;have bG:=bc.len_le;have bH:=bf.len_le;have bI:=bh.len_le;have bJ:=bi.len_le;unfold za7 at hM;refine WD.seq<|WD.of ?_;refine kB 1 ?_;intro ax bK H;refine kbx ?_;intro ay bL H;refine kal ?_;intro ab bM H;refine kal ?_;intro ac bN H;refine s_nil<|WD.seq<|WD.of ?_;refine kA 1 ?_;intro ae bO H;refine s_nil<|WD.seq<|WD.seq<|WD.of ?_;refine kg 4 ?_;refine s_val (x_ld (v:=.agg #[ah,ai,aj,ak,I aB,I aC,al]) rfl (ldb_ag (ds:=[ah,ai,aj,ak,I aB,I aC,al]) Ag105.h Sz105.h (aO.blk H) rfl rfl)) ?_;refine kC 1 @za8 ?_;intro bP aD au av az aw hM H;refine s_nil<|WD.block ?_
 replace H:=H.nilOwn (α:=Span) 32;obtain ⟨bQ,bo,hM⟩:=M.e_bind hM;refine WD.range (L:=[cOwn (α:=Span) 32 (.slice none 0 0) ([]),cBlk ae [(.slice none 0 0)] 38,cBlk ac [B false] 4,cBlk ab [I 0,I 0] 32,cBlk aw [ah,ai,aj,ak,I au,I av,al] 105,cBlk ay [I to_] 3,cBlk ax [Pq ao] 157,cBlk az [I aD] 3]) [Pq az,Pq aw] (H.pk [8,0,3,4,5,2,6,7,1]) rfl cq ?_;intro aE aP aQ bp aR H;have hYC:YieldC Tryz.prog ([cMk (aP :: ([])),cBlk aw [ah,ai,aj,ak,I au,I av,al] 105,cBlk ay [I to_] 3,cBlk ax [Pq ao] 157]++R) arII (yJ aE aQ (fun l ap=>∃ (ag:Value),ap=[cOwn (α:=Span) 32 ag l,cBlk ae [ag] 38,cBlk ac [B false] 4,cBlk ab [I 0,I 0] 32]) (fun (l2,l3,s,s2) ap=>∃ (aq:Value),ap=[cOwn (α:=Span) 32 aq l3,cBlk ae [aq] 38,cBlk ac [B true] 4,cBlk ab [I s,I s2] 32]) (fun _=>.ret)) (.func (.yield aE) #[] #[]) (M.yl (zau aa to_)):=by
  refine YieldC.mk aR (fun l ap=>∃ (ag:Value),ap=[cOwn (α:=Span) 32 ag l,cBlk ae [ag] 38,cBlk ac [B false] 4,cBlk ab [I 0,I 0] 32]) (fun (l2,l3,s,s2) ap=>∃ (aq:Value),ap=[cOwn (α:=Span) 32 aq l3,cBlk ae [aq] 38,cBlk ac [B true] 4,cBlk ab [I s,I s2] 32]) (fun _=>.ret) (zau aa to_) (by rintro l _ h_; obtain ⟨_,rfl⟩:=h_; rfl) (by rintro ⟨l2,l3,s,s2⟩ _ h_; (obtain ⟨_,rfl⟩:=h_; rfl)) rfl (arII_len rfl) ?_;intro C_ bR x_ W_ br;obtain ⟨x,x2⟩:=x_;obtain rfl:=br;refine kg 3 ?_;refine ⟨rfl,rfl,?_⟩;intro w R aA ap s_ r bt hM H
  skip
  obtain ⟨l,bu⟩:∃ y_,y_=s_:=⟨_,rfl⟩
  subst bu;obtain ⟨ag,rfl⟩:=bt;replace aJ:=aJ.sub aA;replace aK:=aK.sub aA;replace aL:=aL.sub aA;replace aM:=aM.sub aA;replace aN:=aN.sub aA;replace aO:=aO.sub aA;replace hM:(zau aa to_ l (x,x2)).Ends r:=hM;simp only [zau] at hM;replace H:=H.pk [0,1,2,3,5,6,7,4];refine kI 8 ?_ ?_
  ·intro bv hM;refine kC 3 @zdg ?_;intro bS r0 r1 hM H;refine ksw ?_;intro bT H;refine ksw ?_;intro bU H;refine s_nil ?_;refine W.ret ?_;exact ⟨(l,l,r0,r1),[cOwn (α:=Span) 32 ag l,cBlk ae [ag] 38,cBlk ac [B true] 4,cBlk ab [I r0,I r1] 32],(M.e_pure hM).symm,⟨ag,rfl⟩,H.pick [0,1,2,3,7,4,5,6] (by decide) rfl,rfl⟩
  intro bv hM;refine kDT 1 [2,3,4,5,6,7] (.q 1 (.q 2 (.q 3 (.q 4 (.q 5 (.q 6 (.q 7 (.q 8 (.l2 0 (.l 9 (.l 10 (.l 11 .nil))) 9 (.l 0 (.l 10 (.l 11 .nil)))))))))))) ?_;intro bV H;obtain ⟨bW,hM⟩:=M.e_gq hM;obtain ⟨bX,hM⟩:=M.e_gq hM;refine kg 8 ?_;refine t_l2 rfl rfl ?_ ?_
  ·refine kG 1 ?_;refine kN ?_;refine kL 1 (α:=Span) [(aa.getD (Int.toNat x2) default)] ?_;intro bY bZ H;refine kN ?_;refine kP 1 ?_;intro aS b5 H;refine kN ?_;refine kS 1 ?_;intro b6 H;refine kN ?_;refine t_nil ?_;exact ⟨l++([(aa.getD (Int.toNat x2) default)]),[cOwn (α:=Span) 32 aS (l++([(aa.getD (Int.toNat x2) default)])),cBlk ae [aS] 38,cBlk ac [B false] 4,cBlk ab [I 0,I 0] 32],(M.e_pure hM).symm,⟨aS,rfl⟩,H.pick [1,2,3,4,8,5,6,7] (by decide) rfl⟩
  refine kL 0 (α:=Span) [(aa.getD (Int.toNat x2) default)] ?_;intro b7 b8 H;refine kN ?_;refine kG 2 ?_;refine kN ?_;refine kP 1 ?_;intro aT b9 H;refine kN ?_;refine kS 1 ?_;intro cb H;refine kN ?_;refine t_nil ?_;exact ⟨l++([(aa.getD (Int.toNat x2) default)]),[cOwn (α:=Span) 32 aT (l++([(aa.getD (Int.toNat x2) default)])),cBlk ae [aT] 38,cBlk ac [B false] 4,cBlk ab [I 0,I 0] 32],(M.e_pure hM).symm,⟨aT,rfl⟩,H.pick [1,2,3,4,8,5,6,7] (by decide) rfl⟩
 replace H:St w bp (cAll (cObj aE (.loop aQ) :: [cOwn (α:=Span) 32 (.slice none 0 0) ([]),cBlk ae [(.slice none 0 0)] 38,cBlk ac [B false] 4,cBlk ab [I 0,I 0] 32]) :: [cBlk az [I aD] 3,cMk (aP :: ([])),cBlk aw [ah,ai,aj,ak,I au,I av,al] 105,cBlk ay [I to_] 3,cBlk ax [Pq ao] 157]) R:=St.bundleB (A:=cObj aE (.loop aQ) :: [cOwn (α:=Span) 32 (.slice none 0 0) ([]),cBlk ae [(.slice none 0 0)] 38,cBlk ac [B false] 4,cBlk ab [I 0,I 0] 32]) (T:=[cBlk az [I aD] 3,cMk (aP :: ([])),cBlk aw [ah,ai,aj,ak,I au,I av,al] 105,cBlk ay [I to_] 3,cBlk ax [Pq ao] 157]) rfl (H.pk [0,2,3,4,5,9,1,6,7,8]);refine (za4 (M.yl (zau aa to_)) (.inl ([])) aD aF aa aG aH au av aI hYC ⟨_,rfl,⟨(.slice none 0 0),rfl⟩⟩ (aJ.app _) a8 (aK.app _) bc (aL.app _) bf (aM.app _) bh (aN.app _) bi (Has.here (k:=1) rfl) bo _ (H.gt 4)).mono ?_;rintro vq cc ⟨bw,q0,cd,rfl,hvq,bj,bm⟩;replace H:=H.back bj rfl;clear bj hYC;rcases bw with l | ⟨l2,l3,s,s2⟩
 ·obtain ⟨_,rfl,ag,rfl⟩:=bm;refine ⟨_,[cOwn (α:=Span) 32 ag l,cBlk ae [ag] 38,cBlk ac [B false] 4,cBlk ab [I 0,I 0] 32,cBlk aw [ah,ai,aj,ak,I au,I av,al] 105,cBlk ay [I to_] 3,cBlk ax [Pq ao] 157,cBlk az [I q0] 3],H.unbundle.pick [0,6,1,2,3,4,7,8,9,5] (by decide) rfl,aR.nb,?_⟩;intro bA H;rw [aR.pd];replace H:=H.nf
  try simp only []
  replace H:=H.pk [0,3,4];refine WD.seq<|WD.of ?_;refine kS 2 ?_;intro ce H;refine ksw ?_;intro cf H;refine s_nil<|WD.of ?_;refine W.ret ?_;refine bodyD_r (H.pk [0,1,2]) ?_;intro cg H;replace H:=H.nf
  have bB:=(H.bl 1)
  have bC:=(H.bl 0)
  have aU:=M.e_pure hM;exact ⟨_,(resE_ofn (vs:=[.agg #[I 0,I 0],B false]) rfl rfl (.cell (v:=.agg #[I 0,I 0]) rfl (run_loadVar_ag (ds:=[I 0,I 0]) Ag32.h Sz32.h bB rfl rfl)<|.cell (v:=B false) rfl (run_loadVar_sc Sc4.h bC rfl)<|.nil)),⟨0,0,false,aU,rfl,(H.pk [])⟩⟩
 obtain ⟨_,rfl,aq,rfl⟩:=bm;refine ⟨_,[cOwn (α:=Span) 32 aq l3,cBlk ae [aq] 38,cBlk ac [B true] 4,cBlk ab [I s,I s2] 32,cBlk aw [ah,ai,aj,ak,I au,I av,al] 105,cBlk ay [I to_] 3,cBlk ax [Pq ao] 157,cBlk az [I q0] 3],H.unbundle.pick [0,6,1,2,3,4,7,8,9,5] (by decide) rfl,nofun,?_⟩;intro bA H;show WD _ _ _ (.ret) _ _ _;refine WD.of ?_;refine W.ret ?_;replace H:=H.nf;refine bodyD_r (H.pk [0,1,2,3,4,5,6,7,8]) ?_;intro ch H;replace H:=H.nf;have bD:=(H.bl 3)
 have bE:=(H.bl 2)
 have aU:=M.e_pure hM;exact ⟨_,(resE_ofn (vs:=[.agg #[I s,I s2],B true]) rfl rfl (.cell (v:=.agg #[I s,I s2]) rfl (run_loadVar_ag (ds:=[I s,I s2]) Ag32.h Sz32.h bD rfl rfl)<|.cell (v:=B true) rfl (run_loadVar_sc Sc4.h bE rfl)<|.nil)),⟨s,s2,true,aU,rfl,(H.pk [])⟩⟩

def zaw (ac:List Int) (ae:List Span) (ag:List Int) (aa:List Town) (ah ab:Int) (ai:List Flood) (d:Dem):(List Int)->(Int × Int)->M ((List Int) ⊕ Unit):=fun l (x,x2) =>
  M.bind (za7 ac ae ag aa ah ab ai x2 ((aa.getD (Int.toNat d.town) default).station)) fun (aj,ak,r1) =>
  M.grd ((!r1||(decide ((-9223372036854775808:Int)<=(((aa.getD (Int.toNat d.town) default).lead)+ab))&&decide ((((aa.getD (Int.toNat d.town) default).lead)+ab)<=(9223372036854775807:Int))))) <|
  bif (r1&&(decide ((((aa.getD (Int.toNat d.town) default).lead)+ab)<=aj))) then (
  M.grd (decide ((l.length+([(x2:Int)]).length)*8<=140737488355328)) <|
  M.pure (.inl (l++([(x2:Int)]))))
  else (
  M.pure (.inl l))
def zaa (ab:List Int) (ac:List Span) (ae:List Int) (aa:List Town) (ah ai:Int) (ag:List Flood) (d:Dem):M (List Int) :=
  M.grd (decide ((0:Int)<=d.town)&&decide (d.town<(aa.length:Int))) <|
  M.bind (zaM ab ac ae aa ah ai ag d.spring) fun (aj,ak,al) =>
  M.bind (zaH (M.yl (zaw ab ac ae aa ah ai ag d)) (.inl ([])) aj ab ac ae aa ak al ag) fun x_=>match x_ with
  | (.inl l,q0)=>(
  M.pure l)
  | (.inr _,_)=>M.fail
theorem zbk {R ay a7 ao a8 ap bc aq bf au bh av ag aw}(ah ai aj aa ac ae ak d)(aL:Reads R a7)(bi:Sl a7 ao ah)(aM:Reads R a8)(bj:Sl a8 ap ai)(aN:Reads R bc)(bm:Sl bc aq aj)(aO:Reads R bf)(bn:Sl bf au aa)(aP:Reads R bh)(bo:Sl bh av ak)(aQ:Has R (cBlk ay [ao,ap,aq,au,I ac,I ae,av,.map (some ag)] 202)){r}(hM:(zaa ah ai aj aa ac ae ak d).Ends r)(w)(H:St w w [cMem encDm ag aw (zaa ah ai aj aa ac ae ak)] R):Ret Tryz.prog 103 #[Pq ay,.agg #[I d.spring,I d.town]] w fun v w'=>∃ y0 u0 bp,y0=r/\v=u0/\St w w' [cMem encDm ag bp (zaa ah ai aj aa ac ae ak)] R/\Sl bp.cells u0 y0:=by
 refine ret_of_WD Tryz.func103 rfl rfl rfl ?_;replace H:St w w [cMk ([]),cMem encDm ag aw (zaa ah ai aj aa ac ae ak)] R:=H.mk0;have bK:=bi.len_le;have bL:=bj.len_le;have bM:=bm.len_le;have bN:=bn.len_le;have bO:=bo.len_le;unfold zaa at hM;have hM0:=hM;obtain ⟨al,H,aR⟩:=St.memOpen H (i:=1) rfl;replace H:=H.nf;cases aS:al d with
 | none =>
  refine WD.seq<|WD.of ?_;refine kB 1 ?_;intro az bP H;refine kbx ?_;intro aA bQ H;refine kg 2 ?_;refine WD.seq<|WD.seq<|WD.of ?_;refine kD 0 [0,1,3,4] [5] ?_;intro bR H;refine kG 6 ?_;refine s_val (q_look (kenc:=encDm) (venc:=id) (f:=al) (k:=d) (z:=.slice none 0 0) (v:=.tuple #[.slice none 0 0,B false]) keyDem Tryz.underlying200 (by kernel_rfl) rfl rfl (H.get (k:=2) rfl) true (by simp [aS])) ?_;refine kN ?_;refine kg 6 ?_;refine WD.seq<|WD.of ?_;refine kg 3 ?_
  refine WD.cond false rfl (fun br=>?_) (fun br=>?_)
  ·exact absurd br (by decide)
  refine WD.of<|W.skip<|WD.seq<|WD.of ?_;refine kA 1 ?_;intro ax bS H;refine s_nil<|WD.seq<|WD.of ?_;refine kD 0 [0,1,2,3,4,5] [9,10] ?_;intro bT H;obtain ⟨bU,hM⟩:=M.e_gq hM;refine kA 10 ?_;intro aF bV H;refine kN ?_;refine kS 1 ?_;intro bW H;refine kN ?_;refine d_nil<|WD.seq<|WD.seq<|WD.of ?_;refine kD 0 [0,1,2,3,4,5,6] [6] ?_;intro bX H;refine kg 3 ?_;refine d_q rfl (fun w' H=>x_ld (v:=.agg #[ao,ap,aq,au,I ac,I ae,av]) rfl (ldb_ag (ds:=[ao,ap,aq,au,I ac,I ae,av]) Ag105.h Sz105.h (aQ.blk H) rfl rfl)) ?_;refine kC 3 @za8 ?_;intro bY aH aB aC aG aD hM H;refine kN ?_;refine d_nil<|WD.block ?_
  replace H:=H.nilOwn (α:=Int) 3;obtain ⟨bZ,bw,hM⟩:=M.e_bind hM;refine WD.range (L:=[cOwn (α:=Int) 3 (.slice none 0 0) ([]),cBlk ax [(.slice none 0 0)] 26,cBlk aD [ao,ap,aq,au,I aB,I aC,av] 105,cBlk aF [I ((aa.getD (Int.toNat d.town) default).station),I ((aa.getD (Int.toNat d.town) default).lead),I ((aa.getD (Int.toNat d.town) default).alarm)] 164,cBlk aA [I d.spring,I d.town] 207,cBlk az [Pq ay] 157,cMap encDm id ag al,cRx aw,cBlk aG [I aH] 3]) [Pq aG,Pq aD] (H.pk [9,0,4,2,3,5,6,7,8,1]) rfl cq ?_;intro aI aJ aT bA aU H;have hYC:YieldC Tryz.prog ([cMk (aJ :: ([])),cBlk aD [ao,ap,aq,au,I aB,I aC,av] 105,cBlk aF [I ((aa.getD (Int.toNat d.town) default).station),I ((aa.getD (Int.toNat d.town) default).lead),I ((aa.getD (Int.toNat d.town) default).alarm)] 164,cBlk aA [I d.spring,I d.town] 207,cBlk az [Pq ay] 157,cMap encDm id ag al,cRx aw]++R) arII (yJ aI aT (fun l aK=>∃ (ab:Value),aK=[cOwn (α:=Int) 3 ab l,cBlk ax [ab] 26]) (fun (_:Unit) _=>False) (fun _=>.ret)) (.func (.yield aI) #[] #[]) (M.yl (zaw ah ai aj aa ac ae ak d)):=by
   refine YieldC.mk aU (fun l aK=>∃ (ab:Value),aK=[cOwn (α:=Int) 3 ab l,cBlk ax [ab] 26]) (fun (_:Unit) _=>False) (fun _=>.ret) (zaw ah ai aj aa ac ae ak d) (by rintro l _ h_; obtain ⟨_,rfl⟩:=h_; rfl) (fun _ _ h_=>h_.elim) rfl (arII_len rfl) ?_;intro C_ b5 x_ W_ bB;obtain ⟨x,x2⟩:=x_;obtain rfl:=bB;refine kg 3 ?_;refine ⟨rfl,rfl,?_⟩;intro w R aE aK s_ r bC hM H
   skip
   obtain ⟨l,bD⟩:∃ y_,y_=s_:=⟨_,rfl⟩
   subst bD;obtain ⟨ab,rfl⟩:=bC;replace aL:=aL.sub aE;replace aM:=aM.sub aE;replace aN:=aN.sub aE;replace aO:=aO.sub aE;replace aP:=aP.sub aE;replace aQ:=aQ.sub aE;replace hM:(zaw ah ai aj aa ac ae ak d l (x,x2)).Ends r:=hM;simp only [zaw] at hM;replace H:=H.pk [0,1,3,4,5,6,7,8,2];refine kC 7 @zct ?_;intro b6 b7 b8 r1 hM H;refine kA 3 ?_;intro b9 cb H;refine ksw ?_;intro cc H;refine kD 3 [0,1,2,3,4,5,6,7,8,9] [] ?_;intro cd H;obtain ⟨aV,hM⟩:=M.e_grd hM;replace aV:=M.imp_of aV;simp only [Bool.and_eq_true,decide_eq_true_eq] at aV;refine kI 16 ?_ ?_
   ·intro bE hM;refine kL 3 (α:=Int) [x2] ?_;intro ce cf H;obtain ⟨cg,hM⟩:=M.e_gq hM;refine kP 0 ?_;intro aW ch H;refine kS 0 ?_;intro cj H;refine s_nil ?_;exact ⟨l++([(x2:Int)]),[cOwn (α:=Int) 3 aW (l++([(x2:Int)])),cBlk ax [aW] 26],(M.e_pure hM).symm,⟨aW,rfl⟩,H.pick [2,3,10,4,5,6,7,8,9] (by decide) rfl⟩
   intro bE hM;refine W.skip ?_;exact ⟨l,[cOwn (α:=Int) 3 ab l,cBlk ax [ab] 26],(M.e_pure hM).symm,⟨ab,rfl⟩,H.pick [1,2,9,3,4,5,6,7,8] (by decide) rfl⟩
  replace H:St w bA (cAll (cObj aI (.loop aT) :: [cOwn (α:=Int) 3 (.slice none 0 0) ([]),cBlk ax [(.slice none 0 0)] 26]) :: [cBlk aG [I aH] 3,cMk (aJ :: ([])),cBlk aD [ao,ap,aq,au,I aB,I aC,av] 105,cBlk aF [I ((aa.getD (Int.toNat d.town) default).station),I ((aa.getD (Int.toNat d.town) default).lead),I ((aa.getD (Int.toNat d.town) default).alarm)] 164,cBlk aA [I d.spring,I d.town] 207,cBlk az [Pq ay] 157,cMap encDm id ag al,cRx aw]) R:=St.bundleB (A:=cObj aI (.loop aT) :: [cOwn (α:=Int) 3 (.slice none 0 0) ([]),cBlk ax [(.slice none 0 0)] 26]) (T:=[cBlk aG [I aH] 3,cMk (aJ :: ([])),cBlk aD [ao,ap,aq,au,I aB,I aC,av] 105,cBlk aF [I ((aa.getD (Int.toNat d.town) default).station),I ((aa.getD (Int.toNat d.town) default).lead),I ((aa.getD (Int.toNat d.town) default).alarm)] 164,cBlk aA [I d.spring,I d.town] 207,cBlk az [Pq ay] 157,cMap encDm id ag al,cRx aw]) rfl (H.pk [0,2,3,10,1,4,5,6,7,8,9]);refine (za4 (M.yl (zaw ah ai aj aa ac ae ak d)) (.inl ([])) aH ah ai aj aa aB aC ak hYC ⟨_,rfl,⟨(.slice none 0 0),rfl⟩⟩ (aL.app _) bi (aM.app _) bj (aN.app _) bm (aO.app _) bn (aP.app _) bo (Has.here (k:=1) rfl) bw _ (H.gt 7)).mono ?_;rintro vq ck ⟨bF,q0,ct,rfl,hvq,bt,bu⟩;replace H:=H.back bt rfl;clear bt hYC;rcases bF with l | _
  ·obtain ⟨_,rfl,ab,rfl⟩:=bu;refine ⟨_,[cOwn (α:=Int) 3 ab l,cBlk ax [ab] 26,cBlk aD [ao,ap,aq,au,I aB,I aC,av] 105,cBlk aF [I ((aa.getD (Int.toNat d.town) default).station),I ((aa.getD (Int.toNat d.town) default).lead),I ((aa.getD (Int.toNat d.town) default).alarm)] 164,cBlk aA [I d.spring,I d.town] 207,cBlk az [Pq ay] 157,cMap encDm id ag al,cRx aw,cBlk aG [I q0] 3],H.unbundle.pick [0,4,1,2,5,6,7,8,9,10,3] (by decide) rfl,aU.nb,?_⟩;intro cu H;rw [aU.pd];replace H:=H.nf
   try simp only []
   replace H:=H.pk [0,1,2,5,6,7,8];refine WD.seq<|WD.of ?_;refine kD 0 [0,1,2,3,4,6] [6] ?_;intro cv H;refine kG 7 ?_;refine t_mapu (i:=5) (kenc:=encDm) (venc:=id) (f:=al) (k:=d) (v:=ab) (L':=[cMk (aJ :: ([])),cOwn (α:=Int) 3 ab l,cBlk ax [ab] 26,cBlk aA [I d.spring,I d.town] 207,cBlk az [Pq ay] 157,cMap encDm id ag (updF al d ab),cRx aw]) keyDem Tryz.underlying200 H rfl rfl rfl rfl rfl ?_;intro cw H;refine kN ?_;refine d_nil ?_;replace H:=H.pk [0,1,2,5,6];refine WD.seq<|WD.of ?_;refine kg 4 ?_;refine WD.of ?_;refine W.ret ?_;refine bodyD_r (H.pk [0,1,2,3,4]) ?_;intro cA H;replace H:=H.nf
   obtain ⟨bG,cB,bH,H⟩:=St.memShut1 (H.pk [2,3,0,1]) aR (by rw [M.e_pure hM]; exact hM0);replace H:=H.nf;have aX:=M.e_pure hM;exact ⟨_,resE_tmp rfl,⟨l,ab,bG,aX,rfl,(H.pk [0]),bH⟩⟩
  obtain ⟨_,_,h_⟩:=bu; exact h_.elim
 | some aY =>
  obtain ⟨aZ,bI,bJ⟩:=aR d aY aS;obtain rfl:=M.Ends.det bI hM0;replace hM:(M.pure aZ).Ends aZ:=M.i_pure;refine WD.seq<|WD.of ?_;refine kB 1 ?_;intro az cC H;refine kbx ?_;intro aA cD H;refine kg 2 ?_;refine WD.seq<|WD.seq<|WD.of ?_;refine kD 0 [0,1,3,4] [5] ?_;intro cE H;refine kG 6 ?_;refine s_val (q_look (kenc:=encDm) (venc:=id) (f:=al) (k:=d) (z:=.slice none 0 0) (v:=.tuple #[aY,B true]) keyDem Tryz.underlying200 (by kernel_rfl) rfl rfl (H.get (k:=2) rfl) true (by simp [aS])) ?_;refine kN ?_;refine kg 6 ?_;refine WD.seq<|WD.of ?_;refine kg 3 ?_
  refine WD.cond true rfl (fun bv=>?_) (fun bv=>?_)
  ·refine WD.seq<|WD.of ?_;refine kg 4 ?_;replace H:=H.pk [2,3,4];refine WD.of ?_;refine W.ret ?_;refine bodyD_r (H.pk [2,0,1]) ?_;intro cF H;replace H:=H.nf
   replace H:=St.memShut (H.pk [0,1]) aR;replace H:=H.nf;have aX:=M.e_pure hM;exact ⟨_,resE_tmp rfl,⟨aZ,aY,aw,aX,rfl,H,bJ⟩⟩
  exact absurd bv (by decide)

def zah (n aa greatest:Int):M Bool :=
  M.pure ((decide (aa<=n))&&(decide (n<=greatest)))
theorem zai {R}(n aa greatest){r}(hM:(zah n aa greatest).Ends r)(w)(H:St w w [] R):Ret Tryz.prog 138 #[I n,I aa,I greatest] w fun v w'=>∃ y0,y0=r/\v=B y0/\St w w' [] R:=by
 refine ret_of_W Tryz.func138 rfl rfl rfl ?_;refine kg 16 ?_;exact rt

def zbo (s:Span):M Bool :=
  M.bind (zah s.lo 0 s.hi) fun r2 =>
  M.bind (M.opt r2 (zah s.hi 0 1000) false) fun r3 =>
  M.pure (r2&&r3)
theorem zbH {R}(s){r}(hM:(zbo s).Ends r)(w)(H:St w w [] R):Ret Tryz.prog 139 #[.agg #[I s.lo,I s.hi]] w fun v w'=>∃ y0,y0=r/\v=B y0/\St w w' [] R:=by
 refine ret_of_W Tryz.func139 rfl rfl rfl ?_;refine kB 2 ?_;intro ae ag H;refine kC 8 @zai ?_;intro ah r2 hM H;refine kg 3 ?_;obtain ⟨r3,aa,hM⟩:=M.e_bind hM;refine t_gcall r2 (gy_t rfl) cq (B r3) (fun _=>[I s.hi,I 0,I 1000]) (fun hg=>lst3 (gd_of hg (I s.hi)) rfl rfl) H (fun hg=>(zai s.hi 0 1000 (M.e_opt aa hg) _ (H.give (A:=[]) rfl)).mono fun v_ w_ ⟨y_,ab,ac,H_⟩=>by subst ab; exact ⟨ac,H.via H_⟩) ?_;intro ai H;refine kg 3 ?_;exact rt

def zbX (l:List Int) (aa:Int):(Int × Nat)->M ((Int × Nat) ⊕ Unit):=fun (last,s) =>
  bif decide ((s:Int)<(l.length:Int)) then (
  M.grd (decide ((s:Int)<(l.length:Int))) <|
  M.gi (last+1) <|
  M.gi (aa-1) <|
  M.bind (zah (l.getD s 0) (last+1) (aa-1)) fun r2 =>
  bif !r2 then (
  M.fail)
  else (
  M.pure (.inl (l.getD s 0,s+1))))
  else (
  M.pure (.inr ()))
def zb9 (l:List Int) (aa:Int):M Bool :=
  M.bind (M.iter (zbX l aa) (-1,0)) fun (_:Unit) =>
  M.pure true
theorem zcY {R ac ab}(l aa)(ap:Reads R ac)(ag:Sl ac ab l){r}(hM:(zb9 l aa).Ends r)(w)(H:St w w [] R):Ret Tryz.prog 140 #[ab,I aa] w fun v w'=>∃ y0,y0=r/\v=B y0/\St w w' [] R:=by
 refine ret_of_W Tryz.func140 rfl rfl rfl ?_;have aq:=(ag).len_le;refine kg 16 ?_;obtain ⟨ah,ae,ai⟩:=M.e_bind hM;obtain ⟨au,ae⟩:=M.e_iter ae;refine W.loop (fun m σ W=>∃ (last:Int) (s:Nat) (ρ:Env),σ=upds ρ [(1,I aa),(5,I last),(8,ab),(9,I (l.length:Int)),(10,I (s:Int))]/\M.iterN (zbX l aa) m (last,s)=some ah/\St w W [] R) ?_ ?_
 ·exact kY
 rintro av σ aw ⟨last,s,ρ,rfl,aj,H⟩;obtain ⟨ax,ay,az,hM,ak⟩:=M.e_iterN aj;refine kI 5 ?_ ?_
 ·intro al hM;obtain ⟨aA,hM⟩:=M.e_gq hM;obtain ⟨aB,hM⟩:=M.e_gq hM;obtain ⟨aC,hM⟩:=M.e_gq hM;refine kC 17 @zai ?_;intro aD r2 hM H;refine kI 2 ?_ ?_
  ·intro ao hM;exact (M.e_fail hM).elim
  intro ao hM;exact kX 9
 intro al hM;refine W.exit ?_;obtain rfl:=M.e_inr hM ak;replace hM:=ai;refine kg 4 ?_;exact rt

def zcm (s:List Town) (f:Town->M Bool):Nat->M (Nat ⊕ Unit):=fun s2 =>
  bif decide ((s2:Int)<(s.length:Int)) then (
  M.grd (decide ((s2:Int)<(s.length:Int))) <|
  M.bind (f (s.getD s2 default)) fun r2 =>
  bif r2 then (
  M.fail)
  else (
  M.pure (.inl (s2+1))))
  else (
  M.pure (.inr ()))
def zcg (s:List Town) (f:Town->M Bool):M Int :=
  M.bind (M.iter (zcm s f) 0) fun (_:Unit) =>
  M.pure (-1)
theorem zc1 {R ac aa ab}(s f)(au:Reads R ac)(ag:Sl ac aa s)(ah:FnM Tryz.prog R ab f){r}(hM:(zcg s f).Ends r)(w)(H:St w w [] R):Ret Tryz.prog 193 #[aa,ab] w fun v w'=>∃ y0,y0=r/\v=I y0/\St w w' [] R:=by
 refine ret_of_W Tryz.func193 rfl rfl rfl ?_;have av:=(ag).len_le;refine kg 12 ?_;obtain ⟨ai,ae,aj⟩:=M.e_bind hM;obtain ⟨aw,ae⟩:=M.e_iter ae;refine W.loop (fun m σ W=>∃ (s2:Nat) (ρ:Env),σ=upds ρ [(0,aa),(1,ab),(7,I (s.length:Int)),(8,I (s2:Int))]/\M.iterN (zcm s f) m s2=some ai/\St w W [] R) ?_ ?_
 ·exact kY
 rintro ax σ ay ⟨s2,ρ,rfl,ak,H⟩;obtain ⟨az,aA,aB,hM,al⟩:=M.e_iterN ak;refine kI 5 ?_ ?_
 ·intro ao hM;obtain ⟨aC,hM⟩:=M.e_gq hM;refine kg 15 ?_;obtain ⟨r2,ap,hM⟩:=M.e_bind hM;refine t_callM H ah rfl rfl (s.getD s2 default) Reads.none ⟨_,rfl,rfl⟩ ap ?_;intro aD H;refine kI 1 ?_ ?_
  ·intro aq hM;exact (M.e_fail hM).elim
  intro aq hM;exact kX 5
 intro ao hM;refine W.exit ?_;obtain rfl:=M.e_inr hM al;replace hM:=aj;refine kg 4 ?_;exact rt

def zcp (s:List Town) (f:Town->M Bool):M Bool :=
  M.bind (zcg s f) fun r2 =>
  M.pure (decide (0<=r2))
theorem zc6 {R aa ab ac}(s f)(ae:Reads R aa)(ag:Sl aa ab s)(ah:FnM Tryz.prog R ac f){r}(hM:(zcp s f).Ends r)(w)(H:St w w [] R):Ret Tryz.prog 171 #[ab,ac] w fun v w'=>∃ y0,y0=r/\v=B y0/\St w w' [] R:=by
 refine ret_of_W Tryz.func171 rfl rfl rfl ?_;refine kC 8 @zc1 ?_;intro ai r2 hM H;refine kg 3 ?_;exact rt

def zbr (x:Town) (aa:Town->M Bool):M Bool :=
  M.bind (aa x) fun r2 =>
  M.pure (!r2)
theorem zdD {R aa ab}(x ac)(ae:FnM Tryz.prog R ab ac)(ah:Has R (cBlk aa [ab] 245)){r}(hM:(zbr x ac).Ends r)(w)(H:St w w [] R):Ret Tryz.prog 172 #[.agg #[I x.station,I x.lead,I x.alarm],Pq aa] w fun v w'=>∃ y0,y0=r/\v=B y0/\St w w' [] R:=by
 refine ret_of_W Tryz.func172 rfl rfl rfl ?_;refine kB 2 ?_;intro ai aj H;refine kg 6 ?_;obtain ⟨r2,ag,hM⟩:=M.e_bind hM;refine t_callM H ae rfl rfl x Reads.none ⟨_,rfl,rfl⟩ ag ?_;intro ak H;refine kg 3 ?_;exact rt

def zbl (l:List Town) (so:Town->M Bool):M Bool :=
  M.bind (zcp l (fun aa=>zbr aa so)) fun r2 =>
  M.pure (!r2)
theorem zbW {R ae aa ag}(l so)(ai:Reads R ae)(aj:Sl ae aa l)(ak:FnM Tryz.prog R ag so){r}(hM:(zbl l so).Ends r)(w)(H:St w w [] R):Ret Tryz.prog 141 #[aa,ag] w fun v w'=>∃ y0,y0=r/\v=B y0/\St w w' [] R:=by
 refine ret_of_W Tryz.func141 rfl rfl rfl ?_;refine kB 2 ?_;intro ab az H;refine kg 5 ?_;refine s_val (x_mf (fs:=[]) (cs:=[Pq ab]) rfl rfl) ?_;obtain ⟨aA,al,hM⟩:=M.e_bind hM;refine s_call cq [aa,.func (.func 172) #[] #[Pq ab]] rfl (zc6 l (fun ac=>zbr ac so) (ai.app _) aj ⟨172,[Pq ab],rfl,cq,fun ah aB aC ao ac aD ap aE aq au=>by obtain rfl:=Town_arg aq; exact (zdD ac so (FnM.app (ak.app _) _) (Has.app (Has.here (k:=0) rfl) _) au ah (St.refl ap)).mono fun ao ah ⟨aF,av,aw,ax⟩=>by subst av; exact ⟨aw,ax⟩⟩ al _ (H.gt 1)) ?_;rintro _ aG ⟨r2,rfl,rfl,ay⟩;replace H:=H.bk ay;refine kg 3 ?_;exact rt

def zaS (n:Int):M Bool :=
  M.bind (zah n 0 2000) fun r2 =>
  M.pure r2
theorem zck {R}(n){r}(hM:(zaS n).Ends r)(w)(H:St w w [] R):Ret Tryz.prog 145 #[I n] w fun v w'=>∃ y0,y0=r/\v=B y0/\St w w' [] R:=by
 refine ret_of_W Tryz.func145 rfl rfl rfl ?_;refine kC 7 @zai ?_;intro aa r2 hM H;refine kg 2 ?_;exact rt

def zbm (t:Town):M Bool :=
  M.bind (zah t.lead 0 1000) fun r2 =>
  M.bind (M.opt r2 (zaS t.alarm) false) fun r3 =>
  M.pure (r2&&r3)
theorem zdB {R}(t){r}(hM:(zbm t).Ends r)(w)(H:St w w [] R):Ret Tryz.prog 142 #[.agg #[I t.station,I t.lead,I t.alarm]] w fun v w'=>∃ y0,y0=r/\v=B y0/\St w w' [] R:=by
 refine ret_of_W Tryz.func142 rfl rfl rfl ?_;refine kB 2 ?_;intro ae ag H;refine kC 6 @zai ?_;intro ah r2 hM H;refine kg 3 ?_;obtain ⟨r3,aa,hM⟩:=M.e_bind hM;refine t_gcall r2 (gy_t rfl) cq (B r3) (fun _=>[I t.alarm]) (fun hg=>lst1 (gd_of hg (I t.alarm))) H (fun hg=>(zck t.alarm (M.e_opt aa hg) _ (H.give (A:=[]) rfl)).mono fun v_ w_ ⟨y_,ab,ac,H_⟩=>by subst ab; exact ⟨ac,H.via H_⟩) ?_;intro ai H;refine kg 3 ?_;exact rt

def zbx (t:Town) (aa:Int):M Bool :=
  M.gi (aa-1) <|
  M.bind (zah t.station 0 (aa-1)) fun r2 =>
  M.pure r2
theorem zcV {R aa}(t ab)(ac:Has R (cBlk aa [I ab] 3)){r}(hM:(zbx t ab).Ends r)(w)(H:St w w [] R):Ret Tryz.prog 143 #[.agg #[I t.station,I t.lead,I t.alarm],Pq aa] w fun v w'=>∃ y0,y0=r/\v=B y0/\St w w' [] R:=by
 refine ret_of_W Tryz.func143 rfl rfl rfl ?_;refine kB 2 ?_;intro ae ag H;obtain ⟨ah,hM⟩:=M.e_gq hM;refine kC 8 @zai ?_;intro ai r2 hM H;refine kg 2 ?_;exact rt

def zbh (x:Int) (aa:Int->M Bool):M Bool :=
  M.bind (aa x) fun r2 =>
  M.pure (!r2)
theorem zc7 {R aa ab}(x ac)(ae:FnM Tryz.prog R ab ac)(ah:Has R (cBlk aa [ab] 124)){r}(hM:(zbh x ac).Ends r)(w)(H:St w w [] R):Ret Tryz.prog 173 #[I x,Pq aa] w fun v w'=>∃ y0,y0=r/\v=B y0/\St w w' [] R:=by
 refine ret_of_W Tryz.func173 rfl rfl rfl ?_;refine kg 8 ?_;obtain ⟨r2,ag,hM⟩:=M.e_bind hM;refine t_callM H ae rfl rfl x Reads.none (Arg.mkI (fun _=>none) _) ag ?_;intro ai H;refine kg 3 ?_;exact rt

def zbB (l:List Int) (so:Int->M Bool):M Bool :=
  M.bind (zam l (fun aa=>zbh aa so)) fun r2 =>
  M.pure (!r2)
theorem zdH {R ae aa ag}(l so)(ai:Reads R ae)(aj:Sl ae aa l)(ak:FnM Tryz.prog R ag so){r}(hM:(zbB l so).Ends r)(w)(H:St w w [] R):Ret Tryz.prog 144 #[aa,ag] w fun v w'=>∃ y0,y0=r/\v=B y0/\St w w' [] R:=by
 refine ret_of_W Tryz.func144 rfl rfl rfl ?_;refine kB 2 ?_;intro ab az H;refine kg 5 ?_;refine s_val (x_mf (fs:=[]) (cs:=[Pq ab]) rfl rfl) ?_;obtain ⟨aA,al,hM⟩:=M.e_bind hM;refine s_call cq [aa,.func (.func 173) #[] #[Pq ab]] rfl (zcA l (fun ac=>zbh ac so) (ai.app _) aj ⟨173,[Pq ab],rfl,cq,fun ah aB aC ao ac aD ap aE aq au=>by obtain rfl:=Arg.int aq; exact (zc7 ac so (FnM.app (ak.app _) _) (Has.app (Has.here (k:=0) rfl) _) au ah (St.refl ap)).mono fun ao ah ⟨aF,av,aw,ax⟩=>by subst av; exact ⟨aw,ax⟩⟩ al _ (H.gt 1)) ?_;rintro _ aG ⟨r2,rfl,rfl,ay⟩;replace H:=H.bk ay;refine kg 3 ?_;exact rt

def zbF (aa:List Int) (ab:List Span):Nat->M (Nat ⊕ Unit):=fun s =>
  bif decide ((s:Int)<(aa.length:Int)) then (
  M.grd (decide ((s:Int)<(aa.length:Int))) <|
  M.bind (M.opt ((aa.getD s 0) != (-1)) (zah (aa.getD s 0) ((s:Int)+1) ((aa.length:Int)-1)) false) fun r4 =>
  bif (((aa.getD s 0) != (-1))&&(!r4)) then (
  M.fail)
  else (
  M.grd (decide ((s:Int)<(ab.length:Int))) <|
  M.bind (zbo (ab.getD s default)) fun r5 =>
  bif !r5 then (
  M.fail)
  else (
  M.pure (.inl (s+1)))))
  else (
  M.pure (.inr ()))
def zal  : Int->(Int × Int)->M (Int ⊕ Unit):=fun s2 (x,x2) =>
  M.gi (s2+1) <|
  M.pure (.inl (s2+1))
def zbQ (ac:List Int) (ae:List Span) (ab:List Int) (ag:List Town) (ah ai:Int) (aa:List Flood):Nat->M (Nat ⊕ Unit):=fun s3 =>
  bif decide ((s3:Int)<(aa.length:Int)) then (
  M.grd (decide ((s3:Int)<(aa.length:Int))) <|
  M.bind (zaM ac ae ab ag ah ai aa (max 0 ((aa.getD s3 default).spring))) fun (aj,ak,al) =>
  M.bind (zaH (M.yl zal) (.inl 0) aj ac ae ab ag ak al aa) fun x_=>match x_ with
  | (.inl s2,q0)=>(
  M.bind (zbu ab ((aa.getD s3 default).spring)) fun ao =>
  bif ((!ao)||((((aa.getD s3 default).stages).length:Int) != s2)) then (
  M.fail)
  else (
  M.bind (zbB ((aa.getD s3 default).stages) (fun ap=>zaS ap)) fun aq =>
  bif !aq then (
  M.fail)
  else (
  M.pure (.inl (s3+1)))))
  | (.inr _,_)=>M.fail)
  else (
  M.pure (.inr ()))
def zbz (aa:List Int) (ab:List Span) (ae:List Int) (ac:List Town) (ah ai:Int) (aj:List Flood):M Int :=
  M.bind (zah (aa.length:Int) 1 12) fun r2 =>
  M.bind (M.opt (!((!r2)||((ab.length:Int) != (aa.length:Int)))) (zah (ae.length:Int) 1 8) false) fun r3 =>
  bif (((((!r2)||((ab.length:Int) != (aa.length:Int)))||(!r3))||(decide (8<(ac.length:Int))))||(decide (20<(aj.length:Int)))) then (
  M.fail)
  else (
  M.bind (M.iter (zbF aa ab) 0) fun (_:Unit) =>
  M.bind (zb9 ae (aa.length:Int)) fun r6 =>
  bif !r6 then (
  M.fail)
  else (
  M.bind (zbl ac (fun ag=>zbm ag)) fun r7 =>
  M.bind (M.opt (!(!r7)) (zbl ac (fun ag=>zbx ag (aa.length:Int))) false) fun r8 =>
  M.bind (M.opt (!((!r7)||(!r8))) (zbo (⟨(ah:Int),(ai:Int)⟩:Span)) false) fun r9 =>
  bif (((!r7)||(!r8))||(!r9)) then (
  M.fail)
  else (
  M.bind (M.iter (zbQ aa ab ae ac ah ai aj) 0) fun (_:Unit) =>
  M.pure 0)))
theorem zdF {R bA ae bB ah bC ai bD ab bE ag}(aa aw ax ay aj ak ac)(a8:Reads R bA)(aX:Sl bA ae aa)(bc:Reads R bB)(bf:Sl bB ah aw)(bh:Reads R bC)(bi:Sl bC ai ax)(aH:Reads R bD)(aI:Sl bD ab ay)(aJ:Reads R bE)(aK:Sl bE ag ac){r}(hM:(zbz aa aw ax ay aj ak ac).Ends r)(w)(H:St w w [] R):Ret Tryz.prog 101 #[.agg #[ae,ah,ai,ab,I aj,I ak,ag]] w fun v w'=>∃ y0,y0=r/\v=I y0/\St w w' [] R:=by
 refine ret_of_WD Tryz.func101 rfl rfl rfl ?_;replace H:St w w [cMk ([])] R:=H.mk0;have cj:=aX.len_le;have ck:=bf.len_le;have ct:=bi.len_le;have cu:=aI.len_le;have cv:=aK.len_le;unfold zbz at hM;refine WD.seq<|WD.of ?_;refine kB 1 ?_;intro ap cw H;refine kg 2 ?_;refine WD.seq<|WD.of ?_
 have cA:=(aX).len_le;refine kA 4 ?_;intro al cB H;refine ksw ?_;intro cC H;refine s_nil<|WD.seq<|WD.seq<|WD.of ?_;refine kC 2 @zai ?_;intro cD r2 hM H
 have cE:=(bf).len_le;have cF:=(bi).len_le;refine kg 12 ?_;obtain ⟨r3,bO,hM⟩:=M.e_bind hM;refine t_gcall (!((!r2)||((aw.length:Int) != (aa.length:Int)))) (gy_f rfl) cq (B r3) (fun _=>[I (ax.length:Int),I 1,I 8]) (fun hg=>lst3 (gd_of hg (I (ax.length:Int))) rfl rfl) H (fun hg=>(zai (ax.length:Int) 1 8 (M.e_opt bO hg) _ (H.give (A:=[]) rfl)).mono fun v_ w_ ⟨y_,aq,az,H_⟩=>by subst aq; exact ⟨az,H.via H_⟩) ?_;intro cG H;have cH:=(aI).len_le;have cI:=(aK).len_le;refine kg 15 ?_;refine WD.cond (((((!r2)||((aw.length:Int) != (aa.length:Int)))||(!r3))||(decide (8<(ay.length:Int))))||(decide (20<(ac.length:Int)))) rfl (fun bj=>?_) (fun bj=>?_)
 ·replace hM:=M.e_t hM bj;exact (M.e_fail hM).elim
 replace hM:=M.e_f hM bj;refine WD.of<|W.skip<|WD.seq<|WD.seq<|WD.of ?_
 have cJ:=(aX).len_le;refine kg 6 ?_;refine WD.block ?_;obtain ⟨bP,bF,bQ⟩:=M.e_bind hM;obtain ⟨bR,bF⟩:=M.e_iter bF;refine WD.loop (fun m bG σ W=>∃ (s:Nat) (ρ:Env),σ=upds ρ [(1,Pq ap),(3,Pq al),(42,ae),(43,I (aa.length:Int)),(44,I (s:Int))]/\M.iterN (zbF aa aw) m s=some bP/\St w W [cBlk al [I (aa.length:Int)] 3,cBlk ap [ae,ah,ai,ab,I aj,I ak,ag] 105,cMk bG] R) ?_ ?_
 ·exact kY
 rintro cK bG σ cL ⟨s,ρ,rfl,bS,H⟩;obtain ⟨cM,cN,cO,hM,bT⟩:=M.e_iterN bS;refine WD.seq<|WD.of ?_;refine kg 3 ?_;refine WD.seq ?_
 refine WD.cond (decide ((s:Int)<(aa.length:Int))) rfl (fun aA=>?_) (fun aA=>?_)
 ·replace hM:=M.e_t hM aA;replace aA:=dI aA;refine WD.of<|W.skip<|WD.seq<|WD.block<|WD.seq<|WD.of ?_;obtain ⟨cP,hM⟩:=M.e_gq hM;refine kg 7 ?_;refine WD.block<|WD.seq<|WD.of ?_;refine kg 9 ?_;obtain ⟨r4,bU,hM⟩:=M.e_bind hM;refine t_gcall ((aa.getD s 0) != (-1)) (gy_t rfl) cq (B r4) (fun _=>[I (aa.getD s 0),I ((s:Int)+1),I ((aa.length:Int)-1)]) (fun hg=>lst3 (gd_of hg (I (aa.getD s 0))) (gd_of hg (I ((s:Int)+1))) (gd_of hg (I ((aa.length:Int)-1)))) H (fun hg=>(zai (aa.getD s 0) ((s:Int)+1) ((aa.length:Int)-1) (M.e_opt bU hg) _ (H.give (A:=[]) rfl)).mono fun v_ w_ ⟨y_,aq,az,H_⟩=>by subst aq; exact ⟨az,H.via H_⟩) ?_;intro cQ H;refine kg 4 ?_
  refine WD.cond (((aa.getD s 0) != (-1))&&(!r4)) rfl (fun bm=>?_) (fun bm=>?_)
  ·replace hM:=M.e_t hM bm;exact (M.e_fail hM).elim
  replace hM:=M.e_f hM bm;refine WD.seq<|WD.of ?_;obtain ⟨cR,hM⟩:=M.e_gq hM;refine kC 6 @zbH ?_;intro cS r5 hM H;refine kg 3 ?_
  refine WD.cond (!r5) rfl (fun bn=>?_) (fun bn=>?_)
  ·replace hM:=M.e_t hM bn;exact (M.e_fail hM).elim
  replace hM:=M.e_f hM bn;refine WD.of<|W.skip<|WD.of ?_
  exact kX 4
 replace hM:=M.e_f hM aA;replace aA:=dI aA;refine WD.of ?_;refine W.exit ?_;obtain rfl:=M.e_inr hM bT;replace hM:=bQ;refine WD.seq<|WD.block<|WD.seq<|WD.of ?_;refine kC 4 @zcY ?_;intro cT r6 hM H;refine kg 3 ?_
 refine WD.cond (!r6) rfl (fun bo=>?_) (fun bo=>?_)
 ·replace hM:=M.e_t hM bo;exact (M.e_fail hM).elim
 replace hM:=M.e_f hM bo;refine WD.seq<|WD.of ?_;refine kg 3 ?_;obtain ⟨cU,bV,hM⟩:=M.e_bind hM;refine s_call cq [ab,.func (.func 142) #[] #[]] rfl (zbW ay (fun ao=>zbm ao) (aH.app _) aI ⟨142,[],rfl,cq,fun au bH bI aL ao bJ aM bK aN aO=>by obtain rfl:=Town_arg aN; exact (zdB ao aO au (St.refl aM)).mono fun aL au ⟨bL,aP,aQ,aR⟩=>by subst aP; exact ⟨aQ,aR⟩⟩ bV _ (H.gt 3)) ?_
 rintro _ cV ⟨r7,rfl,rfl,aD⟩;replace H:=H.bk aD;refine kg 4 ?_;refine g_val (!(!r7)) (gy_f rfl) (fun hg=>x_mf (fs:=[]) (cs:=[Pq al]) rfl rfl) ?_;obtain ⟨r8,bW,hM⟩:=M.e_bind hM;refine t_gcall (!(!r7)) (gy_f rfl) cq (B r8) (fun _=>[ab,.func (.func 143) #[] #[Pq al]]) (fun hg=>lst2 (gd_of hg (ab)) (gd_of hg (.func (.func 143) #[] #[Pq al]))) H (fun hg=>(zbW ay (fun ao=>zbx ao (aa.length:Int)) (aH.app _) aI ⟨143,[Pq al],rfl,cq,fun au bH bI aL ao bJ aM bK aN aO=>by obtain rfl:=Town_arg aN; exact (zcV ao (aa.length:Int) (Has.app (Has.here (k:=0) rfl) _) aO au (St.refl aM)).mono fun aL au ⟨bL,aP,aQ,aR⟩=>by subst aP; exact ⟨aQ,aR⟩⟩ (M.e_opt bW hg) _ (H.give (A:=[]) rfl)).mono fun v_ w_ ⟨y_,aq,az,H_⟩=>by subst aq; exact ⟨az,H.via H_⟩) ?_;intro cW H;refine kg 5 ?_;obtain ⟨r9,bX,hM⟩:=M.e_bind hM;refine t_gcall (!((!r7)||(!r8))) (gy_f rfl) cq (B r9) (fun _=>[.agg #[I aj,I ak]]) (fun hg=>lst1 (gd_of hg (.agg #[I aj,I ak]))) H (fun hg=>(zbH (⟨(aj:Int),(ak:Int)⟩:Span) (M.e_opt bX hg) _ (H.give (A:=[]) rfl)).mono fun v_ w_ ⟨y_,aq,az,H_⟩=>by subst aq; exact ⟨az,H.via H_⟩) ?_;intro cX H;refine kg 4 ?_;refine WD.cond (((!r7)||(!r8))||(!r9)) rfl (fun bp=>?_) (fun bp=>?_)
 ·replace hM:=M.e_t hM bp;exact (M.e_fail hM).elim
 replace hM:=M.e_f hM bp;refine WD.of<|W.skip<|WD.seq<|WD.seq<|WD.of ?_
 have cY:=(aK).len_le;refine kg 6 ?_;refine WD.block ?_;obtain ⟨bY,bM,bZ⟩:=M.e_bind hM;obtain ⟨bR,bM⟩:=M.e_iter bM;refine WD.loop (fun m aS σ W=>∃ (s3:Nat) (ρ:Env),σ=upds ρ [(1,Pq ap),(95,ag),(96,I (ac.length:Int)),(97,I (s3:Int))]/\M.iterN (zbQ aa aw ax ay aj ak ac) m s3=some bY/\St w W [cBlk al [I (aa.length:Int)] 3,cBlk ap [ae,ah,ai,ab,I aj,I ak,ag] 105,cMk aS] R) ?_ ?_
 ·exact kY
 rintro cZ aS σ c3 ⟨s3,ρ,rfl,b5,H⟩;obtain ⟨c4,c6,c7,hM,b6⟩:=M.e_iterN b5;refine WD.seq<|WD.of ?_;refine kg 3 ?_;refine WD.seq ?_
 refine WD.cond (decide ((s3:Int)<(ac.length:Int))) rfl (fun aB=>?_) (fun aB=>?_)
 ·replace hM:=M.e_t hM aB;replace aB:=dI aB;refine WD.of<|W.skip<|WD.seq<|WD.block<|WD.seq<|WD.of ?_;obtain ⟨c8,hM⟩:=M.e_gq hM;refine kg 2 ?_
  obtain ⟨av,b7,aT⟩:=Flood_atA aK (i:=(s3:Int)) (by omega) (by omega);replace aT:Sl _ av (ac.getD s3 default).stages:=aT;have c9:=aT.len_le;refine s_val (x_ld (v:=.agg #[I ((ac.getD s3 default).spring),av]) rfl (ld_ag Ag166.h Sz166.h (At.mono b7 (aJ.at H)))) ?_;refine kal ?_;intro aU da H;refine kS 0 ?_;intro dc H;refine s_nil<|WD.seq<|WD.of ?_;refine kA 1 ?_;intro aC dg H;refine ksw ?_;intro dh H;refine s_nil<|WD.seq<|WD.seq<|WD.of ?_;refine kC 5 @za8 ?_;intro di aY aE aF aV aG hM H;refine s_nil<|WD.block ?_;obtain ⟨dj,b8,hM⟩:=M.e_bind hM;refine WD.range (L:=[cBlk aC [I 0] 3,cBlk aG [ae,ah,ai,ab,I aE,I aF,ag] 105,cBlk aU [I ((ac.getD s3 default).spring),av] 166,cBlk al [I (aa.length:Int)] 3,cBlk ap [ae,ah,ai,ab,I aj,I ak,ag] 105,cBlk aV [I aY] 3]) [Pq aV,Pq aG] (H.pk [6,2,1,3,4,5,0]) rfl cq ?_;intro aZ br bt b9 bu H
  have hYC:YieldC Tryz.prog ([cMk (br :: aS),cBlk aG [ae,ah,ai,ab,I aE,I aF,ag] 105,cBlk aU [I ((ac.getD s3 default).spring),av] 166,cBlk al [I (aa.length:Int)] 3,cBlk ap [ae,ah,ai,ab,I aj,I ak,ag] 105]++R) arII (yJ aZ bt (fun s2 a7=>a7=[cBlk aC [I s2] 3]) (fun (_:Unit) _=>False) (fun _=>.ret)) (.func (.yield aZ) #[] #[]) (M.yl zal):=by
   refine YieldC.mk bu (fun s2 a7=>a7=[cBlk aC [I s2] 3]) (fun (_:Unit) _=>False) (fun _=>.ret) zal (by rintro s2 _ h_; obtain ⟨rfl⟩:=h_; rfl) (fun _ _ h_=>h_.elim) rfl (arII_len rfl) ?_;intro C_ dk x_ W_ cb;obtain ⟨x,x2⟩:=x_;obtain rfl:=cb;refine W.skip ?_;refine ⟨rfl,rfl,?_⟩;intro w R aW a7 s_ r cc hM H
   skip
   obtain ⟨s2,cd⟩:∃ y_,y_=s_:=⟨_,rfl⟩
   subst cd;obtain ⟨rfl⟩:=cc;replace a8:=a8.sub aW;replace bc:=bc.sub aW;replace bh:=bh.sub aW;replace aH:=aH.sub aW;replace aJ:=aJ.sub aW;replace hM:(zal s2 (x,x2)).Ends r:=hM;simp only [zal] at hM;replace H:=H.pk [0,2,3,4,5,1];obtain ⟨dp,hM⟩:=M.e_gq hM;refine kS 4 ?_;intro dq H;refine s_nil ?_;exact ⟨s2+1,[cBlk aC [I (s2+1)] 3],(M.e_pure hM).symm,rfl,H.pick [0,5,1,2,3,4] (by decide) rfl⟩
  replace H:St w b9 (cAll (cObj aZ (.loop bt) :: [cBlk aC [I 0] 3]) :: [cBlk aV [I aY] 3,cMk (br :: aS),cBlk aG [ae,ah,ai,ab,I aE,I aF,ag] 105,cBlk aU [I ((ac.getD s3 default).spring),av] 166,cBlk al [I (aa.length:Int)] 3,cBlk ap [ae,ah,ai,ab,I aj,I ak,ag] 105]) R:=St.bundleB (A:=cObj aZ (.loop bt) :: [cBlk aC [I 0] 3]) (T:=[cBlk aV [I aY] 3,cMk (br :: aS),cBlk aG [ae,ah,ai,ab,I aE,I aF,ag] 105,cBlk aU [I ((ac.getD s3 default).spring),av] 166,cBlk al [I (aa.length:Int)] 3,cBlk ap [ae,ah,ai,ab,I aj,I ak,ag] 105]) rfl (H.pk [0,2,7,1,3,4,5,6]);refine (za4 (M.yl zal) (.inl 0) aY aa aw ax ay aE aF ac hYC ⟨_,rfl,rfl⟩ (a8.app _) aX (bc.app _) bf (bh.app _) bi (aH.app _) aI (aJ.app _) aK (Has.here (k:=1) rfl) b8 _ (H.gt 5)).mono ?_;rintro vq dr ⟨ce,q0,dt,rfl,hvq,aD,bN⟩;replace H:=H.back aD rfl;clear aD hYC;rcases ce with s2 | _
  ·obtain ⟨_,rfl,rfl⟩:=bN;refine ⟨_,[cBlk aC [I s2] 3,cBlk aG [ae,ah,ai,ab,I aE,I aF,ag] 105,cBlk aU [I ((ac.getD s3 default).spring),av] 166,cBlk al [I (aa.length:Int)] 3,cBlk ap [ae,ah,ai,ab,I aj,I ak,ag] 105,cBlk aV [I q0] 3],H.unbundle.pick [0,3,1,4,5,6,7,2] (by decide) rfl,bu.nb,?_⟩;intro dw H;rw [bu.pd];replace H:=H.nf
   try simp only []
   replace H:=H.pk [0,1,3,4,5];refine WD.block<|WD.seq<|WD.of ?_;refine kC 5 @zcG ?_;intro dz cf hM H
   have dA:=(aT).len_le;refine kg 10 ?_;refine WD.cond ((!cf)||((((ac.getD s3 default).stages).length:Int) != s2)) rfl (fun bv=>?_) (fun bv=>?_)
   ·replace hM:=M.e_t hM bv;exact (M.e_fail hM).elim
   replace hM:=M.e_f hM bv;refine WD.seq<|WD.of ?_;refine kg 3 ?_;obtain ⟨dB,cg,hM⟩:=M.e_bind hM;refine s_call cq [av,.func (.func 145) #[] #[]] rfl (zdH ((ac.getD s3 default).stages) (fun ao=>zaS ao) (aJ.app _) aT ⟨145,[],rfl,cq,fun au bH bI aL ao bJ aM bK aN aO=>by obtain rfl:=Arg.int aN; exact (zck ao aO au (St.refl aM)).mono fun aL au ⟨bL,aP,aQ,aR⟩=>by subst aP; exact ⟨aQ,aR⟩⟩ cg _ (H.gt 5)) ?_
   rintro _ dC ⟨ch,rfl,rfl,aD⟩;replace H:=H.bk aD;refine kg 3 ?_;refine WD.cond (!ch) rfl (fun bw=>?_) (fun bw=>?_)
   ·replace hM:=M.e_t hM bw;exact (M.e_fail hM).elim
   replace hM:=M.e_f hM bw;refine WD.of<|W.skip<|WD.of ?_
   exact kXp 4 [3,4,0]
  obtain ⟨_,_,h_⟩:=bN; exact h_.elim
 replace hM:=M.e_f hM aB;replace aB:=dI aB;refine WD.of ?_;refine W.exit ?_;obtain rfl:=M.e_inr hM b6;replace hM:=bZ;replace H:=H.pk [2];refine WD.seq<|WD.of ?_;refine kg 3 ?_;refine WD.of ?_;refine W.ret ?_;refine bodyD_r (H.pk [0]) ?_;intro dD H;replace H:=H.nf
 have aq:=M.e_pure hM;exact ⟨_,resE_tmp rfl,⟨0,aq,rfl,H⟩⟩

def zcv (ac:List Int) (ae:List Span) (ag:List Int) (ah:List Town) (aa ab:Int) (ai:List Flood):M (Int × Int × Int) :=
  M.bind (zbz ac ae ag ah aa ab ai) fun r2 =>
  bif r2 != 0 then (
  M.fail)
  else (
  M.pure (aa,ab,0))
theorem zdn {R aq ah au ai av aj aw ak ax al}(aa ab ac ae ao ap ag)(aC:Reads R aq)(aD:Sl aq ah aa)(aE:Reads R au)(aF:Sl au ai ab)(aG:Reads R av)(aH:Sl av aj ac)(aI:Reads R aw)(aJ:Sl aw ak ae)(aK:Reads R ax)(aL:Sl ax al ag){r}(hM:(zcv aa ab ac ae ao ap ag).Ends r)(w)(H:St w w [] R):Ret Tryz.prog 65 #[.agg #[ah,ai,aj,ak,I ao,I ap,al]] w fun v w'=>∃ y0 y1 y2 ay az aA,(y0,y1,y2)=r/\v = .tuple #[Pq ay,I y2]/\St w w' [cBlk ay [ah,ai,aj,ak,I y0,I y1,al,.map (some az)] 202,cMem encDm az aA (zaa aa ab ac ae y0 y1 ag)] R:=by
 refine ret_of_W Tryz.func65 rfl rfl rfl ?_;refine kB 2 ?_;intro aM aN H;refine kC 7 @zdF ?_;intro aO r2 hM H;refine kI 7 ?_ ?_
 ·intro aB hM;exact (M.e_fail hM).elim
 intro aB hM;refine kg 4 ?_;refine t_mkmem encDm (zaa aa ab ac ae ao ap ag) H ?_;intro aP aQ aR H;refine kB 1 ?_;intro aS aT H;exact kR 3 [0,1]

end Go.Proofs.YtlfkkkbhejeplaaGreat
end
