/- Part 5 of the texts on which the proof rests. Conditions: none. -/
import Derived.KernelRfl
import Derived.Test.YtdmdhmineljlhabGreatZA4
set_option linter.unusedVariables false
set_option linter.unusedSimpArgs false
set_option linter.unusedSectionVars false
-- libL/PN.lean
namespace Go.Nm
namespace M
variable {α β σ ρ:Type}
def Out (m:M α) (Q:α->Prop):Prop:=∃ r,m.Ends r/\Q r
theorem o_of {m:M α} {a:α} {Q:α->Prop} (h:m.Ends a) (q:Q a):m.Out Q:=⟨a,h,q⟩
theorem o_pure {a:α} {Q:α->Prop} (h:Q a):(pure a).Out Q:=⟨a,i_pure,h⟩
theorem o_mono {m:M α} {P Q:α->Prop} (h:m.Out P) (k:∀ a,P a->Q a):m.Out Q:=by
  obtain ⟨a,h1,h2⟩:=h
  exact ⟨a,h1,k a h2⟩
theorem o_bind {m:M α} {k:α->M β} {P:α->Prop} {Q:β->Prop} (h:m.Out P) (h':∀ a,P a->(k a).Out Q):(bind m k).Out Q:=by
  obtain ⟨a,h1,h2⟩:=h
  obtain ⟨b,h3,h4⟩:=h' a h2
  exact ⟨b,i_bind h1 h3,h4⟩
theorem o_bindE {m:M α} {k:α->M β} {a:α} {Q:β->Prop} (h:m.Ends a) (h':(k a).Out Q):(bind m k).Out Q:=o_bind (o_of (Q:=fun x=>x=a) h rfl) (fun _ e=>by subst e; exact h')
theorem o_grd {b:Bool} {k:M α} {Q:α->Prop} (hb:b=true) (h:k.Out Q):(grd b k).Out Q:=by subst hb; exact h
theorem o_grdD {p:Prop} [Decidable p] {k:M α} {Q:α->Prop} (hp:p) (h:k.Out Q):(grd (decide p) k).Out Q:=o_grd (decide_eq_true hp) h
theorem o_if {b:Bool} {x y:M α} {Q:α->Prop} (h:b=true->x.Out Q) (h':b=false->y.Out Q):(bif b then x else y).Out Q:=by
  cases b with
  | true=>exact h rfl
  | false=>exact h' rfl
theorem o_t {b:Bool} {x y:M α} {Q:α->Prop} (hb:b=true) (h:x.Out Q):(bif b then x else y).Out Q:=by subst hb; exact h
theorem o_f {b:Bool} {x y:M α} {Q:α->Prop} (hb:b=false) (h:y.Out Q):(bif b then x else y).Out Q:=by subst hb; exact h
theorem o_opt {b:Bool} {m:M α} {d:α} {Q:α->Prop} (h:b=true->m.Out Q) (h':b=false->Q d):(opt b m d).Out Q:=by
  cases b with
  | true=>exact h rfl
  | false=>exact o_pure (h' rfl)
/-- What a round leaves. -/
def Rd (J:Nat->σ->Prop) (Q:ρ->Prop) (m:Nat):σ ⊕ ρ->Prop
  | .inl s=>∃ m',m'<m/\J m' s
  | .inr r=>Q r
theorem o_iter {body:σ->M (σ ⊕ ρ)} {Q:ρ->Prop} (J:Nat->σ->Prop) (round:∀ m s,J m s->(body s).Out (Rd J Q m)):∀ (m:Nat) (s:σ),J m s->(iter body s).Out Q:=by
  intro m
  induction m using Nat.strongRecOn with
  | _ m ih =>
    intro s hs
    obtain ⟨x,h1,h2⟩:=round m s hs
    cases x with
    | inl s' =>
      obtain ⟨m',hlt,hj⟩:=h2
      obtain ⟨r,h3,h4⟩:=ih m' hlt s' hj
      exact ⟨r,i_next h1 h3,h4⟩
    | inr r=>exact ⟨r,i_stop h1,h2⟩
/-- A loop that counts from 0 to n. -/
theorem o_for {body:σ->M (σ ⊕ ρ)} {Q:ρ->Prop} (n:Nat) (J:Nat->σ->Prop) (round:∀ i s,i<n->J i s->(body s).Out (fun x=>match x with | .inl s'=>J (i+1) s' | .inr r=>Q r))
    (last:∀ s,J n s->(body s).Out (fun x=>match x with | .inl _=>False | .inr r=>Q r)) {s:σ} (h:J 0 s):(iter body s).Out Q:=by
  refine o_iter (fun m s=>∃ i,i<=n/\m=n-i/\J i s) ?_ n s ⟨0,Nat.zero_le _,rfl,h⟩
  rintro m s ⟨i,hi,rfl,hj⟩
  by_cases e:i<n
  · refine o_mono (round i s e hj) ?_
    intro x hx
    cases x with
    | inl s'=>exact ⟨n-(i+1),by omega,i+1,e,rfl,hx⟩
    | inr r=>exact hx
  · obtain rfl:i=n:=by omega
    refine o_mono (last s hj) ?_
    intro x hx
    cases x with
    | inl s'=>exact hx.elim
    | inr r=>exact hx
end M
theorem M.i_f {α:Type} {b:Bool} {x y:M α} {r:α} (hb:b=false) (h:y.Ends r):(bif b then x else y).Ends r:=by subst hb; exact h
theorem M.i_for {σ ρ:Type} {body:σ->M (σ ⊕ ρ)} {r:ρ} (st:Nat->σ) (n:Nat) (step:∀ i,i<n->(body (st i)).Ends (.inl (st (i+1)))) (fin:(body (st n)).Ends (.inr r)):(M.iter body (st 0)).Ends r:=by
  refine M.i_loop (r:=r) (fun m s=>∃ i,i<=n/\m=n-i/\s=st i) ?_ n (st 0) ⟨0,Nat.zero_le _,rfl,rfl⟩
  rintro m s ⟨i,hi,rfl,rfl⟩
  by_cases h:i<n
  · exact .inl ⟨_,n-(i+1),by omega,step i h,i+1,h,rfl,rfl⟩
  · obtain rfl:i=n:=by omega
    exact .inr fin
theorem M.i_t {α:Type} {b:Bool} {x y:M α} {r:α} (hb:b=true) (h:x.Ends r):(bif b then x else y).Ends r:=by subst hb; exact h
theorem gset {α:Type} (l:List α) (i j:Nat) (x d:α) (h:i<l.length):(l.set i x).getD j d=if j=i then x else l.getD j d:=by
  simp only [List.getD_eq_getElem?_getD,List.getElem?_set]
  by_cases e:i=j
  · subst e; simp [h]
  · rw [if_neg e,if_neg (fun h=>e h.symm)]
theorem getD_el {α:Type} (l:List α) {k:Nat} (h:k<l.length) (d:α):l.getD k d=l[k]:=by rw [List.getD_eq_getElem?_getD,List.getElem?_eq_getElem h,Option.getD_some]
theorem gOr {c:Bool} {p:Prop} [Decidable p] (hp:p):(!c||decide p)=true:=by rw [decide_eq_true hp,Bool.or_true]
theorem gOr2 {c:Bool} {p q:Prop} [Decidable p] [Decidable q] (hp:p) (hq:q):(!c||(decide p&&decide q))=true:=by rw [decide_eq_true hp,decide_eq_true hq]; cases c <;> rfl
theorem gA2 {p q:Prop} [Decidable p] [Decidable q] (hp:p) (hq:q):(decide p&&decide q)=true:=by rw [decide_eq_true hp,decide_eq_true hq]; rfl
theorem nodup_bound:∀ (n:Nat) (l:List Int),l.Nodup->(∀ x∈l,0<=x/\x<n)->l.length<=n
  | 0,l,_,hb=>by
    cases l with
    | nil=>exact Nat.le_refl _
    | cons x l=>have:=hb x (by simp); omega
  | n + 1, l, hn, hb => by
    by_cases hm:(n:Int)∈l
    · have h1:(l.erase (n:Int)).length=l.length-1:=List.length_erase_of_mem hm
      have h2:=nodup_bound n (l.erase (n:Int)) (hn.erase _) (fun x hx=>by
        have hx':=(List.Nodup.mem_erase_iff hn).1 hx
        have:=hb x hx'.2
        have:=hx'.1
        omega)
      have:=List.length_pos_of_mem hm
      omega
    · have:=nodup_bound n l hn (fun x hx=>by
        have:=hb x hx
        have:x ≠ n:=fun e=>hm (e ▸ hx)
        omega)
      omega
theorem mem_getD {α:Type} {l:List α} {x:α} (h:x∈l) (d:α):∃ i,i<l.length/\l.getD i d=x:=by
  obtain ⟨i,hi,e⟩:=List.getElem_of_mem h
  exact ⟨i,hi,by rw [getD_el l hi d]; exact e⟩
end Go.Nm
-- libO/OS.lean
namespace Go.Nm
structure SOk (c u x:Int):Prop where
  u0:0<=u
  u1:u<=c
  x0:0<=x
  x1:x<251
theorem SOk.mono {c d u x:Int} (h:SOk c u x) (hd:c<=d):SOk d u x:=⟨h.u0,Int.le_trans h.u1 hd,h.x0,h.x1⟩
/-- What a stream gives: a number below n. -/
structure Nx (c n:Int) (y:Int × Int × Int):Prop where
  ok:SOk c y.2.1 y.2.2
  lt:1<=n->0<=y.1/\y.1<n
  no:n<1->y.1=0
end Go.Nm
namespace Go.Proofs.YtdmdhmineljlhabGreat
open Go Go.Nm
theorem next_out {b:List UInt8} {c u x n:Int} (h:SOk c u x) (hc:c<=1000000000000) (hn:n<=1000000):(zac b u x n).Out (Nx (c+1) n):=by
  obtain ⟨u0,u1,x0,x1⟩:=h
  unfold zac
  refine M.o_if (fun hb=>?_) (fun hb=>?_)
  · simp only [Bool.or_eq_true,decide_eq_true_eq,beq_iff_eq] at hb
    refine M.o_pure ⟨⟨u0,by dsimp only; omega,x0,x1⟩,fun h1=>⟨Int.le_refl _,?_⟩,fun _=>rfl⟩
    dsimp only
    omega
  · simp only [Bool.or_eq_false_iff,decide_eq_false_iff_not,beq_eq_false_iff_ne,ne_eq] at hb
    have hl:(0:Int)<(b.length:Int):=by omega
    have m0:=Int.emod_nonneg u (show (b.length:Int) ≠ 0 by omega)
    have m1:=Int.emod_lt_of_pos u hl
    have d0:=Int.ediv_nonneg u0 (show (0:Int)<=(b.length:Int) by omega)
    have d1:u / (b.length:Int)<=u:=Int.ediv_le_self _ u0
    have y1:((b.getD (Int.toNat (u % (b.length:Int))) 0).toNat:Int)<256:=by
      have:=UInt8.toNat_lt (b.getD (Int.toNat (u % (b.length:Int))) 0)
      omega
    have y0:(0:Int)<=((b.getD (Int.toNat (u % (b.length:Int))) 0).toNat:Int):=Int.natCast_nonneg _
    generalize ((b.getD (Int.toNat (u % (b.length:Int))) 0).toNat:Int)=y at *
    generalize u % (b.length:Int)=m at *
    generalize u / (b.length:Int)=d at *
    have hn0:0<n:=by omega
    have fin:∀ z:Int,0<=z->0<=z % n/\z % n<n:=fun z hz=>⟨Int.emod_nonneg _ (by omega),Int.emod_lt_of_pos _ hn0⟩
    have pr:∀ z w:Int,0<=z->Nx (c+1) n (z % n,u+1,w % 251):=fun z w hz=>⟨⟨by dsimp only; omega,by dsimp only; omega,by dsimp only; omega,by dsimp only; omega⟩,fun _=>fin z hz,fun h=>by omega⟩
    refine M.o_grd (by simp only [Bool.and_eq_true,decide_eq_true_eq]; omega) (M.o_grd (by simp only [Bool.and_eq_true,decide_eq_true_eq]; omega) (M.o_grd (by simp only [Bool.and_eq_true,decide_eq_true_eq]; omega) ?_))
    refine M.o_if (fun h1=>?_) (fun h1=>?_)
    · refine M.o_grd (by simp only [Bool.and_eq_true,decide_eq_true_eq]; omega) (M.o_grd (by simp only [Bool.and_eq_true,decide_eq_true_eq]; omega) (M.o_grd (by simp only [Bool.and_eq_true,decide_eq_true_eq]; omega) (M.o_grd (by simp only [Bool.and_eq_true,decide_eq_true_eq]; omega) (M.o_grd (by simp only [Bool.and_eq_true,decide_eq_true_eq]; omega) ?_))))
      refine M.o_grd (by simp only [Bool.and_eq_true,decide_eq_true_eq]; omega) (M.o_grd (by simp only [Bool.and_eq_true,decide_eq_true_eq]; omega) (M.o_grd (by simp only [Bool.and_eq_true,decide_eq_true_eq]; omega) (M.o_grd (by simp only [Bool.and_eq_true,decide_eq_true_eq]; omega) ?_)))
      refine M.o_if (fun h2=>?_) (fun h2=>?_)
      · refine M.o_grd (by simp only [Bool.and_eq_true,decide_eq_true_eq]; omega) (M.o_grd (by simp only [Bool.and_eq_true,decide_eq_true_eq]; omega) (M.o_grd (by simp only [Bool.and_eq_true,decide_eq_true_eq]; omega) (M.o_pure (pr _ _ (by omega)))))
      · refine M.o_grd (by simp only [Bool.and_eq_true,decide_eq_true_eq]; omega) (M.o_pure (pr _ _ (by omega)))
    · refine M.o_grd (by simp only [Bool.and_eq_true,decide_eq_true_eq]; omega) (M.o_grd (by simp only [Bool.and_eq_true,decide_eq_true_eq]; omega) (M.o_grd (by simp only [Bool.and_eq_true,decide_eq_true_eq]; omega) (M.o_grd (by simp only [Bool.and_eq_true,decide_eq_true_eq]; omega) (M.o_grd (by simp only [Bool.and_eq_true,decide_eq_true_eq]; omega) ?_))))
      refine M.o_if (fun h2=>?_) (fun h2=>?_)
      · refine M.o_grd (by simp only [Bool.and_eq_true,decide_eq_true_eq]; omega) (M.o_grd (by simp only [Bool.and_eq_true,decide_eq_true_eq]; omega) (M.o_grd (by simp only [Bool.and_eq_true,decide_eq_true_eq]; omega) (M.o_pure (pr _ _ (by omega)))))
      · refine M.o_grd (by simp only [Bool.and_eq_true,decide_eq_true_eq]; omega) (M.o_pure (pr _ _ (by omega)))
theorem within_out {b:List UInt8} {c u x lo hi:Int} (h:SOk c u x) (hc:c<=1000000000000) (h0:-1000<=lo) (h1:lo<=hi) (h2:hi<=10000):(zag b u x lo hi).Out (fun y=>SOk (c+1) y.2.1 y.2.2/\lo<=y.1/\y.1<=hi):=by
  unfold zag
  refine M.o_grd (gA2 (by omega) (by omega)) (M.o_grd (gA2 (by omega) (by omega)) (M.o_bind (next_out h hc (by omega)) ?_))
  rintro ⟨r,u',x'⟩ ⟨k,hl,_⟩
  have:=hl (by omega)
  dsimp only at this k ⊢
  exact M.o_grd (gA2 (by omega) (by omega)) (M.o_pure ⟨k,by dsimp only; omega,by dsimp only; omega⟩)
end Go.Proofs.YtdmdhmineljlhabGreat
-- libO/OR.lean
namespace Go.Nm
theorem SOk.zero:SOk 0 0 0:=⟨Int.le_refl _,Int.le_refl _,Int.le_refl _,by decide⟩
end Go.Nm
namespace Go.Proofs.YtdmdhmineljlhabGreat
open Go Go.Nm
theorem pick_num {v n:Int} (h:1<=n/\n<=1000000):(zcc v n).Out (fun r=>0<=r/\r<n):=by
  unfold zcc
  have h1:Int.tmod v n<n:=Int.tmod_lt_of_pos v (by omega)
  have h2:-n<Int.tmod v n:=by
    have:=Int.tmod_lt_of_pos (-v) (show 0<n by omega)
    rw [Int.neg_tmod] at this
    omega
  refine M.o_f (decide_eq_false (by omega)) (M.o_grdD (by omega) (M.o_if (fun hb=>?_) (fun hb=>?_)))
  · have:=of_decide_eq_true hb
    exact M.o_grd (gA2 (by omega) (by omega)) (M.o_pure (by omega))
  · have:=of_decide_eq_false hb
    exact M.o_pure (by omega)
end Go.Proofs.YtdmdhmineljlhabGreat
-- libW/VA.lean
namespace Go.Nm
theorem M.Out.ends {α:Type} {m:M α} {a:α} (h:m.Out (fun r=>r=a)):m.Ends a:=by
  obtain ⟨r,h1,rfl⟩:=h
  exact h1
namespace Wn
def pth (dn:List Int):Nat->Int->List Int
  | 0,_=>[]
  | n+1,s=>if s = -1 then [] else s :: pth dn n (dn.getD (Int.toNat s) 0)
/-- The path of a station. -/
def P (dn:List Int) (s:Int):List Int:=pth dn dn.length s
/-- Each station leads on to one that is further down, or to none. -/
def Dn (dn:List Int):Prop:=∀ i,i<dn.length->dn.getD i 0 = -1∨((i:Int)+1<=dn.getD i 0/\dn.getD i 0<dn.length)
def Stn (dn:List Int) (s:Int):Prop:=s = -1∨(0<=s/\s<dn.length)
variable {dn:List Int}
theorem Dn.next (h:Dn dn) {s:Int} (h0:0<=s) (h1:s<dn.length):dn.getD (Int.toNat s) 0 = -1∨(s+1<=dn.getD (Int.toNat s) 0/\dn.getD (Int.toNat s) 0<dn.length):=by
  have:=h (Int.toNat s) (by omega)
  omega
theorem pth_none (n:Nat):pth dn n (-1)=[]:=by
  cases n with
  | zero=>rfl
  | succ n=>unfold pth; rw [if_pos rfl]
theorem pth_fuel (h:Dn dn):∀ (n m:Nat) (s:Int),Stn dn s->(s = -1∨(dn.length:Int)<=s+n)->(s = -1∨(dn.length:Int)<=s+m)->pth dn n s=pth dn m s:=by
  intro n
  induction n with
  | zero =>
    intro m s hs hn _
    have:s = -1:=by
      rcases hs with hs | hs
      · exact hs
      · rcases hn with hn | hn
        · exact hn
        · omega
    subst this
    rw [pth_none,pth_none]
  | succ n ih =>
    intro m s hs hn hm
    by_cases e:s = -1
    · subst e
      rw [pth_none,pth_none]
    · cases m with
      | zero =>
        rcases hs with hs | hs
        · exact absurd hs e
        · rcases hm with hm | hm
          · exact absurd hm e
          · omega
      | succ m =>
        rcases hs with hs | hs
        · exact absurd hs e
        · rcases hn with hn | hn
          · exact absurd hn e
          rcases hm with hm | hm
          · exact absurd hm e
          have hx:=h.next hs.1 hs.2
          unfold pth
          rw [if_neg e,if_neg e,ih m _ (by unfold Stn; omega) (by omega) (by omega)]
theorem P_none:P dn (-1)=[]:=pth_none _
theorem P_cons (h:Dn dn) {s:Int} (h0:0<=s) (h1:s<dn.length):P dn s=s :: P dn (dn.getD (Int.toNat s) 0):=by
  unfold P
  obtain ⟨k,hk⟩:∃ k,dn.length=k+1:=⟨dn.length-1,by omega⟩
  have hx:=h.next h0 h1
  conv=>lhs; rw [hk]; unfold pth
  rw [if_neg (by omega),pth_fuel h k dn.length _ (by unfold Stn; omega) (by omega) (by omega)]
theorem Dn.next_st (h:Dn dn) {s:Int} (h0:0<=s) (h1:s<dn.length):Stn dn (dn.getD (Int.toNat s) 0):=by
  have:=h.next h0 h1
  unfold Stn
  omega
theorem Dn.ind (h:Dn dn) {p:Int->Prop} (none:p (-1)) (step:∀ s:Int,0<=s->s<dn.length->p (dn.getD (Int.toNat s) 0)->p s):∀ s,Stn dn s->p s:=by
  have key:∀ (n:Nat) (s:Int),Stn dn s->(dn.length:Int)-s<=n->p s:=by
    intro n
    induction n with
    | zero =>
      intro s hs hn
      rcases hs with rfl | hs
      · exact none
      · omega
    | succ n ih =>
      intro s hs hn
      rcases hs with rfl | hs
      · exact none
      · refine step s hs.1 hs.2 ?_
        have hx:=h.next hs.1 hs.2
        rcases hx with hx | hx
        · rw [hx]; exact none
        · exact ih _ (.inr (by omega)) (by omega)
  intro s hs
  exact key (Int.toNat ((dn.length:Int)-s)) s hs (by omega)
theorem P_mem (h:Dn dn):∀ s,Stn dn s->∀ x∈P dn s,s<=x/\0<=x/\x<dn.length:=by
  refine h.ind (fun x hx=>by rw [P_none] at hx; cases hx) fun s h0 h1 ih x hx=>?_
  rw [P_cons h h0 h1] at hx
  have hn:=h.next h0 h1
  rcases List.mem_cons.1 hx with rfl | hx
  · omega
  · have:=ih x hx
    rcases hn with hn | hn
    · rw [hn,P_none] at hx
      cases hx
    · omega
theorem P_len (h:Dn dn):∀ s,Stn dn s->((P dn s).length:Int)<=dn.length-s∨P dn s=[]:=by
  refine h.ind (.inr P_none) fun s h0 h1 ih=>?_
  rw [P_cons h h0 h1,List.length_cons]
  have hn:=h.next h0 h1
  left
  rcases ih with ih | ih
  · rcases hn with hn | hn
    · rw [hn,P_none]; simp; omega
    · omega
  · rw [ih]; simp; omega
theorem P_short (h:Dn dn) {s:Int} (hs:Stn dn s):(P dn s).length<=dn.length:=by
  rcases P_len h s hs with k | k
  · rcases hs with rfl | hs
    · rw [P_none]; exact Nat.zero_le _
    · omega
  · rw [k]; exact Nat.zero_le _
/-- What is left of a path is the path of its first station. -/
theorem P_drop (h:Dn dn):∀ s,Stn dn s->∀ (i:Nat) (hi:i<(P dn s).length),P dn (P dn s)[i]=(P dn s).drop i:=by
  refine h.ind (fun i hi=>by rw [P_none] at hi; cases hi) fun s h0 h1 ih i hi=>?_
  have e:=P_cons h h0 h1
  cases i with
  | zero =>
    have:(P dn s)[0]=s:=by simp [e]
    rw [this,List.drop_zero]
  | succ i =>
    have hi':i<(P dn (dn.getD (Int.toNat s) 0)).length:=by
      rw [e,List.length_cons] at hi
      omega
    have e1:(P dn s)[i+1]=(P dn (dn.getD (Int.toNat s) 0))[i]:=by simp [e]
    rw [e1,ih i hi']
    conv=>rhs; rw [e]
    rw [List.drop_succ_cons]
theorem P_up (h:Dn dn):∀ s,Stn dn s->(P dn s).Pairwise (· < ·):=by
  refine h.ind (by rw [P_none]; exact List.Pairwise.nil) fun s h0 h1 ih=>?_
  rw [P_cons h h0 h1,List.pairwise_cons]
  refine ⟨fun x hx=>?_,ih⟩
  have hn:=h.next h0 h1
  have:=P_mem h _ (h.next_st h0 h1) x hx
  rcases hn with hn | hn
  · rw [hn,P_none] at hx; cases hx
  · omega
/-- The stations ahead of one. -/
def upto (p:List Int) (y:Int):List Int:=p.takeWhile fun x=>!(x==y)
theorem upto_take {p:List Int} {y:Int} {k:Nat} (hk:p[k]?=some y) (hn:∀ x∈p.take k,x ≠ y):upto p y=p.take k:=by
  induction p generalizing k with
  | nil=>simp at hk
  | cons x p ih =>
    cases k with
    | zero =>
      simp only [List.getElem?_cons_zero,Option.some.injEq] at hk
      subst hk
      unfold upto
      simp
    | succ k =>
      simp only [List.getElem?_cons_succ] at hk
      have hx:x ≠ y:=hn x (by simp)
      have:=ih hk (fun z hz=>hn z (by simp [hz]))
      unfold upto at this ⊢
      rw [List.takeWhile_cons,if_pos (by simp [hx]),this,List.take_succ_cons]
theorem P_split (h:Dn dn) {x y:Int} (hx:Stn dn x) (hy:y∈P dn x):P dn x=upto (P dn x) y++P dn y:=by
  obtain ⟨k,hk,e⟩:=List.getElem_of_mem hy
  have hu:=P_up h x hx
  have h1:upto (P dn x) y=(P dn x).take k:=by
    refine upto_take (by rw [List.getElem?_eq_getElem hk,e]) fun z hz=>?_
    obtain ⟨j,hj,rfl⟩:=List.getElem_of_mem hz
    rw [List.length_take] at hj
    rw [List.getElem_take]
    have:=List.pairwise_iff_getElem.1 hu j k (by omega) hk (by omega)
    omega
  have h2:=P_drop h x hx k hk
  rw [e] at h2
  rw [h1,h2,List.take_append_drop]
theorem upto_trans (h:Dn dn) {x y z:Int} (hx:Stn dn x) (hy:y∈P dn x) (hz:z∈P dn y):z∈P dn x/\upto (P dn x) z=upto (P dn x) y++upto (P dn y) z:=by
  have e:=P_split h hx hy
  have hys:Stn dn y:=.inr (P_mem h x hx y hy).2
  have hA:∀ w∈upto (P dn x) y,w ≠ z:=by
    intro w hw
    have hu:=P_up h x hx
    rw [e,List.pairwise_append] at hu
    have:=hu.2.2 w hw z hz
    omega
  refine ⟨by rw [e]; exact List.mem_append_right _ hz,?_⟩
  conv=>lhs; rw [e]
  unfold upto at hA ⊢
  rw [List.takeWhile_append_of_pos fun w hw=>by simp [hA w hw]]
theorem upto_self (h:Dn dn) {x:Int} (h0:0<=x) (h1:x<dn.length):upto (P dn x) x=[]:=by
  rw [P_cons h h0 h1]
  unfold upto
  simp
theorem P_self (h:Dn dn) {x:Int} (h0:0<=x) (h1:x<dn.length):x∈P dn x:=by rw [P_cons h h0 h1]; simp
/-- Hours on a list of stations. -/
def sm (f:Int->Int) (p:List Int):Int:=(p.map f).sum
def lo (tr:List Span) (s:Int):Int:=(tr.getD (Int.toNat s) default).lo
def hi (tr:List Span) (s:Int):Int:=(tr.getD (Int.toNat s) default).hi
theorem sm_app (f:Int->Int) (p q:List Int):sm f (p++q)=sm f p+sm f q:=by unfold sm; rw [List.map_append,List.sum_append]
theorem sm_bound (f:Int->Int):∀ (p:List Int),(∀ x∈p,0<=f x/\f x<=1000)->0<=sm f p/\sm f p<=1000*p.length
  | [],_=>by simp [sm]
  | x :: p,h=>by
    have ih:=sm_bound f p (fun y hy=>h y (by simp [hy]))
    have:=h x (by simp)
    unfold sm at ih ⊢
    rw [List.map_cons,List.sum_cons,List.length_cons]
    omega
end Wn
end Go.Nm
-- libW/OW.lean
namespace Go.Proofs.YtdmdhmineljlhabGreat
open Go Go.Nm
theorem awake_ends:(zb3).Ends true:=⟨300,by kernel_rfl⟩
end Go.Proofs.YtdmdhmineljlhabGreat
-- libW/VB.lean
namespace Go.Nm
namespace Wn
/-- A river that is right. -/
structure Rv (dn:List Int) (tr:List Span) (sp:List Int) (tw:List Town) (dl dh:Int) (fl:List Flood):Prop where
  n1:1<=dn.length
  n12:dn.length<=12
  nx:Dn dn
  tl:tr.length=dn.length
  hr:∀ i,i<tr.length->0<=(tr.getD i default).lo/\(tr.getD i default).lo<=(tr.getD i default).hi/\(tr.getD i default).hi<=1000
  s1:1<=sp.length
  s8:sp.length<=8
  sr:sp.Pairwise (· < ·)
  si:∀ x∈sp,0<=x/\x<dn.length
  t8:tw.length<=8
  tok:∀ t∈tw,(0<=t.station/\t.station<dn.length)/\(0<=t.lead/\t.lead<=1000)/\0<=t.alarm/\t.alarm<=2000
  d0:0<=dl
  d1:dl<=dh
  d2:dh<=1000
  f20:fl.length<=20
  fok:∀ f∈fl,f.spring∈sp/\f.stages.length=(P dn f.spring).length/\∀ x∈f.stages,0<=x/\x<=2000
theorem sum_step {α:Type} (f:α->Int) (l:List α) {i:Nat} (h:i<l.length) (d:α):((l.take (i+1)).map f).sum=((l.take i).map f).sum+f (l.getD i d):=by
  rw [List.take_succ_eq_append_getElem h,List.map_append,List.sum_append,List.map_cons,List.map_nil,List.sum_cons,List.sum_nil,Int.add_zero]
  congr 1
  rw [List.getD_eq_getElem?_getD,List.getElem?_eq_getElem h,Option.getD_some]
theorem sum_in {α:Type} (f:α->Int) (l:List α) (hb:∀ s∈l,-100000<=f s/\f s<=100000):-100000*(l.length:Int)<=(l.map f).sum/\(l.map f).sum<=100000*(l.length:Int):=by
  induction l with
  | nil=>simp
  | cons a l ih =>
    have h1:=ih fun s hs=>hb s (by simp [hs])
    have h2:=hb a (by simp)
    rw [List.map_cons,List.sum_cons,List.length_cons]
    omega
end Wn
end Go.Nm
namespace Go.Proofs.YtdmdhmineljlhabGreat
open Go Go.Nm
theorem added_ends (l:List Span) (hl:l.length<=100) (hb:∀ s∈l,(-100000<=s.lo/\s.lo<=100000)/\-100000<=s.hi/\s.hi<=100000):(zaY l).Ends ((l.map (·.lo)).sum,(l.map (·.hi)).sum):=by
  unfold zaY
  refine M.i_bind (a:=((l.map (·.lo)).sum,(l.map (·.hi)).sum)) ?_ M.i_pure
  refine M.Out.ends ?_
  refine M.o_for l.length (fun i (s:Int × Int × Nat)=>s=(((l.take i).map (·.lo)).sum,((l.take i).map (·.hi)).sum,i)) ?_ ?_ (by simp)
  · rintro i _ hi rfl
    simp only [zbe]
    have a1:=Wn.sum_in (fun s:Span=>s.lo) (l.take i) fun s hs=>(hb s (List.mem_of_mem_take hs)).1
    have a2:=Wn.sum_in (fun s:Span=>s.hi) (l.take i) fun s hs=>(hb s (List.mem_of_mem_take hs)).2
    rw [List.length_take] at a1 a2
    have hm:l.getD i default∈l:=by rw [List.getD_eq_getElem?_getD,List.getElem?_eq_getElem hi,Option.getD_some]; exact List.getElem_mem hi
    have a3:=hb _ hm
    refine M.o_t (decide_eq_true (by omega)) (M.o_grdD (by omega) (M.o_grd (gA2 (by omega) (by omega)) (M.o_grd (gA2 (by omega) (by omega)) (M.o_pure ?_))))
    rw [Wn.sum_step (fun s:Span=>s.lo) l hi default,Wn.sum_step (fun s:Span=>s.hi) l hi default]
  · rintro _ rfl
    simp only [zbe]
    refine M.o_f (decide_eq_false (by omega)) (M.o_pure ?_)
    rw [List.take_length]
variable {dn:List Int} {tr:List Span} {sp:List Int} {tw:List Town} {dl dh:Int} {fl:List Flood}
/-- A round over a path. -/
theorem path_out {S X:Type} {bd:S->Int × Int->M (S ⊕ X)} {Q:S ⊕ X->Prop} (h:Wn.Dn dn) (h12:dn.length<=12) {s:Int} (hs:Wn.Stn dn s) {s0:S} (J:Nat->S->Prop) (h0:J 0 s0)
    (hr:∀ k (hk:k<(Wn.P dn s).length) t,J k t->(bd t ((k:Int),(Wn.P dn s)[k])).Out (fun x=>match x with | .inl t'=>J (k+1) t' | .inr x=>Q (.inr x))) (hl:∀ t,J (Wn.P dn s).length t->Q (.inl t))
    (k11:List Span) (k12:List Int) (k13:List Town) (k14 k15:Int) (k16:List Flood):(zak (M.yl bd) (.inl s0) s dn k11 k12 k13 k14 k15 k16).Out (fun y=>Q y.1):=by
  unfold zak
  refine M.o_bind (P:=fun y=>match y with | .inl t=>Q t.1 | .inr t=>Q t.1) ?_ (fun y hy=>by
    cases y with
    | inl t=>exact M.o_pure hy
    | inr t=>exact M.o_pure hy)
  have hsh:=Wn.P_short h hs
  refine M.o_for (Wn.P dn s).length (fun i (t:Int × Nat × (S ⊕ X))=>t.2.1=i/\(Wn.P dn t.1=(Wn.P dn s).drop i/\Wn.Stn dn t.1)/\∃ t',t.2.2 = .inl t'/\J i t') ?_ ?_ ⟨rfl,⟨by rw [List.drop_zero],hs⟩,s0,rfl,h0⟩
  · rintro i ⟨c,q,t⟩ hi ⟨e1,⟨e2,e3⟩,t',e4,hj⟩
    dsimp only at e1 e2 e3 e4
    subst e1 e4
    simp only [zaH]
    have hd:(Wn.P dn s).drop q=(Wn.P dn s)[q] :: (Wn.P dn s).drop (q+1):=List.drop_eq_getElem_cons hi
    have hc:0<=c/\c<dn.length:=by
      rcases e3 with rfl | e3
      · rw [Wn.P_none,hd] at e2
        cases e2
      · exact e3
    rw [Wn.P_cons h hc.1 hc.2,hd] at e2
    obtain ⟨g1,g2⟩:=List.cons.inj e2
    have hx:=h.next hc.1 hc.2
    refine M.o_t (by rw [decide_eq_true hc.2]; simp; omega) ?_
    obtain ⟨x,y1,y2⟩:=hr q hi t' hj
    rw [← g1] at y1
    cases x with
    | inl s2=>exact M.o_bindE (a:=(true,.inl s2)) (M.i_bind y1 M.i_pure) (M.o_f rfl (M.o_grd (gA2 hc.1 hc.2) (M.o_grd (gA2 (by omega) (by omega)) (M.o_pure ⟨rfl,⟨g2,h.next_st hc.1 hc.2⟩,s2,rfl,y2⟩))))
    | inr x2=>exact M.o_bindE (a:=(false,.inr x2)) (M.i_bind y1 M.i_pure) (M.o_t rfl (M.o_pure y2))
  · rintro ⟨c,q,t⟩ ⟨e1,⟨e2,e3⟩,t',e4,hj⟩
    dsimp only at e1 e2 e3 e4
    subst e1 e4
    simp only [zaH]
    rw [List.drop_length] at e2
    have hc:c = -1:=by
      rcases e3 with e3 | e3
      · exact e3
      · rw [Wn.P_cons h e3.1 e3.2] at e2
        cases e2
    subst hc
    exact M.o_f (by simp) (M.o_pure (hl t' hj))
theorem travels_ends (R:Wn.Rv dn tr sp tw dl dh fl) {s:Int} (hs:Wn.Stn dn s) (y:Int) :
    (zaw dn tr sp tw dl dh fl s y).Ends (if y∈Wn.P dn s then (Wn.sm (Wn.lo tr) (Wn.upto (Wn.P dn s) y),Wn.sm (Wn.hi tr) (Wn.upto (Wn.P dn s) y),true) else (0,0,false)):=by
  refine M.Out.ends ?_
  unfold zaw
  have hp:(zao dn tr sp tw dl dh fl s).Ends (s,dl,dh):=M.i_pure
  refine M.o_bindE hp ?_
  dsimp only
  have h12:=R.n12
  have hsh:=Wn.P_short R.nx hs
  refine M.o_bind (path_out (Q:=fun x=>match x with | .inl _=>y ∉ Wn.P dn s | .inr (_,_,a,b)=>y∈Wn.P dn s/\a=Wn.sm (Wn.lo tr) (Wn.upto (Wn.P dn s) y)/\b=Wn.sm (Wn.hi tr) (Wn.upto (Wn.P dn s) y)) R.nx R.n12 hs
    (fun k (l:List Span)=>l=((Wn.P dn s).take k).map (fun x=>tr.getD (Int.toNat x) default)/\y ∉ (Wn.P dn s).take k) ⟨by simp,by simp⟩ ?_ ?_ _ _ _ _ _ _) ?_
  · rintro k hk l ⟨rfl,hn⟩
    have hin:=Wn.P_mem R.nx s hs _ (List.getElem_mem hk)
    have htl:=R.tl
    simp only [zas]
    refine M.o_if (fun hb=>?_) (fun hb=>?_)
    · have hb:(Wn.P dn s)[k]=y:=by simpa using hb
      refine M.o_bindE (added_ends _ (by rw [List.length_map,List.length_take]; omega) fun sp_ hsp=>?_) (M.o_pure ?_)
      · obtain ⟨x,hx,rfl⟩:=List.mem_map.1 hsp
        have h1:=Wn.P_mem R.nx s hs x (List.mem_of_mem_take hx)
        have h2:=R.hr (Int.toNat x) (by omega)
        omega
      · have hu:Wn.upto (Wn.P dn s) y=(Wn.P dn s).take k:=Wn.upto_take (by rw [List.getElem?_eq_getElem hk,hb]) fun z hz e=>hn (by rw [← e]; exact hz)
        dsimp only
        rw [hu]
        refine ⟨by rw [← hb]; exact List.getElem_mem hk,?_,?_⟩
        · unfold Wn.sm
          rw [List.map_map]
          rfl
        · unfold Wn.sm
          rw [List.map_map]
          rfl
    · have hb:(Wn.P dn s)[k] ≠ y:=by simpa using hb
      refine M.o_grd (gA2 (by omega) (by omega)) (M.o_grdD (by simp; omega) (M.o_pure ⟨?_,?_⟩))
      · rw [List.take_succ_eq_append_getElem hk,List.map_append]
        rfl
      · rw [List.take_succ_eq_append_getElem hk,List.mem_append]
        rintro (h1 | h1)
        · exact hn h1
        · exact hb (List.mem_singleton.1 h1).symm
  · rintro l ⟨_,hn⟩
    rw [List.take_length] at hn
    exact hn
  · rintro ⟨x,q⟩ hq
    cases x with
    | inl l =>
      dsimp only at hq ⊢
      refine M.o_pure ?_
      rw [if_neg hq]
    | inr z =>
      obtain ⟨l2,l3,a,b⟩:=z
      dsimp only at hq ⊢
      refine M.o_pure ?_
      rw [if_pos hq.1,hq.2.1,hq.2.2]
theorem in_ends (n a b:Int):(zaf n a b).Ends (decide (a<=n)&&decide (n<=b)):=M.i_pure
theorem in_true {n a b:Int} (h1:a<=n) (h2:n<=b):(zaf n a b).Ends true:=by
  have:=in_ends n a b
  rwa [gA2 h1 h2] at this
theorem hours_true {s:Span} (h0:0<=s.lo) (h1:s.lo<=s.hi) (h2:s.hi<=1000):(zbh s).Ends true:=by
  unfold zbh
  exact M.i_bind (in_true h0 h1) (M.i_bind (M.i_opt (fun _=>in_true (by omega) h2) (fun h=>by cases h)) M.i_pure)
theorem stage_true {n:Int} (h0:0<=n) (h1:n<=2000):(zaM n).Ends true:=by
  unfold zaM
  exact M.i_bind (in_true h0 h1) M.i_pure
theorem every_town (l:List Town) (so:Town->M Bool) (h:∀ t∈l,(so t).Ends true):(zbq l so).Ends true:=by
  unfold zbq zaU zci
  refine M.i_bind (a:=false) (M.i_bind (a:=-1) (M.i_bind (a:=(.inr ():Int ⊕ Unit)) ?_ M.i_pure) M.i_pure) M.i_pure
  refine M.i_for (fun i=>i) l.length (fun i hi=>?_) ?_
  · simp only [zbp]
    have hm:l.getD i default∈l:=by rw [List.getD_eq_getElem?_getD,List.getElem?_eq_getElem hi,Option.getD_some]; exact List.getElem_mem hi
    refine M.i_t (decide_eq_true (by omega)) (M.i_grd (decide_eq_true (by omega)) (M.i_bind (a:=false) ?_ (M.i_f rfl M.i_pure)))
    unfold zbO
    exact M.i_bind (h _ hm) M.i_pure
  · simp only [zbp]
    exact M.i_f (decide_eq_false (by omega)) M.i_pure
theorem every_int (l:List Int) (so:Int->M Bool) (h:∀ t∈l,(so t).Ends true):(zbm l so).Ends true:=by
  unfold zbm zcC zcV
  refine M.i_bind (a:=false) (M.i_bind (a:=-1) (M.i_bind (a:=(.inr ():Int ⊕ Unit)) ?_ M.i_pure) M.i_pure) M.i_pure
  refine M.i_for (fun i=>i) l.length (fun i hi=>?_) ?_
  · simp only [zbc]
    have hm:l.getD i 0∈l:=by rw [List.getD_eq_getElem?_getD,List.getElem?_eq_getElem hi,Option.getD_some]; exact List.getElem_mem hi
    refine M.i_t (decide_eq_true (by omega)) (M.i_grd (decide_eq_true (by omega)) (M.i_bind (a:=false) ?_ (M.i_f rfl M.i_pure)))
    unfold zbw
    exact M.i_bind (h _ hm) M.i_pure
  · simp only [zbc]
    exact M.i_f (decide_eq_false (by omega)) M.i_pure
theorem contains_true {s:List Int} {v:Int} (h:v∈s):(zbU s v).Ends true:=by
  unfold zbU zbD
  have key:(M.iter (za3 s v) 0).Out (fun r=>match r with | .inl i=>0<=i | .inr (_:Unit)=>False):=by
    refine M.o_for s.length (fun i (k:Nat)=>k=i/\∀ j,j<i->s.getD j 0 ≠ v) ?_ ?_ ⟨rfl,fun j hj=>by omega⟩
    · rintro i _ hi ⟨rfl,hp⟩
      simp only [za3]
      refine M.o_t (decide_eq_true (by omega)) (M.o_grdD (by omega) (M.o_if (fun hb=>M.o_pure (by omega)) (fun hb=>M.o_pure ⟨rfl,fun j hj=>?_⟩)))
      rcases Nat.lt_or_eq_of_le (Nat.le_of_lt_succ hj) with e | e
      · exact hp j e
      · subst e
        exact fun e=>(beq_eq_false_iff_ne.1 hb) e.symm
    · rintro _ ⟨rfl,hp⟩
      exfalso
      obtain ⟨i,hi,e⟩:=List.getElem_of_mem h
      have:=hp i hi
      rw [List.getD_eq_getElem?_getD,List.getElem?_eq_getElem hi,Option.getD_some] at this
      exact this e
  obtain ⟨r,h1,h2⟩:=key
  cases r with
  | inl i=>exact M.i_bind (M.i_bind h1 M.i_pure) (by rw [decide_eq_true h2]; exact M.i_pure)
  | inr u=>exact h2.elim
theorem rising_true {l:List Int} {n:Int} (hn:0<=n/\n<=1000) (hu:l.Pairwise (· < ·)) (hb:∀ x∈l,0<=x/\x<n):(zaG l n).Ends true:=by
  unfold zaG
  refine M.i_bind (a:=(.inr ():Unit ⊕ Unit)) ?_ M.i_pure
  refine M.Out.ends ?_
  refine M.o_for l.length (fun i (s:Int × Nat)=>s.2=i/\-1<=s.1/\s.1<1000/\∀ j,i<=j->j<l.length->s.1<l.getD j 0) ?_ ?_ ⟨rfl,by decide,by decide,fun j _ hj=>?_⟩
  · rintro i ⟨a,q⟩ hi ⟨e1,e2,e3,e4⟩
    dsimp only at e1 e2 e3 e4
    subst e1
    simp only [zaW]
    have hm:l.getD q 0∈l:=by rw [List.getD_eq_getElem?_getD,List.getElem?_eq_getElem hi,Option.getD_some]; exact List.getElem_mem hi
    have h1:=hb _ hm
    have h2:=e4 q (Nat.le_refl _) hi
    refine M.o_t (decide_eq_true (by omega)) (M.o_grdD (by omega) (M.o_grd (gA2 (by omega) (by omega)) (M.o_grd (gA2 (by omega) (by omega)) (M.o_bindE (in_true (by omega) (by omega)) (M.o_f rfl (M.o_pure ⟨rfl,by dsimp only; omega,by dsimp only; omega,fun j h3 h4=>?_⟩))))))
    have:=List.pairwise_iff_getElem.1 hu q j hi h4 (by omega)
    dsimp only
    rw [List.getD_eq_getElem?_getD,List.getElem?_eq_getElem hi,Option.getD_some,List.getD_eq_getElem?_getD,List.getElem?_eq_getElem h4,Option.getD_some]
    exact this
  · rintro ⟨a,q⟩ ⟨e1,_⟩
    dsimp only at e1
    subst e1
    simp only [zaW]
    exact M.o_f (decide_eq_false (by omega)) (M.o_pure rfl)
  · have hm:l.getD j 0∈l:=by rw [List.getD_eq_getElem?_getD,List.getElem?_eq_getElem hj,Option.getD_some]; exact List.getElem_mem hj
    have:=hb _ hm
    dsimp only
    omega
theorem check_ends (R:Wn.Rv dn tr sp tw dl dh fl):(zba dn tr sp tw dl dh fl).Ends 0:=by
  have n1:=R.n1
  have n12:=R.n12
  have tl:=R.tl
  have s1:=R.s1
  have s8:=R.s8
  have t8:=R.t8
  have f20:=R.f20
  unfold zba
  refine M.i_bind (in_true (by omega) (by omega)) (M.i_bind (M.i_opt (fun _=>in_true (by omega) (by omega)) (fun h=>by simp [tl] at h)) (M.i_f ?_ ?_))
  · rw [decide_eq_false (by omega),decide_eq_false (by omega),tl]
    simp
  refine M.i_bind (a:=(.inr ():Int ⊕ Unit)) ?_ ?_
  · refine M.i_for (fun i=>i) dn.length (fun i hi=>?_) ?_
    · simp only [za6]
      have h1:=R.nx i hi
      have h2:=R.hr i (by omega)
      refine M.i_t (decide_eq_true (by omega)) (M.i_grd (decide_eq_true (by omega)) ?_)
      by_cases e:dn.getD i 0 = -1
      · refine M.i_bind (a:=false) (M.i_opt (fun h=>by rw [e] at h; cases h) (fun _=>rfl)) (M.i_f (by rw [e]; rfl) (M.i_grd (decide_eq_true (by omega)) (M.i_bind (hours_true h2.1 h2.2.1 h2.2.2) (M.i_f rfl M.i_pure))))
      · refine M.i_bind (a:=true) (M.i_opt (fun _=>in_true (by omega) (by omega)) (fun h=>absurd (bne_eq_false_iff_eq.1 h) e)) (M.i_f (by simp) (M.i_grd (decide_eq_true (by omega)) (M.i_bind (hours_true h2.1 h2.2.1 h2.2.2) (M.i_f rfl M.i_pure))))
    · simp only [za6]
      exact M.i_f (decide_eq_false (by omega)) M.i_pure
  dsimp only
  refine M.i_bind (rising_true (by omega) R.sr R.si) (M.i_f rfl ?_)
  refine M.i_bind (every_town tw _ fun t ht=>?_) (M.i_bind (a:=true) (M.i_opt (fun _=>every_town tw _ fun t ht=>?_) (fun h=>by cases h)) (M.i_bind (a:=true) (M.i_opt (fun _=>hours_true R.d0 R.d1 R.d2) (fun h=>by cases h)) (M.i_f rfl ?_)))
  · have k:=R.tok t ht
    unfold zbx
    exact M.i_bind (in_true k.2.1.1 k.2.1.2) (M.i_bind (M.i_opt (fun _=>stage_true k.2.2.1 k.2.2.2) (fun h=>by cases h)) M.i_pure)
  · have k:=R.tok t ht
    unfold zb6
    exact M.i_grd (gA2 (by omega) (by omega)) (M.i_bind (in_true k.1.1 (by omega)) M.i_pure)
  refine M.i_bind (a:=(.inr ():Int ⊕ Unit)) ?_ M.i_pure
  refine M.Out.ends ?_
  refine M.o_for fl.length (fun i (k:Nat)=>k=i) ?_ ?_ rfl
  · rintro _ i hi rfl
    simp only [zbv]
    have hm:fl.getD i default∈fl:=by rw [List.getD_eq_getElem?_getD,List.getElem?_eq_getElem hi,Option.getD_some]; exact List.getElem_mem hi
    obtain ⟨k1,k2,k3⟩:=R.fok _ hm
    have hs:=R.si _ k1
    have hst:Wn.Stn dn (fl.getD i default).spring:=.inr hs
    have hsh:=Wn.P_short R.nx hst
    have hp:(zao dn tr sp tw dl dh fl (max 0 (fl.getD i default).spring)).Ends ((fl.getD i default).spring,dl,dh):=by
      rw [show max 0 (fl.getD i default).spring=(fl.getD i default).spring by omega]
      exact M.i_pure
    refine M.o_t (decide_eq_true (by omega)) (M.o_grdD (by omega) (M.o_bindE hp ?_))
    dsimp only
    refine M.o_bind (path_out (Q:=fun x=>x=(.inl ((Wn.P dn (fl.getD i default).spring).length:Int):Int ⊕ Unit)) R.nx R.n12 hst (fun k (c:Int)=>c=(k:Int)) rfl ?_ ?_ _ _ _ _ _ _) ?_
    · rintro k hk _ rfl
      simp only [zav]
      exact M.o_grd (gA2 (by omega) (by omega)) (M.o_pure (by omega))
    · rintro _ rfl
      rfl
    · rintro ⟨x,q⟩ hq
      dsimp only at hq
      subst hq
      dsimp only
      refine M.o_bindE (contains_true k1) (M.o_f (by rw [k2]; simp) (M.o_bindE (every_int _ _ fun x hx=>stage_true (k3 x hx).1 (k3 x hx).2) (M.o_f rfl (M.o_pure rfl))))
  · rintro _ rfl
    simp only [zbv]
    exact M.o_f (decide_eq_false (by omega)) (M.o_pure rfl)
theorem opened_ends (R:Wn.Rv dn tr sp tw dl dh fl):(zau dn tr sp tw dl dh fl).Ends (.inr (dl,dh,0)):=by
  unfold zau
  exact M.i_bind (check_ends R) (M.i_f rfl M.i_pure)
theorem station_true (R:Wn.Rv dn tr sp tw dl dh fl) {s:Int} (h0:0<=s) (h1:s<dn.length):(zce dn tr sp tw dl dh fl s).Ends true:=by
  unfold zce
  exact M.i_bind (in_true h0 (by omega)) M.i_pure
end Go.Proofs.YtdmdhmineljlhabGreat
-- libW/VX.lean
namespace Go.Nm
namespace Wn
def stn (tw:List Town) (d:Dem):Int:=(tw.getD (Int.toNat d.town) default).station
def led (tw:List Town) (d:Dem):Int:=(tw.getD (Int.toNat d.town) default).lead
def meetB (dn:List Int) (tr:List Span) (tw:List Town) (dh:Int) (d:Dem) (s:Int):Bool:=decide (stn tw d∈P dn s)&&decide (led tw d+dh<=sm (lo tr) (upto (P dn s) (stn tw d)))
/-- The stretch of a demand. -/
def Sd (dn:List Int) (tr:List Span) (tw:List Town) (dh:Int) (d:Dem):List Int:=(P dn d.spring).filter (meetB dn tr tw dh d)
def OkD (dn:List Int) (tw:List Town) (d:Dem):Prop:=(0<=d.spring/\d.spring<dn.length)/\0<=d.town/\d.town<tw.length
variable {dn:List Int} {tr:List Span} {tw:List Town} {dh:Int}
theorem mem_Sd {d:Dem} {s:Int}:s∈Sd dn tr tw dh d↔s∈P dn d.spring/\stn tw d∈P dn s/\led tw d+dh<=sm (lo tr) (upto (P dn s) (stn tw d)):=by
  unfold Sd meetB
  rw [List.mem_filter,Bool.and_eq_true,decide_eq_true_eq,decide_eq_true_eq]
end Wn
end Go.Nm
namespace Go.Proofs.YtdmdhmineljlhabGreat
open Go Go.Nm
variable {dn:List Int} {tr:List Span} {sp:List Int} {tw:List Town} {dl dh:Int} {fl:List Flood}
theorem dem_town (R:Wn.Rv dn tr sp tw dl dh fl) {d:Dem} (hd:Wn.OkD dn tw d):(0<=Wn.stn tw d/\Wn.stn tw d<(dn.length:Int))/\0<=Wn.led tw d/\Wn.led tw d<=1000:=by
  have h2:=hd.2
  have hm:tw.getD (Int.toNat d.town) default∈tw:=by rw [getD_el tw (by omega)]; exact List.getElem_mem _
  have:=R.tok _ hm
  unfold Wn.stn Wn.led
  omega
theorem stretch_ends (R:Wn.Rv dn tr sp tw dl dh fl) {d:Dem} (hd:Wn.OkD dn tw d):(zaa dn tr sp tw dl dh fl d).Ends (Wn.Sd dn tr tw dh d):=by
  refine M.Out.ends ?_
  unfold zaa
  have hp:(zao dn tr sp tw dl dh fl d.spring).Ends (d.spring,dl,dh):=M.i_pure
  have hst:Wn.Stn dn d.spring:=.inr hd.1
  have h12:=R.n12
  have hsh:=Wn.P_short R.nx hst
  have ht:=dem_town R hd
  have d0:=R.d0
  have d1:=R.d1
  have d2:=R.d2
  refine M.o_grd (gA2 hd.2.1 hd.2.2) (M.o_bindE hp ?_)
  dsimp only
  refine M.o_bind (path_out (Q:=fun x=>x=(.inl (Wn.Sd dn tr tw dh d):List Int ⊕ Unit)) R.nx R.n12 hst (fun k (l:List Int)=>l=((Wn.P dn d.spring).take k).filter (Wn.meetB dn tr tw dh d)) (by simp) ?_ ?_ _ _ _ _ _ _) ?_
  · rintro k hk _ rfl
    have hm:=Wn.P_mem R.nx _ hst _ (List.getElem_mem hk)
    have A:=travels_ends R (.inr hm.2) (Wn.stn tw d)
    have hl:(((Wn.P dn d.spring).take k).filter (Wn.meetB dn tr tw dh d)).length<=12:=by
      have:=List.length_filter_le (Wn.meetB dn tr tw dh d) ((Wn.P dn d.spring).take k)
      rw [List.length_take] at this
      omega
    have hn:((Wn.P dn d.spring).take (k+1)).filter (Wn.meetB dn tr tw dh d)=((Wn.P dn d.spring).take k).filter (Wn.meetB dn tr tw dh d)++if Wn.meetB dn tr tw dh d (Wn.P dn d.spring)[k]=true then [(Wn.P dn d.spring)[k]] else []:=by
      rw [List.take_succ_eq_append_getElem hk,List.filter_append]
      congr 1
      by_cases e:Wn.meetB dn tr tw dh d (Wn.P dn d.spring)[k]=true
      · rw [if_pos e,List.filter_cons_of_pos e]; rfl
      · rw [if_neg e,List.filter_cons_of_neg e]; rfl
    simp only [zax]
    rw [hn]
    unfold Wn.stn at A
    by_cases hy:(tw.getD (Int.toNat d.town) default).station∈Wn.P dn (Wn.P dn d.spring)[k]
    · rw [if_pos hy] at A
      refine M.o_bindE A ?_
      dsimp only
      refine M.o_grd (gOr2 (by unfold Wn.led at ht; omega) (by unfold Wn.led at ht; omega)) (M.o_if (fun hb=>M.o_grdD (by simp; omega) (M.o_pure ?_)) (fun hb=>M.o_pure ?_))
      · dsimp only
        rw [if_pos]
        unfold Wn.meetB Wn.stn Wn.led
        rw [decide_eq_true hy]
        exact hb
      · dsimp only
        rw [if_neg,List.append_nil]
        unfold Wn.meetB Wn.stn Wn.led
        rw [decide_eq_true hy]
        rw [hb]
        exact Bool.false_ne_true
    · rw [if_neg hy] at A
      refine M.o_bindE A ?_
      dsimp only
      refine M.o_grd rfl (M.o_f rfl (M.o_pure ?_))
      dsimp only
      rw [if_neg,List.append_nil]
      unfold Wn.meetB Wn.stn
      rw [decide_eq_false hy]
      exact Bool.false_ne_true
  · rintro _ rfl
    rw [List.take_length]
    rfl
  · rintro ⟨x,q⟩ hq
    dsimp only at hq
    subst hq
    exact M.o_pure rfl
theorem demands_is (R:Wn.Rv dn tr sp tw dl dh fl):∃ D,(zaL dn tr sp tw dl dh fl).Ends D/\D.length<=64/\∀ d,d∈D↔d.spring∈sp/\(0<=d.town/\d.town<(tw.length:Int))/\Wn.stn tw d∈Wn.P dn d.spring:=by
  have t8:=R.t8
  have s8:=R.s8
  suffices h:(zaL dn tr sp tw dl dh fl).Out (fun l=>l.length<=64/\∀ d,d∈l↔d.spring∈sp/\(0<=d.town/\d.town<(tw.length:Int))/\Wn.stn tw d∈Wn.P dn d.spring) by
    obtain ⟨D,h1,h2⟩:=h
    exact ⟨D,h1,h2⟩
  unfold zaL
  refine M.o_bind (P:=fun y=>y.2.length<=64/\∀ d,d∈y.2↔d.spring∈sp/\(0<=d.town/\d.town<(tw.length:Int))/\Wn.stn tw d∈Wn.P dn d.spring) ?_ (fun y hy=>M.o_pure hy)
  refine M.o_for sp.length (fun i (t:Nat × List Dem)=>t.1=i/\t.2.length<=8*i/\∀ d,d∈t.2↔d.spring∈sp.take i/\(0<=d.town/\d.town<(tw.length:Int))/\Wn.stn tw d∈Wn.P dn d.spring) ?_ ?_ ⟨rfl,by simp,fun d=>by simp⟩
  · rintro _ ⟨i,l⟩ hi ⟨rfl,h1,h2⟩
    dsimp only at hi h1 h2
    simp only [zbd]
    have hsp:=R.si (sp.getD i 0) (by rw [getD_el sp hi]; exact List.getElem_mem hi)
    refine M.o_t (decide_eq_true (by omega)) (M.o_grdD (by omega) (M.o_bind (P:=fun y=>y.2.length<=8*i+8/\∀ d,d∈y.2↔d∈l∨d.spring=sp.getD i 0/\(0<=d.town/\d.town<(tw.length:Int))/\Wn.stn tw d∈Wn.P dn d.spring) ?_ (fun y hy=>M.o_pure ⟨rfl,by dsimp only; omega,fun d=>?_⟩)))
    · refine M.o_for tw.length (fun k (t:Nat × List Dem)=>t.1=k/\t.2.length<=8*i+k/\∀ d,d∈t.2↔d∈l∨d.spring=sp.getD i 0/\(0<=d.town/\d.town<(k:Int))/\Wn.stn tw d∈Wn.P dn d.spring) ?_ ?_ ⟨rfl,h1,fun d=>⟨fun h=>.inl h,fun h=>h.resolve_right fun h=>by omega⟩⟩
      · rintro _ ⟨k,l4⟩ hk ⟨rfl,g1,g2⟩
        dsimp only at hk g1 g2
        simp only [zbj]
        refine M.o_t (decide_eq_true (by omega)) (M.o_grdD (by omega) (M.o_bindE (travels_ends R (.inr hsp) _) ?_))
        have ek:Wn.stn tw ⟨sp.getD i 0,(k:Int)⟩=(tw.getD k default).station:=rfl
        have key:∀ d:Dem,d.spring=sp.getD i 0->d.town=(k:Int)->d=⟨sp.getD i 0,(k:Int)⟩:=fun d e1 e2=>by
          cases d
          dsimp only at e1 e2
          rw [e1,e2]
        by_cases hy:(tw.getD k default).station∈Wn.P dn (sp.getD i 0)
        · rw [if_pos hy]
          dsimp only
          refine M.o_t rfl (M.o_grdD (by simp; omega) (M.o_pure ⟨rfl,by dsimp only; simp; omega,fun d=>?_⟩))
          dsimp only
          rw [List.mem_append,List.mem_singleton,g2 d]
          constructor
          · rintro ((h | h) | rfl)
            · exact .inl h
            · exact .inr ⟨h.1,by omega,h.2.2⟩
            · exact .inr ⟨rfl,by dsimp only; omega,by rw [ek]; exact hy⟩
          · rintro (h | ⟨e1,e2,e3⟩)
            · exact .inl (.inl h)
            · by_cases c:d.town=(k:Int)
              · exact .inr (key d e1 c)
              · exact .inl (.inr ⟨e1,by omega,e3⟩)
        · rw [if_neg hy]
          dsimp only
          refine M.o_f rfl (M.o_pure ⟨rfl,by dsimp only; omega,fun d=>?_⟩)
          dsimp only
          rw [g2 d]
          constructor
          · rintro (h | h)
            · exact .inl h
            · exact .inr ⟨h.1,by omega,h.2.2⟩
          · rintro (h | ⟨e1,e2,e3⟩)
            · exact .inl h
            · by_cases c:d.town=(k:Int)
              · rw [key d e1 c] at e3
                exact absurd e3 hy
              · exact .inr ⟨e1,by omega,e3⟩
      · rintro ⟨k,l4⟩ ⟨e,g1,g2⟩
        dsimp only at e g1 g2
        subst e
        simp only [zbj]
        exact M.o_f (decide_eq_false (by omega)) (M.o_pure ⟨by dsimp only; omega,g2⟩)
    · dsimp only
      rw [hy.2 d,h2 d,List.take_succ_eq_append_getElem hi,List.mem_append,List.mem_singleton,← getD_el sp hi 0]
      constructor
      · rintro (h | h)
        · exact ⟨.inl h.1,h.2⟩
        · exact ⟨.inr h.1,h.2⟩
      · rintro ⟨h | h,h'⟩
        · exact .inl ⟨h,h'⟩
        · exact .inr ⟨h,h'⟩
  · rintro ⟨i,l⟩ ⟨e,h1,h2⟩
    dsimp only at e h1 h2
    subst e
    rw [List.take_length] at h2
    simp only [zbd]
    exact M.o_f (decide_eq_false (by omega)) (M.o_pure ⟨by dsimp only; omega,h2⟩)
end Go.Proofs.YtdmdhmineljlhabGreat
namespace Go.Nm
namespace Ct
/-- A chart that is right, with a truth and the stops of its clock. -/
structure Rt (pl ph base sc off:Int) (ms:List CMk) (nt:List CNt) (ts ss st:List Int):Prop where
  n1:1<=ms.length
  n40:ms.length<=40
  tl:ts.length=ms.length
  sl:ss.length=ms.length
  p1:1<=pl
  p2:pl<=ph
  p3:ph<=600
  b:-1000000<=base/\base<=1000000
  s:0<=sc/\sc<=1000
  o:0<=off/\off<=1000
  m:∀ i,i<ms.length->(0<=(ms.getD i default).place/\(ms.getD i default).place<=10000)/\0<=(ms.getD i default).height/\(ms.getD i default).height<=1000
  up:∀ i,i+1<ms.length->(ms.getD i default).place<(ms.getD (i+1) default).place
  t:∀ i,i<ms.length->0<=ts.getD i 0/\ts.getD i 0<=1000000
  g:∀ i,i+1<ms.length->pl*((ms.getD (i+1) default).place-(ms.getD i default).place)<=ts.getD (i+1) 0-ts.getD i 0/\((i:Int)∈st∨ts.getD (i+1) 0-ts.getD i 0<=ph*((ms.getD (i+1) default).place-(ms.getD i default).place))
  h:∀ i,i<ms.length->base+sc*(ms.getD i default).height-off<=ss.getD i 0/\ss.getD i 0<=base+sc*(ms.getD i default).height+off
  n20:nt.length<=20
  nd:(nt.map CNt.mark).Nodup
  n:∀ x∈nt,∃ i:Nat,i<ms.length/\x.mark=i/\(0<=x.tlo/\x.tlo<=ts.getD i 0/\ts.getD i 0<=x.thi/\x.thi<=10000000)/\(-3000000<=x.slo/\x.slo<=ss.getD i 0/\ss.getD i 0<=x.shi/\x.shi<=3000000)
  sr:st.Pairwise (· < ·)
  si:∀ x∈st,0<=x/\x+2<=(ms.length:Int)
/-- Spans of time that hold the truth. -/
def TIn (ts:List Int) (l:List Span):Prop:=l.length=ts.length/\∀ i,i<ts.length->(-100000000<=(l.getD i default).lo/\(l.getD i default).lo<=ts.getD i 0)/\ts.getD i 0<=(l.getD i default).hi/\(l.getD i default).hi<=100000000
/-- Spans of stages that hold the truth. -/
def SIn (ss:List Int) (l:List Span):Prop:=l.length=ss.length/\∀ i,i<ss.length->(l.getD i default).lo<=ss.getD i 0/\ss.getD i 0<=(l.getD i default).hi
/-- Minutes of the gaps that hold the truth. -/
def GIn (ts:List Int) (k:Nat) (l:List Span):Prop:=l.length=k/\∀ i,i<k->(0<=(l.getD i default).lo/\(l.getD i default).lo<=ts.getD (i+1) 0-ts.getD i 0)/\ts.getD (i+1) 0-ts.getD i 0<=(l.getD i default).hi/\(l.getD i default).hi<=200000000
/-- The notes by their marks. -/
def MpO (nt:List CNt) (mp:List (Int × CNt)):Prop:=∀ p∈mp,p.2∈nt/\p.1=p.2.mark
/-- The gaps in which the clock stops. -/
def StO (st:List Int) (sb:List Bool):Prop:=∀ x∈st,sb.getD (Int.toNat x) false=true
theorem setM_mem {m:List (Int × CNt)} {k:Int} {v:CNt}:∀ {p},p∈setM m k v->p=(k,v)∨p∈m:=by
  induction m with
  | nil=>intro p h; exact .inl (by simpa [setM] using h)
  | cons q m ih =>
    intro p h
    unfold setM at h
    split at h
    · rcases List.mem_cons.1 h with h | h
      · exact .inl h
      · exact .inr (List.mem_cons_of_mem _ h)
    · rcases List.mem_cons.1 h with h | h
      · exact .inr (by rw [h]; exact List.mem_cons_self)
      · rcases ih h with h | h
        · exact .inl h
        · exact .inr (List.mem_cons_of_mem _ h)
theorem lookM_mem {m:List (Int × CNt)} {k:Int} {v:CNt} (h:lookM m k=some v):(k,v)∈m:=by
  obtain ⟨q,hq⟩:=lookM_of h
  exact List.mem_of_getElem? hq
theorem memD {α:Type} (l:List α) {i:Nat} (h:i<l.length) (d:α):l.getD i d∈l:=by rw [List.getD_eq_getElem?_getD,List.getElem?_eq_getElem h,Option.getD_some]; exact List.getElem_mem h
theorem pairD {l:List Int} (h:l.Pairwise (· < ·)) {i j:Nat} (hij:i<j) (hj:j<l.length):l.getD i 0<l.getD j 0:=by
  rw [List.getD_eq_getElem?_getD,List.getD_eq_getElem?_getD,List.getElem?_eq_getElem hj,List.getElem?_eq_getElem (by omega)]
  exact List.pairwise_iff_getElem.1 h i j (by omega) hj hij
end Ct
end Go.Nm
namespace Go.Proofs.YtdmdhmineljlhabGreat
open Go Go.Nm
theorem o_yes {α:Type} {c:Bool} {m:M Bool} {k:Bool->M α} {Q:α->Prop} (hc:c=true) (h:m.Ends true) (hk:(k true).Out Q):(M.bind (M.opt c m false) k).Out Q:=by subst hc; exact M.o_bindE h hk
theorem cin_true {n a b:Int} (h1:a<=n) (h2:n<=b):(zai n a b).Ends true:=by
  have:(zai n a b).Ends (decide (a<=n)&&decide (n<=b)):=M.i_pure
  rwa [gA2 h1 h2] at this
theorem within_true {s:Span} {a b:Int} (h1:a<=s.lo) (h2:s.lo<=s.hi) (h3:s.hi<=b):(zaO s a b).Ends true:=by
  refine M.Out.ends ?_
  unfold zaO
  exact M.o_bindE (cin_true h1 (by omega)) (o_yes rfl (cin_true h2 h3) (M.o_pure rfl))
theorem every_note (l:List CNt) (so:CNt->M Bool) (h:∀ t∈l,(so t).Ends true):(zbH l so).Ends true:=by
  unfold zbH zaC zb5
  refine M.i_bind (a:=false) (M.i_bind (a:=-1) (M.i_bind (a:=(.inr ():Int ⊕ Unit)) ?_ M.i_pure) M.i_pure) M.i_pure
  refine M.i_for (fun i=>i) l.length (fun i hi=>?_) ?_
  · simp only [zat]
    refine M.i_t (decide_eq_true (by omega)) (M.i_grd (decide_eq_true (by omega)) (M.i_bind (a:=false) ?_ (M.i_f rfl M.i_pure)))
    unfold zb2
    exact M.i_bind (h _ (Ct.memD l hi default)) M.i_pure
  · simp only [zat]
    exact M.i_f (decide_eq_false (by omega)) M.i_pure
theorem every_span (l:List Span) (so:Span->M Bool) (h:∀ t∈l,(so t).Ends true):(zbt l so).Ends true:=by
  unfold zbt zcv zcy
  refine M.i_bind (a:=false) (M.i_bind (a:=-1) (M.i_bind (a:=(.inr ():Int ⊕ Unit)) ?_ M.i_pure) M.i_pure) M.i_pure
  refine M.i_for (fun i=>i) l.length (fun i hi=>?_) ?_
  · simp only [zaT]
    refine M.i_t (decide_eq_true (by omega)) (M.i_grd (decide_eq_true (by omega)) (M.i_bind (a:=false) ?_ (M.i_f rfl M.i_pure)))
    unfold zbz
    exact M.i_bind (h _ (Ct.memD l hi default)) M.i_pure
  · simp only [zaT]
    exact M.i_f (decide_eq_false (by omega)) M.i_pure
theorem no_note (l:List CNt) (f:CNt->M Bool) (h:∀ t∈l,(f t).Ends false):(zaC l f).Ends false:=by
  unfold zaC zb5
  refine M.i_bind (a:=-1) (M.i_bind (a:=(.inr ():Int ⊕ Unit)) ?_ M.i_pure) M.i_pure
  refine M.i_for (fun i=>i) l.length (fun i hi=>?_) ?_
  · simp only [zat]
    exact M.i_t (decide_eq_true (by omega)) (M.i_grd (decide_eq_true (by omega)) (M.i_bind (h _ (Ct.memD l hi default)) (M.i_f rfl M.i_pure)))
  · simp only [zat]
    exact M.i_f (decide_eq_false (by omega)) M.i_pure
section
variable {pl ph base sc off:Int} {ms:List CMk} {nt:List CNt} {ts ss st:List Int}
theorem ccheck_ends (R:Ct.Rt pl ph base sc off ms nt ts ss st):(zbG pl ph base sc off ms nt).Ends 0:=by
  obtain ⟨n1,n40,tl,sl,p1,p2,p3,hb,hs,ho,hm,hup,ht,hg,hh,n20,nd,hn,sr,si⟩:=R
  refine M.Out.ends ?_
  unfold zbG
  refine M.o_bindE (cin_true (by omega) (by omega)) (M.o_f (by rw [decide_eq_false (by omega)]; rfl) ?_)
  refine M.o_bindE (within_true p1 p2 p3) (o_yes rfl (cin_true hb.1 hb.2) (o_yes rfl (cin_true hs.1 hs.2) (o_yes rfl (cin_true ho.1 ho.2) (M.o_f rfl ?_))))
  refine M.o_bind (P:=fun r=>r = .inr ()) (M.o_for ms.length (fun i (z:Int × Nat)=>z.2=i/\(i=0->z.1 = -1)/\(0<i->z.1=(ms.getD (i-1) default).place)) ?_ ?_ ⟨rfl,fun _=>rfl,fun h=>by omega⟩) ?_
  · rintro i ⟨last,_⟩ hi ⟨rfl,h0,h1⟩
    dsimp only at h0 h1 hi
    rename_i i
    have a1:=hm i hi
    simp only [za2]
    refine M.o_t (decide_eq_true (by omega)) (M.o_grd (decide_eq_true (by omega)) (M.o_bindE (cin_true a1.1.1 a1.1.2) (o_yes rfl (cin_true a1.2.1 a1.2.2) (M.o_f rfl (M.o_f (decide_eq_false ?_) (M.o_pure ⟨rfl,fun h=>by omega,fun _=>rfl⟩))))))
    by_cases e:i=0
    · have:=h0 e
      omega
    · have e1:=h1 (by omega)
      have e2:=hup (i-1) (by omega)
      rw [show i-1+1=i by omega] at e2
      omega
  · rintro ⟨last,_⟩ ⟨rfl,_⟩
    simp only [za2]
    exact M.o_f (decide_eq_false (by omega)) (M.o_pure rfl)
  rintro _ rfl
  refine M.o_bindE (every_note nt _ fun x hx=>?_) (M.o_f rfl ?_)
  · obtain ⟨i,hi,e,ht',hs'⟩:=hn x hx
    refine M.Out.ends ?_
    unfold zbW zcu
    refine M.o_bindE (a:=true) (M.Out.ends ?_) (M.o_pure rfl)
    exact M.o_grd (gA2 (by omega) (by omega)) (M.o_bindE (cin_true (by omega) (by omega)) (o_yes rfl (within_true (by dsimp only; omega) (by dsimp only; omega) (by dsimp only; omega)) (o_yes rfl (within_true (by dsimp only; omega) (by dsimp only; omega) (by dsimp only; omega)) (M.o_pure rfl))))
  refine M.o_bind (P:=fun r=>r = .inr ()) (M.o_for nt.length (fun i (z:Nat)=>z=i) ?_ ?_ rfl) ?_
  · rintro _ i hi rfl
    simp only [zbs]
    refine M.o_t (decide_eq_true (by omega)) (M.o_grd (decide_eq_true (by omega)) (M.o_bindE (no_note _ _ fun x hx=>?_) (M.o_f rfl (M.o_pure rfl))))
    have hne:(x.mark==(nt.getD i default).mark)=false:=by
      rw [beq_eq_false_iff_ne]
      intro e
      obtain ⟨j,hj,rfl⟩:=mem_getD hx default
      rw [List.length_take] at hj
      have e2:(nt.take i).getD j default=nt.getD j default:=by rw [List.getD_eq_getElem?_getD,List.getElem?_take,if_pos (by omega),← List.getD_eq_getElem?_getD]
      rw [e2] at e
      have a1:(nt.map CNt.mark)[j]?=some (nt.getD j default).mark:=by rw [List.getElem?_map,List.getElem?_eq_getElem (by omega),getD_el nt (by omega)]; rfl
      have a2:(nt.map CNt.mark)[i]?=some (nt.getD i default).mark:=by rw [List.getElem?_map,List.getElem?_eq_getElem hi,getD_el nt hi]; rfl
      have:=(List.getElem?_inj (by rw [List.length_map]; omega) nd).1 (a1.trans ((congrArg some e).trans a2.symm))
      omega
    unfold zbL
    rw [hne]
    exact M.i_pure
  · rintro _ rfl
    simp only [zbs]
    exact M.o_f (decide_eq_false (by omega)) (M.o_pure rfl)
  rintro _ rfl
  exact M.o_pure rfl
theorem copened_out (R:Ct.Rt pl ph base sc off ms nt ts ss st):(zbN pl ph base sc off ms nt).Out (fun r=>∃ mp,Ct.MpO nt mp/\r = .inr (pl,ph,base,sc,off,mp,List.replicate 40 false,0)):=by
  unfold zbN
  refine M.o_bindE (ccheck_ends R) (M.o_f rfl (M.o_bind (P:=fun mp=>Ct.MpO nt mp) (M.o_for nt.length (fun i (z:List (Int × CNt) × Nat)=>z.2=i/\Ct.MpO nt z.1) ?_ ?_ ⟨rfl,fun p hp=>by cases hp⟩) ?_))
  · rintro i ⟨mp,_⟩ hi ⟨rfl,h⟩
    rename_i i
    dsimp only at h hi
    simp only [zaZ]
    refine M.o_t (decide_eq_true (by omega)) (M.o_grd (decide_eq_true (by omega)) (M.o_pure ⟨rfl,fun p hp=>?_⟩))
    rcases Ct.setM_mem hp with rfl | hp
    · exact ⟨Ct.memD nt hi default,rfl⟩
    · exact h p hp
  · rintro ⟨mp,_⟩ ⟨rfl,h⟩
    simp only [zaZ]
    exact M.o_f (decide_eq_false (by omega)) (M.o_pure h)
  · intro mp h
    exact M.o_pure ⟨mp,h,rfl⟩
theorem stop_out (R:Ct.Rt pl ph base sc off ms nt ts ss st) (a b c d e:Int) (f:List CNt) (mp:List (Int × CNt)):(zca a b c d e ms f mp (List.replicate 40 false) st).Out (fun r=>r.1=true/\Ct.StO st r.2):=by
  have si:=R.si
  have sr:=R.sr
  have n40:=R.n40
  unfold zca
  refine M.o_bind (P:=fun r=>∃ l,r = .inr l/\Ct.StO st l) (M.o_for st.length (fun i (z:List Bool × Int × Nat)=>z.2.2=i/\z.1.length=40/\(i=0->z.2.1 = -1)/\(0<i->z.2.1=st.getD (i-1) 0)/\∀ j,j<i->z.1.getD (Int.toNat (st.getD j 0)) false=true) ?_ ?_ ⟨rfl,by simp,fun _=>rfl,fun h=>by omega,fun j hj=>by omega⟩) ?_
  · rintro i ⟨l,last,_⟩ hi ⟨rfl,hl,h0,h1,h2⟩
    rename_i i
    dsimp only at hi hl h0 h1 h2
    have a1:=si _ (Ct.memD st hi 0)
    have hlast:-1<=last/\last+1<=st.getD i 0:=by
      by_cases e:i=0
      · have:=h0 e
        omega
      · have e1:=h1 (by omega)
        have e2:=Ct.pairD sr (show i-1<i by omega) hi
        have e3:=si _ (Ct.memD st (show i-1<st.length by omega) 0)
        omega
    simp only [zbg]
    refine M.o_t (decide_eq_true (by omega)) (M.o_grd (decide_eq_true (by omega)) (M.o_grd (gA2 (by omega) (by omega)) (M.o_bindE (cin_true (by omega) (by omega)) (M.o_f rfl (M.o_grd (gA2 (by omega) (by omega)) (M.o_pure ⟨rfl,by simp [hl],fun h=>by omega,fun _=>rfl,fun j hj=>?_⟩))))))
    dsimp only
    rw [gset _ _ _ _ _ (by omega)]
    split
    · rfl
    · rename_i hne
      refine h2 j ?_
      by_cases e:j=i
      · subst e
        exact absurd rfl hne
      · omega
  · rintro ⟨l,last,_⟩ ⟨rfl,hl,h0,h1,h2⟩
    simp only [zbg]
    refine M.o_f (decide_eq_false (by omega)) (M.o_pure ⟨l,rfl,fun x hx=>?_⟩)
    obtain ⟨j,hj,rfl⟩:=mem_getD hx 0
    exact h2 j hj
  · rintro _ ⟨l,rfl,h⟩
    exact M.o_pure ⟨rfl,h⟩
theorem begun_out (R:Ct.Rt pl ph base sc off ms nt ts ss st):(zb7 pl ph base sc off ms nt st).Out (fun r=>∃ mp sb,Ct.MpO nt mp/\Ct.StO st sb/\r=(pl,ph,base,sc,off,mp,sb,0)):=by
  unfold zb7
  refine M.o_bind (copened_out R) ?_
  rintro _ ⟨mp,hmp,rfl⟩
  refine M.o_t rfl (M.o_bind (stop_out R ..) ?_)
  rintro ⟨_,sb⟩ ⟨rfl,hs⟩
  exact M.o_f rfl (M.o_pure ⟨mp,sb,hmp,hs,rfl⟩)
theorem common_out (f:Span) (l:List Span) {x:Int} (hf:f.lo<=x/\x<=f.hi) (hl:∀ s∈l,s.lo<=x/\x<=s.hi):(zbr f l).Out (fun r=>(f.lo<=r.1/\r.1<=x)/\x<=r.2/\r.2<=f.hi):=by
  unfold zbr
  refine M.o_bind (M.o_for l.length (fun i (z:Int × Int × Nat)=>z.2.2=i/\(f.lo<=z.1/\z.1<=x)/\x<=z.2.1/\z.2.1<=f.hi) ?_ ?_ ⟨rfl,⟨Int.le_refl _,hf.1⟩,hf.2,Int.le_refl _⟩) (fun r h=>M.o_pure h)
  · rintro i ⟨a,b,_⟩ hi ⟨rfl,h⟩
    rename_i i
    dsimp only at hi h
    have:=hl _ (Ct.memD l hi default)
    simp only [zbo]
    exact M.o_t (decide_eq_true (by omega)) (M.o_grd (decide_eq_true (by omega)) (M.o_pure ⟨rfl,⟨by dsimp only; omega,by dsimp only; omega⟩,by dsimp only; omega,by dsimp only; omega⟩))
  · rintro ⟨a,b,_⟩ ⟨rfl,h⟩
    simp only [zbo]
    exact M.o_f (decide_eq_false (by omega)) (M.o_pure h)
theorem stages_out (R:Ct.Rt pl ph base sc off ms nt ts ss st) {mp:List (Int × CNt)} (hmp:Ct.MpO nt mp) {i:Nat} (hi:i<ms.length) :
    (zbE pl ph base sc off ms nt mp (i:Int)).Out (fun r=>r.1<=ss.getD i 0/\ss.getD i 0<=r.2):=by
  have hb:=R.b
  have hs:=R.s
  have ho:=R.o
  have hm:=R.m i hi
  have hh:=R.h i hi
  have q0:0<=sc*(ms.getD i default).height:=Int.mul_nonneg hs.1 hm.2.1
  have q1:sc*(ms.getD i default).height<=1000*1000:=Int.mul_le_mul hs.2 hm.2.2 hm.2.1 (by omega)
  unfold zbE
  rw [Int.toNat_natCast]
  refine M.o_grd (gA2 (by omega) (by omega)) (M.o_grd (gA2 (by omega) (by omega)) (M.o_grd (gA2 (by omega) (by omega)) (M.o_grd (gA2 (by omega) (by omega)) (M.o_grd (gA2 (by omega) (by omega)) (?_)))))
  refine M.o_if (fun h=>?_) (fun _=>M.o_pure ⟨by dsimp only; omega,by dsimp only; omega⟩)
  obtain ⟨v,hv⟩:=Option.isSome_iff_exists.1 h
  rw [hv]
  obtain ⟨h1,h2⟩:=hmp _ (Ct.lookM_mem hv)
  obtain ⟨j,hj,e,_,hst⟩:=R.n _ h1
  obtain rfl:i=j:=by
    have e:v.mark=(j:Int):=e
    have h2:(i:Int)=v.mark:=h2
    omega
  refine M.o_bind (common_out (x:=ss.getD i 0) _ _ ⟨by dsimp only; omega,by dsimp only; omega⟩ fun s hs=>?_) (fun r hr=>M.o_pure ⟨hr.1.2,hr.2.1⟩)
  rw [List.mem_singleton] at hs
  subst hs
  exact ⟨hst.2.1,hst.2.2.1⟩
theorem all_out (R:Ct.Rt pl ph base sc off ms nt ts ss st) {mp:List (Int × CNt)} (hmp:Ct.MpO nt mp):(za9 pl ph base sc off ms nt mp).Out (fun r=>Ct.SIn ss r.1/\r.2=true):=by
  have n40:=R.n40
  have sl:=R.sl
  unfold za9
  refine M.o_bind (P:=fun r=>r.1=r.2/\Ct.SIn ss r.2) (M.o_for ms.length (fun i (z:Nat × List Span)=>z.1=i/\z.2.length=i/\∀ j,j<i->(z.2.getD j default).lo<=ss.getD j 0/\ss.getD j 0<=(z.2.getD j default).hi) ?_ ?_ ⟨rfl,rfl,fun j hj=>by omega⟩) ?_
  · rintro i ⟨_,l⟩ hi ⟨rfl,hl,h⟩
    rename_i i
    dsimp only at hi hl h
    simp only [za1]
    refine M.o_t (decide_eq_true (by omega)) (M.o_bind (stages_out R hmp hi) ?_)
    rintro ⟨a,b⟩ hab
    dsimp only at hab
    refine M.o_grd (decide_eq_true (by simp; omega)) (M.o_pure ⟨rfl,by simp [hl],fun j hj=>?_⟩)
    dsimp only
    rw [List.getD_eq_getElem?_getD,List.getElem?_append]
    split
    · rename_i hjl
      rw [← List.getD_eq_getElem?_getD]
      exact h j (by omega)
    · obtain rfl:j=i:=by omega
      rw [show j-l.length=0 by omega]
      exact hab
  · rintro ⟨_,l⟩ ⟨rfl,hl,h⟩
    dsimp only at hl h
    simp only [za1]
    exact M.o_f (decide_eq_false (by omega)) (M.o_pure ⟨rfl,by dsimp only; omega,fun i hi=>h i (by omega)⟩)
  · rintro ⟨l',l⟩ ⟨e,h⟩
    dsimp only at e h
    subst e
    refine M.o_bindE (every_span _ _ fun s hs=>?_) (M.o_pure ⟨h,rfl⟩)
    obtain ⟨i,hi,rfl⟩:=mem_getD hs default
    have:=h.2 i (by rw [← h.1]; exact hi)
    unfold zcf
    rw [decide_eq_true (by omega)]
    exact M.i_pure
theorem noted_out (R:Ct.Rt pl ph base sc off ms nt ts ss st) {mp:List (Int × CNt)} (hmp:Ct.MpO nt mp):(zbP pl ph base sc off ms nt mp).Out (fun l=>Ct.TIn ts l):=by
  have n40:=R.n40
  have n1:=R.n1
  have tl:=R.tl
  unfold zbP
  refine M.o_grd (gA2 (by omega) (by omega)) (M.o_grd (List.all_eq_true.2 fun p hp=>?_) (M.o_pure ⟨by unfold notedE; simp; omega,fun i hi=>?_⟩))
  · obtain ⟨h1,h2⟩:=hmp p hp
    obtain ⟨j,hj,e,_⟩:=R.n _ h1
    exact gA2 (by omega) (by omega)
  · have ht:=R.t i (by omega)
    have e:(notedE ms.length mp).getD i default=match lookM mp (i:Int) with
      | some n=>n.time
      | none=>⟨-100000000,100000000⟩:=by
      unfold notedE
      rw [List.getD_eq_getElem?_getD,List.getElem?_map,List.getElem?_range (by omega)]
      rfl
    rw [e]
    cases hv:lookM mp (i:Int) with
    | none=>exact ⟨⟨by dsimp only; omega,by dsimp only; omega⟩,by dsimp only; omega,by dsimp only; omega⟩
    | some v =>
      obtain ⟨h1,h2⟩:=hmp _ (Ct.lookM_mem hv)
      obtain ⟨j,hj,e,hst,_⟩:=R.n _ h1
      obtain rfl:i=j:=by
        have e:v.mark=(j:Int):=e
        have h2:(i:Int)=v.mark:=h2
        omega
      dsimp only at hst
      unfold CNt.time
      exact ⟨⟨by dsimp only; omega,by dsimp only; omega⟩,by dsimp only; omega,by dsimp only; omega⟩
theorem gaps_out (R:Ct.Rt pl ph base sc off ms nt ts ss st) (c d e:Int) (f:List CNt) (mp:List (Int × CNt)) {sb:List Bool} (hs:Ct.StO st sb) :
    (zcd (M.yl zap) (.inl []) pl ph c d e ms f mp sb).Out (fun y=>∃ l,y = .inl l/\Ct.GIn ts (ms.length-1) l):=by
  have n40:=R.n40
  have n1:=R.n1
  have p1:=R.p1
  have p2:=R.p2
  have p3:=R.p3
  unfold zcd
  refine M.o_bind (P:=fun y=>∃ l,y = .inr (.inl l)/\Ct.GIn ts (ms.length-1) l) (M.o_for (ms.length-1) (fun i (z:Nat × (List Span ⊕ Unit))=>z.1=i/\∃ l,z.2 = .inl l/\Ct.GIn ts i l) ?_ ?_ ⟨rfl,[],rfl,rfl,fun i hi=>by omega⟩) ?_
  · rintro i ⟨_,_⟩ hi ⟨rfl,l,rfl,hl,h⟩
    rename_i i
    dsimp only at hi hl h
    have m1:=R.m i (by omega)
    have m2:=R.m (i+1) (by omega)
    have hu:=R.up i (by omega)
    have hg:=R.g i (by omega)
    have t1:=R.t i (by omega)
    have t2:=R.t (i+1) (by omega)
    have q0:0<=pl*((ms.getD (i+1) default).place-(ms.getD i default).place):=Int.mul_nonneg (by omega) (by omega)
    have q1:pl*((ms.getD (i+1) default).place-(ms.getD i default).place)<=600*10000:=Int.mul_le_mul (by omega) (by omega) (by omega) (by omega)
    have q2:0<=ph*((ms.getD (i+1) default).place-(ms.getD i default).place):=Int.mul_nonneg (by omega) (by omega)
    have q3:ph*((ms.getD (i+1) default).place-(ms.getD i default).place)<=600*10000:=Int.mul_le_mul (by omega) (by omega) (by omega) (by omega)
    have step:∀ s:Span,s.lo=pl*((ms.getD (i+1) default).place-(ms.getD i default).place)->ts.getD (i+1) 0-ts.getD i 0<=s.hi->s.hi<=200000000->Ct.GIn ts (i+1) (l++[s]):=by
      intro s h1 h2 h3
      refine ⟨by simp [hl],fun j hj=>?_⟩
      rw [List.getD_eq_getElem?_getD,List.getElem?_append]
      split
      · rename_i hjl
        rw [← List.getD_eq_getElem?_getD]
        exact h j (by omega)
      · obtain rfl:j=i:=by omega
        rw [show j-l.length=0 by omega]
        exact ⟨⟨by rw [show ([s]:List Span)[0]?=some s from rfl,Option.getD_some]; omega,by rw [show ([s]:List Span)[0]?=some s from rfl,Option.getD_some]; omega⟩,h2,h3⟩
    have ye:∀ s:Span,(M.yl zap (.inl l) ((i:Int),s)).Ends (true,.inl (l++[s])):=fun s=>M.i_bind (a:=(.inl (l++[s]):List Span ⊕ Unit)) (M.i_grd (decide_eq_true (by simp; omega)) M.i_pure) M.i_pure
    simp only [za5]
    rw [show Int.toNat ((i:Int)+1)=i+1 by omega]
    refine M.o_t (decide_eq_true (by omega)) (M.o_grd (gA2 (by omega) (by omega)) (M.o_grd (gA2 (by omega) (by omega)) (M.o_grd (decide_eq_true (by omega)) (M.o_grd (gA2 (by omega) (by omega)) (M.o_grd (gA2 (by omega) (by omega)) (M.o_grd (gA2 (by omega) (by omega)) (M.o_grd (gA2 (by omega) (by omega)) (?_))))))))
    refine M.o_if (fun hb=>?_) (fun hb=>?_)
    · exact M.o_bindE (ye _) (M.o_f rfl (M.o_pure ⟨rfl,_,rfl,step _ rfl (by dsimp only; omega) (by dsimp only; omega)⟩))
    · refine M.o_bindE (ye _) (M.o_f rfl (M.o_pure ⟨rfl,_,rfl,step _ rfl ?_ (by dsimp only; omega)⟩))
      rcases hg.2 with h1 | h1
      · have:=hs _ h1
        rw [Int.toNat_natCast,hb] at this
        cases this
      · exact h1
  · rintro ⟨_,_⟩ ⟨rfl,l,rfl,h⟩
    simp only [za5]
    exact M.o_f (decide_eq_false (by omega)) (M.o_pure ⟨l,rfl,h⟩)
  · rintro _ ⟨l,rfl,h⟩
    exact M.o_pure ⟨l,rfl,h⟩
theorem narrow_out {l:List Span} (h:Ct.TIn ts l) (h40:ts.length<=40) {i:Nat} (hi:i<ts.length) {m:Int} (hm:m=(i:Int)) {s:Span} (hs:s.lo<=ts.getD i 0/\ts.getD i 0<=s.hi):(za4 m s l).Out (fun r=>Ct.TIn ts r):=by
  subst hm
  obtain ⟨hl,h⟩:=h
  have hh:=h i hi
  unfold za4
  rw [Int.toNat_natCast]
  refine M.o_grd (gA2 (by omega) (by omega)) (M.o_bind (common_out (x:=ts.getD i 0) _ _ ⟨hh.1.2,hh.2.1⟩ fun q hq=>?_) ?_)
  · rw [List.mem_singleton] at hq
    subst hq
    exact hs
  · rintro ⟨a,b⟩ hr
    dsimp only at hr
    refine M.o_pure ⟨by simp [hl],fun j hj=>?_⟩
    rw [gset _ _ _ _ _ (by omega)]
    split
    · rename_i e
      subst e
      exact ⟨⟨by dsimp only; omega,by dsimp only; omega⟩,by dsimp only; omega,by dsimp only; omega⟩
    · exact h j hj
theorem narrowed_out (R:Ct.Rt pl ph base sc off ms nt ts ss st) {mp:List (Int × CNt)} {sb:List Bool} (hs:Ct.StO st sb) {times:List Span} (hT:Ct.TIn ts times) :
    (zaX pl ph base sc off ms nt mp sb times).Out (fun r=>Ct.TIn ts r.1/\r.2=true):=by
  have n40:=R.n40
  have n1:=R.n1
  have tl:=R.tl
  have hTl:=hT.1
  unfold zaX
  refine M.o_bindE (a:=times) (M.i_grd (decide_eq_true (by omega)) (M.i_grd (decide_eq_true (by simp; omega)) M.i_pure)) (M.o_bindE (a:=()) M.i_pure (M.o_bind (gaps_out R _ _ _ _ _ hs) ?_))
  rintro _ ⟨l,rfl,hl,hG⟩
  dsimp only
  refine M.o_bind (P:=fun r=>Ct.TIn ts r.2) (M.o_for (ms.length-1) (fun i (z:List Span × Nat)=>z.2=i/\Ct.TIn ts z.1) ?_ ?_ ⟨rfl,hT⟩) ?_
  · rintro i ⟨l2,_⟩ hi ⟨rfl,h⟩
    rename_i i
    dsimp only at hi h
    have hll:=h.1
    have h1:=h.2 i (by omega)
    have h2:=hG i (by omega)
    have t1:=R.t i (by omega)
    have t2:=R.t (i+1) (by omega)
    simp only [zbf]
    refine M.o_t (decide_eq_true (by omega)) (M.o_grd (decide_eq_true (by omega)) (M.o_grd (decide_eq_true (by omega)) (M.o_grd (gA2 (by omega) (by omega)) (M.o_grd (gA2 (by omega) (by omega)) (M.o_bind (narrow_out h (by omega) (i:=i+1) (by omega) (by omega) ⟨by dsimp only; omega,by dsimp only; omega⟩) (fun r hr=>M.o_pure ⟨rfl,hr⟩))))))
  · rintro ⟨l2,_⟩ ⟨rfl,h⟩
    simp only [zbf]
    exact M.o_f (decide_eq_false (by omega)) (M.o_pure h)
  rintro ⟨_,l4⟩ h4
  dsimp only at h4 ⊢
  refine M.o_bind (P:=fun r=>Ct.TIn ts r.2) (M.o_for (ms.length-1) (fun i (z:List Span × Int)=>z.2=(ms.length:Int)-2-i/\Ct.TIn ts z.1) ?_ ?_ ⟨by dsimp only; omega,h4⟩) ?_
  · rintro i ⟨l2,g⟩ hi ⟨e,h⟩
    dsimp only at e h
    have hll:=h.1
    obtain ⟨k,rfl⟩:∃ k:Nat,g=(k:Int):=⟨Int.toNat g,by omega⟩
    have h1:=h.2 (k+1) (by omega)
    have h2:=hG k (by omega)
    have t1:=R.t k (by omega)
    have t2:=R.t (k+1) (by omega)
    simp only [zaV]
    rw [show Int.toNat ((k:Int)+1)=k+1 by omega,Int.toNat_natCast]
    refine M.o_t (decide_eq_true (by omega)) (M.o_grd (gA2 (by omega) (by omega)) (M.o_grd (gA2 (by omega) (by omega)) (M.o_grd (gA2 (by omega) (by omega)) (M.o_grd (gA2 (by omega) (by omega)) (M.o_grd (gA2 (by omega) (by omega)) (M.o_bind (narrow_out h (by omega) (i:=k) (by omega) rfl ⟨by dsimp only; omega,by dsimp only; omega⟩) (fun r hr=>M.o_grd (gA2 (by omega) (by omega)) (M.o_pure ⟨by dsimp only; omega,hr⟩))))))))
  · rintro ⟨l2,g⟩ ⟨e,h⟩
    dsimp only at e
    simp only [zaV]
    exact M.o_f (decide_eq_false (by omega)) (M.o_pure h)
  rintro ⟨_,l7⟩ h7
  dsimp only at h7 ⊢
  refine M.o_bindE (every_span _ _ fun s hs=>?_) (M.o_pure ⟨h7,rfl⟩)
  obtain ⟨i,hi,rfl⟩:=mem_getD hs default
  have:=h7.2 i (by rw [← h7.1]; exact hi)
  unfold zbK
  rw [decide_eq_true (by omega)]
  exact M.i_pure
theorem times_out (R:Ct.Rt pl ph base sc off ms nt ts ss st) {mp:List (Int × CNt)} (hmp:Ct.MpO nt mp) {sb:List Bool} (hs:Ct.StO st sb):(zbX pl ph base sc off ms nt mp sb).Out (fun r=>Ct.TIn ts r.1/\r.2=true):=by
  unfold zbX
  refine M.o_bind (all_out R hmp) ?_
  rintro ⟨l,_⟩ ⟨_,rfl⟩
  refine M.o_f rfl (M.o_bind (noted_out R hmp) fun l2 h2=>M.o_bind (narrowed_out R hs h2) ?_)
  rintro ⟨l3,_⟩ ⟨h3,rfl⟩
  exact M.o_pure ⟨h3,rfl⟩
theorem read_out (R:Ct.Rt pl ph base sc off ms nt ts ss st):(zbZ pl ph base sc off ms nt st).Out (fun r=>∃ mp sb l1 l2,Ct.MpO nt mp/\Ct.StO st sb/\Ct.TIn ts l1/\Ct.SIn ss l2/\r = .inr (pl,ph,base,sc,off,mp,sb,l1,l2,0)):=by
  unfold zbZ
  refine M.o_bind (begun_out R) ?_
  rintro _ ⟨mp,sb,hmp,hs,rfl⟩
  refine M.o_f rfl (M.o_bind (times_out R hmp hs) ?_)
  rintro ⟨l1,_⟩ ⟨h1,rfl⟩
  refine M.o_f rfl (M.o_bind (all_out R hmp) ?_)
  rintro ⟨l2,_⟩ ⟨h2,rfl⟩
  exact M.o_pure ⟨mp,sb,l1,l2,hmp,hs,h1,h2,rfl⟩
/-- When a stage was first reached lies in what is returned. -/
theorem first_out (R:Ct.Rt pl ph base sc off ms nt ts ss st) {k:Nat} (hk:k<ms.length) {x:Int} (hx:x<=ss.getD k 0) (hlt:∀ j,j<k->ss.getD j 0<x) :
    (zbA pl ph base sc off ms nt st x).Out (fun r=>(-100000000<=r.1/\r.1<=ts.getD k 0/\ts.getD k 0<=r.2.1)/\r.2.2.2=0):=by
  have tl:=R.tl
  have sl:=R.sl
  unfold zbA
  refine M.o_bind (read_out R) ?_
  rintro _ ⟨mp,sb,l1,l2,hmp,hs,⟨hl1,h1⟩,⟨hl2,h2⟩,rfl⟩
  refine M.o_f rfl (M.o_bind (P:=fun r=>r.2.2.1=true/\-100000000<=r.1/\r.1<=ts.getD k 0/\ts.getD k 0<=r.2.1) (M.o_for ms.length (fun i (z:Int × Int × Bool × Bool × Nat)=>z.2.2.2.2=i/\-100000000<=z.1/\(i<=k->z.2.2.2.1=false)/\(k<i->z.2.2.1=true/\z.1<=ts.getD k 0/\ts.getD k 0<=z.2.1)) ?_ ?_ ⟨rfl,by dsimp only; omega,fun _=>rfl,fun h=>by omega⟩) ?_)
  · rintro i ⟨a,b,met,sure,_⟩ hi ⟨rfl,e0,e1,e2⟩
    rename_i i
    dsimp only at hi e0 e1 e2
    simp only [zbk]
    refine M.o_if (fun hb=>?_) (fun hb=>?_)
    · have g1:=h1 i (by omega)
      have g2:=h2 i (by omega)
      refine M.o_grd (decide_eq_true (by omega)) (M.o_if (fun hc=>?_) (fun hc=>?_))
      · have sure':i+1<=k->decide (x<=(l2.getD i default).lo)=false:=fun h=>decide_eq_false (by have:=hlt i (by omega); omega)
        refine M.o_grd (decide_eq_true (by omega)) ?_
        unfold zcP
        cases met with
        | true =>
          refine M.o_bindE (a:=(_,_,_)) M.i_pure (M.o_pure ⟨rfl,by dsimp only; omega,sure',fun h=>⟨rfl,?_⟩⟩)
          dsimp only
          by_cases e:i=k
          · subst e
            omega
          · have:=e2 (by omega)
            omega
        | false =>
          refine M.o_bindE (a:=(_,_,_)) M.i_pure (M.o_pure ⟨rfl,by dsimp only; omega,sure',fun h=>⟨rfl,?_⟩⟩)
          dsimp only
          by_cases e:i=k
          · subst e
            omega
          · have:=(e2 (by omega)).1
            cases this
      · have hc:=of_decide_eq_false hc
        refine M.o_pure ⟨rfl,e0,fun h=>e1 (by omega),fun h=>e2 ?_⟩
        by_cases e:i=k
        · subst e
          omega
        · omega
    · refine M.o_pure ((fun h=>⟨h.1,e0,h.2⟩:_/\_/\_->_) (e2 ?_))
      rw [decide_eq_true (by omega),Bool.true_and] at hb
      have hb:sure=true:=by simpa using hb
      by_cases e:i<=k
      · rw [e1 e] at hb
        cases hb
      · omega
  · rintro ⟨a,b,met,sure,_⟩ ⟨rfl,e0,e1,e2⟩
    simp only [zbk]
    exact M.o_f (by rw [decide_eq_false (by omega)]; rfl) (M.o_pure ⟨(e2 hk).1,e0,(e2 hk).2⟩)
  · rintro ⟨a,b,_,sure⟩ ⟨rfl,h⟩
    exact M.o_bindE (a:=(a,b,0)) M.i_pure (M.o_pure ⟨h,rfl⟩)
end
end Go.Proofs.YtdmdhmineljlhabGreat
namespace Go.Nm
namespace Ct
theorem short:∀ {l:List Int} {n:Nat},l.Pairwise (· < ·)->(∀ x∈l,0<=x/\x<(n:Int))->l.length<=n:=by
  intro l n hp hb
  exact nodup_bound n l (hp.imp fun h=>by omega) hb
/-- Marks that are made, one by one. -/
structure Mk (pl ph base sc off:Int) (k:Nat) (place time:Int) (l:List CMk) (l2 l3 l4:List Int):Prop where
  e1:l.length=k
  e2:l2.length=k
  e3:l3.length=k
  p:0<=place/\place<=30*(k:Int)
  ti:0<=time/\time<=300+1000*(k:Int)
  la:0<k->(l.getD (k-1) default).place=place/\l2.getD (k-1) 0=time
  m:∀ i,i<k->(0<=(l.getD i default).place/\(l.getD i default).place<=30*(k:Int))/\0<=(l.getD i default).height/\(l.getD i default).height<60
  up:∀ i,i+1<k->(l.getD i default).place<(l.getD (i+1) default).place
  t:∀ i,i<k->0<=l2.getD i 0/\l2.getD i 0<=300+1000*(k:Int)
  g:∀ i,i+1<k->pl*((l.getD (i+1) default).place-(l.getD i default).place)<=l2.getD (i+1) 0-l2.getD i 0/\((i:Int)∈l4∨l2.getD (i+1) 0-l2.getD i 0<=ph*((l.getD (i+1) default).place-(l.getD i default).place))
  h:∀ i,i<k->base+sc*(l.getD i default).height-off<=l3.getD i 0/\l3.getD i 0<=base+sc*(l.getD i default).height+off
  sr:l4.Pairwise (· < ·)
  si:∀ x∈l4,0<=x/\x+2<=(k:Int)
theorem apL {α:Type} {l:List α} {x d:α} {j:Nat} (h:j<l.length):(l++[x]).getD j d=l.getD j d:=by
  rw [List.getD_eq_getElem?_getD,List.getElem?_append_left h,← List.getD_eq_getElem?_getD]
theorem apE {α:Type} {l:List α} {x d:α} {j:Nat} (h:l.length=j):(l++[x]).getD j d=x:=by
  subst h
  rw [List.getD_eq_getElem?_getD,List.getElem?_append_right (Nat.le_refl _),Nat.sub_self]
  rfl
theorem Mk.zero {pl ph base sc off time:Int} (h:0<=time/\time<300):Mk pl ph base sc off 0 0 time [] [] [] [] :=
  ⟨rfl,rfl,rfl,by omega,by omega,fun h=>by omega,fun i hi=>by omega,fun i hi=>by omega,fun i hi=>by omega,fun i hi=>by omega,fun i hi=>by omega,List.Pairwise.nil,fun x hx=>by cases hx⟩
theorem Mk.step {pl ph base sc off:Int} {k:Nat} {place time:Int} {l:List CMk} {l2 l3 l4:List Int} (M:Mk pl ph base sc off k place time l l2 l3 l4) {p' t' hh s:Int} {l4':List Int}
    (hp:0<=p'/\p'<=30*((k:Int)+1)) (ht:0<=t'/\t'<=300+1000*((k:Int)+1)) (hg:0<k->place<p'/\pl*(p'-place)<=t'-time/\((k:Int)-1∈l4'∨t'-time<=ph*(p'-place)))
    (hq:0<=hh/\hh<60) (hs:base+sc*hh-off<=s/\s<=base+sc*hh+off) (h4:l4'=l4∨(0<k/\l4'=l4++[(k:Int)-1])) :
    Mk pl ph base sc off (k+1) p' t' (l++[⟨p',hh⟩]) (l2++[t']) (l3++[s]) l4':=by
  obtain ⟨e1,e2,e3,p,ti,la,m,up,tt,g,h,sr,si⟩:=M
  have sub:∀ x∈l4,x∈l4':=by
    rcases h4 with rfl | ⟨_,rfl⟩
    · exact fun x hx=>hx
    · exact fun x hx=>List.mem_append_left _ hx
  refine ⟨by simp [e1],by simp [e2],by simp [e3],by push_cast; omega,by push_cast; omega,fun _=>⟨?_,?_⟩,fun i hi=>?_,fun i hi=>?_,fun i hi=>?_,fun i hi=>?_,fun i hi=>?_,?_,?_⟩
  · rw [Nat.add_sub_cancel,apE e1]
  · rw [Nat.add_sub_cancel,apE e2]
  · by_cases c:i<k
    · have:=m i c
      rw [apL (by omega)]
      omega
    · rw [apE (by omega)]
      dsimp only
      omega
  · by_cases c:i+1<k
    · rw [apL (by omega),apL (by omega)]
      exact up i c
    · have:=(la (by omega)).1
      rw [show k-1=i by omega] at this
      rw [apL (by omega),apE (by omega),this]
      exact (hg (by omega)).1
  · by_cases c:i<k
    · have:=tt i c
      rw [apL (by omega)]
      omega
    · rw [apE (by omega)]
      omega
  · by_cases c:i+1<k
    · rw [apL (by omega),apL (by omega),apL (by omega),apL (by omega)]
      obtain ⟨g1,g2⟩:=g i c
      exact ⟨g1,g2.imp (fun x=>sub _ x) id⟩
    · have a1:=la (by omega)
      have a2:=hg (by omega)
      rw [show k-1=i by omega] at a1
      rw [apE (l:=l) (by omega),apL (l:=l) (by omega),apE (l:=l2) (by omega),apL (l:=l2) (by omega),a1.1,a1.2]
      refine ⟨a2.2.1,?_⟩
      rw [show (i:Int)=(k:Int)-1 by omega]
      exact a2.2.2
  · by_cases c:i<k
    · rw [apL (by omega),apL (by omega)]
      exact h i c
    · rw [apE (by omega),apE (by omega)]
      exact hs
  · rcases h4 with rfl | ⟨_,rfl⟩
    · exact sr
    · rw [List.pairwise_append]
      refine ⟨sr,List.pairwise_singleton _ _,fun a ha b hb=>?_⟩
      rw [List.mem_singleton] at hb
      have:=si a ha
      omega
  · intro x hx
    rcases h4 with rfl | ⟨h0,rfl⟩
    · have:=si x hx
      omega
    · rcases List.mem_append.1 hx with hx | hx
      · have:=si x hx
        omega
      · rw [List.mem_singleton] at hx
        omega
/-- Notes that hold the truth. -/
def NO (n:Nat) (ts ss:List Int) (nt:List CNt):Prop:=∀ x∈nt,∃ i:Nat,i<n/\x.mark=i/\(0<=x.tlo/\x.tlo<=ts.getD i 0/\ts.getD i 0<=x.thi/\x.thi<=10000000)/\(-3000000<=x.slo/\x.slo<=ss.getD i 0/\ss.getD i 0<=x.shi/\x.shi<=3000000)
theorem swap_perm (l:List CNt) {i j:Nat} (hi:i<l.length) (hj:j<l.length):((l.set i (l.getD j default)).set j (l.getD i default)).Perm l:=by
  rw [getD_el l hi,getD_el l hj]
  exact List.set_set_perm hi hj
end Ct
end Go.Nm
namespace Go.Proofs.YtdmdhmineljlhabGreat
open Go Go.Nm
section
variable {b:List UInt8}
theorem made02_b0 {pl r6 base sc off:Int} {stop:Bool} (h1:1<=pl/\pl<=12) (h6:0<=r6/\r6<6) (hb:-50<=base/\base<=400) (hs:0<=sc/\sc<12) (ho:0<=off/\off<9) {time:Int} (ht:0<=time/\time<300) {n:Int} (hn:1<=n/\n<=14) {c u x:Int} (hS:SOk c u x) (hc:c<=1000) :
    (M.iter (zaE b stop pl base sc off r6) (u,x,0,time,n,[],[],[],[])).Out (fun y=>SOk (c+200) y.1 y.2.1/\∃ p t l l2 l3 l4,y.2.2=(l,l2,l3,l4,l4,l3,l2,l)/\Ct.Mk pl (pl+r6) base sc off (Int.toNat n) p t l l2 l3 l4):=by
  refine M.o_for (Int.toNat n) (fun i (z:Int × Int × Int × Int × Int × List CMk × List Int × List Int × List Int)=>z.2.2.2.2.1=n-(i:Int)/\SOk (c+8*(i:Int)) z.1 z.2.1/\Ct.Mk pl (pl+r6) base sc off i z.2.2.1 z.2.2.2.1 z.2.2.2.2.2.1 z.2.2.2.2.2.2.1 z.2.2.2.2.2.2.2.1 z.2.2.2.2.2.2.2.2) ?_ ?_ ⟨by dsimp only; omega,hS.mono (by omega),Ct.Mk.zero ht⟩
  · rintro i ⟨u,x,place,time,m,l,l2,l3,l4⟩ hi ⟨e,hS,hM⟩
    dsimp only at e hS hM
    have e1:=hM.e1
    have e2:=hM.e2
    have e3:=hM.e3
    have hp:=hM.p
    have hti:=hM.ti
    have e4:l4.length<=14:=by
      have:=Ct.short hM.sr (n:=14) (fun x hx=>by have:=hM.si x hx; omega)
      omega
    simp only [zaE]
    refine M.o_t (decide_eq_true (by omega)) (M.o_if (fun hk=>?_) (fun hk=>?_))
    · have hk:=of_decide_eq_true hk
      refine M.o_bind (within_out hS (by omega) (by omega) (by omega) (by omega)) ?_
      rintro ⟨far,u9,x9⟩ ⟨k9,f1,f2⟩
      dsimp only at k9 f1 f2 ⊢
      have q0:pl*1<=pl*far:=Int.mul_le_mul_of_nonneg_left f1 (by omega)
      have q1:pl*far<=12*30:=Int.mul_le_mul (by omega) (by omega) (by omega) (by omega)
      have q2:pl*far<=(pl+r6)*far:=Int.mul_le_mul_of_nonneg_right (by omega) (by omega)
      have q3:(pl+r6)*far<=17*30:=Int.mul_le_mul (by omega) (by omega) (by omega) (by omega)
      refine M.o_grd (gA2 (by omega) (by omega)) (M.o_grd (gA2 (by omega) (by omega)) (M.o_grd (gA2 (by omega) (by omega)) (M.o_bind (within_out k9 (by omega) (by omega) (by omega) (by omega)) ?_)))
      rintro ⟨r10,ut,xt⟩ ⟨kt,f3,f4⟩
      dsimp only at kt f3 f4 ⊢
      have ee:place+far-place=far:=by omega
      refine M.o_grd (gA2 (by omega) (by omega)) (M.o_if (fun hst=>?_) (fun hst=>?_))
      · refine M.o_bind (next_out kt (by omega) (by omega)) ?_
        rintro ⟨r11,uu,xu⟩ ⟨ku,gu,_⟩
        have gu:=gu (by omega)
        dsimp only at ku gu ⊢
        refine M.o_if (fun hz=>?_) (fun hz=>?_)
        · refine M.o_grd (gA2 (by omega) (by omega)) (M.o_grd (decide_eq_true (by simp; omega)) (M.o_bind (next_out ku (by omega) (by omega)) ?_))
          rintro ⟨r12,uv,xv⟩ ⟨kv,gv,_⟩
          have gv:=gv (by omega)
          dsimp only at kv gv ⊢
          refine M.o_grd (gA2 (by omega) (by omega)) ?_
          refine M.o_bind (next_out kv (by omega) (by omega)) ?_
          rintro ⟨r13,ua,xa⟩ ⟨ka,ga,_⟩
          have ga:=ga (by omega)
          dsimp only at ka ga ⊢
          have q0:0<=sc*r13:=Int.mul_nonneg hs.1 ga.1
          have q1:sc*r13<=12*60:=Int.mul_le_mul (by omega) (by omega) (by omega) (by omega)
          refine M.o_grd (gA2 (by omega) (by omega)) (M.o_grd (gA2 (by omega) (by omega)) (M.o_grd (gA2 (by omega) (by omega)) (M.o_grd (gA2 (by omega) (by omega)) (M.o_grd (decide_eq_true (by simp; omega)) (M.o_grd (decide_eq_true (by simp; omega)) (M.o_bind (within_out ka (by omega) (by omega) (by omega) (by omega)) ?_))))))
          rintro ⟨r14,ub,xb⟩ ⟨kb,g1,g2⟩
          dsimp only at kb g1 g2 ⊢
          refine M.o_grd (decide_eq_true (by simp; omega)) (M.o_grd (gA2 (by omega) (by omega)) (M.o_pure ⟨by dsimp only; omega,kb.mono (by omega),?_⟩))
          dsimp only
          exact hM.step (by omega) (by omega) (fun _=>⟨by omega,by rw [ee]; omega,.inl (by rw [e1]; simp)⟩) ga ⟨g1,g2⟩ (.inr ⟨by omega,by rw [e1]⟩)
        · refine M.o_bind (next_out ku (by omega) (by omega)) ?_
          rintro ⟨r13,ua,xa⟩ ⟨ka,ga,_⟩
          have ga:=ga (by omega)
          dsimp only at ka ga ⊢
          have q0:0<=sc*r13:=Int.mul_nonneg hs.1 ga.1
          have q1:sc*r13<=12*60:=Int.mul_le_mul (by omega) (by omega) (by omega) (by omega)
          refine M.o_grd (gA2 (by omega) (by omega)) (M.o_grd (gA2 (by omega) (by omega)) (M.o_grd (gA2 (by omega) (by omega)) (M.o_grd (gA2 (by omega) (by omega)) (M.o_grd (decide_eq_true (by simp; omega)) (M.o_grd (decide_eq_true (by simp; omega)) (M.o_bind (within_out ka (by omega) (by omega) (by omega) (by omega)) ?_))))))
          rintro ⟨r14,ub,xb⟩ ⟨kb,g1,g2⟩
          dsimp only at kb g1 g2 ⊢
          refine M.o_grd (decide_eq_true (by simp; omega)) (M.o_grd (gA2 (by omega) (by omega)) (M.o_pure ⟨by dsimp only; omega,kb.mono (by omega),?_⟩))
          dsimp only
          exact hM.step (by omega) (by omega) (fun _=>⟨by omega,by rw [ee]; omega,.inr (by rw [ee]; omega)⟩) ga ⟨g1,g2⟩ (.inl rfl)
      · refine M.o_bind (next_out kt (by omega) (by omega)) ?_
        rintro ⟨r13,ua,xa⟩ ⟨ka,ga,_⟩
        have ga:=ga (by omega)
        dsimp only at ka ga ⊢
        have q0:0<=sc*r13:=Int.mul_nonneg hs.1 ga.1
        have q1:sc*r13<=12*60:=Int.mul_le_mul (by omega) (by omega) (by omega) (by omega)
        refine M.o_grd (gA2 (by omega) (by omega)) (M.o_grd (gA2 (by omega) (by omega)) (M.o_grd (gA2 (by omega) (by omega)) (M.o_grd (gA2 (by omega) (by omega)) (M.o_grd (decide_eq_true (by simp; omega)) (M.o_grd (decide_eq_true (by simp; omega)) (M.o_bind (within_out ka (by omega) (by omega) (by omega) (by omega)) ?_))))))
        rintro ⟨r14,ub,xb⟩ ⟨kb,g1,g2⟩
        dsimp only at kb g1 g2 ⊢
        refine M.o_grd (decide_eq_true (by simp; omega)) (M.o_grd (gA2 (by omega) (by omega)) (M.o_pure ⟨by dsimp only; omega,kb.mono (by omega),?_⟩))
        dsimp only
        exact hM.step (by omega) (by omega) (fun _=>⟨by omega,by rw [ee]; omega,.inr (by rw [ee]; omega)⟩) ga ⟨g1,g2⟩ (.inl rfl)
    · have hk:=of_decide_eq_false hk
      refine M.o_bind (next_out hS (by omega) (by omega)) ?_
      rintro ⟨r13,ua,xa⟩ ⟨ka,ga,_⟩
      have ga:=ga (by omega)
      dsimp only at ka ga ⊢
      have q0:0<=sc*r13:=Int.mul_nonneg hs.1 ga.1
      have q1:sc*r13<=12*60:=Int.mul_le_mul (by omega) (by omega) (by omega) (by omega)
      refine M.o_grd (gA2 (by omega) (by omega)) (M.o_grd (gA2 (by omega) (by omega)) (M.o_grd (gA2 (by omega) (by omega)) (M.o_grd (gA2 (by omega) (by omega)) (M.o_grd (decide_eq_true (by simp; omega)) (M.o_grd (decide_eq_true (by simp; omega)) (M.o_bind (within_out ka (by omega) (by omega) (by omega) (by omega)) ?_))))))
      rintro ⟨r14,ub,xb⟩ ⟨kb,g1,g2⟩
      dsimp only at kb g1 g2 ⊢
      refine M.o_grd (decide_eq_true (by simp; omega)) (M.o_grd (gA2 (by omega) (by omega)) (M.o_pure ⟨by dsimp only; omega,kb.mono (by omega),?_⟩))
      dsimp only
      exact hM.step (by omega) (by omega) (fun h=>by omega) ga ⟨g1,g2⟩ (.inl rfl)
  · rintro ⟨u,x,place,time,m,l,l2,l3,l4⟩ ⟨e,hS,hM⟩
    dsimp only at e hS hM
    simp only [zaE]
    exact M.o_f (decide_eq_false (by omega)) (M.o_pure ⟨hS.mono (by omega),_,_,_,_,_,_,rfl,hM⟩)
theorem made02_b1 {pl ph base sc off p t:Int} {n:Nat} {ms:List CMk} {ts ss st:List Int} (hb:-50<=base/\base<=400) (hs:0<=sc/\sc<12) (ho:0<=off/\off<9) (hM:Ct.Mk pl ph base sc off n p t ms ts ss st) (hn:n<=14) {c u x:Int} (hS:SOk c u x) (hc:c<=10000) :
    (M.iter (zaB b ss ts ms) (u,x,0,[])).Out (fun y=>SOk (c+200) y.1 y.2.1/\∃ nt,y.2.2=(nt,nt)/\Ct.NO n ts ss nt/\(nt.map CNt.mark).Nodup/\nt.length<=20):=by
  have e1:=hM.e1
  have e2:=hM.e2
  have e3:=hM.e3
  refine M.o_for n (fun i (z:Int × Int × Nat × List CNt)=>z.2.2.1=i/\SOk (c+6*(i:Int)) z.1 z.2.1/\Ct.NO n ts ss z.2.2.2/\(z.2.2.2.map CNt.mark).Nodup/\z.2.2.2.length<=i/\∀ y∈z.2.2.2,y.mark<(i:Int)) ?_ ?_ ⟨rfl,hS.mono (by omega),(fun y hy=>by cases hy),List.nodup_nil,Nat.le_refl _,(fun y hy=>by cases hy)⟩
  · rintro i ⟨u,x,_,nt⟩ hi ⟨rfl,hS,hN,hd,hl,hlt⟩
    rename_i i
    dsimp only at hi hS hN hd hl hlt
    simp only [zaB]
    refine M.o_t (by rw [decide_eq_true (by omega),decide_eq_true (by omega)]; rfl) (M.o_bind (next_out hS (by omega) (by omega)) ?_)
    rintro ⟨r15,u1,x1⟩ ⟨k1,_,_⟩
    dsimp only at k1 ⊢
    refine M.o_if (fun hz=>?_) (fun hz=>M.o_grd (gA2 (by omega) (by omega)) (M.o_pure ⟨rfl,k1.mono (by omega),hN,hd,by dsimp only; omega,fun y hy=>by have:=hlt y hy; omega⟩))
    have a1:=hM.t i hi
    have a2:=hM.h i hi
    have a3:=hM.m i hi
    have q0:0<=sc*(ms.getD i default).height:=Int.mul_nonneg hs.1 a3.2.1
    have q1:sc*(ms.getD i default).height<=12*60:=Int.mul_le_mul (by omega) (by omega) (by omega) (by omega)
    refine M.o_grd (decide_eq_true (by omega)) (M.o_grd (decide_eq_true (by omega)) (M.o_bind (next_out k1 (by omega) (by omega)) ?_))
    rintro ⟨r16,u2,x2⟩ ⟨k2,g2,_⟩
    have g2:=g2 (by omega)
    dsimp only at k2 g2 ⊢
    refine M.o_grd (gA2 (by omega) (by omega)) (M.o_bind (next_out k2 (by omega) (by omega)) ?_)
    rintro ⟨r17,u3,x3⟩ ⟨k3,g3,_⟩
    have g3:=g3 (by omega)
    dsimp only at k3 g3 ⊢
    refine M.o_grd (gA2 (by omega) (by omega)) (M.o_bind (next_out k3 (by omega) (by omega)) ?_)
    rintro ⟨r18,u4,x4⟩ ⟨k4,g4,_⟩
    have g4:=g4 (by omega)
    dsimp only at k4 g4 ⊢
    refine M.o_grd (gA2 (by omega) (by omega)) (M.o_bind (next_out k4 (by omega) (by omega)) ?_)
    rintro ⟨r19,u5,x5⟩ ⟨k5,g5,_⟩
    have g5:=g5 (by omega)
    dsimp only at k5 g5 ⊢
    refine M.o_grd (gA2 (by omega) (by omega)) (M.o_grd (decide_eq_true (by simp; omega)) (M.o_grd (gA2 (by omega) (by omega)) (M.o_pure ⟨rfl,k5.mono (by omega),fun y hy=>?_,?_,by simp; omega,fun y hy=>?_⟩)))
    · rcases List.mem_append.1 hy with hy | hy
      · exact hN y hy
      · rw [List.mem_singleton] at hy
        subst hy
        exact ⟨i,hi,rfl,⟨by dsimp only; omega,by dsimp only; omega,by dsimp only; omega,by dsimp only; omega⟩,by dsimp only; omega,by dsimp only; omega,by dsimp only; omega,by dsimp only; omega⟩
    · rw [List.map_append,List.nodup_append]
      refine ⟨hd,by simp,fun a ha b hb=>?_⟩
      obtain ⟨y,hy,rfl⟩:=List.mem_map.1 ha
      simp only [List.map_cons,List.map_nil,List.mem_singleton] at hb
      have:=hlt y hy
      omega
    · rcases List.mem_append.1 hy with hy | hy
      · have:=hlt y hy
        omega
      · rw [List.mem_singleton] at hy
        subst hy
        dsimp only
        omega
  · rintro ⟨u,x,i,nt⟩ ⟨e,hS,hN,hd,hl,hlt⟩
    dsimp only at e hS hN hd hl hlt
    simp only [zaB]
    exact M.o_f (by rw [decide_eq_false (by omega)]; rfl) (M.o_pure ⟨hS.mono (by omega),nt,rfl,hN,hd,by omega⟩)
theorem made02_b2 {nt:List CNt} (hn:nt.length<=20) {c u x:Int} (hS:SOk c u x) (hc:c<=100000) :
    (M.iter (zay b) (u,x,nt,(nt.length:Int)-1)).Out (fun y=>y.1.Perm nt/\y.2.1=y.1):=by
  refine M.o_for (nt.length-1) (fun i (z:Int × Int × List CNt × Int)=>z.2.2.2=(nt.length:Int)-1-(i:Int)/\SOk (c+(i:Int)) z.1 z.2.1/\z.2.2.1.Perm nt) ?_ ?_ ⟨by dsimp only; omega,hS.mono (by omega),List.Perm.refl _⟩
  · rintro i ⟨u,x,l,k⟩ hi ⟨e,hS,hp⟩
    dsimp only at e hS hp
    have hl:=hp.length_eq
    simp only [zay]
    refine M.o_t (decide_eq_true (by omega)) (M.o_grd (gA2 (by omega) (by omega)) (M.o_bind (next_out hS (by omega) (by omega)) ?_))
    rintro ⟨r,u1,x1⟩ ⟨k1,g1,_⟩
    have g1:=g1 (by omega)
    dsimp only at k1 g1 ⊢
    refine M.o_grd (gA2 (by omega) (by omega)) (M.o_grd (gA2 (by omega) (by omega)) (M.o_grd (gA2 (by omega) (by rw [List.length_set]; omega)) (M.o_grd (gA2 (by omega) (by omega)) (M.o_pure ⟨by dsimp only; omega,k1.mono (by omega),(Ct.swap_perm l (by omega) (by omega)).trans hp⟩))))
  · rintro ⟨u,x,l,k⟩ ⟨e,hS,hp⟩
    dsimp only at e hS hp
    simp only [zay]
    exact M.o_f (decide_eq_false (by omega)) (M.o_pure ⟨hp,rfl⟩)
theorem made02_out {marks:Int} {stop:Bool} (hm:1<=marks/\marks<=14) {u x:Int} (hS:SOk 0 u x) :
    (zbB b u x marks stop).Out (fun y=>Ct.Rt y.1 y.2.1 y.2.2.1 y.2.2.2.1 y.2.2.2.2.1 y.2.2.2.2.2.1 y.2.2.2.2.2.2.1 y.2.2.2.2.2.2.2.1 y.2.2.2.2.2.2.2.2.1 y.2.2.2.2.2.2.2.2.2.1/\(-50<=y.2.2.1/\y.2.2.1<=400)/\∀ i,i<y.2.2.2.2.2.1.length->-2000<=y.2.2.2.2.2.2.2.2.1.getD i 0/\y.2.2.2.2.2.2.2.2.1.getD i 0<=2000):=by
  unfold zbB
  refine M.o_bind (within_out hS (by omega) (by omega) (by omega) (by omega)) ?_
  rintro ⟨pl,u1,x1⟩ ⟨k1,a1,a2⟩
  dsimp only at k1 a1 a2 ⊢
  refine M.o_bind (within_out k1 (by omega) (by omega) (by omega) (by omega)) ?_
  rintro ⟨base,u2,x2⟩ ⟨k2,b1,b2⟩
  dsimp only at k2 b1 b2 ⊢
  refine M.o_bind (next_out k2 (by omega) (by omega)) ?_
  rintro ⟨sc,u3,x3⟩ ⟨k3,c1,_⟩
  have c1:=c1 (by omega)
  dsimp only at k3 c1 ⊢
  refine M.o_bind (next_out k3 (by omega) (by omega)) ?_
  rintro ⟨off,u4,x4⟩ ⟨k4,d1,_⟩
  have d1:=d1 (by omega)
  dsimp only at k4 d1 ⊢
  refine M.o_bind (next_out k4 (by omega) (by omega)) ?_
  rintro ⟨r6,u5,x5⟩ ⟨k5,e1,_⟩
  have e1:=e1 (by omega)
  dsimp only at k5 e1 ⊢
  refine M.o_grd (gA2 (by omega) (by omega)) (M.o_bind (next_out k5 (by omega) (by omega)) ?_)
  rintro ⟨time,u6,x6⟩ ⟨k6,f1,_⟩
  have f1:=f1 (by omega)
  dsimp only at k6 f1 ⊢
  refine M.o_bind (within_out k6 (by omega) (by omega) (by omega) (by omega)) ?_
  rintro ⟨n,u7,x7⟩ ⟨k7,g1,g2⟩
  dsimp only at k7 g1 g2 ⊢
  refine M.o_bind (made02_b0 (stop:=stop) ⟨a1,a2⟩ e1 ⟨b1,b2⟩ c1 d1 f1 (n:=n) ⟨g1,by omega⟩ k7 (by omega)) ?_
  rintro ⟨u8,x8,_⟩ ⟨k8,p,t,ms,ts,ss,st,rfl,hM⟩
  dsimp only at k8 ⊢
  refine M.o_bind (made02_b1 ⟨b1,b2⟩ c1 d1 hM (by omega) k8 (by omega)) ?_
  rintro ⟨u9,x9,_⟩ ⟨k9,nt,rfl,hN,hd,hl⟩
  dsimp only at k9 ⊢
  refine M.o_bind (made02_b2 hl k9 (by omega)) ?_
  rintro ⟨l1,l2,u10,x10⟩ ⟨hp,e⟩
  dsimp only at hp e
  subst e
  have q1:=hM.e1
  have q2:=hM.e2
  have q3:=hM.e3
  refine M.o_pure ⟨⟨by dsimp only; omega,by dsimp only; omega,by dsimp only; omega,by dsimp only; omega,a1,by dsimp only; omega,by dsimp only; omega,by dsimp only; omega,by dsimp only; omega,by dsimp only; omega,fun i hi=>?_,fun i hi=>hM.up i (by dsimp only at hi; omega),fun i hi=>?_,fun i hi=>hM.g i (by dsimp only at hi; omega),fun i hi=>hM.h i (by dsimp only at hi; omega),?_,?_,fun y hy=>?_,hM.sr,fun y hy=>?_⟩,⟨b1,b2⟩,fun i hi=>?_⟩
  · dsimp only at hi ⊢
    have:=hM.m i (by omega)
    omega
  · dsimp only at hi ⊢
    have:=hM.t i (by omega)
    omega
  · dsimp only
    rw [hp.length_eq]
    exact hl
  · exact (hp.map CNt.mark).nodup_iff.2 hd
  · dsimp only
    rw [q1]
    exact hN y (hp.mem_iff.1 hy)
  · dsimp only at hy ⊢
    have:=hM.si y hy
    omega
  · dsimp only at hi ⊢
    have h1:=hM.m i (by omega)
    have h2:=hM.h i (by omega)
    have q0:0<=sc*(ms.getD i default).height:=Int.mul_nonneg c1.1 h1.2.1
    have q1:sc*(ms.getD i default).height<=12*60:=Int.mul_le_mul (by omega) (by omega) (by omega) (by omega)
    omega
end
end Go.Proofs.YtdmdhmineljlhabGreat
section
set_option maxRecDepth 100000
set_option maxHeartbeats 16000000
namespace Go.Proofs.YtdmdhmineljlhabGreat
open Go Go.Nm
attribute [local irreducible] gd execOp SL SLD SLT WR
def zaK (rivers:List UInt8) (r3:Int):(Int × Int × Nat × (List Int) × (List Span))->M ((Int × Int × Nat × (List Int) × (List Span)) ⊕ (Int × Int × (List Int) × (List Span) × (List Span) × (List Int))):=fun (s,s2,i,l,l2) =>
  bif decide ((i:Int)<r3) then (
  M.bind (zac rivers s s2 9) fun (r4,aa,ab) =>
  M.grd (decide ((-9223372036854775808:Int)<=((i:Int)+1))&&decide (((i:Int)+1)<=(9223372036854775807:Int))) <|
  M.grd (decide ((l.length+([((i:Int)+1:Int)]).length)*8<=140737488355328)) <|
  M.bind (zac rivers aa ab 5) fun (r5,ac,ae) =>
  M.grd (decide ((-9223372036854775808:Int)<=(r4+r5))&&decide ((r4+r5)<=(9223372036854775807:Int))) <|
  M.grd (decide ((l2.length+([(⟨(r4:Int),(r4+r5:Int)⟩:Span)]).length)*16<=140737488355328)) <|
  M.pure (.inl (ac,ae,i+1,l++([((i:Int)+1:Int)]),l2++([(⟨(r4:Int),(r4+r5:Int)⟩:Span)]))))
  else (
  M.pure (.inr (s,s2,l,l2,l2,l)))
def zaP (ab:Int) (aa:List Int) (r8:Int):(Int × Nat)->M ((Int × Nat) ⊕ Int):=fun (reached,i2) =>
  bif ((decide ((i2:Int)<(aa.length:Int)))&&(decide (reached<0))) then (
  M.grd (decide ((i2:Int)<(aa.length:Int))) <|
  bif decide ((ab+r8)<=(aa.getD i2 0)) then (
  M.pure (.inl ((i2:Int),i2+1)))
  else (
  M.pure (.inl (reached,i2+1))))
  else (
  M.pure (.inr reached))
def zaD (hours:List UInt8) (r3:Int) (l5:List Span):(Int × Int × Int × Int)->M ((Int × Int × Int × Int) ⊕ (Int × Int × Int)):=fun (s5,s6,there,k) =>
  bif decide (k<(r3-1)) then (
  M.grd (decide ((0:Int)<=k)&&decide (k<(l5.length:Int))) <|
  M.bind (zag hours s5 s6 ((l5.getD (Int.toNat k) default).lo) ((l5.getD (Int.toNat k) default).hi)) fun (aa,ab,ac) =>
  M.grd (decide ((-9223372036854775808:Int)<=(60*aa))&&decide ((60*aa)<=(9223372036854775807:Int))) <|
  M.grd (decide ((-9223372036854775808:Int)<=(there+(60*aa)))&&decide ((there+(60*aa))<=(9223372036854775807:Int))) <|
  M.pure (.inl (ab,ac,there+(60*aa),k+1)))
  else (
  M.pure (.inr (there,s5,s6)))
def zcs (numbers rivers hours:List UInt8) (stage:Int):M Bool :=
  M.bind (zbi numbers) fun (r1,r2) =>
  M.bind (zbB numbers r1 r2 10 true) fun (ak,al,ai,am,ao,ap,aq,aa,au,av,q1,q2) =>
  M.bind (zbi rivers) fun (aw,ax) =>
  M.bind (zbi hours) fun (ay,az) =>
  M.bind (zag rivers aw ax 2 6) fun (r3,aA,aB) =>
  M.bind (M.iter (zaK rivers r3) (aA,aB,0,[],[])) fun (s3,s4,l3,l4,l5,l6) =>
  M.grd (decide ((-9223372036854775808:Int)<=(r3-1))&&decide ((r3-1)<=(9223372036854775807:Int))) <|
  M.grd (decide ((0:Int)<=(r3-1))&&decide ((r3-1)<(l6.length:Int))) <|
  M.bind (zac rivers s3 s4 2) fun (r6,aC,aD) =>
  M.bind (zac rivers aC aD 6) fun (r7,aJ,aK) =>
  M.bind (zaI (l6.set (Int.toNat (r3-1)) (-1:Int)) l5 ([(0:Int)]) ([(⟨(r3-1:Int),(r7:Int),(0:Int)⟩:Town)]) r6 2 ([]:List Flood) (⟨(0:Int),(0:Int)⟩:Dem)) fun (r0,aE) =>
  bif ((aE != 0)||(decide (r3<(r0.length:Int)))) then (
  M.pure false)
  else (
  M.bind (zcc stage 700) fun r8 =>
  M.grd (decide ((-9223372036854775808:Int)<=(ai+r8))&&decide ((ai+r8)<=(9223372036854775807:Int))) <|
  M.bind (M.iter (zaP ai au r8) (-1,0)) fun reached2 =>
  bif ((decide (reached2<0))||((r0.length:Int)==0)) then (
  M.bind (zb3) fun r9 =>
  M.pure r9)
  else (
  M.bind (zbA ak al ai am ao ap aq av (ai+r8)) fun (ah,aF,aL,aj) =>
  M.grd ((!(!(aj != 0))||(decide ((0:Int)<=reached2)&&decide (reached2<(aa.length:Int))))) <|
  M.grd ((!(!((aj != 0)||(decide ((aa.getD (Int.toNat reached2) 0)<ah))))||(decide ((0:Int)<=reached2)&&decide (reached2<(aa.length:Int))))) <|
  bif (((aj != 0)||(decide ((aa.getD (Int.toNat reached2) 0)<ah)))||(decide (aF<(aa.getD (Int.toNat reached2) 0)))) then (
  M.pure false)
  else (
  M.grd (decide ((0:Int)<=((r0.length:Int)-1))&&decide (((r0.length:Int)-1)<(r0.length:Int))) <|
  bif ((decide ((r0.getD (Int.toNat ((r0.length:Int)-1)) 0)<0))||(decide (r3<=(r0.getD (Int.toNat ((r0.length:Int)-1)) 0)))) then (
  M.pure false)
  else (
  M.grd (decide ((0:Int)<=reached2)&&decide (reached2<(aa.length:Int))) <|
  M.bind (zag hours ay az r6 2) fun (ab,aG,aH) =>
  M.grd (decide ((-9223372036854775808:Int)<=(60*ab))&&decide ((60*ab)<=(9223372036854775807:Int))) <|
  M.grd (decide ((-9223372036854775808:Int)<=((aa.getD (Int.toNat reached2) 0)+(60*ab)))&&decide (((aa.getD (Int.toNat reached2) 0)+(60*ab))<=(9223372036854775807:Int))) <|
  M.bind (M.iter (zaD hours r3 l5) (aG,aH,aa.getD (Int.toNat reached2) 0,r0.getD (Int.toNat ((r0.length:Int)-1)) 0)) fun (there2,s7,s8) =>
  M.bind (zbl (l6.set (Int.toNat (r3-1)) (-1:Int)) l5 ([(0:Int)]) ([(⟨(r3-1:Int),(r7:Int),(0:Int)⟩:Town)]) r6 2 ([]:List Flood) (r0.getD (Int.toNat ((r0.length:Int)-1)) 0) 0) fun (ae,ag,ac) =>
  M.grd ((!(ac==0)||(decide ((-9223372036854775808:Int)<=(there2-((aa.getD (Int.toNat reached2) 0)+(60*ab))))&&decide ((there2-((aa.getD (Int.toNat reached2) 0)+(60*ab)))<=(9223372036854775807:Int))))) <|
  M.grd ((!(ac==0)||(decide (0<(([(⟨(r3-1:Int),(r7:Int),(0:Int)⟩:Town)]).length:Int))))) <|
  M.grd ((!(ac==0)||(decide ((-9223372036854775808:Int)<=(60*((([(⟨(r3-1:Int),(r7:Int),(0:Int)⟩:Town)]).getD 0 default).lead)))&&decide ((60*((([(⟨(r3-1:Int),(r7:Int),(0:Int)⟩:Town)]).getD 0 default).lead))<=(9223372036854775807:Int))))) <|
  M.grd ((!((ac==0)&&(decide ((60*((([(⟨(r3-1:Int),(r7:Int),(0:Int)⟩:Town)]).getD 0 default).lead))<=(there2-((aa.getD (Int.toNat reached2) 0)+(60*ab))))))||(decide ((-9223372036854775808:Int)<=(there2-((aa.getD (Int.toNat reached2) 0)+(60*ab))))&&decide ((there2-((aa.getD (Int.toNat reached2) 0)+(60*ab)))<=(9223372036854775807:Int))))) <|
  M.grd ((!((ac==0)&&(decide ((60*((([(⟨(r3-1:Int),(r7:Int),(0:Int)⟩:Town)]).getD 0 default).lead))<=(there2-((aa.getD (Int.toNat reached2) 0)+(60*ab))))))||(decide ((-9223372036854775808:Int)<=(60*ae))&&decide ((60*ae)<=(9223372036854775807:Int))))) <|
  M.grd ((!(((ac==0)&&(decide ((60*((([(⟨(r3-1:Int),(r7:Int),(0:Int)⟩:Town)]).getD 0 default).lead))<=(there2-((aa.getD (Int.toNat reached2) 0)+(60*ab))))))&&(decide ((60*ae)<=(there2-((aa.getD (Int.toNat reached2) 0)+(60*ab))))))||(decide ((-9223372036854775808:Int)<=(there2-((aa.getD (Int.toNat reached2) 0)+(60*ab))))&&decide ((there2-((aa.getD (Int.toNat reached2) 0)+(60*ab)))<=(9223372036854775807:Int))))) <|
  M.grd ((!(((ac==0)&&(decide ((60*((([(⟨(r3-1:Int),(r7:Int),(0:Int)⟩:Town)]).getD 0 default).lead))<=(there2-((aa.getD (Int.toNat reached2) 0)+(60*ab))))))&&(decide ((60*ae)<=(there2-((aa.getD (Int.toNat reached2) 0)+(60*ab))))))||(decide ((-9223372036854775808:Int)<=(60*ag))&&decide ((60*ag)<=(9223372036854775807:Int))))) <|
  M.grd ((!((((ac==0)&&(decide ((60*((([(⟨(r3-1:Int),(r7:Int),(0:Int)⟩:Town)]).getD 0 default).lead))<=(there2-((aa.getD (Int.toNat reached2) 0)+(60*ab))))))&&(decide ((60*ae)<=(there2-((aa.getD (Int.toNat reached2) 0)+(60*ab))))))&&(decide ((there2-((aa.getD (Int.toNat reached2) 0)+(60*ab)))<=(60*ag))))||(decide ((-9223372036854775808:Int)<=(there2-ah))&&decide ((there2-ah)<=(9223372036854775807:Int))))) <|
  M.grd ((!((((ac==0)&&(decide ((60*((([(⟨(r3-1:Int),(r7:Int),(0:Int)⟩:Town)]).getD 0 default).lead))<=(there2-((aa.getD (Int.toNat reached2) 0)+(60*ab))))))&&(decide ((60*ae)<=(there2-((aa.getD (Int.toNat reached2) 0)+(60*ab))))))&&(decide ((there2-((aa.getD (Int.toNat reached2) 0)+(60*ab)))<=(60*ag))))||(decide (0<(([(⟨(r3-1:Int),(r7:Int),(0:Int)⟩:Town)]).length:Int))))) <|
  M.grd ((!((((ac==0)&&(decide ((60*((([(⟨(r3-1:Int),(r7:Int),(0:Int)⟩:Town)]).getD 0 default).lead))<=(there2-((aa.getD (Int.toNat reached2) 0)+(60*ab))))))&&(decide ((60*ae)<=(there2-((aa.getD (Int.toNat reached2) 0)+(60*ab))))))&&(decide ((there2-((aa.getD (Int.toNat reached2) 0)+(60*ab)))<=(60*ag))))||(decide ((-9223372036854775808:Int)<=(((([(⟨(r3-1:Int),(r7:Int),(0:Int)⟩:Town)]).getD 0 default).lead)+2))&&decide ((((([(⟨(r3-1:Int),(r7:Int),(0:Int)⟩:Town)]).getD 0 default).lead)+2)<=(9223372036854775807:Int))))) <|
  M.grd ((!((((ac==0)&&(decide ((60*((([(⟨(r3-1:Int),(r7:Int),(0:Int)⟩:Town)]).getD 0 default).lead))<=(there2-((aa.getD (Int.toNat reached2) 0)+(60*ab))))))&&(decide ((60*ae)<=(there2-((aa.getD (Int.toNat reached2) 0)+(60*ab))))))&&(decide ((there2-((aa.getD (Int.toNat reached2) 0)+(60*ab)))<=(60*ag))))||(decide ((-9223372036854775808:Int)<=(60*(((([(⟨(r3-1:Int),(r7:Int),(0:Int)⟩:Town)]).getD 0 default).lead)+2)))&&decide ((60*(((([(⟨(r3-1:Int),(r7:Int),(0:Int)⟩:Town)]).getD 0 default).lead)+2))<=(9223372036854775807:Int))))) <|
  M.bind (M.opt (((((ac==0)&&(decide ((60*((([(⟨(r3-1:Int),(r7:Int),(0:Int)⟩:Town)]).getD 0 default).lead))<=(there2-((aa.getD (Int.toNat reached2) 0)+(60*ab))))))&&(decide ((60*ae)<=(there2-((aa.getD (Int.toNat reached2) 0)+(60*ab))))))&&(decide ((there2-((aa.getD (Int.toNat reached2) 0)+(60*ab)))<=(60*ag))))&&(decide ((60*(((([(⟨(r3-1:Int),(r7:Int),(0:Int)⟩:Town)]).getD 0 default).lead)+2))<=(there2-ah)))) (zb3) false) fun aI =>
  M.pure ((((((ac==0)&&(decide ((60*((([(⟨(r3-1:Int),(r7:Int),(0:Int)⟩:Town)]).getD 0 default).lead))<=(there2-((aa.getD (Int.toNat reached2) 0)+(60*ab))))))&&(decide ((60*ae)<=(there2-((aa.getD (Int.toNat reached2) 0)+(60*ab))))))&&(decide ((there2-((aa.getD (Int.toNat reached2) 0)+(60*ab)))<=(60*ag))))&&(decide ((60*(((([(⟨(r3-1:Int),(r7:Int),(0:Int)⟩:Town)]).getD 0 default).lead)+2))<=(there2-ah))))&&aI)))))
theorem zeb {R:List Chunk} {cd:Cells} {bg:Value} {ce:Cells} {bj:Value} {cf:Cells} {aN:Value} (numbers:List UInt8) (rivers:List UInt8) (hours:List UInt8) (stage:Int) (cg:Reads R cd) (ch:Sl cd bg numbers) (aw:Reads R ce) (ax:Sl ce bj rivers) (bv:Reads R cf) (bw:Sl cf aN hours) {r:Bool} (hM:(zcs numbers rivers hours stage).Ends r) (w:World) (H:St w w [] R):Ret Tryz.prog 3 #[bg,bj,aN,I stage] w fun v w'=>∃ (y0:Bool),y0=r/\v=B y0/\St w w' [] R:=by
 refine ret_of_W Tryz.func3 rfl rfl rfl ?_;refine kg 7 ?_;obtain ⟨dJ,cq,hM⟩:=M.e_bind hM;refine s_call cf5 [bg] rfl (zcQ numbers (cg.app _) ch cq _ (H.gt 0)) ?_
 rintro vq dK ⟨r1,r2,bt,rfl,hvq,aa⟩
 subst vq;(try dsimp only at hM);replace H:=H.bk aa;clear aa;obtain ⟨dL,cr,hM⟩:=M.e_bind hM;refine s_call cf4 [Pq bt,I 10,B true] rfl (zei numbers r1 r2 10 true (cg.app _) ch cr _ (H.gt 0)) ?_
 rintro vq dM ⟨aS,aT,az,aU,aV,bh,bi,ab,aD,aY,q1,q2,aE,aF,am,aq,au,rfl,hvq,aa⟩
 subst vq;(try dsimp only at hM);replace H:=H.bk aa;clear aa;refine kg 3 ?_;refine t_alloc (cs:=[I 0,I 0,I 0,I 0,I 0,.slice none 0 0,.slice none 0 0]) H Al28 rfl ?_;intro a6 dN H;refine t_alloc (cs:=[.slice none 0 0,.slice none 0 0,.slice none 0 0]) H Al31 rfl ?_;intro aO dO H;refine t_sw 1 0 [I aS,I aT,I az,I aU,I aV,aE,aF] (.agg #[I aS,I aT,I az,I aU,I aV,aE,aF]) H rfl rfl Sz28 rfl rfl rfl (by simp only [List.all_cons,List.all_nil,Bool.true_and,Bool.and_true,Sl.oc (H.os 2),Sl.oc (H.os 3)]; try rfl) ?_;intro dP H;refine t_sw 0 0 [am,aq,au] (.agg #[am,aq,au]) H rfl rfl Sz31 rfl rfl rfl (by simp only [List.all_cons,List.all_nil,Bool.true_and,Bool.and_true,Sl.oc (H.os 4),Sl.oc (H.os 5),Sl.oc (H.os 6)]; try rfl) ?_;intro dQ H;refine kg 4 ?_;obtain ⟨dR,ct,hM⟩:=M.e_bind hM;refine s_call cf5 [bj] rfl (zcQ rivers (aw.app _) ax ct _ (H.gt 8)) ?_
 rintro vq dS ⟨cu,cv,av,rfl,hvq,aa⟩
 subst vq;(try dsimp only at hM);replace H:=H.bk aa;clear aa;refine kg 1 ?_;obtain ⟨dU,cw,hM⟩:=M.e_bind hM;refine s_call cf5 [aN] rfl (zcQ hours (bv.app _) bw cw _ (H.gt 9)) ?_
 rintro vq dV ⟨a7,a8,aG,rfl,hvq,aa⟩
 subst vq;(try dsimp only at hM);replace H:=H.bk aa;clear aa;refine kg 5 ?_;refine t_alloc (cs:=[.slice none 0 0,.slice none 0 0,.slice none 0 0,.slice none 0 0,I 0,I 0,.slice none 0 0]) H Al40 rfl ?_;intro aJ dW H;refine kg 4 ?_;obtain ⟨dX,cx,hM⟩:=M.e_bind hM;refine s_call cf6 [Pq av,I 2,I 6] rfl (zad rivers cu cv 2 6 (aw.app _) ax cx _ ((H.pk [2,0,1,3,4,5,6,7,8,9,10]).gt 10)) ?_
 rintro vq dY ⟨r3,cy,cz,rfl,hvq,aa⟩
 subst vq;(try dsimp only at hM)
 replace H:=H.pk [2,0,1,3,4,5,6,7,8,9,10] |>.bk aa
 clear aa;refine kg 8 ?_
 replace H:=H.nilOwn (α:=Int) 3
 replace H:=H.nilOwn (α:=Span) 24
 obtain ⟨cA,bx,cB⟩:=M.e_bind hM
 obtain ⟨ci,bx⟩:=M.e_iter bx
 refine W.loop (fun m σ W=>∃ (s:Int) (s2:Int) (i:Nat) (l:List Int) (l2:List Span) (ai:Value) (aj:Value) (ρ:Env),σ=upds ρ [(3,I stage),(9,Pq a6),(10,Pq aO),(11,Pq av),(12,Pq aG),(13,Pq aJ),(14,I r3),(15,I (i:Int))]/\M.iterN (zaK rivers r3) m (s,s2,i,l,l2)=some cA/\St w W [cOwn (α:=Span) 24 aj l2,cOwn (α:=Int) 3 ai l,cBlk av [bj,I s,I s2] 61,cBlk aJ [ai,aj,.slice none 0 0,.slice none 0 0,I 0,I 0,.slice none 0 0] 40,cBlk aG [aN,I a7,I a8] 61,cBlk aO [am,aq,au] 31,cBlk a6 [I aS,I aT,I az,I aU,I aV,aE,aF] 28,cOwn (α:=CMk) 57 aE bh,cOwn (α:=CNt) 59 aF bi,cOwn (α:=Int) 3 am ab,cOwn (α:=Int) 3 aq aD,cOwn (α:=Int) 3 au aY,cBlk bt [bg,I q1,I q2] 61] R) ?_ ?_
 ·exact ⟨_,cy,cz,0,[],[],(.slice none 0 0),(.slice none 0 0),_,upds_of _ _ ⟨rfl,rfl,rfl,rfl,rfl,rfl,rfl,rfl,trivial⟩,bx,H⟩
 rintro dZ σ d4 ⟨s,s2,i,l,l2,ai,aj,ρ,rfl,cj,H⟩
 obtain ⟨aK,aL,d5,hM,aH⟩:=M.e_iterN cj
 simp only [zaK] at hM
 clear cj;refine kg 7 ?_
 refine W.cond (decide ((i:Int)<r3)) rfl (fun ba=>?_) (fun ba=>?_)
 ·replace hM:=M.e_t hM ba
  replace ba:=dI ba
  refine kg 6 ?_;obtain ⟨d6,cC,hM⟩:=M.e_bind hM;refine s_call cf7 [Pq av,I 9] rfl (zab rivers s s2 9 (aw.app _) ax cC _ ((H.pk [2,0,1,3,4,5,6,7,8,9,10,11,12]).gt 12)) ?_
  rintro vq d7 ⟨r4,aQ,aR,rfl,hvq,aa⟩
  subst vq;(try dsimp only at hM)
  replace H:=H.pk [2,0,1,3,4,5,6,7,8,9,10,11,12] |>.bk aa
  clear aa;refine kg 2 ?_;refine W.drawT (fun W=>St w W [cBlk aG [aN,I a7,I a8] 61,cBlk aO [am,aq,au] 31,cBlk a6 [I aS,I aT,I az,I aU,I aV,aE,aF] 28,cOwn (α:=CMk) 57 aE bh,cOwn (α:=CNt) 59 aF bi,cOwn (α:=Int) 3 am ab,cOwn (α:=Int) 3 aq aD,cOwn (α:=Int) 3 au aY,cBlk bt [bg,I q1,I q2] 61] R) (.q 0 (.q 2 (.q 3 (.q 6 (.q 8 (.q 9 (.q 10 (.l3 1 (.l2 4 (.l2 5 (.l2 7 (.q 16 (.l 11 (.q 12 (.q 13 (.l 14 (.l 15 (.l 17 (.q 18 (.l 19 .nil))))))))) 11 (.q 12 (.q 13 (.l2 7 (.q 16 (.l 14 (.l 15 (.l 17 (.q 18 (.l 19 .nil)))))) 14 (.l 7 (.q 16 (.l 15 (.l 17 (.q 18 (.l 19 .nil)))))))))) 7 (.l 5 (.q 16 (.l 11 (.q 12 (.q 13 (.l 14 (.l 15 (.l 17 (.q 18 (.l 19 .nil))))))))))) 7 (.l 4 (.l 5 (.q 16 (.l 11 (.q 12 (.q 13 (.l 14 (.l 15 (.l 17 (.q 18 (.l 19 .nil)))))))))))) 4 (.l2 1 (.l2 5 (.l2 7 (.q 16 (.l 11 (.q 12 (.q 13 (.l 14 (.l 15 (.l 17 (.q 18 (.l 19 .nil))))))))) 11 (.q 12 (.q 13 (.l2 7 (.q 16 (.l 14 (.l 15 (.l 17 (.q 18 (.l 19 .nil)))))) 14 (.l 7 (.q 16 (.l 15 (.l 17 (.q 18 (.l 19 .nil)))))))))) 7 (.l 5 (.q 16 (.l 11 (.q 12 (.q 13 (.l 14 (.l 15 (.l 17 (.q 18 (.l 19 .nil))))))))))) 7 (.l 1 (.l 5 (.q 16 (.l 11 (.q 12 (.q 13 (.l 14 (.l 15 (.l 17 (.q 18 (.l 19 .nil)))))))))))) 7 (.l2 1 (.l 4 (.l 5 (.q 16 (.l 11 (.q 12 (.q 13 (.l 14 (.l 15 (.l 17 (.q 18 (.l 19 .nil))))))))))) 4 (.l 1 (.l 5 (.q 16 (.l 11 (.q 12 (.q 13 (.l 14 (.l 15 (.l 17 (.q 18 (.l 19 .nil)))))))))))))))))))) mixed (by decide +kernel) rfl ?_;intro d8 ae;replace H:=H.ext ae;clear ae
  refine ⟨(H.pk [4,5,6,7,8,9,10,11,12]),?_⟩
  obtain ⟨d9,hM⟩:=M.e_gd hM;refine kg 7 ?_;refine t_l3 rfl rfl rfl ?_ ?_ ?_
  ·skip
   refine kg 1 ?_
   have ea:=Sl.cells (H.os 1)
   have eb:=Sl.oc (H.os 1)
   have ec:=Sl.cells (H.os 2)
   have ed:=Sl.oc (H.os 2)
   refine s_nil ⟨(H.pk [4,5,6,7,8,9,10,11,12]),?_⟩
   refine t_l2 rfl rfl ?_ ?_
   ·skip
    refine t_bs (α:=Int) T29 [I ((i:Int)+1)] [((i:Int)+1:Int)] H rfl (.cons rfl (Flat.rep_enc _ ((i:Int)+1:Int))<|.nil) rfl rfl rfl ?_;intro ck ef H
    have eg:=Sl.cells (H.os 0)
    have eh:=Sl.oc (H.os 0)
    refine s_nil ⟨(H.pk [5,6,7,8,9,10,11,12,13]),?_⟩
    refine t_l2 rfl rfl ?_ ?_
    ·skip
     obtain ⟨ei,hM⟩:=M.e_gd hM;refine t_app (α:=Int) (k:=3) (l:=l) (l2:=[((i:Int)+1:Int)]) (l':=l++([((i:Int)+1:Int)])) (vy:=ck) T29 rfl H rfl rfl rfl (H.os 0) (H.ol 0) (rfl) (by first | omega | (simp only [List.length_nil] at *; omega)) ?_;intro aW ej H;replace H:=H.nf
     have el:=Sl.cells (H.os 3)
     have em:=Sl.oc (H.os 3)
     refine s_nil ⟨(H.pk [5,6,7,8,9,10,11,12,13]),?_⟩
     refine t_l2 rfl rfl ?_ ?_
     ·skip
      refine kg 1 ?_
      refine s_nil ⟨(H.pk [5,6,7,8,9,10,11,12,13]),?_⟩
      refine kg 1 ?_;refine t_l rfl ?_;obtain ⟨eo,cD,hM⟩:=M.e_bind hM;refine s_call cf7 [Pq av,I 5] rfl (zab rivers aQ aR 5 (aw.app _) ax cD _ ((H.pk [1,0,2,3,4,5,6,7,8,9,10,11,12,13]).gt 13)) ?_
      rintro vq ep ⟨r5,ak,al,rfl,hvq,aa⟩
      subst vq;(try dsimp only at hM)
      replace H:=H.pk [1,0,2,3,4,5,6,7,8,9,10,11,12,13] |>.bk aa
      clear aa
      refine s_nil ⟨(H.pk [5,6,7,8,9,10,11,12,13]),?_⟩
      obtain ⟨eq,hM⟩:=M.e_gd hM;refine kg 1 ?_;refine t_q rfl (fun w' H=>x_bld (ps:=[(0,I r4),(1,I (r4+r5))]) (zs:=[I 0,I 0]) (L':=[I r4,I (r4+r5)]) rfl Tryz.underlying24 Al24 rfl (Bd24 Tryz.underlying24) (.cons (cs:=[I r4]) rfl rfl rfl rfl rfl<|.cons (cs:=[I (r4+r5)]) rfl rfl rfl rfl rfl<|.nil))<|t_l rfl ?_;refine t_bs (α:=Span) T36 [.agg #[I r4,I (r4+r5)]] [(⟨(r4:Int),(r4+r5:Int)⟩:Span)] H rfl (.cons rfl (Flat.rep_enc _ (⟨(r4:Int),(r4+r5:Int)⟩:Span))<|.nil) rfl rfl rfl ?_;intro cE er H
      have eu:=Sl.cells (H.os 0)
      have ew:=Sl.oc (H.os 0)
      refine s_nil ⟨(H.pk [6,7,8,9,10,11,12,13,14]),?_⟩
      refine t_l rfl ?_;obtain ⟨ey,hM⟩:=M.e_gd hM;refine t_app (α:=Span) (k:=3) (l:=l2) (l2:=[(⟨(r4:Int),(r4+r5:Int)⟩:Span)]) (l':=l2++([(⟨(r4:Int),(r4+r5:Int)⟩:Span)])) (vy:=cE) T36 rfl H rfl rfl rfl (H.os 0) (H.ol 0) (rfl) (by first | omega | (simp only [List.length_nil] at *; omega)) ?_;intro bz ez H;replace H:=H.nf
      have eA:=Sl.cells (H.os 3)
      have eB:=Sl.oc (H.os 3)
      refine s_nil ⟨(H.pk [6,7,8,9,10,11,12,13,14]),?_⟩
      refine t_l rfl ?_;refine t_sw 5 0 [aW] aW H rfl rfl Sz29 (Sl.cells (H.os 4)) rfl rfl (by simp only [List.all_cons,List.all_nil,Bool.true_and,Bool.and_true,Sl.oc (H.os 4)]; try rfl) ?_;intro eC H
      refine s_nil ⟨(H.pk [6,7,8,9,10,11,12,13,14]),?_⟩
      refine kg 1 ?_;refine t_l rfl ?_;refine t_sw 5 1 [bz] bz H rfl rfl Sz36 (Sl.cells (H.os 3)) rfl rfl (by simp only [List.all_cons,List.all_nil,Bool.true_and,Bool.and_true,Sl.oc (H.os 3)]; try rfl) ?_;intro eD H
      refine s_nil ⟨(H.pk [6,7,8,9,10,11,12,13,14]),?_⟩
      refine t_nil ?_;replace H:=H.pk [1,3,4,5,6,7,8,9,10,11,12,13,14];refine kg 5 ?_
      exact ⟨aK,aL,ak,al,i+1,l++([((i:Int)+1:Int)]),l2++([(⟨(r4:Int),(r4+r5:Int)⟩:Span)]),aW,bz,_,upds_of _ _ ⟨rfl,rfl,rfl,rfl,rfl,rfl,rfl,rfl,trivial⟩,M.e_inl hM aH,(H.pk [1,2,0,3,4,5,6,7,8,9,10,11,12])⟩
     skip
     obtain ⟨eE,cF,hM⟩:=M.e_bind hM;refine s_call cf7 [Pq av,I 5] rfl (zab rivers aQ aR 5 (aw.app _) ax cF _ ((H.pk [1,0,2,3,4,5,6,7,8,9,10,11,12,13]).gt 13)) ?_
     rintro vq eF ⟨r5,ak,al,rfl,hvq,aa⟩
     subst vq;(try dsimp only at hM)
     replace H:=H.pk [1,0,2,3,4,5,6,7,8,9,10,11,12,13] |>.bk aa
     clear aa
     refine s_nil ⟨(H.pk [5,6,7,8,9,10,11,12,13]),?_⟩
     obtain ⟨eG,hM⟩:=M.e_gd hM;refine kg 1 ?_;refine t_q rfl (fun w' H=>x_bld (ps:=[(0,I r4),(1,I (r4+r5))]) (zs:=[I 0,I 0]) (L':=[I r4,I (r4+r5)]) rfl Tryz.underlying24 Al24 rfl (Bd24 Tryz.underlying24) (.cons (cs:=[I r4]) rfl rfl rfl rfl rfl<|.cons (cs:=[I (r4+r5)]) rfl rfl rfl rfl rfl<|.nil)) ?_;obtain ⟨eH,hM⟩:=M.e_gd hM;refine t_l2 rfl rfl ?_ ?_
     ·skip
      refine kg 1 ?_
      refine s_nil ⟨(H.pk [5,6,7,8,9,10,11,12,13]),?_⟩
      refine kg 1 ?_;refine t_l rfl ?_;refine t_bs (α:=Span) T36 [.agg #[I r4,I (r4+r5)]] [(⟨(r4:Int),(r4+r5:Int)⟩:Span)] H rfl (.cons rfl (Flat.rep_enc _ (⟨(r4:Int),(r4+r5:Int)⟩:Span))<|.nil) rfl rfl rfl ?_;intro cG eI H
      have eJ:=Sl.cells (H.os 0)
      have eK:=Sl.oc (H.os 0)
      refine s_nil ⟨(H.pk [6,7,8,9,10,11,12,13,14]),?_⟩
      refine t_l rfl ?_;refine t_app (α:=Span) (k:=3) (l:=l2) (l2:=[(⟨(r4:Int),(r4+r5:Int)⟩:Span)]) (l':=l2++([(⟨(r4:Int),(r4+r5:Int)⟩:Span)])) (vy:=cG) T36 rfl H rfl rfl rfl (H.os 0) (H.ol 0) (rfl) (by first | omega | (simp only [List.length_nil] at *; omega)) ?_;intro bA eL H;replace H:=H.nf
      have eM:=Sl.cells (H.os 3)
      have eN:=Sl.oc (H.os 3)
      refine s_nil ⟨(H.pk [6,7,8,9,10,11,12,13,14]),?_⟩
      refine t_l rfl ?_;refine t_sw 5 0 [aW] aW H rfl rfl Sz29 (Sl.cells (H.os 4)) rfl rfl (by simp only [List.all_cons,List.all_nil,Bool.true_and,Bool.and_true,Sl.oc (H.os 4)]; try rfl) ?_;intro eO H
      refine s_nil ⟨(H.pk [6,7,8,9,10,11,12,13,14]),?_⟩
      refine kg 1 ?_;refine t_l rfl ?_;refine t_sw 5 1 [bA] bA H rfl rfl Sz36 (Sl.cells (H.os 3)) rfl rfl (by simp only [List.all_cons,List.all_nil,Bool.true_and,Bool.and_true,Sl.oc (H.os 3)]; try rfl) ?_;intro eP H
      refine s_nil ⟨(H.pk [6,7,8,9,10,11,12,13,14]),?_⟩
      refine t_nil ?_;replace H:=H.pk [1,3,4,5,6,7,8,9,10,11,12,13,14];refine kg 5 ?_
      exact ⟨aK,aL,ak,al,i+1,l++([((i:Int)+1:Int)]),l2++([(⟨(r4:Int),(r4+r5:Int)⟩:Span)]),aW,bA,_,upds_of _ _ ⟨rfl,rfl,rfl,rfl,rfl,rfl,rfl,rfl,trivial⟩,M.e_inl hM aH,(H.pk [1,2,0,3,4,5,6,7,8,9,10,11,12])⟩
     skip
     refine t_bs (α:=Span) T36 [.agg #[I r4,I (r4+r5)]] [(⟨(r4:Int),(r4+r5:Int)⟩:Span)] H rfl (.cons rfl (Flat.rep_enc _ (⟨(r4:Int),(r4+r5:Int)⟩:Span))<|.nil) rfl rfl rfl ?_;intro cH eQ H
     have eR:=Sl.cells (H.os 0)
     have eS:=Sl.oc (H.os 0)
     refine s_nil ⟨(H.pk [6,7,8,9,10,11,12,13,14]),?_⟩
     refine t_l rfl ?_;refine kg 1 ?_
     refine s_nil ⟨(H.pk [6,7,8,9,10,11,12,13,14]),?_⟩
     refine kg 1 ?_;refine t_l rfl ?_;refine t_app (α:=Span) (k:=3) (l:=l2) (l2:=[(⟨(r4:Int),(r4+r5:Int)⟩:Span)]) (l':=l2++([(⟨(r4:Int),(r4+r5:Int)⟩:Span)])) (vy:=cH) T36 rfl H rfl rfl rfl (H.os 0) (H.ol 0) (rfl) (by first | omega | (simp only [List.length_nil] at *; omega)) ?_;intro bB eT H;replace H:=H.nf
     have eU:=Sl.cells (H.os 3)
     have eV:=Sl.oc (H.os 3)
     refine s_nil ⟨(H.pk [6,7,8,9,10,11,12,13,14]),?_⟩
     refine t_l rfl ?_;refine t_sw 5 0 [aW] aW H rfl rfl Sz29 (Sl.cells (H.os 4)) rfl rfl (by simp only [List.all_cons,List.all_nil,Bool.true_and,Bool.and_true,Sl.oc (H.os 4)]; try rfl) ?_;intro eW H
     refine s_nil ⟨(H.pk [6,7,8,9,10,11,12,13,14]),?_⟩
     refine kg 1 ?_;refine t_l rfl ?_;refine t_sw 5 1 [bB] bB H rfl rfl Sz36 (Sl.cells (H.os 3)) rfl rfl (by simp only [List.all_cons,List.all_nil,Bool.true_and,Bool.and_true,Sl.oc (H.os 3)]; try rfl) ?_;intro eX H
     refine s_nil ⟨(H.pk [6,7,8,9,10,11,12,13,14]),?_⟩
     refine t_nil ?_;replace H:=H.pk [1,3,4,5,6,7,8,9,10,11,12,13,14];refine kg 5 ?_
     exact ⟨aK,aL,ak,al,i+1,l++([((i:Int)+1:Int)]),l2++([(⟨(r4:Int),(r4+r5:Int)⟩:Span)]),aW,bB,_,upds_of _ _ ⟨rfl,rfl,rfl,rfl,rfl,rfl,rfl,rfl,trivial⟩,M.e_inl hM aH,(H.pk [1,2,0,3,4,5,6,7,8,9,10,11,12])⟩
    skip
    refine kg 1 ?_
    refine s_nil ⟨(H.pk [5,6,7,8,9,10,11,12,13]),?_⟩
    refine t_l rfl ?_;obtain ⟨eY,hM⟩:=M.e_gd hM;refine t_app (α:=Int) (k:=3) (l:=l) (l2:=[((i:Int)+1:Int)]) (l':=l++([((i:Int)+1:Int)])) (vy:=ck) T29 rfl H rfl rfl rfl (H.os 0) (H.ol 0) (rfl) (by first | omega | (simp only [List.length_nil] at *; omega)) ?_;intro bC eZ H;replace H:=H.nf
    have e5:=Sl.cells (H.os 3)
    have e6:=Sl.oc (H.os 3)
    refine s_nil ⟨(H.pk [5,6,7,8,9,10,11,12,13]),?_⟩
    refine kg 1 ?_;refine t_l rfl ?_;obtain ⟨e7,cI,hM⟩:=M.e_bind hM;refine s_call cf7 [Pq av,I 5] rfl (zab rivers aQ aR 5 (aw.app _) ax cI _ ((H.pk [1,0,2,3,4,5,6,7,8,9,10,11,12,13]).gt 13)) ?_
    rintro vq e8 ⟨r5,ak,al,rfl,hvq,aa⟩
    subst vq;(try dsimp only at hM)
    replace H:=H.pk [1,0,2,3,4,5,6,7,8,9,10,11,12,13] |>.bk aa
    clear aa
    refine s_nil ⟨(H.pk [5,6,7,8,9,10,11,12,13]),?_⟩
    obtain ⟨e9,hM⟩:=M.e_gd hM;refine kg 1 ?_;refine t_q rfl (fun w' H=>x_bld (ps:=[(0,I r4),(1,I (r4+r5))]) (zs:=[I 0,I 0]) (L':=[I r4,I (r4+r5)]) rfl Tryz.underlying24 Al24 rfl (Bd24 Tryz.underlying24) (.cons (cs:=[I r4]) rfl rfl rfl rfl rfl<|.cons (cs:=[I (r4+r5)]) rfl rfl rfl rfl rfl<|.nil))<|t_l rfl ?_;refine t_bs (α:=Span) T36 [.agg #[I r4,I (r4+r5)]] [(⟨(r4:Int),(r4+r5:Int)⟩:Span)] H rfl (.cons rfl (Flat.rep_enc _ (⟨(r4:Int),(r4+r5:Int)⟩:Span))<|.nil) rfl rfl rfl ?_;intro cJ fa H
    have fb:=Sl.cells (H.os 0)
    have fd:=Sl.oc (H.os 0)
    refine s_nil ⟨(H.pk [6,7,8,9,10,11,12,13,14]),?_⟩
    refine t_l rfl ?_;obtain ⟨fe,hM⟩:=M.e_gd hM;refine t_app (α:=Span) (k:=3) (l:=l2) (l2:=[(⟨(r4:Int),(r4+r5:Int)⟩:Span)]) (l':=l2++([(⟨(r4:Int),(r4+r5:Int)⟩:Span)])) (vy:=cJ) T36 rfl H rfl rfl rfl (H.os 0) (H.ol 0) (rfl) (by first | omega | (simp only [List.length_nil] at *; omega)) ?_;intro bD ff H;replace H:=H.nf
    have fg:=Sl.cells (H.os 3)
    have fh:=Sl.oc (H.os 3)
    refine s_nil ⟨(H.pk [6,7,8,9,10,11,12,13,14]),?_⟩
    refine t_l rfl ?_;refine t_sw 5 0 [bC] bC H rfl rfl Sz29 (Sl.cells (H.os 4)) rfl rfl (by simp only [List.all_cons,List.all_nil,Bool.true_and,Bool.and_true,Sl.oc (H.os 4)]; try rfl) ?_;intro fi H
    refine s_nil ⟨(H.pk [6,7,8,9,10,11,12,13,14]),?_⟩
    refine kg 1 ?_;refine t_l rfl ?_;refine t_sw 5 1 [bD] bD H rfl rfl Sz36 (Sl.cells (H.os 3)) rfl rfl (by simp only [List.all_cons,List.all_nil,Bool.true_and,Bool.and_true,Sl.oc (H.os 3)]; try rfl) ?_;intro fj H
    refine s_nil ⟨(H.pk [6,7,8,9,10,11,12,13,14]),?_⟩
    refine t_nil ?_;replace H:=H.pk [1,3,4,5,6,7,8,9,10,11,12,13,14];refine kg 5 ?_
    exact ⟨aK,aL,ak,al,i+1,l++([((i:Int)+1:Int)]),l2++([(⟨(r4:Int),(r4+r5:Int)⟩:Span)]),bC,bD,_,upds_of _ _ ⟨rfl,rfl,rfl,rfl,rfl,rfl,rfl,rfl,trivial⟩,M.e_inl hM aH,(H.pk [1,2,0,3,4,5,6,7,8,9,10,11,12])⟩
   skip
   refine kg 1 ?_
   refine s_nil ⟨(H.pk [4,5,6,7,8,9,10,11,12]),?_⟩
   refine t_l rfl ?_;refine t_bs (α:=Int) T29 [I ((i:Int)+1)] [((i:Int)+1:Int)] H rfl (.cons rfl (Flat.rep_enc _ ((i:Int)+1:Int))<|.nil) rfl rfl rfl ?_;intro cK fk H
   have fm:=Sl.cells (H.os 0)
   have fo:=Sl.oc (H.os 0)
   refine s_nil ⟨(H.pk [5,6,7,8,9,10,11,12,13]),?_⟩
   refine t_l rfl ?_;obtain ⟨fp,hM⟩:=M.e_gd hM;refine t_app (α:=Int) (k:=3) (l:=l) (l2:=[((i:Int)+1:Int)]) (l':=l++([((i:Int)+1:Int)])) (vy:=cK) T29 rfl H rfl rfl rfl (H.os 0) (H.ol 0) (rfl) (by first | omega | (simp only [List.length_nil] at *; omega)) ?_;intro bE fq H;replace H:=H.nf
   have fu:=Sl.cells (H.os 3)
   have fv:=Sl.oc (H.os 3)
   refine s_nil ⟨(H.pk [5,6,7,8,9,10,11,12,13]),?_⟩
   refine kg 1 ?_;refine t_l rfl ?_;obtain ⟨fw,cL,hM⟩:=M.e_bind hM;refine s_call cf7 [Pq av,I 5] rfl (zab rivers aQ aR 5 (aw.app _) ax cL _ ((H.pk [1,0,2,3,4,5,6,7,8,9,10,11,12,13]).gt 13)) ?_
   rintro vq fx ⟨r5,ak,al,rfl,hvq,aa⟩
   subst vq;(try dsimp only at hM)
   replace H:=H.pk [1,0,2,3,4,5,6,7,8,9,10,11,12,13] |>.bk aa
   clear aa
   refine s_nil ⟨(H.pk [5,6,7,8,9,10,11,12,13]),?_⟩
   obtain ⟨fy,hM⟩:=M.e_gd hM;refine kg 1 ?_;refine t_q rfl (fun w' H=>x_bld (ps:=[(0,I r4),(1,I (r4+r5))]) (zs:=[I 0,I 0]) (L':=[I r4,I (r4+r5)]) rfl Tryz.underlying24 Al24 rfl (Bd24 Tryz.underlying24) (.cons (cs:=[I r4]) rfl rfl rfl rfl rfl<|.cons (cs:=[I (r4+r5)]) rfl rfl rfl rfl rfl<|.nil))<|t_l rfl ?_;refine t_bs (α:=Span) T36 [.agg #[I r4,I (r4+r5)]] [(⟨(r4:Int),(r4+r5:Int)⟩:Span)] H rfl (.cons rfl (Flat.rep_enc _ (⟨(r4:Int),(r4+r5:Int)⟩:Span))<|.nil) rfl rfl rfl ?_;intro cM fA H
   have fB:=Sl.cells (H.os 0)
   have fC:=Sl.oc (H.os 0)
   refine s_nil ⟨(H.pk [6,7,8,9,10,11,12,13,14]),?_⟩
   refine t_l rfl ?_;obtain ⟨fD,hM⟩:=M.e_gd hM;refine t_app (α:=Span) (k:=3) (l:=l2) (l2:=[(⟨(r4:Int),(r4+r5:Int)⟩:Span)]) (l':=l2++([(⟨(r4:Int),(r4+r5:Int)⟩:Span)])) (vy:=cM) T36 rfl H rfl rfl rfl (H.os 0) (H.ol 0) (rfl) (by first | omega | (simp only [List.length_nil] at *; omega)) ?_;intro bF fE H;replace H:=H.nf
   have fF:=Sl.cells (H.os 3)
   have fG:=Sl.oc (H.os 3)
   refine s_nil ⟨(H.pk [6,7,8,9,10,11,12,13,14]),?_⟩
   refine t_l rfl ?_;refine t_sw 5 0 [bE] bE H rfl rfl Sz29 (Sl.cells (H.os 4)) rfl rfl (by simp only [List.all_cons,List.all_nil,Bool.true_and,Bool.and_true,Sl.oc (H.os 4)]; try rfl) ?_;intro fH H
   refine s_nil ⟨(H.pk [6,7,8,9,10,11,12,13,14]),?_⟩
   refine kg 1 ?_;refine t_l rfl ?_;refine t_sw 5 1 [bF] bF H rfl rfl Sz36 (Sl.cells (H.os 3)) rfl rfl (by simp only [List.all_cons,List.all_nil,Bool.true_and,Bool.and_true,Sl.oc (H.os 3)]; try rfl) ?_;intro fI H
   refine s_nil ⟨(H.pk [6,7,8,9,10,11,12,13,14]),?_⟩
   refine t_nil ?_;replace H:=H.pk [1,3,4,5,6,7,8,9,10,11,12,13,14];refine kg 5 ?_
   exact ⟨aK,aL,ak,al,i+1,l++([((i:Int)+1:Int)]),l2++([(⟨(r4:Int),(r4+r5:Int)⟩:Span)]),bE,bF,_,upds_of _ _ ⟨rfl,rfl,rfl,rfl,rfl,rfl,rfl,rfl,trivial⟩,M.e_inl hM aH,(H.pk [1,2,0,3,4,5,6,7,8,9,10,11,12])⟩
  ·skip
   refine t_bs (α:=Int) T29 [I ((i:Int)+1)] [((i:Int)+1:Int)] H rfl (.cons rfl (Flat.rep_enc _ ((i:Int)+1:Int))<|.nil) rfl rfl rfl ?_;intro bG fJ H
   have fK:=Sl.cells (H.os 0)
   have fL:=Sl.oc (H.os 0)
   have fM:=Sl.cells (H.os 2)
   have fN:=Sl.oc (H.os 2)
   have fO:=Sl.cells (H.os 3)
   have fP:=Sl.oc (H.os 3)
   refine s_nil ⟨(H.pk [5,6,7,8,9,10,11,12,13]),?_⟩
   refine t_l2 rfl rfl ?_ ?_
   ·skip
    refine kg 1 ?_
    refine s_nil ⟨(H.pk [5,6,7,8,9,10,11,12,13]),?_⟩
    refine t_l2 rfl rfl ?_ ?_
    ·skip
     obtain ⟨fQ,hM⟩:=M.e_gd hM;refine t_app (α:=Int) (k:=3) (l:=l) (l2:=[((i:Int)+1:Int)]) (l':=l++([((i:Int)+1:Int)])) (vy:=bG) T29 rfl H rfl rfl rfl (H.os 0) (H.ol 0) (rfl) (by first | omega | (simp only [List.length_nil] at *; omega)) ?_;intro aX fR H;replace H:=H.nf
     have fS:=Sl.cells (H.os 3)
     have fT:=Sl.oc (H.os 3)
     refine s_nil ⟨(H.pk [5,6,7,8,9,10,11,12,13]),?_⟩
     refine t_l2 rfl rfl ?_ ?_
     ·skip
      refine kg 1 ?_
      refine s_nil ⟨(H.pk [5,6,7,8,9,10,11,12,13]),?_⟩
      refine kg 1 ?_;refine t_l rfl ?_;obtain ⟨fU,cN,hM⟩:=M.e_bind hM;refine s_call cf7 [Pq av,I 5] rfl (zab rivers aQ aR 5 (aw.app _) ax cN _ ((H.pk [1,0,2,3,4,5,6,7,8,9,10,11,12,13]).gt 13)) ?_
      rintro vq fV ⟨r5,ak,al,rfl,hvq,aa⟩
      subst vq;(try dsimp only at hM)
      replace H:=H.pk [1,0,2,3,4,5,6,7,8,9,10,11,12,13] |>.bk aa
      clear aa
      refine s_nil ⟨(H.pk [5,6,7,8,9,10,11,12,13]),?_⟩
      obtain ⟨fW,hM⟩:=M.e_gd hM;refine kg 1 ?_;refine t_q rfl (fun w' H=>x_bld (ps:=[(0,I r4),(1,I (r4+r5))]) (zs:=[I 0,I 0]) (L':=[I r4,I (r4+r5)]) rfl Tryz.underlying24 Al24 rfl (Bd24 Tryz.underlying24) (.cons (cs:=[I r4]) rfl rfl rfl rfl rfl<|.cons (cs:=[I (r4+r5)]) rfl rfl rfl rfl rfl<|.nil))<|t_l rfl ?_;refine t_bs (α:=Span) T36 [.agg #[I r4,I (r4+r5)]] [(⟨(r4:Int),(r4+r5:Int)⟩:Span)] H rfl (.cons rfl (Flat.rep_enc _ (⟨(r4:Int),(r4+r5:Int)⟩:Span))<|.nil) rfl rfl rfl ?_;intro cO fX H
      have fY:=Sl.cells (H.os 0)
      have fZ:=Sl.oc (H.os 0)
      refine s_nil ⟨(H.pk [6,7,8,9,10,11,12,13,14]),?_⟩
      refine t_l rfl ?_;obtain ⟨f0,hM⟩:=M.e_gd hM;refine t_app (α:=Span) (k:=3) (l:=l2) (l2:=[(⟨(r4:Int),(r4+r5:Int)⟩:Span)]) (l':=l2++([(⟨(r4:Int),(r4+r5:Int)⟩:Span)])) (vy:=cO) T36 rfl H rfl rfl rfl (H.os 0) (H.ol 0) (rfl) (by first | omega | (simp only [List.length_nil] at *; omega)) ?_;intro bH f6 H;replace H:=H.nf
      have f9:=Sl.cells (H.os 3)
      have gc:=Sl.oc (H.os 3)
      refine s_nil ⟨(H.pk [6,7,8,9,10,11,12,13,14]),?_⟩
      refine t_l rfl ?_;refine t_sw 5 0 [aX] aX H rfl rfl Sz29 (Sl.cells (H.os 4)) rfl rfl (by simp only [List.all_cons,List.all_nil,Bool.true_and,Bool.and_true,Sl.oc (H.os 4)]; try rfl) ?_;intro gf H
      refine s_nil ⟨(H.pk [6,7,8,9,10,11,12,13,14]),?_⟩
      refine kg 1 ?_;refine t_l rfl ?_;refine t_sw 5 1 [bH] bH H rfl rfl Sz36 (Sl.cells (H.os 3)) rfl rfl (by simp only [List.all_cons,List.all_nil,Bool.true_and,Bool.and_true,Sl.oc (H.os 3)]; try rfl) ?_;intro gg H
      refine s_nil ⟨(H.pk [6,7,8,9,10,11,12,13,14]),?_⟩
      refine t_nil ?_;replace H:=H.pk [1,3,4,5,6,7,8,9,10,11,12,13,14];refine kg 5 ?_
      exact ⟨aK,aL,ak,al,i+1,l++([((i:Int)+1:Int)]),l2++([(⟨(r4:Int),(r4+r5:Int)⟩:Span)]),aX,bH,_,upds_of _ _ ⟨rfl,rfl,rfl,rfl,rfl,rfl,rfl,rfl,trivial⟩,M.e_inl hM aH,(H.pk [1,2,0,3,4,5,6,7,8,9,10,11,12])⟩
     skip
     obtain ⟨gh,cP,hM⟩:=M.e_bind hM;refine s_call cf7 [Pq av,I 5] rfl (zab rivers aQ aR 5 (aw.app _) ax cP _ ((H.pk [1,0,2,3,4,5,6,7,8,9,10,11,12,13]).gt 13)) ?_
     rintro vq gi ⟨r5,ak,al,rfl,hvq,aa⟩
     subst vq;(try dsimp only at hM)
     replace H:=H.pk [1,0,2,3,4,5,6,7,8,9,10,11,12,13] |>.bk aa
     clear aa
     refine s_nil ⟨(H.pk [5,6,7,8,9,10,11,12,13]),?_⟩
     obtain ⟨gj,hM⟩:=M.e_gd hM;refine kg 1 ?_;refine t_q rfl (fun w' H=>x_bld (ps:=[(0,I r4),(1,I (r4+r5))]) (zs:=[I 0,I 0]) (L':=[I r4,I (r4+r5)]) rfl Tryz.underlying24 Al24 rfl (Bd24 Tryz.underlying24) (.cons (cs:=[I r4]) rfl rfl rfl rfl rfl<|.cons (cs:=[I (r4+r5)]) rfl rfl rfl rfl rfl<|.nil)) ?_;obtain ⟨gk,hM⟩:=M.e_gd hM;refine t_l2 rfl rfl ?_ ?_
     ·skip
      refine kg 1 ?_
      refine s_nil ⟨(H.pk [5,6,7,8,9,10,11,12,13]),?_⟩
      refine kg 1 ?_;refine t_l rfl ?_;refine t_bs (α:=Span) T36 [.agg #[I r4,I (r4+r5)]] [(⟨(r4:Int),(r4+r5:Int)⟩:Span)] H rfl (.cons rfl (Flat.rep_enc _ (⟨(r4:Int),(r4+r5:Int)⟩:Span))<|.nil) rfl rfl rfl ?_;intro cQ gl H
      have gm:=Sl.cells (H.os 0)
      have gn:=Sl.oc (H.os 0)
      refine s_nil ⟨(H.pk [6,7,8,9,10,11,12,13,14]),?_⟩
      refine t_l rfl ?_;refine t_app (α:=Span) (k:=3) (l:=l2) (l2:=[(⟨(r4:Int),(r4+r5:Int)⟩:Span)]) (l':=l2++([(⟨(r4:Int),(r4+r5:Int)⟩:Span)])) (vy:=cQ) T36 rfl H rfl rfl rfl (H.os 0) (H.ol 0) (rfl) (by first | omega | (simp only [List.length_nil] at *; omega)) ?_;intro bI gp H;replace H:=H.nf
      have gq:=Sl.cells (H.os 3)
      have gr:=Sl.oc (H.os 3)
      refine s_nil ⟨(H.pk [6,7,8,9,10,11,12,13,14]),?_⟩
      refine t_l rfl ?_;refine t_sw 5 0 [aX] aX H rfl rfl Sz29 (Sl.cells (H.os 4)) rfl rfl (by simp only [List.all_cons,List.all_nil,Bool.true_and,Bool.and_true,Sl.oc (H.os 4)]; try rfl) ?_;intro gw H
      refine s_nil ⟨(H.pk [6,7,8,9,10,11,12,13,14]),?_⟩
      refine kg 1 ?_;refine t_l rfl ?_;refine t_sw 5 1 [bI] bI H rfl rfl Sz36 (Sl.cells (H.os 3)) rfl rfl (by simp only [List.all_cons,List.all_nil,Bool.true_and,Bool.and_true,Sl.oc (H.os 3)]; try rfl) ?_;intro gx H
      refine s_nil ⟨(H.pk [6,7,8,9,10,11,12,13,14]),?_⟩
      refine t_nil ?_;replace H:=H.pk [1,3,4,5,6,7,8,9,10,11,12,13,14];refine kg 5 ?_
      exact ⟨aK,aL,ak,al,i+1,l++([((i:Int)+1:Int)]),l2++([(⟨(r4:Int),(r4+r5:Int)⟩:Span)]),aX,bI,_,upds_of _ _ ⟨rfl,rfl,rfl,rfl,rfl,rfl,rfl,rfl,trivial⟩,M.e_inl hM aH,(H.pk [1,2,0,3,4,5,6,7,8,9,10,11,12])⟩
     skip
     refine t_bs (α:=Span) T36 [.agg #[I r4,I (r4+r5)]] [(⟨(r4:Int),(r4+r5:Int)⟩:Span)] H rfl (.cons rfl (Flat.rep_enc _ (⟨(r4:Int),(r4+r5:Int)⟩:Span))<|.nil) rfl rfl rfl ?_;intro cR gy H
     have gz:=Sl.cells (H.os 0)
     have gA:=Sl.oc (H.os 0)
     refine s_nil ⟨(H.pk [6,7,8,9,10,11,12,13,14]),?_⟩
     refine t_l rfl ?_;refine kg 1 ?_
     refine s_nil ⟨(H.pk [6,7,8,9,10,11,12,13,14]),?_⟩
     refine kg 1 ?_;refine t_l rfl ?_;refine t_app (α:=Span) (k:=3) (l:=l2) (l2:=[(⟨(r4:Int),(r4+r5:Int)⟩:Span)]) (l':=l2++([(⟨(r4:Int),(r4+r5:Int)⟩:Span)])) (vy:=cR) T36 rfl H rfl rfl rfl (H.os 0) (H.ol 0) (rfl) (by first | omega | (simp only [List.length_nil] at *; omega)) ?_;intro bJ gB H;replace H:=H.nf
     have gC:=Sl.cells (H.os 3)
     have gD:=Sl.oc (H.os 3)
     refine s_nil ⟨(H.pk [6,7,8,9,10,11,12,13,14]),?_⟩
     refine t_l rfl ?_;refine t_sw 5 0 [aX] aX H rfl rfl Sz29 (Sl.cells (H.os 4)) rfl rfl (by simp only [List.all_cons,List.all_nil,Bool.true_and,Bool.and_true,Sl.oc (H.os 4)]; try rfl) ?_;intro gE H
     refine s_nil ⟨(H.pk [6,7,8,9,10,11,12,13,14]),?_⟩
     refine kg 1 ?_;refine t_l rfl ?_;refine t_sw 5 1 [bJ] bJ H rfl rfl Sz36 (Sl.cells (H.os 3)) rfl rfl (by simp only [List.all_cons,List.all_nil,Bool.true_and,Bool.and_true,Sl.oc (H.os 3)]; try rfl) ?_;intro gF H
     refine s_nil ⟨(H.pk [6,7,8,9,10,11,12,13,14]),?_⟩
     refine t_nil ?_;replace H:=H.pk [1,3,4,5,6,7,8,9,10,11,12,13,14];refine kg 5 ?_
     exact ⟨aK,aL,ak,al,i+1,l++([((i:Int)+1:Int)]),l2++([(⟨(r4:Int),(r4+r5:Int)⟩:Span)]),aX,bJ,_,upds_of _ _ ⟨rfl,rfl,rfl,rfl,rfl,rfl,rfl,rfl,trivial⟩,M.e_inl hM aH,(H.pk [1,2,0,3,4,5,6,7,8,9,10,11,12])⟩
    skip
    refine kg 1 ?_
    refine s_nil ⟨(H.pk [5,6,7,8,9,10,11,12,13]),?_⟩
    refine t_l rfl ?_;obtain ⟨gG,hM⟩:=M.e_gd hM;refine t_app (α:=Int) (k:=3) (l:=l) (l2:=[((i:Int)+1:Int)]) (l':=l++([((i:Int)+1:Int)])) (vy:=bG) T29 rfl H rfl rfl rfl (H.os 0) (H.ol 0) (rfl) (by first | omega | (simp only [List.length_nil] at *; omega)) ?_;intro bK gH H;replace H:=H.nf
    have gI:=Sl.cells (H.os 3)
    have gJ:=Sl.oc (H.os 3)
    refine s_nil ⟨(H.pk [5,6,7,8,9,10,11,12,13]),?_⟩
    refine kg 1 ?_;refine t_l rfl ?_;obtain ⟨gK,cS,hM⟩:=M.e_bind hM;refine s_call cf7 [Pq av,I 5] rfl (zab rivers aQ aR 5 (aw.app _) ax cS _ ((H.pk [1,0,2,3,4,5,6,7,8,9,10,11,12,13]).gt 13)) ?_
    rintro vq gL ⟨r5,ak,al,rfl,hvq,aa⟩
    subst vq;(try dsimp only at hM)
    replace H:=H.pk [1,0,2,3,4,5,6,7,8,9,10,11,12,13] |>.bk aa
    clear aa
    refine s_nil ⟨(H.pk [5,6,7,8,9,10,11,12,13]),?_⟩
    obtain ⟨gM,hM⟩:=M.e_gd hM;refine kg 1 ?_;refine t_q rfl (fun w' H=>x_bld (ps:=[(0,I r4),(1,I (r4+r5))]) (zs:=[I 0,I 0]) (L':=[I r4,I (r4+r5)]) rfl Tryz.underlying24 Al24 rfl (Bd24 Tryz.underlying24) (.cons (cs:=[I r4]) rfl rfl rfl rfl rfl<|.cons (cs:=[I (r4+r5)]) rfl rfl rfl rfl rfl<|.nil))<|t_l rfl ?_;refine t_bs (α:=Span) T36 [.agg #[I r4,I (r4+r5)]] [(⟨(r4:Int),(r4+r5:Int)⟩:Span)] H rfl (.cons rfl (Flat.rep_enc _ (⟨(r4:Int),(r4+r5:Int)⟩:Span))<|.nil) rfl rfl rfl ?_;intro cT gN H
    have gO:=Sl.cells (H.os 0)
    have gP:=Sl.oc (H.os 0)
    refine s_nil ⟨(H.pk [6,7,8,9,10,11,12,13,14]),?_⟩
    refine t_l rfl ?_;obtain ⟨gQ,hM⟩:=M.e_gd hM;refine t_app (α:=Span) (k:=3) (l:=l2) (l2:=[(⟨(r4:Int),(r4+r5:Int)⟩:Span)]) (l':=l2++([(⟨(r4:Int),(r4+r5:Int)⟩:Span)])) (vy:=cT) T36 rfl H rfl rfl rfl (H.os 0) (H.ol 0) (rfl) (by first | omega | (simp only [List.length_nil] at *; omega)) ?_;intro bL gR H;replace H:=H.nf
    have gS:=Sl.cells (H.os 3)
    have gT:=Sl.oc (H.os 3)
    refine s_nil ⟨(H.pk [6,7,8,9,10,11,12,13,14]),?_⟩
    refine t_l rfl ?_;refine t_sw 5 0 [bK] bK H rfl rfl Sz29 (Sl.cells (H.os 4)) rfl rfl (by simp only [List.all_cons,List.all_nil,Bool.true_and,Bool.and_true,Sl.oc (H.os 4)]; try rfl) ?_;intro gU H
    refine s_nil ⟨(H.pk [6,7,8,9,10,11,12,13,14]),?_⟩
    refine kg 1 ?_;refine t_l rfl ?_;refine t_sw 5 1 [bL] bL H rfl rfl Sz36 (Sl.cells (H.os 3)) rfl rfl (by simp only [List.all_cons,List.all_nil,Bool.true_and,Bool.and_true,Sl.oc (H.os 3)]; try rfl) ?_;intro gV H
    refine s_nil ⟨(H.pk [6,7,8,9,10,11,12,13,14]),?_⟩
    refine t_nil ?_;replace H:=H.pk [1,3,4,5,6,7,8,9,10,11,12,13,14];refine kg 5 ?_
    exact ⟨aK,aL,ak,al,i+1,l++([((i:Int)+1:Int)]),l2++([(⟨(r4:Int),(r4+r5:Int)⟩:Span)]),bK,bL,_,upds_of _ _ ⟨rfl,rfl,rfl,rfl,rfl,rfl,rfl,rfl,trivial⟩,M.e_inl hM aH,(H.pk [1,2,0,3,4,5,6,7,8,9,10,11,12])⟩
   skip
   refine kg 1 ?_
   refine s_nil ⟨(H.pk [5,6,7,8,9,10,11,12,13]),?_⟩
   refine t_l rfl ?_;refine kg 1 ?_
   refine s_nil ⟨(H.pk [5,6,7,8,9,10,11,12,13]),?_⟩
   refine t_l rfl ?_;obtain ⟨gW,hM⟩:=M.e_gd hM;refine t_app (α:=Int) (k:=3) (l:=l) (l2:=[((i:Int)+1:Int)]) (l':=l++([((i:Int)+1:Int)])) (vy:=bG) T29 rfl H rfl rfl rfl (H.os 0) (H.ol 0) (rfl) (by first | omega | (simp only [List.length_nil] at *; omega)) ?_;intro bM gX H;replace H:=H.nf
   have gY:=Sl.cells (H.os 3)
   have gZ:=Sl.oc (H.os 3)
   refine s_nil ⟨(H.pk [5,6,7,8,9,10,11,12,13]),?_⟩
   refine kg 1 ?_;refine t_l rfl ?_;obtain ⟨g0,cU,hM⟩:=M.e_bind hM;refine s_call cf7 [Pq av,I 5] rfl (zab rivers aQ aR 5 (aw.app _) ax cU _ ((H.pk [1,0,2,3,4,5,6,7,8,9,10,11,12,13]).gt 13)) ?_
   rintro vq g6 ⟨r5,ak,al,rfl,hvq,aa⟩
   subst vq;(try dsimp only at hM)
   replace H:=H.pk [1,0,2,3,4,5,6,7,8,9,10,11,12,13] |>.bk aa
   clear aa
   refine s_nil ⟨(H.pk [5,6,7,8,9,10,11,12,13]),?_⟩
   obtain ⟨g7,hM⟩:=M.e_gd hM;refine kg 1 ?_;refine t_q rfl (fun w' H=>x_bld (ps:=[(0,I r4),(1,I (r4+r5))]) (zs:=[I 0,I 0]) (L':=[I r4,I (r4+r5)]) rfl Tryz.underlying24 Al24 rfl (Bd24 Tryz.underlying24) (.cons (cs:=[I r4]) rfl rfl rfl rfl rfl<|.cons (cs:=[I (r4+r5)]) rfl rfl rfl rfl rfl<|.nil))<|t_l rfl ?_;refine t_bs (α:=Span) T36 [.agg #[I r4,I (r4+r5)]] [(⟨(r4:Int),(r4+r5:Int)⟩:Span)] H rfl (.cons rfl (Flat.rep_enc _ (⟨(r4:Int),(r4+r5:Int)⟩:Span))<|.nil) rfl rfl rfl ?_;intro cV g8 H
   have g9:=Sl.cells (H.os 0)
   have hJ:=Sl.oc (H.os 0)
   refine s_nil ⟨(H.pk [6,7,8,9,10,11,12,13,14]),?_⟩
   refine t_l rfl ?_;obtain ⟨hO,hM⟩:=M.e_gd hM;refine t_app (α:=Span) (k:=3) (l:=l2) (l2:=[(⟨(r4:Int),(r4+r5:Int)⟩:Span)]) (l':=l2++([(⟨(r4:Int),(r4+r5:Int)⟩:Span)])) (vy:=cV) T36 rfl H rfl rfl rfl (H.os 0) (H.ol 0) (rfl) (by first | omega | (simp only [List.length_nil] at *; omega)) ?_;intro bN hP H;replace H:=H.nf
   have hZ:=Sl.cells (H.os 3)
   have h9:=Sl.oc (H.os 3)
   refine s_nil ⟨(H.pk [6,7,8,9,10,11,12,13,14]),?_⟩
   refine t_l rfl ?_;refine t_sw 5 0 [bM] bM H rfl rfl Sz29 (Sl.cells (H.os 4)) rfl rfl (by simp only [List.all_cons,List.all_nil,Bool.true_and,Bool.and_true,Sl.oc (H.os 4)]; try rfl) ?_;intro ia H
   refine s_nil ⟨(H.pk [6,7,8,9,10,11,12,13,14]),?_⟩
   refine kg 1 ?_;refine t_l rfl ?_;refine t_sw 5 1 [bN] bN H rfl rfl Sz36 (Sl.cells (H.os 3)) rfl rfl (by simp only [List.all_cons,List.all_nil,Bool.true_and,Bool.and_true,Sl.oc (H.os 3)]; try rfl) ?_;intro ib H
   refine s_nil ⟨(H.pk [6,7,8,9,10,11,12,13,14]),?_⟩
   refine t_nil ?_;replace H:=H.pk [1,3,4,5,6,7,8,9,10,11,12,13,14];refine kg 5 ?_
   exact ⟨aK,aL,ak,al,i+1,l++([((i:Int)+1:Int)]),l2++([(⟨(r4:Int),(r4+r5:Int)⟩:Span)]),bM,bN,_,upds_of _ _ ⟨rfl,rfl,rfl,rfl,rfl,rfl,rfl,rfl,trivial⟩,M.e_inl hM aH,(H.pk [1,2,0,3,4,5,6,7,8,9,10,11,12])⟩
  skip
  refine kg 1 ?_
  have ic:=Sl.cells (H.os 1)
  have ie:=Sl.oc (H.os 1)
  have ig:=Sl.cells (H.os 2)
  have ii:=Sl.oc (H.os 2)
  refine s_nil ⟨(H.pk [4,5,6,7,8,9,10,11,12]),?_⟩
  refine t_l2 rfl rfl ?_ ?_
  ·skip
   refine kg 1 ?_
   refine s_nil ⟨(H.pk [4,5,6,7,8,9,10,11,12]),?_⟩
   refine t_l rfl ?_;refine t_bs (α:=Int) T29 [I ((i:Int)+1)] [((i:Int)+1:Int)] H rfl (.cons rfl (Flat.rep_enc _ ((i:Int)+1:Int))<|.nil) rfl rfl rfl ?_;intro cW ij H
   have ik:=Sl.cells (H.os 0)
   have il:=Sl.oc (H.os 0)
   refine s_nil ⟨(H.pk [5,6,7,8,9,10,11,12,13]),?_⟩
   refine t_l rfl ?_;obtain ⟨im,hM⟩:=M.e_gd hM;refine t_app (α:=Int) (k:=3) (l:=l) (l2:=[((i:Int)+1:Int)]) (l':=l++([((i:Int)+1:Int)])) (vy:=cW) T29 rfl H rfl rfl rfl (H.os 0) (H.ol 0) (rfl) (by first | omega | (simp only [List.length_nil] at *; omega)) ?_;intro bO io H;replace H:=H.nf
   have ip:=Sl.cells (H.os 3)
   have iq:=Sl.oc (H.os 3)
   refine s_nil ⟨(H.pk [5,6,7,8,9,10,11,12,13]),?_⟩
   refine kg 1 ?_;refine t_l rfl ?_;obtain ⟨ir,cX,hM⟩:=M.e_bind hM;refine s_call cf7 [Pq av,I 5] rfl (zab rivers aQ aR 5 (aw.app _) ax cX _ ((H.pk [1,0,2,3,4,5,6,7,8,9,10,11,12,13]).gt 13)) ?_
   rintro vq iu ⟨r5,ak,al,rfl,hvq,aa⟩
   subst vq;(try dsimp only at hM)
   replace H:=H.pk [1,0,2,3,4,5,6,7,8,9,10,11,12,13] |>.bk aa
   clear aa
   refine s_nil ⟨(H.pk [5,6,7,8,9,10,11,12,13]),?_⟩
   obtain ⟨iw,hM⟩:=M.e_gd hM;refine kg 1 ?_;refine t_q rfl (fun w' H=>x_bld (ps:=[(0,I r4),(1,I (r4+r5))]) (zs:=[I 0,I 0]) (L':=[I r4,I (r4+r5)]) rfl Tryz.underlying24 Al24 rfl (Bd24 Tryz.underlying24) (.cons (cs:=[I r4]) rfl rfl rfl rfl rfl<|.cons (cs:=[I (r4+r5)]) rfl rfl rfl rfl rfl<|.nil))<|t_l rfl ?_;refine t_bs (α:=Span) T36 [.agg #[I r4,I (r4+r5)]] [(⟨(r4:Int),(r4+r5:Int)⟩:Span)] H rfl (.cons rfl (Flat.rep_enc _ (⟨(r4:Int),(r4+r5:Int)⟩:Span))<|.nil) rfl rfl rfl ?_;intro cY iy H
   have iz:=Sl.cells (H.os 0)
   have iA:=Sl.oc (H.os 0)
   refine s_nil ⟨(H.pk [6,7,8,9,10,11,12,13,14]),?_⟩
   refine t_l rfl ?_;obtain ⟨iB,hM⟩:=M.e_gd hM;refine t_app (α:=Span) (k:=3) (l:=l2) (l2:=[(⟨(r4:Int),(r4+r5:Int)⟩:Span)]) (l':=l2++([(⟨(r4:Int),(r4+r5:Int)⟩:Span)])) (vy:=cY) T36 rfl H rfl rfl rfl (H.os 0) (H.ol 0) (rfl) (by first | omega | (simp only [List.length_nil] at *; omega)) ?_;intro bP iC H;replace H:=H.nf
   have iD:=Sl.cells (H.os 3)
   have iE:=Sl.oc (H.os 3)
   refine s_nil ⟨(H.pk [6,7,8,9,10,11,12,13,14]),?_⟩
   refine t_l rfl ?_;refine t_sw 5 0 [bO] bO H rfl rfl Sz29 (Sl.cells (H.os 4)) rfl rfl (by simp only [List.all_cons,List.all_nil,Bool.true_and,Bool.and_true,Sl.oc (H.os 4)]; try rfl) ?_;intro iF H
   refine s_nil ⟨(H.pk [6,7,8,9,10,11,12,13,14]),?_⟩
   refine kg 1 ?_;refine t_l rfl ?_;refine t_sw 5 1 [bP] bP H rfl rfl Sz36 (Sl.cells (H.os 3)) rfl rfl (by simp only [List.all_cons,List.all_nil,Bool.true_and,Bool.and_true,Sl.oc (H.os 3)]; try rfl) ?_;intro iG H
   refine s_nil ⟨(H.pk [6,7,8,9,10,11,12,13,14]),?_⟩
   refine t_nil ?_;replace H:=H.pk [1,3,4,5,6,7,8,9,10,11,12,13,14];refine kg 5 ?_
   exact ⟨aK,aL,ak,al,i+1,l++([((i:Int)+1:Int)]),l2++([(⟨(r4:Int),(r4+r5:Int)⟩:Span)]),bO,bP,_,upds_of _ _ ⟨rfl,rfl,rfl,rfl,rfl,rfl,rfl,rfl,trivial⟩,M.e_inl hM aH,(H.pk [1,2,0,3,4,5,6,7,8,9,10,11,12])⟩
  skip
  refine t_bs (α:=Int) T29 [I ((i:Int)+1)] [((i:Int)+1:Int)] H rfl (.cons rfl (Flat.rep_enc _ ((i:Int)+1:Int))<|.nil) rfl rfl rfl ?_;intro cZ iH H
  have iI:=Sl.cells (H.os 0)
  have iJ:=Sl.oc (H.os 0)
  refine s_nil ⟨(H.pk [5,6,7,8,9,10,11,12,13]),?_⟩
  refine t_l rfl ?_;refine kg 1 ?_
  refine s_nil ⟨(H.pk [5,6,7,8,9,10,11,12,13]),?_⟩
  refine t_l rfl ?_;obtain ⟨iK,hM⟩:=M.e_gd hM;refine t_app (α:=Int) (k:=3) (l:=l) (l2:=[((i:Int)+1:Int)]) (l':=l++([((i:Int)+1:Int)])) (vy:=cZ) T29 rfl H rfl rfl rfl (H.os 0) (H.ol 0) (rfl) (by first | omega | (simp only [List.length_nil] at *; omega)) ?_;intro bQ iL H;replace H:=H.nf
  have iM:=Sl.cells (H.os 3)
  have iN:=Sl.oc (H.os 3)
  refine s_nil ⟨(H.pk [5,6,7,8,9,10,11,12,13]),?_⟩
  refine kg 1 ?_;refine t_l rfl ?_;obtain ⟨iO,c6,hM⟩:=M.e_bind hM;refine s_call cf7 [Pq av,I 5] rfl (zab rivers aQ aR 5 (aw.app _) ax c6 _ ((H.pk [1,0,2,3,4,5,6,7,8,9,10,11,12,13]).gt 13)) ?_
  rintro vq iP ⟨r5,ak,al,rfl,hvq,aa⟩
  subst vq;(try dsimp only at hM)
  replace H:=H.pk [1,0,2,3,4,5,6,7,8,9,10,11,12,13] |>.bk aa
  clear aa
  refine s_nil ⟨(H.pk [5,6,7,8,9,10,11,12,13]),?_⟩
  obtain ⟨iQ,hM⟩:=M.e_gd hM;refine kg 1 ?_;refine t_q rfl (fun w' H=>x_bld (ps:=[(0,I r4),(1,I (r4+r5))]) (zs:=[I 0,I 0]) (L':=[I r4,I (r4+r5)]) rfl Tryz.underlying24 Al24 rfl (Bd24 Tryz.underlying24) (.cons (cs:=[I r4]) rfl rfl rfl rfl rfl<|.cons (cs:=[I (r4+r5)]) rfl rfl rfl rfl rfl<|.nil))<|t_l rfl ?_;refine t_bs (α:=Span) T36 [.agg #[I r4,I (r4+r5)]] [(⟨(r4:Int),(r4+r5:Int)⟩:Span)] H rfl (.cons rfl (Flat.rep_enc _ (⟨(r4:Int),(r4+r5:Int)⟩:Span))<|.nil) rfl rfl rfl ?_;intro c7 iR H
  have iS:=Sl.cells (H.os 0)
  have iT:=Sl.oc (H.os 0)
  refine s_nil ⟨(H.pk [6,7,8,9,10,11,12,13,14]),?_⟩
  refine t_l rfl ?_;obtain ⟨iU,hM⟩:=M.e_gd hM;refine t_app (α:=Span) (k:=3) (l:=l2) (l2:=[(⟨(r4:Int),(r4+r5:Int)⟩:Span)]) (l':=l2++([(⟨(r4:Int),(r4+r5:Int)⟩:Span)])) (vy:=c7) T36 rfl H rfl rfl rfl (H.os 0) (H.ol 0) (rfl) (by first | omega | (simp only [List.length_nil] at *; omega)) ?_;intro bR iV H;replace H:=H.nf
  have iW:=Sl.cells (H.os 3)
  have iX:=Sl.oc (H.os 3)
  refine s_nil ⟨(H.pk [6,7,8,9,10,11,12,13,14]),?_⟩
  refine t_l rfl ?_;refine t_sw 5 0 [bQ] bQ H rfl rfl Sz29 (Sl.cells (H.os 4)) rfl rfl (by simp only [List.all_cons,List.all_nil,Bool.true_and,Bool.and_true,Sl.oc (H.os 4)]; try rfl) ?_;intro iY H
  refine s_nil ⟨(H.pk [6,7,8,9,10,11,12,13,14]),?_⟩
  refine kg 1 ?_;refine t_l rfl ?_;refine t_sw 5 1 [bR] bR H rfl rfl Sz36 (Sl.cells (H.os 3)) rfl rfl (by simp only [List.all_cons,List.all_nil,Bool.true_and,Bool.and_true,Sl.oc (H.os 3)]; try rfl) ?_;intro iZ H
  refine s_nil ⟨(H.pk [6,7,8,9,10,11,12,13,14]),?_⟩
  refine t_nil ?_;replace H:=H.pk [1,3,4,5,6,7,8,9,10,11,12,13,14];refine kg 5 ?_
  exact ⟨aK,aL,ak,al,i+1,l++([((i:Int)+1:Int)]),l2++([(⟨(r4:Int),(r4+r5:Int)⟩:Span)]),bQ,bR,_,upds_of _ _ ⟨rfl,rfl,rfl,rfl,rfl,rfl,rfl,rfl,trivial⟩,M.e_inl hM aH,(H.pk [1,2,0,3,4,5,6,7,8,9,10,11,12])⟩
 replace hM:=M.e_f hM ba
 replace ba:=dI ba
 refine W.exit ?_
 have c8:=M.e_inr hM aH
 subst c8;replace hM:=cB;(try dsimp only at hM);obtain ⟨i0,hM⟩:=M.e_gd hM;refine kg 6 ?_;refine t_bs (α:=Int) T29 [I 0] [(0:Int)] H rfl (.cons rfl (Flat.rep_enc _ (0:Int))<|.nil) rfl rfl rfl ?_;intro ap i1 H;obtain ⟨i5,hM⟩:=M.e_gd hM;refine kg 1 ?_;refine t_ost (k:=2) (i:=r3-1) (l:=l) (l':=l.set (Int.toNat (r3-1)) (-1:Int)) (val:=I (-1)) (L':=[cOwn (α:=Int) 3 ap ([(0:Int)]),cOwn (α:=Span) 24 aj l2,cOwn (α:=Int) 3 ai (l.set (Int.toNat (r3-1)) (-1:Int)),cBlk av [bj,I s,I s2] 61,cBlk aJ [ai,aj,.slice none 0 0,.slice none 0 0,I 0,I 0,.slice none 0 0] 40,cBlk aG [aN,I a7,I a8] 61,cBlk aO [am,aq,au] 31,cBlk a6 [I aS,I aT,I az,I aU,I aV,aE,aF] 28,cOwn (α:=CMk) 57 aE bh,cOwn (α:=CNt) 59 aF bi,cOwn (α:=Int) 3 am ab,cOwn (α:=Int) 3 aq aD,cOwn (α:=Int) 3 au aY,cBlk bt [bg,I q1,I q2] 61]) H rfl Sz3 (by omega) (by omega) (-1:Int) rfl rfl rfl rfl rfl ?_;intro i6 H;refine kg 1 ?_;refine t_sw 4 2 [ap] ap H rfl rfl Sz29 (Sl.cells (H.os 0)) rfl rfl (by simp only [List.all_cons,List.all_nil,Bool.true_and,Bool.and_true,Sl.oc (H.os 0)]; try rfl) ?_;intro i7 H;refine kg 4 ?_;obtain ⟨i8,c9,hM⟩:=M.e_bind hM;refine s_call cf7 [Pq av,I 2] rfl (zab rivers s s2 2 (aw.app _) ax c9 _ ((H.pk [3,0,1,2,4,5,6,7,8,9,10,11,12,13]).gt 13)) ?_
 rintro vq i9 ⟨r6,da,db,rfl,hvq,aa⟩
 subst vq;(try dsimp only at hM)
 replace H:=H.pk [3,0,1,2,4,5,6,7,8,9,10,11,12,13] |>.bk aa
 clear aa;refine s_val (x_bld (ps:=[(0,I r6),(1,I 2)]) (zs:=[I 0,I 0]) (L':=[I r6,I 2]) rfl Tryz.underlying24 Al24 rfl (Bd24 Tryz.underlying24) (.cons (cs:=[I r6]) rfl rfl rfl rfl rfl<|.cons (cs:=[I 2]) rfl rfl rfl rfl rfl<|.nil)) ?_;refine kg 1 ?_;refine t_sw 4 4 [I r6,I 2] (.agg #[I r6,I 2]) H rfl rfl Sz24 rfl rfl rfl rfl ?_;intro ja H;refine kg 6 ?_;obtain ⟨jb,dc,hM⟩:=M.e_bind hM;refine s_call cf7 [Pq av,I 6] rfl (zab rivers da db 6 (aw.app _) ax dc _ (H.gt 13)) ?_
 rintro vq jc ⟨r7,jd,je,rfl,hvq,aa⟩
 subst vq;(try dsimp only at hM);replace H:=H.bk aa;clear aa;refine s_val (x_bld (ps:=[(0,I (r3-1)),(1,I r7)]) (zs:=[I 0,I 0,I 0]) (L':=[I (r3-1),I r7,I 0]) rfl Tryz.underlying44 Al44 rfl (Bd44 Tryz.underlying44) (.cons (cs:=[I (r3-1)]) rfl rfl rfl rfl rfl<|.cons (cs:=[I r7]) rfl rfl rfl rfl rfl<|.nil)) ?_;refine t_bs (α:=Town) T37 [.agg #[I (r3-1),I r7,I 0]] [(⟨(r3-1:Int),(r7:Int),(0:Int)⟩:Town)] H rfl (.cons rfl (Flat.rep_enc _ (⟨(r3-1:Int),(r7:Int),(0:Int)⟩:Town))<|.nil) rfl rfl rfl ?_;intro ao jf H;refine kg 1 ?_;refine t_sw 5 3 [ao] ao H rfl rfl Sz37 (Sl.cells (H.os 0)) rfl rfl (by simp only [List.all_cons,List.all_nil,Bool.true_and,Bool.and_true,Sl.oc (H.os 0)]; try rfl) ?_;intro jg H;refine s_nil ?_;replace H:=H.pk [0,2,3,4,5,6,7,8,9,10,11,12,13];refine kg 3 ?_;refine s_val (x_bld (ps:=[]) (zs:=[I 0,I 0]) (L':=[I 0,I 0]) rfl Tryz.underlying49 Al49 rfl (Bd49 Tryz.underlying49) (.nil)) ?_;obtain ⟨jh,dd,hM⟩:=M.e_bind hM;refine s_call cf8 [.agg #[ai,aj,ap,ao,I r6,I 2,.slice none 0 0],.agg #[I 0,I 0]] rfl (zcq (l.set (Int.toNat (r3-1)) (-1:Int)) l2 ([(0:Int)]) ([(⟨(r3-1:Int),(r7:Int),(0:Int)⟩:Town)]) r6 2 ([]:List Flood) (⟨(0:Int),(0:Int)⟩:Dem) (rdo 3) (H.os 3) (rdo 2) (H.os 2) (rdo 1) (H.os 1) (rdo 0) (H.os 0) Reads.none (Sl.nil (fun _=>none)) dd _ (H.gt 13)) ?_
 rintro vq ji ⟨r0,bS,bm,rfl,hvq,aa⟩
 subst vq;(try dsimp only at hM);replace H:=H.bk aa;clear aa;refine kg 16 ?_;refine s_val (x_por (b:=bS != 0) (r:=decide (r3<(r0.length:Int))) rfl rfl (fun hb=>gd_of (c:=!(bS != 0)) (by first | exact hb | (rw [hb]; rfl) | simp_all) (B (decide (r3<(r0.length:Int))))))<|s_nil ?_
 refine W.cond ((bS != 0)||(decide (r3<(r0.length:Int)))) rfl (fun bT=>?_) (fun bT=>?_)
 ·replace hM:=M.e_t hM bT;refine kg 4 ?_;replace H:=H.pk [];refine W.ret ?_
  have aP:=M.e_pure hM
  exact ⟨_,resE_tmp rfl,⟨false,aP,rfl,H⟩⟩
 replace hM:=M.e_f hM bT;refine kg 2 ?_;refine W.draw (fun W=>St w W [cOwn (α:=Int) 3 bm r0,cOwn (α:=Town) 44 ao ([(⟨(r3-1:Int),(r7:Int),(0:Int)⟩:Town)]),cOwn (α:=Int) 3 ap ([(0:Int)]),cOwn (α:=Span) 24 aj l2,cOwn (α:=Int) 3 ai (l.set (Int.toNat (r3-1)) (-1:Int)),cBlk aJ [ai,aj,ap,ao,I r6,I 2,.slice none 0 0] 40,cBlk aG [aN,I a7,I a8] 61,cBlk aO [am,aq,au] 31,cBlk a6 [I aS,I aT,I az,I aU,I aV,aE,aF] 28,cOwn (α:=CMk) 57 aE bh,cOwn (α:=CNt) 59 aF bi,cOwn (α:=Int) 3 am ab,cOwn (α:=Int) 3 aq aD,cOwn (α:=Int) 3 au aY] R) [(0,true),(1,true),(2,true),(3,false),(4,true),(5,true)] mixed (by decide +kernel) rfl ?_;intro jj ae;replace H:=H.ext ae;clear ae
 refine ⟨(H.pk [0,1,2,3,4,5,6,7,8,9,10,11,12,13]),?_⟩
 refine kg 3 ?_;refine d_l rfl ?_;obtain ⟨jk,dg,hM⟩:=M.e_bind hM;refine s_call cf9 [I stage,I 700] rfl (zex stage 700 dg _ (H.gt 14)) ?_
 rintro vq jl ⟨r8,rfl,hvq,aa⟩
 subst vq;(try dsimp only at hM);replace H:=H.bk aa;clear aa
 refine s_nil ⟨(H.pk [0,1,2,3,4,5,6,7,8,9,10,11,12,13]),?_⟩
 obtain ⟨jm,hM⟩:=M.e_gd hM;refine kg 13 ?_;obtain ⟨di,bU,dj⟩:=M.e_bind hM
 obtain ⟨ci,bU⟩:=M.e_iter bU
 refine W.loop (fun m σ W=>∃ (reached:Int) (i2:Nat) (ρ:Env),σ=upds ρ [(9,Pq a6),(10,Pq aO),(12,Pq aG),(13,Pq aJ),(14,I r3),(17,bm),(19,I (az+r8)),(20,I reached),(21,I (i2:Int))]/\M.iterN (zaP az aD r8) m (reached,i2)=some di/\St w W [cOwn (α:=Int) 3 bm r0,cOwn (α:=Town) 44 ao ([(⟨(r3-1:Int),(r7:Int),(0:Int)⟩:Town)]),cOwn (α:=Int) 3 ap ([(0:Int)]),cOwn (α:=Span) 24 aj l2,cOwn (α:=Int) 3 ai (l.set (Int.toNat (r3-1)) (-1:Int)),cBlk aJ [ai,aj,ap,ao,I r6,I 2,.slice none 0 0] 40,cBlk aG [aN,I a7,I a8] 61,cBlk aO [am,aq,au] 31,cBlk a6 [I aS,I aT,I az,I aU,I aV,aE,aF] 28,cOwn (α:=CMk) 57 aE bh,cOwn (α:=CNt) 59 aF bi,cOwn (α:=Int) 3 am ab,cOwn (α:=Int) 3 aq aD,cOwn (α:=Int) 3 au aY] R) ?_ ?_
 ·exact ⟨_,-1,0,_,upds_of _ _ ⟨rfl,rfl,rfl,rfl,rfl,rfl,rfl,rfl,rfl,trivial⟩,bU,H⟩
 rintro jn σ jo ⟨reached,i2,ρ,rfl,cl,H⟩
 obtain ⟨cm,cn,jp,hM,bV⟩:=M.e_iterN cl
 simp only [zaP] at hM
 clear cl
 have jq:=((H.os 12)).len_le
 refine kg 6 ?_;refine s_val (x_lenS T29.und rfl (H.os 12)) ?_;refine kg 4 ?_;refine s_val (x_pand (b:=decide ((i2:Int)<(aD.length:Int))) (r:=decide (reached<0)) rfl (fun hb=>gd_of (c:=decide ((i2:Int)<(aD.length:Int))) (by first | exact hb | (rw [hb]; rfl) | simp_all) (B (decide (reached<0)))) rfl)<|s_nil ?_
 refine W.cond ((decide ((i2:Int)<(aD.length:Int)))&&(decide (reached<0))) rfl (fun bW=>?_) (fun bW=>?_)
 ·replace hM:=M.e_t hM bW;obtain ⟨jr,hM⟩:=M.e_gd hM;refine kg 8 ?_;refine s_val (x_ix (v:=vat aq 1 (Int.toNat (i2:Int))) rfl rfl (Sl.ix (α:=Int) T29.und T29.size (H.os 12) (by omega) (by omega)))<|s_val (x_ld (v:=I (aD.getD i2 0)) rfl (ld_sc Sc3 (At.mono (Int_at (H.os 12) (i:=(i2:Int)) (by omega) (by omega)) (H.ol 12)))) ?_;refine kg 3 ?_
  refine W.cond (decide ((az+r8)<=(aD.getD i2 0))) rfl (fun bb=>?_) (fun bb=>?_)
  ·replace hM:=M.e_t hM bb
   replace bb:=dI bb
   refine kg 9 ?_
   exact ⟨cm,cn,(i2:Int),i2+1,_,upds_of _ _ ⟨rfl,rfl,rfl,rfl,rfl,rfl,rfl,rfl,rfl,trivial⟩,M.e_inl hM bV,H⟩
  replace hM:=M.e_f hM bb
  replace bb:=dI bb
  refine kg 6 ?_
  exact ⟨cm,cn,reached,i2+1,_,upds_of _ _ ⟨rfl,rfl,rfl,rfl,rfl,rfl,rfl,rfl,rfl,trivial⟩,M.e_inl hM bV,H⟩
 replace hM:=M.e_f hM bW;refine W.exit ?_
 have dk:=M.e_inr hM bV
 subst dk;replace hM:=dj;(try dsimp only at hM);refine kg 9 ?_;refine s_val (x_por (b:=decide (reached<0)) (r:=(r0.length:Int)==0) rfl rfl (fun hb=>gd_of (c:=!(decide (reached<0))) (by first | exact hb | (rw [hb]; rfl) | simp_all) (B ((r0.length:Int)==0))))<|s_nil ?_
 refine W.cond ((decide (reached<0))||((r0.length:Int)==0)) rfl (fun bX=>?_) (fun bX=>?_)
 ·replace hM:=M.e_t hM bX;refine kg 2 ?_;obtain ⟨js,dm,hM⟩:=M.e_bind hM;refine s_call cf10 [] rfl (zdv dm _ (H.gt 14)) ?_
  rintro vq jt ⟨r9,rfl,hvq,aa⟩
  subst vq;(try dsimp only at hM);replace H:=H.bk aa;clear aa;refine kg 2 ?_;replace H:=H.pk [];refine W.ret ?_
  have aP:=M.e_pure hM
  exact ⟨_,resE_tmp rfl,⟨r9,aP,rfl,H⟩⟩
 replace hM:=M.e_f hM bX;refine kg 7 ?_;obtain ⟨ju,dp,hM⟩:=M.e_bind hM;refine s_call cf11 [.agg #[I aS,I aT,I az,I aU,I aV,aE,aF],au,I (az+r8)] rfl (zd6 aS aT az aU aV bh bi aY (az+r8) (rdo 9) (H.os 9) (rdo 10) (H.os 10) (rdo 13) (H.os 13) dp _ (H.gt 14)) ?_
 rintro vq jv ⟨ah,aI,jw,aA,rfl,hvq,aa⟩
 subst vq;(try dsimp only at hM);replace H:=H.bk aa;clear aa;refine kg 4 ?_;refine t_alloc (cs:=[I 0,I 0]) H Al24 rfl ?_;intro aZ jx H;refine t_sw 0 0 [I ah,I aI] (.agg #[I ah,I aI]) H rfl rfl Sz24 rfl rfl rfl rfl ?_;intro jy H;refine kg 3 ?_;replace H:=H.pk [0,1,2,3,4,5,6,7,8,12,13,14];refine kg 2 ?_;refine W.draw (fun W=>St w W [cBlk aZ [I ah,I aI] 24,cOwn (α:=Int) 3 bm r0,cOwn (α:=Town) 44 ao ([(⟨(r3-1:Int),(r7:Int),(0:Int)⟩:Town)]),cOwn (α:=Int) 3 ap ([(0:Int)]),cOwn (α:=Span) 24 aj l2,cOwn (α:=Int) 3 ai (l.set (Int.toNat (r3-1)) (-1:Int)),cBlk aJ [ai,aj,ap,ao,I r6,I 2,.slice none 0 0] 40,cBlk aG [aN,I a7,I a8] 61,cBlk aO [am,aq,au] 31,cOwn (α:=Int) 3 am ab,cOwn (α:=Int) 3 aq aD,cOwn (α:=Int) 3 au aY] R) [(0,true),(1,true),(2,true),(3,true),(4,true),(5,true),(6,true),(7,true),(8,true),(9,true),(10,true),(11,true),(12,true),(13,true),(14,true),(15,true),(16,true),(17,true),(18,true),(19,true),(20,true),(21,true)] mixed (by decide +kernel) rfl ?_;intro jz ae;replace H:=H.ext ae;clear ae
 refine ⟨(H.pk [0,1,2,3,4,5,6,7,8,9,10,11]),?_⟩
 obtain ⟨bY,hM⟩:=M.e_grd hM
 replace bY:=M.imp_of bY
 simp only [Bool.and_eq_true,decide_eq_true_eq] at bY
 refine kg 11 ?_;refine d_q rfl (fun w' H=>x_por (b:=aA != 0) (r:=decide ((ab.getD (Int.toNat reached) 0)<ah)) rfl rfl (fun hb=>gd_of (c:=!(aA != 0)) (by first | exact hb | (rw [hb]; rfl) | simp_all) (B (decide ((ab.getD (Int.toNat reached) 0)<ah)))))<|d_q rfl (fun w' H=>x_mv (v:=B ((aA != 0)||(decide ((ab.getD (Int.toNat reached) 0)<ah)))) rfl)<|d_qg (!((aA != 0)||(decide ((ab.getD (Int.toNat reached) 0)<ah)))) rfl (gy_f rfl) (fun hg=>(fun w' H=>x_fa (v:=Pq aO) rfl (fa_blk (o:=0) Fd31_0 Sz29)))<|d_qg (!((aA != 0)||(decide ((ab.getD (Int.toNat reached) 0)<ah)))) rfl (gy_f rfl) (fun hg=>(fun w' H=>x_ld (v:=am) (gd_of hg (Pq aO)) (ldb_sc Sc29 (H.bl 8) rfl)))<|d_qg (!((aA != 0)||(decide ((ab.getD (Int.toNat reached) 0)<ah)))) rfl (gy_f rfl) (fun hg=>(fun w' H=>x_mv (v:=I reached) rfl)) ?_;obtain ⟨bc,hM⟩:=M.e_grd hM
 replace bc:=M.imp_of bc
 simp only [Bool.and_eq_true,decide_eq_true_eq] at bc
 refine d_qg (!((aA != 0)||(decide ((ab.getD (Int.toNat reached) 0)<ah)))) rfl (gy_f rfl) (fun hg=>(fun w' H=>x_ix (v:=vat am 1 (Int.toNat reached)) (gd_of hg (am)) (gd_of hg (I reached)) (Sl.ix (α:=Int) T29.und T29.size (H.os 9) (by have ag:=bc.resolve_left (by rw [hg]; decide); first | exact ag | exact ag.1 | exact ag.2 | omega | (have ae:=hg; simp at ae; omega)) (by have ag:=bc.resolve_left (by rw [hg]; decide); first | exact ag | exact ag.1 | exact ag.2 | omega | (have ae:=hg; simp at ae; omega)))))<|d_qg (!((aA != 0)||(decide ((ab.getD (Int.toNat reached) 0)<ah)))) rfl (gy_f rfl) (fun hg=>(fun w' H=>x_ld (v:=I (ab.getD (Int.toNat reached) 0)) (gd_of hg (vat am 1 (Int.toNat reached))) (ld_sc Sc3 (At.mono (Int_at (H.os 9) (i:=reached) (by have ag:=bc.resolve_left (by rw [hg]; decide); first | exact ag | exact ag.1 | exact ag.2 | omega | (have ae:=hg; simp at ae; omega)) (by have ag:=bc.resolve_left (by rw [hg]; decide); first | exact ag | exact ag.1 | exact ag.2 | omega | (have ae:=hg; simp at ae; omega))) (H.ol 9)))))<|d_qg (!((aA != 0)||(decide ((ab.getD (Int.toNat reached) 0)<ah)))) rfl (gy_f rfl) (fun hg=>(fun w' H=>x_fa (v:=Oq aZ 1) rfl (fa_blk (o:=0) Fd24_1 Sz3)))<|d_qg (!((aA != 0)||(decide ((ab.getD (Int.toNat reached) 0)<ah)))) rfl (gy_f rfl) (fun hg=>(fun w' H=>x_ld (v:=I aI) (gd_of hg (Oq aZ 1)) (ldb_sc Sc3 (H.bl 0) rfl)))<|d_qg (!((aA != 0)||(decide ((ab.getD (Int.toNat reached) 0)<ah)))) rfl (gy_f rfl) (fun hg=>(fun w' H=>x_cmp (kd:=.i64) (r:=decide (aI<(ab.getD (Int.toNat reached) 0))) (gd_of hg (I (ab.getD (Int.toNat reached) 0))) (gd_of hg (I aI)) rfl))<|d_q rfl (fun w' H=>x_por (b:=((aA != 0)||(decide ((ab.getD (Int.toNat reached) 0)<ah)))) (r:=decide (aI<(ab.getD (Int.toNat reached) 0))) rfl rfl (fun hb=>gd_of (c:=!((aA != 0)||(decide ((ab.getD (Int.toNat reached) 0)<ah)))) (by first | exact hb | (rw [hb]; rfl) | simp_all) (B (decide (aI<(ab.getD (Int.toNat reached) 0)))))) ?_;refine d_nil ?_
 refine W.cond (((aA != 0)||(decide ((ab.getD (Int.toNat reached) 0)<ah)))||(decide (aI<(ab.getD (Int.toNat reached) 0)))) rfl (fun bZ=>?_) (fun bZ=>?_)
 ·replace hM:=M.e_t hM bZ;refine kg 4 ?_;replace H:=H.pk [];refine W.ret ?_
  have aP:=M.e_pure hM
  exact ⟨_,resE_tmp rfl,⟨false,aP,rfl,H⟩⟩
 replace hM:=M.e_f hM bZ
 have jA:=((H.os 1)).len_le
 obtain ⟨jC,hM⟩:=M.e_gd hM;refine kg 20 ?_;refine s_val (x_por (b:=decide ((r0.getD (Int.toNat ((r0.length:Int)-1)) 0)<0)) (r:=decide (r3<=(r0.getD (Int.toNat ((r0.length:Int)-1)) 0))) rfl rfl (fun hb=>gd_of (c:=!(decide ((r0.getD (Int.toNat ((r0.length:Int)-1)) 0)<0))) (by first | exact hb | (rw [hb]; rfl) | simp_all) (B (decide (r3<=(r0.getD (Int.toNat ((r0.length:Int)-1)) 0))))))<|s_nil ?_
 refine W.cond ((decide ((r0.getD (Int.toNat ((r0.length:Int)-1)) 0)<0))||(decide (r3<=(r0.getD (Int.toNat ((r0.length:Int)-1)) 0)))) rfl (fun b3=>?_) (fun b3=>?_)
 ·replace hM:=M.e_t hM b3;refine kg 4 ?_;replace H:=H.pk [];refine W.ret ?_
  have aP:=M.e_pure hM
  exact ⟨_,resE_tmp rfl,⟨false,aP,rfl,H⟩⟩
 replace hM:=M.e_f hM b3;refine kg 2 ?_;refine W.draw (fun W=>St w W [cBlk aZ [I ah,I aI] 24,cOwn (α:=Int) 3 bm r0,cOwn (α:=Town) 44 ao ([(⟨(r3-1:Int),(r7:Int),(0:Int)⟩:Town)]),cOwn (α:=Int) 3 ap ([(0:Int)]),cOwn (α:=Span) 24 aj l2,cOwn (α:=Int) 3 ai (l.set (Int.toNat (r3-1)) (-1:Int)),cBlk aJ [ai,aj,ap,ao,I r6,I 2,.slice none 0 0] 40,cBlk aO [am,aq,au] 31,cOwn (α:=Int) 3 am ab,cOwn (α:=Int) 3 aq aD,cOwn (α:=Int) 3 au aY] R) [(0,true),(1,true),(2,true),(3,true),(4,true),(5,true),(6,true),(7,true),(8,true),(9,true),(10,true),(11,true),(12,false),(13,true),(14,true),(15,true)] mixed (by decide +kernel) rfl ?_;intro jD ae;replace H:=H.ext ae;clear ae
 refine ⟨(H.pk [0,1,2,3,4,5,6,8,9,10,11]),?_⟩
 obtain ⟨jF,hM⟩:=M.e_gd hM;refine kg 12 ?_;refine d_l rfl ?_;obtain ⟨jH,dq,hM⟩:=M.e_bind hM;refine s_call cf6 [Pq aG,I r6,I 2] rfl (zad hours a7 a8 r6 2 (bv.app _) bw dq _ ((H.pk [7,0,1,2,3,4,5,6,8,9,10,11]).gt 11)) ?_
 rintro vq jI ⟨ac,dr,dt,rfl,hvq,aa⟩
 subst vq;(try dsimp only at hM)
 replace H:=H.pk [7,0,1,2,3,4,5,6,8,9,10,11] |>.bk aa
 clear aa
 refine s_nil ⟨(H.pk [1,2,3,4,5,6,7,8,9,10,11]),?_⟩
 obtain ⟨jJ,hM⟩:=M.e_gd hM;obtain ⟨jK,hM⟩:=M.e_gd hM;refine kg 13 ?_;replace H:=H.pk [0,1,3,4,5,6,7];refine kg 7 ?_;obtain ⟨du,b4,dv⟩:=M.e_bind hM
 obtain ⟨ci,b4⟩:=M.e_iter b4
 refine W.loop (fun m σ W=>∃ (s5:Int) (s6:Int) (there:Int) (k:Int) (ρ:Env),σ=upds ρ [(12,Pq aG),(13,Pq aJ),(14,I r3),(22,Pq aZ),(24,I (r0.getD (Int.toNat ((r0.length:Int)-1)) 0)),(25,I ((ab.getD (Int.toNat reached) 0)+(60*ac))),(26,I there),(27,I k)]/\M.iterN (zaD hours r3 l2) m (s5,s6,there,k)=some du/\St w W [cBlk aG [aN,I s5,I s6] 61,cBlk aZ [I ah,I aI] 24,cOwn (α:=Town) 44 ao ([(⟨(r3-1:Int),(r7:Int),(0:Int)⟩:Town)]),cOwn (α:=Int) 3 ap ([(0:Int)]),cOwn (α:=Span) 24 aj l2,cOwn (α:=Int) 3 ai (l.set (Int.toNat (r3-1)) (-1:Int)),cBlk aJ [ai,aj,ap,ao,I r6,I 2,.slice none 0 0] 40] R) ?_ ?_
 ·exact ⟨_,dr,dt,ab.getD (Int.toNat reached) 0,r0.getD (Int.toNat ((r0.length:Int)-1)) 0,_,upds_of _ _ ⟨rfl,rfl,rfl,rfl,rfl,rfl,rfl,rfl,trivial⟩,b4,H⟩
 rintro jM σ jN ⟨s5,s6,there,k,ρ,rfl,co,H⟩
 obtain ⟨dw,dx,jP,hM,cp⟩:=M.e_iterN co
 simp only [zaD] at hM
 clear co;refine kg 8 ?_
 refine W.cond (decide (k<(r3-1))) rfl (fun bf=>?_) (fun bf=>?_)
 ·replace hM:=M.e_t hM bf
  replace bf:=dI bf
  refine kg 3 ?_;refine W.draw (fun W=>St w W [cBlk aZ [I ah,I aI] 24,cOwn (α:=Town) 44 ao ([(⟨(r3-1:Int),(r7:Int),(0:Int)⟩:Town)]),cOwn (α:=Int) 3 ap ([(0:Int)]),cOwn (α:=Span) 24 aj l2,cOwn (α:=Int) 3 ai (l.set (Int.toNat (r3-1)) (-1:Int)),cBlk aJ [ai,aj,ap,ao,I r6,I 2,.slice none 0 0] 40] R) [(0,true),(1,true),(2,true),(3,true),(4,true),(5,true),(6,true),(7,true),(8,true),(9,true),(10,true),(11,true),(12,true),(13,true),(14,false),(15,true),(16,true),(17,true)] mixed (by decide +kernel) rfl ?_;intro jQ ae;replace H:=H.ext ae;clear ae
  refine ⟨(H.pk [1,2,3,4,5,6]),?_⟩
  obtain ⟨jR,hM⟩:=M.e_gd hM;refine kg 14 ?_;refine d_l rfl ?_;obtain ⟨jT,dz,hM⟩:=M.e_bind hM;refine s_call cf6 [Pq aG,I ((l2.getD (Int.toNat k) default).lo),I ((l2.getD (Int.toNat k) default).hi)] rfl (zad hours s5 s6 ((l2.getD (Int.toNat k) default).lo) ((l2.getD (Int.toNat k) default).hi) (bv.app _) bw dz _ (H.gt 6)) ?_
  rintro vq jW ⟨dA,dB,dC,rfl,hvq,aa⟩
  subst vq;(try dsimp only at hM);replace H:=H.bk aa;clear aa
  refine s_nil ⟨(H.pk [1,2,3,4,5,6]),?_⟩
  obtain ⟨jX,hM⟩:=M.e_gd hM;obtain ⟨jY,hM⟩:=M.e_gd hM;refine kg 9 ?_
  exact ⟨dw,dx,dB,dC,there+(60*dA),k+1,_,upds_of _ _ ⟨rfl,rfl,rfl,rfl,rfl,rfl,rfl,rfl,trivial⟩,M.e_inl hM cp,H⟩
 replace hM:=M.e_f hM bf
 replace bf:=dI bf
 refine W.exit ?_
 have dD:=M.e_inr hM cp
 subst dD;replace hM:=dv;(try dsimp only at hM);refine kg 4 ?_;obtain ⟨jZ,dE,hM⟩:=M.e_bind hM;refine s_call cf12 [.agg #[ai,aj,ap,ao,I r6,I 2,.slice none 0 0],I (r0.getD (Int.toNat ((r0.length:Int)-1)) 0),I 0] rfl (zdg (l.set (Int.toNat (r3-1)) (-1:Int)) l2 ([(0:Int)]) ([(⟨(r3-1:Int),(r7:Int),(0:Int)⟩:Town)]) r6 2 ([]:List Flood) (r0.getD (Int.toNat ((r0.length:Int)-1)) 0) 0 (rdo 5) (H.os 5) (rdo 4) (H.os 4) (rdo 3) (H.os 3) (rdo 2) (H.os 2) Reads.none (Sl.nil (fun _=>none)) dE _ (H.gt 7)) ?_
 rintro vq j0 ⟨aB,aM,aC,rfl,hvq,aa⟩
 subst vq;(try dsimp only at hM);replace H:=H.bk aa;clear aa;refine kg 3 ?_;refine t_alloc (cs:=[I 0,I 0]) H Al24 rfl ?_;intro dF j1 H;refine t_sw 0 0 [I aB,I aM] (.agg #[I aB,I aM]) H rfl rfl Sz24 rfl rfl rfl rfl ?_;intro j3 H;refine kg 3 ?_;refine W.draw (fun W=>St w W [cBlk dF [I aB,I aM] 24,cBlk aG [aN,I s5,I s6] 61,cBlk aZ [I ah,I aI] 24,cOwn (α:=Town) 44 ao ([(⟨(r3-1:Int),(r7:Int),(0:Int)⟩:Town)]),cOwn (α:=Int) 3 ap ([(0:Int)]),cOwn (α:=Span) 24 aj l2,cOwn (α:=Int) 3 ai (l.set (Int.toNat (r3-1)) (-1:Int)),cBlk aJ [ai,aj,ap,ao,I r6,I 2,.slice none 0 0] 40] R) [(0,true),(1,true),(2,true),(3,true),(4,true),(5,true),(6,true),(7,true),(8,true),(9,true),(10,true),(11,true),(12,true),(13,true),(14,true),(15,true),(16,true),(17,true),(18,true),(19,true),(20,true),(21,true),(22,true),(23,true),(24,true),(25,true),(26,true),(27,true),(28,true),(29,true),(30,true),(31,true),(32,true),(33,true),(34,true),(35,true),(36,true),(37,true),(38,true),(39,true),(40,true),(41,true),(42,true),(43,true),(44,true),(45,true),(46,true),(47,true),(48,true),(49,true),(50,false),(51,true),(52,true)] mixed (by decide +kernel) rfl ?_;intro j4 ae;replace H:=H.ext ae;clear ae
 refine ⟨(H.pk [0,1,2,3,4,5,6,7]),?_⟩
 obtain ⟨bn,hM⟩:=M.e_grd hM
 replace bn:=M.imp_of bn
 simp only [Bool.and_eq_true,decide_eq_true_eq] at bn
 obtain ⟨bo,hM⟩:=M.e_grd hM
 replace bo:=M.imp_of bo
 simp only [Bool.and_eq_true,decide_eq_true_eq] at bo
 refine kg 10 ?_;refine d_qg (aC==0) rfl (gy_t rfl) (fun hg=>(fun w' H=>x_ld (v:=I ((([(⟨(r3-1:Int),(r7:Int),(0:Int)⟩:Town)]).getD 0 default).lead)) (gd_of hg (fat (vat ao 3 (Int.toNat 0)) 1)) (ld_sc Sc3 (At.mono (Town_at1 (H.os 3) (i:=0) (by have ag:=bn.resolve_left (by rw [hg]; decide); have ay:=bo.resolve_left (by rw [hg]; decide); first | exact ag | exact ag.1 | exact ag.2 | exact ay | exact ay.1 | exact ay.2 | omega | (have ae:=hg; simp at ae; omega)) (by have ag:=bn.resolve_left (by rw [hg]; decide); have ay:=bo.resolve_left (by rw [hg]; decide); first | exact ag | exact ag.1 | exact ag.2 | exact ay | exact ay.1 | exact ay.2 | omega | (have ae:=hg; simp at ae; omega))) (H.ol 3))))) ?_;obtain ⟨b6,hM⟩:=M.e_grd hM
 replace b6:=M.imp_of b6
 simp only [Bool.and_eq_true,decide_eq_true_eq] at b6
 refine kg 2 ?_;refine d_q rfl (fun w' H=>x_pand (b:=aC==0) (r:=decide ((60*((([(⟨(r3-1:Int),(r7:Int),(0:Int)⟩:Town)]).getD 0 default).lead))<=(there-((ab.getD (Int.toNat reached) 0)+(60*ac))))) rfl (fun hb=>gd_of (c:=aC==0) (by first | exact hb | (rw [hb]; rfl) | simp_all) (B (decide ((60*((([(⟨(r3-1:Int),(r7:Int),(0:Int)⟩:Town)]).getD 0 default).lead))<=(there-((ab.getD (Int.toNat reached) 0)+(60*ac))))))) rfl) ?_;obtain ⟨b7,hM⟩:=M.e_grd hM
 replace b7:=M.imp_of b7
 simp only [Bool.and_eq_true,decide_eq_true_eq] at b7
 obtain ⟨b8,hM⟩:=M.e_grd hM
 replace b8:=M.imp_of b8
 simp only [Bool.and_eq_true,decide_eq_true_eq] at b8
 refine kg 8 ?_;refine d_q rfl (fun w' H=>x_pand (b:=((aC==0)&&(decide ((60*((([(⟨(r3-1:Int),(r7:Int),(0:Int)⟩:Town)]).getD 0 default).lead))<=(there-((ab.getD (Int.toNat reached) 0)+(60*ac))))))) (r:=decide ((60*aB)<=(there-((ab.getD (Int.toNat reached) 0)+(60*ac))))) rfl (fun hb=>gd_of (c:=((aC==0)&&(decide ((60*((([(⟨(r3-1:Int),(r7:Int),(0:Int)⟩:Town)]).getD 0 default).lead))<=(there-((ab.getD (Int.toNat reached) 0)+(60*ac))))))) (by first | exact hb | (rw [hb]; rfl) | simp_all) (B (decide ((60*aB)<=(there-((ab.getD (Int.toNat reached) 0)+(60*ac))))))) rfl) ?_;obtain ⟨b9,hM⟩:=M.e_grd hM
 replace b9:=M.imp_of b9
 simp only [Bool.and_eq_true,decide_eq_true_eq] at b9
 obtain ⟨ca,hM⟩:=M.e_grd hM
 replace ca:=M.imp_of ca
 simp only [Bool.and_eq_true,decide_eq_true_eq] at ca
 refine kg 8 ?_;refine d_q rfl (fun w' H=>x_pand (b:=(((aC==0)&&(decide ((60*((([(⟨(r3-1:Int),(r7:Int),(0:Int)⟩:Town)]).getD 0 default).lead))<=(there-((ab.getD (Int.toNat reached) 0)+(60*ac))))))&&(decide ((60*aB)<=(there-((ab.getD (Int.toNat reached) 0)+(60*ac))))))) (r:=decide ((there-((ab.getD (Int.toNat reached) 0)+(60*ac)))<=(60*aM))) rfl (fun hb=>gd_of (c:=(((aC==0)&&(decide ((60*((([(⟨(r3-1:Int),(r7:Int),(0:Int)⟩:Town)]).getD 0 default).lead))<=(there-((ab.getD (Int.toNat reached) 0)+(60*ac))))))&&(decide ((60*aB)<=(there-((ab.getD (Int.toNat reached) 0)+(60*ac))))))) (by first | exact hb | (rw [hb]; rfl) | simp_all) (B (decide ((there-((ab.getD (Int.toNat reached) 0)+(60*ac)))<=(60*aM))))) rfl) ?_;obtain ⟨bp,hM⟩:=M.e_grd hM
 replace bp:=M.imp_of bp
 simp only [Bool.and_eq_true,decide_eq_true_eq] at bp
 obtain ⟨br,hM⟩:=M.e_grd hM
 replace br:=M.imp_of br
 simp only [Bool.and_eq_true,decide_eq_true_eq] at br
 refine kg 9 ?_;refine d_qg ((((aC==0)&&(decide ((60*((([(⟨(r3-1:Int),(r7:Int),(0:Int)⟩:Town)]).getD 0 default).lead))<=(there-((ab.getD (Int.toNat reached) 0)+(60*ac))))))&&(decide ((60*aB)<=(there-((ab.getD (Int.toNat reached) 0)+(60*ac))))))&&(decide ((there-((ab.getD (Int.toNat reached) 0)+(60*ac)))<=(60*aM)))) rfl (gy_t rfl) (fun hg=>(fun w' H=>x_ld (v:=I ((([(⟨(r3-1:Int),(r7:Int),(0:Int)⟩:Town)]).getD 0 default).lead)) (gd_of hg (fat (vat ao 3 (Int.toNat 0)) 1)) (ld_sc Sc3 (At.mono (Town_at1 (H.os 3) (i:=0) (by have ag:=bp.resolve_left (by rw [hg]; decide); have ay:=br.resolve_left (by rw [hg]; decide); first | exact ag | exact ag.1 | exact ag.2 | exact ay | exact ay.1 | exact ay.2 | omega | (have ae:=hg; simp at ae; omega)) (by have ag:=bp.resolve_left (by rw [hg]; decide); have ay:=br.resolve_left (by rw [hg]; decide); first | exact ag | exact ag.1 | exact ag.2 | exact ay | exact ay.1 | exact ay.2 | omega | (have ae:=hg; simp at ae; omega))) (H.ol 3))))) ?_;obtain ⟨cb,hM⟩:=M.e_grd hM
 replace cb:=M.imp_of cb
 simp only [Bool.and_eq_true,decide_eq_true_eq] at cb
 obtain ⟨cc,hM⟩:=M.e_grd hM
 replace cc:=M.imp_of cc
 simp only [Bool.and_eq_true,decide_eq_true_eq] at cc
 refine kg 6 ?_;refine d_q rfl (fun w' H=>x_pand (b:=((((aC==0)&&(decide ((60*((([(⟨(r3-1:Int),(r7:Int),(0:Int)⟩:Town)]).getD 0 default).lead))<=(there-((ab.getD (Int.toNat reached) 0)+(60*ac))))))&&(decide ((60*aB)<=(there-((ab.getD (Int.toNat reached) 0)+(60*ac))))))&&(decide ((there-((ab.getD (Int.toNat reached) 0)+(60*ac)))<=(60*aM))))) (r:=decide ((60*(((([(⟨(r3-1:Int),(r7:Int),(0:Int)⟩:Town)]).getD 0 default).lead)+2))<=(there-ah))) rfl (fun hb=>gd_of (c:=((((aC==0)&&(decide ((60*((([(⟨(r3-1:Int),(r7:Int),(0:Int)⟩:Town)]).getD 0 default).lead))<=(there-((ab.getD (Int.toNat reached) 0)+(60*ac))))))&&(decide ((60*aB)<=(there-((ab.getD (Int.toNat reached) 0)+(60*ac))))))&&(decide ((there-((ab.getD (Int.toNat reached) 0)+(60*ac)))<=(60*aM))))) (by first | exact hb | (rw [hb]; rfl) | simp_all) (B (decide ((60*(((([(⟨(r3-1:Int),(r7:Int),(0:Int)⟩:Town)]).getD 0 default).lead)+2))<=(there-ah))))) rfl) ?_;refine kg 1 ?_;refine d_l rfl ?_;obtain ⟨bu,dG,hM⟩:=M.e_bind hM;refine t_gcall (((((aC==0)&&(decide ((60*((([(⟨(r3-1:Int),(r7:Int),(0:Int)⟩:Town)]).getD 0 default).lead))<=(there-((ab.getD (Int.toNat reached) 0)+(60*ac))))))&&(decide ((60*aB)<=(there-((ab.getD (Int.toNat reached) 0)+(60*ac))))))&&(decide ((there-((ab.getD (Int.toNat reached) 0)+(60*ac)))<=(60*aM))))&&(decide ((60*(((([(⟨(r3-1:Int),(r7:Int),(0:Int)⟩:Town)]).getD 0 default).lead)+2))<=(there-ah)))) (gy_t rfl) cf10 (B bu) (fun _=>[]) (fun _=>rfl) H (fun hg=>(zdv (M.e_opt dG hg) _ (H.give (A:=[]) rfl)).mono fun v_ w_ ⟨y_,aP,dH,H_⟩=>by subst aP; exact ⟨dH,H.via H_⟩) ?_;intro j5 H
 refine s_nil ⟨(H.pk [0,1,2,3,4,5,6,7]),?_⟩
 refine d_q rfl (fun w' H=>x_pand (b:=(((((aC==0)&&(decide ((60*((([(⟨(r3-1:Int),(r7:Int),(0:Int)⟩:Town)]).getD 0 default).lead))<=(there-((ab.getD (Int.toNat reached) 0)+(60*ac))))))&&(decide ((60*aB)<=(there-((ab.getD (Int.toNat reached) 0)+(60*ac))))))&&(decide ((there-((ab.getD (Int.toNat reached) 0)+(60*ac)))<=(60*aM))))&&(decide ((60*(((([(⟨(r3-1:Int),(r7:Int),(0:Int)⟩:Town)]).getD 0 default).lead)+2))<=(there-ah))))) (r:=bu) rfl (fun hb=>gd_of (c:=(((((aC==0)&&(decide ((60*((([(⟨(r3-1:Int),(r7:Int),(0:Int)⟩:Town)]).getD 0 default).lead))<=(there-((ab.getD (Int.toNat reached) 0)+(60*ac))))))&&(decide ((60*aB)<=(there-((ab.getD (Int.toNat reached) 0)+(60*ac))))))&&(decide ((there-((ab.getD (Int.toNat reached) 0)+(60*ac)))<=(60*aM))))&&(decide ((60*(((([(⟨(r3-1:Int),(r7:Int),(0:Int)⟩:Town)]).getD 0 default).lead)+2))<=(there-ah))))) (by first | exact hb | (rw [hb]; rfl) | simp_all) (B bu)) rfl) ?_;refine kg 2 ?_;replace H:=H.pk [];refine W.ret ?_
 have aP:=M.e_pure hM
 exact ⟨_,resE_tmp rfl,⟨((((((aC==0)&&(decide ((60*((([(⟨(r3-1:Int),(r7:Int),(0:Int)⟩:Town)]).getD 0 default).lead))<=(there-((ab.getD (Int.toNat reached) 0)+(60*ac))))))&&(decide ((60*aB)<=(there-((ab.getD (Int.toNat reached) 0)+(60*ac))))))&&(decide ((there-((ab.getD (Int.toNat reached) 0)+(60*ac)))<=(60*aM))))&&(decide ((60*(((([(⟨(r3-1:Int),(r7:Int),(0:Int)⟩:Town)]).getD 0 default).lead)+2))<=(there-ah))))&&bu),aP,rfl,H⟩⟩

end Go.Proofs.YtdmdhmineljlhabGreat
end
namespace Go.Nm
namespace Wn
theorem upto_step {dn:List Int} (hD:Dn dn) {w k:Int} (hw:Stn dn w) (hk:k∈P dn w) (h0:0<=k) (h1:k+1<dn.length) (hn:dn.getD (Int.toNat k) 0=k+1):k+1∈P dn w/\upto (P dn w) (k+1)=upto (P dn w) k++[k]:=by
  have e1:=P_cons hD h0 (by omega)
  rw [hn] at e1
  have e2:=P_cons hD (s:=k+1) (by omega) h1
  have hz:k+1∈P dn k:=by rw [e1,e2]; simp
  obtain ⟨a,b⟩:=upto_trans hD hw hk hz
  refine ⟨a,?_⟩
  rw [b]
  congr 1
  rw [e1,e2]
  unfold upto
  simp only [List.takeWhile_cons]
  rw [show (k==k+1)=false from beq_eq_false_iff_ne.2 (by omega),show (k+1==k+1)=true from beq_self_eq_true _]
  rfl
end Wn
end Go.Nm
namespace Go.Proofs.YtdmdhmineljlhabGreat
open Go Go.Nm
/-- The river of one branch. -/
structure Br (n:Nat) (l:List Int) (l2:List Span) (k:Nat):Prop where
  e1:l.length=k
  e2:l2.length=k
  d:∀ j,j<k->l.getD j 0=(j:Int)+1
  t:∀ j,j<k->0<=(l2.getD j default).lo/\(l2.getD j default).lo<=(l2.getD j default).hi/\(l2.getD j default).hi<=13
section
variable {b:List UInt8}
theorem ch_b0 {n:Nat} (hn:2<=n/\n<=6) {c u x:Int} (hS:SOk c u x) (hc:c<=1000) :
    (M.iter (zaK b (n:Int)) (u,x,0,[],[])).Out (fun y=>SOk (c+20) y.1 y.2.1/\∃ l l2,y.2.2=(l,l2,l2,l)/\Br n l l2 n):=by
  refine M.o_for n (fun i (z:Int × Int × Nat × List Int × List Span)=>z.2.2.1=i/\SOk (c+2*(i:Int)) z.1 z.2.1/\Br n z.2.2.2.1 z.2.2.2.2 i) ?_ ?_ ⟨rfl,hS.mono (by omega),rfl,rfl,fun j hj=>by omega,fun j hj=>by omega⟩
  · rintro i ⟨u,x,q,l,l2⟩ hi ⟨e,hS,hB⟩
    dsimp only at e hS hB
    subst e
    have e1:=hB.e1
    have e2:=hB.e2
    simp only [zaK]
    refine M.o_t (decide_eq_true (by omega)) (M.o_bind (next_out hS (by omega) (by omega)) ?_)
    rintro ⟨r4,u1,x1⟩ ⟨k1,g1,_⟩
    have g1:=g1 (by omega)
    dsimp only at k1 g1 ⊢
    refine M.o_grd (gA2 (by omega) (by omega)) (M.o_grd (decide_eq_true (by simp; omega)) (M.o_bind (next_out k1 (by omega) (by omega)) ?_))
    rintro ⟨r5,u2,x2⟩ ⟨k2,g2,_⟩
    have g2:=g2 (by omega)
    dsimp only at k2 g2 ⊢
    refine M.o_grd (gA2 (by omega) (by omega)) (M.o_grd (decide_eq_true (by simp; omega)) (M.o_pure ⟨rfl,k2.mono (by omega),by simp [e1],by simp [e2],fun j hj=>?_,fun j hj=>?_⟩))
    · dsimp only
      by_cases h:j<q
      · rw [Ct.apL (by omega)]
        exact hB.d j h
      · rw [Ct.apE (by omega)]
        omega
    · dsimp only
      by_cases h:j<q
      · rw [Ct.apL (by omega)]
        exact hB.t j h
      · rw [Ct.apE (by omega)]
        dsimp only
        omega
  · rintro ⟨u,x,q,l,l2⟩ ⟨e,hS,hB⟩
    dsimp only at e hS hB
    simp only [zaK]
    exact M.o_f (decide_eq_false (by omega)) (M.o_pure ⟨hS.mono (by omega),l,l2,rfl,hB⟩)
theorem ch_b1 (base:Int) (ss:List Int) (r8:Int):(M.iter (zaP base ss r8) (-1,0)).Out (fun r=>r = -1∨∃ k:Nat,k<ss.length/\r=(k:Int)/\base+r8<=ss.getD k 0/\∀ j,j<k->ss.getD j 0<base+r8):=by
  refine M.o_for ss.length (fun i (z:Int × Nat)=>z.2=i/\((z.1 = -1/\∀ j,j<i->ss.getD j 0<base+r8)∨∃ k:Nat,k<ss.length/\z.1=(k:Int)/\base+r8<=ss.getD k 0/\∀ j,j<k->ss.getD j 0<base+r8)) ?_ ?_ ⟨rfl,.inl ⟨rfl,fun j hj=>by omega⟩⟩
  · rintro i ⟨r,q⟩ hi ⟨e,h⟩
    dsimp only at e h
    subst e
    simp only [zaP]
    refine M.o_if (fun hb=>?_) (fun hb=>?_)
    · simp only [Bool.and_eq_true,decide_eq_true_eq] at hb
      rcases h with ⟨h1,h2⟩ | ⟨k,h1,h2,_⟩
      · refine M.o_grd (decide_eq_true hb.1) (M.o_if (fun hc=>?_) (fun hc=>?_))
        · exact M.o_pure ⟨rfl,.inr ⟨q,hi,rfl,of_decide_eq_true hc,h2⟩⟩
        · refine M.o_pure ⟨rfl,.inl ⟨h1,fun j hj=>?_⟩⟩
          have:=of_decide_eq_false hc
          by_cases e:j=q
          · subst e
            omega
          · exact h2 j (by omega)
      · omega
    · refine M.o_pure ?_
      rcases h with ⟨h1,h2⟩ | h
      · exact .inl h1
      · exact .inr h
  · rintro ⟨r,q⟩ ⟨e,h⟩
    dsimp only at e h
    simp only [zaP]
    refine M.o_f (by rw [decide_eq_false (by omega)]; rfl) (M.o_pure ?_)
    rcases h with ⟨h1,h2⟩ | h
    · exact .inl h1
    · exact .inr h
theorem ch_b2 {n:Nat} {dn:List Int} {tr:List Span} (hD:Wn.Dn dn) (hl:dn.length=n) (hn:n<=6) (htl:tr.length=n) (hd:∀ j,j+1<n->dn.getD j 0=(j:Int)+1) (ht:∀ j,j<n->0<=(tr.getD j default).lo/\(tr.getD j default).lo<=(tr.getD j default).hi/\(tr.getD j default).hi<=13)
    {w:Nat} (hw:w<n) {T:Int} (hT:0<=T/\T<=1000000) {c u x:Int} (hS:SOk c u x) (hc:c<=1000) :
    (M.iter (zaD b (n:Int) tr) (u,x,T,(w:Int))).Out (fun y=>∃ S,y.1=T+60*S/\(0<=S/\S<=100)/\Wn.sm (Wn.lo tr) (Wn.upto (Wn.P dn (w:Int)) ((n:Int)-1))<=S/\S<=Wn.sm (Wn.hi tr) (Wn.upto (Wn.P dn (w:Int)) ((n:Int)-1))):=by
  have hws:Wn.Stn dn (w:Int):=.inr ⟨by omega,by omega⟩
  refine M.o_for (n-1-w) (fun i (z:Int × Int × Int × Int)=>z.2.2.2=(w:Int)+(i:Int)/\SOk (c+(i:Int)) z.1 z.2.1/\(w:Int)+(i:Int)∈Wn.P dn (w:Int)/\∃ S,z.2.2.1=T+60*S/\(0<=S/\S<=13*(i:Int))/\Wn.sm (Wn.lo tr) (Wn.upto (Wn.P dn (w:Int)) ((w:Int)+(i:Int)))<=S/\S<=Wn.sm (Wn.hi tr) (Wn.upto (Wn.P dn (w:Int)) ((w:Int)+(i:Int)))) ?_ ?_ ⟨by dsimp only; omega,hS.mono (by omega),?_,0,by dsimp only; omega,by omega,?_⟩
  · rintro i ⟨u,x,th,k⟩ hi ⟨e,hS,hm,S,e2,hb,h1,h2⟩
    dsimp only at e hS e2
    subst e e2
    have hj:=ht (w+i) (by omega)
    have e3:Int.toNat ((w:Int)+(i:Int))=w+i:=by omega
    obtain ⟨m2,m3⟩:=Wn.upto_step hD hws hm (by omega) (by omega) (by rw [e3]; have:=hd (w+i) (by omega); omega)
    simp only [zaD]
    rw [e3]
    refine M.o_t (decide_eq_true (by omega)) (M.o_grd (gA2 (by omega) (by omega)) (M.o_bind (within_out hS (by omega) (by omega) (by omega) (by omega)) ?_))
    rintro ⟨r,u1,x1⟩ ⟨k1,g1,g2⟩
    dsimp only at k1 g1 g2 ⊢
    refine M.o_grd (gA2 (by omega) (by omega)) (M.o_grd (gA2 (by omega) (by omega)) (M.o_pure ⟨by dsimp only; omega,k1.mono (by omega),by rw [show (w:Int)+((i+1:Nat):Int)=(w:Int)+(i:Int)+1 by omega]; exact m2,S+r,by dsimp only; omega,by omega,?_,?_⟩))
    · rw [show (w:Int)+((i+1:Nat):Int)=(w:Int)+(i:Int)+1 by omega,m3,Wn.sm_app,show Wn.sm (Wn.lo tr) [(w:Int)+(i:Int)]=Wn.lo tr ((w:Int)+(i:Int))+0 from rfl]
      unfold Wn.lo at h1 ⊢
      rw [e3]
      omega
    · rw [show (w:Int)+((i+1:Nat):Int)=(w:Int)+(i:Int)+1 by omega,m3,Wn.sm_app,show Wn.sm (Wn.hi tr) [(w:Int)+(i:Int)]=Wn.hi tr ((w:Int)+(i:Int))+0 from rfl]
      unfold Wn.hi at h2 ⊢
      rw [e3]
      omega
  · rintro ⟨u,x,th,k⟩ ⟨e,hS,hm,S,e2,hb,h1,h2⟩
    dsimp only at e hS e2
    simp only [zaD]
    rw [show (w:Int)+((n-1-w:Nat):Int)=(n:Int)-1 by omega] at h1 h2
    exact M.o_f (decide_eq_false (by omega)) (M.o_pure ⟨S,e2,by omega,h1,h2⟩)
  · rw [show (w:Int)+((0:Nat):Int)=(w:Int) by omega]
    exact Wn.P_self hD (by omega) (by omega)
  · rw [show (w:Int)+((0:Nat):Int)=(w:Int) by omega,Wn.upto_self hD (by omega) (by omega)]
    exact ⟨Int.le_refl _,Int.le_refl _⟩
end
section
variable {dn:List Int} {tr:List Span} {sp:List Int} {tw:List Town} {dl dh:Int} {fl:List Flood}
theorem is_true (R:Wn.Rv dn tr sp tw dl dh fl) {d:Dem} (h:d.spring∈sp/\(0<=d.town/\d.town<(tw.length:Int))/\Wn.stn tw d∈Wn.P dn d.spring):(zbF dn tr sp tw dl dh fl d).Ends true:=by
  obtain ⟨D,hD,h64,hm⟩:=demands_is R
  have hd:=(hm d).2 h
  refine M.Out.ends ?_
  unfold zbF zcT zck
  refine M.o_bindE hD (M.o_bind (P:=fun z=>z=true) (M.o_bind (P:=fun r=>0<=r) (M.o_bind (P:=fun z=>∃ i:Nat,z = .inl (i:Int)) (M.o_for D.length (fun i (z:Nat)=>z=i/\∀ j,j<i->D.getD j default ≠ d) ?_ ?_ ⟨rfl,fun j hj=>by omega⟩) ?_) fun r hr=>M.o_pure (decide_eq_true hr)) ?_)
  · rintro i q hi ⟨e,hj⟩
    subst e
    simp only [zb8,zbY]
    refine M.o_t (decide_eq_true (by omega)) (M.o_grd (decide_eq_true (by omega)) (M.o_bindE M.i_pure (M.o_if (fun hb=>M.o_pure ⟨q,rfl⟩) (fun hb=>M.o_pure ⟨rfl,fun j hj2=>?_⟩))))
    by_cases e:j=q
    · subst e
      exact of_decide_eq_false hb
    · exact hj j (by omega)
  · rintro q ⟨e,hj⟩
    obtain ⟨i,hi,e2⟩:=mem_getD hd default
    exact absurd e2 (hj i hi)
  · rintro _ ⟨i,rfl⟩
    exact M.o_pure (by omega)
  · rintro _ rfl
    exact M.o_pure rfl
theorem stretchx_ends (R:Wn.Rv dn tr sp tw dl dh fl) {d:Dem} (hd:Wn.OkD dn tw d) (h:d.spring∈sp/\(0<=d.town/\d.town<(tw.length:Int))/\Wn.stn tw d∈Wn.P dn d.spring):(zaI dn tr sp tw dl dh fl d).Ends (Wn.Sd dn tr tw dh d,0):=by
  have hl:(Wn.Sd dn tr tw dh d).length<=(Wn.P dn d.spring).length:=List.length_filter_le _ _
  have h2:=Wn.P_short R.nx (.inr hd.1)
  have h12:=R.n12
  refine M.Out.ends ?_
  unfold zaI
  exact M.o_bindE (opened_ends R) (M.o_f rfl (M.o_bindE (is_true R h) (M.o_f rfl (M.o_bindE (stretch_ends R hd) (M.o_grd (decide_eq_true (by omega)) (M.o_pure rfl))))))
theorem aheadx_ends (R:Wn.Rv dn tr sp tw dl dh fl) {w:Int} (h0:0<=w) (h1:w<dn.length) {k:Nat} (hk:k<tw.length) (hm:(tw.getD k default).station∈Wn.P dn w) :
    (zbl dn tr sp tw dl dh fl w (k:Int)).Ends (Wn.sm (Wn.lo tr) (Wn.upto (Wn.P dn w) (tw.getD k default).station)-dh,Wn.sm (Wn.hi tr) (Wn.upto (Wn.P dn w) (tw.getD k default).station)-dl,0):=by
  have hws:Wn.Stn dn w:=.inr ⟨h0,h1⟩
  have h2:=Wn.P_short R.nx hws
  have h12:=R.n12
  have d0:=R.d0
  have d1:=R.d1
  have d2:=R.d2
  have t8:=R.t8
  have htl:=R.tl
  have hu:(Wn.upto (Wn.P dn w) (tw.getD k default).station).length<=(Wn.P dn w).length:=(List.takeWhile_sublist _).length_le
  have b1:=Wn.sm_bound (Wn.lo tr) (Wn.upto (Wn.P dn w) (tw.getD k default).station) fun y hy=>by
    have a1:=Wn.P_mem R.nx _ hws y ((List.takeWhile_sublist _).mem hy)
    have a2:=R.hr (Int.toNat y) (by omega)
    unfold Wn.lo
    omega
  have b2:=Wn.sm_bound (Wn.hi tr) (Wn.upto (Wn.P dn w) (tw.getD k default).station) fun y hy=>by
    have a1:=Wn.P_mem R.nx _ hws y ((List.takeWhile_sublist _).mem hy)
    have a2:=R.hr (Int.toNat y) (by omega)
    unfold Wn.hi
    omega
  refine M.Out.ends ?_
  unfold zbl
  refine M.o_bindE (opened_ends R) (M.o_f rfl (M.o_bindE (station_true R h0 h1) (M.o_bind (P:=fun z=>z=true) (M.o_opt (fun _=>⟨true,in_true (by omega) (by omega),rfl⟩) (fun h=>by cases h)) ?_)))
  rintro _ rfl
  refine M.o_f rfl (M.o_grd (gA2 (by omega) (by omega)) ?_)
  rw [Int.toNat_natCast]
  refine M.o_bindE (travels_ends R hws _) ?_
  rw [if_pos hm]
  refine M.o_f rfl (M.o_grd (gA2 (by omega) (by omega)) (M.o_grd (gA2 (by omega) (by omega)) (M.o_bindE (added_ends _ (by simp) fun s hs=>?_) (M.o_pure ?_))))
  · simp only [List.mem_cons,List.not_mem_nil,or_false] at hs
    rcases hs with rfl | rfl
    · exact ⟨⟨by dsimp only; omega,by dsimp only; omega⟩,by dsimp only; omega,by dsimp only; omega⟩
    · exact ⟨⟨by dsimp only; omega,by dsimp only; omega⟩,by dsimp only; omega,by dsimp only; omega⟩
  · simp only [List.map_cons,List.map_nil,List.sum_cons,List.sum_nil,Prod.mk.injEq,and_true]
    omega
end
theorem zdP (p q o:List UInt8) (sg:Int):(zcs p q o sg).Ends true:=by
  refine M.Out.ends ?_
  unfold zcs
  have hnew:∀ l:List UInt8,(zbi l).Ends (0,0):=fun l=>M.i_pure
  refine M.o_bindE (hnew p) (M.o_bind (made02_out ⟨by omega,by omega⟩ SOk.zero) ?_)
  rintro ⟨pl,ph,base,sc,off,ms,nt,ts,ss,st,y1,y2⟩ ⟨R,hbase,hss⟩
  dsimp only at R hbase hss ⊢
  refine M.o_bindE (hnew q) (M.o_bindE (hnew o) (M.o_bind (within_out SOk.zero (by omega) (by omega) (by omega) (by omega)) ?_))
  rintro ⟨n',u1,x1⟩ ⟨k1,n2,n6⟩
  dsimp only at k1 n2 n6 ⊢
  obtain ⟨n,rfl⟩:∃ n:Nat,n'=(n:Int):=⟨Int.toNat n',by omega⟩
  refine M.o_bind (ch_b0 ⟨by omega,by omega⟩ k1 (by omega)) ?_
  rintro ⟨u2,x2,_⟩ ⟨k2,l,tr,rfl,hB⟩
  dsimp only at k2 ⊢
  have e1:=hB.e1
  have e2:=hB.e2
  refine M.o_grd (gA2 (by omega) (by omega)) (M.o_grd (gA2 (by omega) (by omega)) (M.o_bind (next_out k2 (by omega) (by omega)) ?_))
  rintro ⟨dl,u3,x3⟩ ⟨k3,g3,_⟩
  have g3:=g3 (by omega)
  dsimp only at k3 g3 ⊢
  refine M.o_bind (next_out k3 (by omega) (by omega)) ?_
  rintro ⟨ld,u4,x4⟩ ⟨k4,g4,_⟩
  have g4:=g4 (by omega)
  dsimp only at k4 g4 ⊢
  have e3:Int.toNat ((n:Int)-1)=n-1:=by omega
  rw [e3]
  generalize hdn:l.set (n-1) (-1:Int)=dn
  have hl:dn.length=n:=by rw [← hdn,List.length_set]; exact e1
  have hd:∀ j,j+1<n->dn.getD j 0=(j:Int)+1:=fun j hj=>by
    rw [← hdn,gset _ _ _ _ _ (by omega),if_neg (by omega)]
    exact hB.d j (by omega)
  have hlast:dn.getD (n-1) 0 = -1:=by rw [← hdn,gset _ _ _ _ _ (by omega),if_pos rfl]
  have hD:Wn.Dn dn:=fun i hi=>by
    by_cases e:i+1<n
    · rw [hd i e]
      omega
    · rw [show i=n-1 by omega,hlast]
      exact .inl rfl
  have V:Wn.Rv dn tr [0] [⟨(n:Int)-1,ld,0⟩] dl 2 []:=by
    refine ⟨by omega,by omega,hD,by omega,fun i hi=>?_,by simp,by simp,by simp,fun x hx=>?_,by simp,fun t ht=>?_,by omega,by omega,by omega,by simp,fun f hf=>by cases hf⟩
    · have:=hB.t i (by omega)
      omega
    · rw [List.mem_singleton] at hx
      omega
    · rw [List.mem_singleton] at ht
      subst ht
      dsimp only
      omega
  -- the town lies behind every station
  have hreach:∀ k w:Nat,w+k=n-1->(n:Int)-1∈Wn.P dn (w:Int):=by
    intro k
    induction k with
    | zero =>
      intro w hw
      rw [show (n:Int)-1=(w:Int) by omega]
      exact Wn.P_self hD (by omega) (by omega)
    | succ k ih =>
      intro w hw
      rw [Wn.P_cons hD (by omega) (by omega),Int.toNat_natCast,hd w (by omega)]
      exact List.mem_cons_of_mem _ (ih (w+1) (by omega))
  have hstn:Wn.stn [(⟨(n:Int)-1,ld,0⟩:Town)] ⟨0,0⟩=(n:Int)-1:=rfl
  have hled:Wn.led [(⟨(n:Int)-1,ld,0⟩:Town)] ⟨0,0⟩=ld:=rfl
  have hok:Wn.OkD dn [(⟨(n:Int)-1,ld,0⟩:Town)] ⟨0,0⟩:=⟨⟨Int.le_refl _,by dsimp only; omega⟩,Int.le_refl _,by simp⟩
  refine M.o_bindE (stretchx_ends V hok ⟨by simp,⟨Int.le_refl _,by simp⟩,hreach (n-1) 0 (by omega)⟩) ?_
  have hlen:(Wn.Sd dn tr [(⟨(n:Int)-1,ld,0⟩:Town)] 2 ⟨0,0⟩).length<=n:=by
    have a1:(Wn.Sd dn tr [(⟨(n:Int)-1,ld,0⟩:Town)] 2 ⟨0,0⟩).length<=(Wn.P dn 0).length:=List.length_filter_le _ _
    have a2:=Wn.P_short hD (.inr ⟨Int.le_refl _,by omega⟩:Wn.Stn dn 0)
    omega
  have hmem:∀ w∈Wn.Sd dn tr [(⟨(n:Int)-1,ld,0⟩:Town)] 2 ⟨0,0⟩,w∈Wn.P dn 0/\ld+2<=Wn.sm (Wn.lo tr) (Wn.upto (Wn.P dn w) ((n:Int)-1)):=fun w hw=>by
    have:=Wn.mem_Sd.1 hw
    exact ⟨this.1,this.2.2⟩
  generalize Wn.Sd dn tr [(⟨(n:Int)-1,ld,0⟩:Town)] 2 ⟨0,0⟩=at_ at hlen hmem
  dsimp only
  refine M.o_f (by rw [decide_eq_false (by omega)]; rfl) (M.o_bind (pick_num (by omega)) fun r8 h8=>M.o_grd (gA2 (by omega) (by omega)) (M.o_bind (ch_b1 base ss r8) fun rc hrc=>?_))
  refine M.o_if (fun _=>M.o_bindE awake_ends (M.o_pure rfl)) (fun hb=>?_)
  rw [Bool.or_eq_false_iff,decide_eq_false_iff_not,beq_eq_false_iff_ne] at hb
  have tl:=R.tl
  have sl:=R.sl
  rcases hrc with rfl | ⟨k,hk,rfl,hx,hlt⟩
  · omega
  refine M.o_bind (first_out R (k:=k) (by omega) hx hlt) ?_
  rintro ⟨flo,fhi,_,_⟩ ⟨⟨h0,h1,h2⟩,rfl⟩
  have hT:=R.t k (by omega)
  dsimp only at h0 h1 h2 ⊢
  rw [Int.toNat_natCast]
  refine M.o_grd (gOr2 (by omega) (by omega)) (M.o_grd (gOr2 (by omega) (by omega)) (M.o_f (by rw [decide_eq_false (by omega),decide_eq_false (by omega)]; rfl) (M.o_grd (gA2 (by omega) (by omega)) ?_)))
  have hw:at_.getD (Int.toNat ((at_.length:Int)-1)) 0∈at_:=Ct.memD at_ (by omega) 0
  generalize at_.getD (Int.toNat ((at_.length:Int)-1)) 0=w' at hw
  obtain ⟨m1,m2⟩:=hmem _ hw
  have m3:=Wn.P_mem hD 0 (.inr ⟨Int.le_refl _,by omega⟩) _ m1
  obtain ⟨w,rfl⟩:∃ w:Nat,w'=(w:Int):=⟨Int.toNat w',by omega⟩
  refine M.o_f (by rw [decide_eq_false (by omega),decide_eq_false (by omega)]; rfl) (M.o_grd (gA2 (by omega) (by omega)) (M.o_bind (within_out SOk.zero (by omega) (by omega) (by omega) (by omega)) ?_))
  rintro ⟨dy,u5,x5⟩ ⟨k5,d1,d2⟩
  dsimp only at k5 d1 d2 ⊢
  refine M.o_grd (gA2 (by omega) (by omega)) (M.o_grd (gA2 (by omega) (by omega)) (M.o_bind (ch_b2 hD hl (by omega) e2 hd hB.t (by omega) hT k5 (by omega)) ?_))
  rintro ⟨th,u6,x6⟩ ⟨S,hth,hS0,hS1,hS2⟩
  dsimp only at hth ⊢
  refine M.o_bindE (aheadx_ends V (w:=(w:Int)) (by omega) (by omega) (k:=0) (by simp) (hreach (n-1-w) w (by omega))) ?_
  rw [show (([(⟨(n:Int)-1,ld,0⟩:Town)]:List Town).getD 0 default)=⟨(n:Int)-1,ld,0⟩ from rfl]
  dsimp only
  have hwn:∀ y∈Wn.upto (Wn.P dn (w:Int)) ((n:Int)-1),0<=y/\y<(n:Int):=fun y hy=>by
    have:=Wn.P_mem hD (w:Int) (.inr ⟨by omega,by omega⟩) y ((List.takeWhile_sublist _).mem hy)
    omega
  have b2:=Wn.sm_bound (Wn.hi tr) _ fun y hy=>by
    have a1:=hwn y hy
    have a2:=hB.t (Int.toNat y) (by omega)
    show 0<=Wn.hi tr y/\Wn.hi tr y<=1000
    unfold Wn.hi
    omega
  have hul:(Wn.upto (Wn.P dn (w:Int)) ((n:Int)-1)).length<=(Wn.P dn (w:Int)).length:=(List.takeWhile_sublist _).length_le
  have hpl:=Wn.P_short hD (.inr ⟨by omega,by omega⟩:Wn.Stn dn (w:Int))
  generalize Wn.sm (Wn.lo tr) (Wn.upto (Wn.P dn (w:Int)) ((n:Int)-1))=A at *
  generalize Wn.sm (Wn.hi tr) (Wn.upto (Wn.P dn (w:Int)) ((n:Int)-1))=B at *
  generalize ts.getD k 0=T at *
  subst hth
  refine M.o_grd (gOr2 (by omega) (by omega)) (M.o_grd (gOr (by simp)) (M.o_grd (gOr2 (by omega) (by omega)) (M.o_grd (gOr2 (by omega) (by omega)) (M.o_grd (gOr2 (by omega) (by omega)) (M.o_grd (gOr2 (by omega) (by omega)) (M.o_grd (gOr2 (by omega) (by omega)) (M.o_grd (gOr2 (by omega) (by omega)) (M.o_grd (gOr (by simp)) (M.o_grd (gOr2 (by omega) (by omega)) (M.o_grd (gOr2 (by omega) (by omega)) (?_)))))))))))
  have c1:60*ld<=T+60*S-(T+60*dy):=by omega
  have c2:60*(A-2)<=T+60*S-(T+60*dy):=by omega
  have c3:T+60*S-(T+60*dy)<=60*(B-dl):=by omega
  have c4:60*(ld+2)<=T+60*S-flo:=by omega
  rw [decide_eq_true c1,decide_eq_true c2,decide_eq_true c3,decide_eq_true c4]
  exact M.o_bind (P:=fun z=>z=true) (M.o_opt (fun _=>⟨true,awake_ends,rfl⟩) (fun h=>by cases h)) (fun z hz=>by subst hz; exact M.o_pure rfl)
end Go.Proofs.YtdmdhmineljlhabGreat
