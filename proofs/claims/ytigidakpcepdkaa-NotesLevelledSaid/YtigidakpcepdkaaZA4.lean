/- Part 4 of the texts on which the proof rests. Conditions: none. -/
import Derived.KernelRfl
import Derived.Test.YtigidakpcepdkaaZA3
set_option linter.unusedVariables false
set_option linter.unusedSimpArgs false
set_option linter.unusedSectionVars false
-- libL/PN.lean
namespace Go.Nm
namespace M
variable {α β σ ρ:Type}
def Out (m:M α) (Q:α->Prop):Prop:=∃ r,m.Ends r/\Q r
theorem o_of {m:M α} {a:α} {Q:α->Prop} (h:m.Ends a) (q:Q a):m.Out Q:=⟨a,h,q⟩
theorem o_pure {a:α} {Q:α->Prop} (h:Q a):(pure a).Out Q:=⟨a,i_pure,h⟩
theorem o_mono {m:M α} {P Q:α->Prop} (h:m.Out P) (k:∀ a,P a->Q a):m.Out Q:=by
  obtain ⟨a,h1,h2⟩:=h
  exact ⟨a,h1,k a h2⟩
theorem o_bind {m:M α} {k:α->M β} {P:α->Prop} {Q:β->Prop} (h:m.Out P) (h':∀ a,P a->(k a).Out Q):(bind m k).Out Q:=by
  obtain ⟨a,h1,h2⟩:=h
  obtain ⟨b,h3,h4⟩:=h' a h2
  exact ⟨b,i_bind h1 h3,h4⟩
theorem o_bindE {m:M α} {k:α->M β} {a:α} {Q:β->Prop} (h:m.Ends a) (h':(k a).Out Q):(bind m k).Out Q:=o_bind (o_of (Q:=fun x=>x=a) h rfl) (fun _ e=>by subst e; exact h')
theorem o_grd {b:Bool} {k:M α} {Q:α->Prop} (hb:b=true) (h:k.Out Q):(grd b k).Out Q:=by subst hb; exact h
theorem o_grdD {p:Prop} [Decidable p] {k:M α} {Q:α->Prop} (hp:p) (h:k.Out Q):(grd (decide p) k).Out Q:=o_grd (decide_eq_true hp) h
theorem o_if {b:Bool} {x y:M α} {Q:α->Prop} (h:b=true->x.Out Q) (h':b=false->y.Out Q):(bif b then x else y).Out Q:=by
  cases b with
  | true=>exact h rfl
  | false=>exact h' rfl
theorem o_t {b:Bool} {x y:M α} {Q:α->Prop} (hb:b=true) (h:x.Out Q):(bif b then x else y).Out Q:=by subst hb; exact h
theorem o_f {b:Bool} {x y:M α} {Q:α->Prop} (hb:b=false) (h:y.Out Q):(bif b then x else y).Out Q:=by subst hb; exact h
theorem o_opt {b:Bool} {m:M α} {d:α} {Q:α->Prop} (h:b=true->m.Out Q) (h':b=false->Q d):(opt b m d).Out Q:=by
  cases b with
  | true=>exact h rfl
  | false=>exact o_pure (h' rfl)
/-- What a round leaves. -/
def Rd (J:Nat->σ->Prop) (Q:ρ->Prop) (m:Nat):σ ⊕ ρ->Prop
  | .inl s=>∃ m',m'<m/\J m' s
  | .inr r=>Q r
theorem o_iter {body:σ->M (σ ⊕ ρ)} {Q:ρ->Prop} (J:Nat->σ->Prop) (round:∀ m s,J m s->(body s).Out (Rd J Q m)):∀ (m:Nat) (s:σ),J m s->(iter body s).Out Q:=by
  intro m
  induction m using Nat.strongRecOn with
  | _ m ih =>
    intro s hs
    obtain ⟨x,h1,h2⟩:=round m s hs
    cases x with
    | inl s' =>
      obtain ⟨m',hlt,hj⟩:=h2
      obtain ⟨r,h3,h4⟩:=ih m' hlt s' hj
      exact ⟨r,i_next h1 h3,h4⟩
    | inr r=>exact ⟨r,i_stop h1,h2⟩
/-- A loop that counts from 0 to n. -/
theorem o_for {body:σ->M (σ ⊕ ρ)} {Q:ρ->Prop} (n:Nat) (J:Nat->σ->Prop) (round:∀ i s,i<n->J i s->(body s).Out (fun x=>match x with | .inl s'=>J (i+1) s' | .inr r=>Q r))
    (last:∀ s,J n s->(body s).Out (fun x=>match x with | .inl _=>False | .inr r=>Q r)) {s:σ} (h:J 0 s):(iter body s).Out Q:=by
  refine o_iter (fun m s=>∃ i,i<=n/\m=n-i/\J i s) ?_ n s ⟨0,Nat.zero_le _,rfl,h⟩
  rintro m s ⟨i,hi,rfl,hj⟩
  by_cases e:i<n
  · refine o_mono (round i s e hj) ?_
    intro x hx
    cases x with
    | inl s'=>exact ⟨n-(i+1),by omega,i+1,e,rfl,hx⟩
    | inr r=>exact hx
  · obtain rfl:i=n:=by omega
    refine o_mono (last s hj) ?_
    intro x hx
    cases x with
    | inl s'=>exact hx.elim
    | inr r=>exact hx
end M
theorem M.i_f {α:Type} {b:Bool} {x y:M α} {r:α} (hb:b=false) (h:y.Ends r):(bif b then x else y).Ends r:=by subst hb; exact h
theorem M.i_for {σ ρ:Type} {body:σ->M (σ ⊕ ρ)} {r:ρ} (st:Nat->σ) (n:Nat) (step:∀ i,i<n->(body (st i)).Ends (.inl (st (i+1)))) (fin:(body (st n)).Ends (.inr r)):(M.iter body (st 0)).Ends r:=by
  refine M.i_loop (r:=r) (fun m s=>∃ i,i<=n/\m=n-i/\s=st i) ?_ n (st 0) ⟨0,Nat.zero_le _,rfl,rfl⟩
  rintro m s ⟨i,hi,rfl,rfl⟩
  by_cases h:i<n
  · exact .inl ⟨_,n-(i+1),by omega,step i h,i+1,h,rfl,rfl⟩
  · obtain rfl:i=n:=by omega
    exact .inr fin
theorem M.i_t {α:Type} {b:Bool} {x y:M α} {r:α} (hb:b=true) (h:x.Ends r):(bif b then x else y).Ends r:=by subst hb; exact h
theorem take_succ_D {α:Type} (l:List α) (i:Nat) (h:i<l.length) (d:α):l.take i++[l.getD i d]=l.take (i+1):=by
  rw [List.take_succ_eq_append_getElem h]
  simp [List.getD,h]
theorem gset {α:Type} (l:List α) (i j:Nat) (x d:α) (h:i<l.length):(l.set i x).getD j d=if j=i then x else l.getD j d:=by
  simp only [List.getD_eq_getElem?_getD,List.getElem?_set]
  by_cases e:i=j
  · subst e; simp [h]
  · rw [if_neg e,if_neg (fun h=>e h.symm)]
theorem getD_el {α:Type} (l:List α) {k:Nat} (h:k<l.length) (d:α):l.getD k d=l[k]:=by rw [List.getD_eq_getElem?_getD,List.getElem?_eq_getElem h,Option.getD_some]
theorem gOr2 {c:Bool} {p q:Prop} [Decidable p] [Decidable q] (hp:p) (hq:q):(!c||(decide p&&decide q))=true:=by rw [decide_eq_true hp,decide_eq_true hq]; cases c <;> rfl
theorem gA2 {p q:Prop} [Decidable p] [Decidable q] (hp:p) (hq:q):(decide p&&decide q)=true:=by rw [decide_eq_true hp,decide_eq_true hq]; rfl
theorem gA3 {p q r:Prop} [Decidable p] [Decidable q] [Decidable r] (hp:p) (hq:q) (hr:r):(decide p&&decide q&&decide r)=true:=by rw [decide_eq_true hp,decide_eq_true hq,decide_eq_true hr]; rfl
theorem nodup_bound:∀ (n:Nat) (l:List Int),l.Nodup->(∀ x∈l,0<=x/\x<n)->l.length<=n
  | 0,l,_,hb=>by
    cases l with
    | nil=>exact Nat.le_refl _
    | cons x l=>have:=hb x (by simp); omega
  | n + 1, l, hn, hb => by
    by_cases hm:(n:Int)∈l
    · have h1:(l.erase (n:Int)).length=l.length-1:=List.length_erase_of_mem hm
      have h2:=nodup_bound n (l.erase (n:Int)) (hn.erase _) (fun x hx=>by
        have hx':=(List.Nodup.mem_erase_iff hn).1 hx
        have:=hb x hx'.2
        have:=hx'.1
        omega)
      have:=List.length_pos_of_mem hm
      omega
    · have:=nodup_bound n l hn (fun x hx=>by
        have:=hb x hx
        have:x ≠ n:=fun e=>hm (e ▸ hx)
        omega)
      omega
theorem mem_getD {α:Type} {l:List α} {x:α} (h:x∈l) (d:α):∃ i,i<l.length/\l.getD i d=x:=by
  obtain ⟨i,hi,e⟩:=List.getElem_of_mem h
  exact ⟨i,hi,by rw [getD_el l hi d]; exact e⟩
end Go.Nm
-- libL/DC.lean
namespace Go.Nm
/-- A leg leads from a mark to another one, and can rise so much. -/
def Ed (ls:List Line) (a b c:Int):Prop:=∃ l,l∈ls/\((l.src=a/\l.dst=b/\c=l.err+l.rise)∨(l.dst=a/\l.src=b/\c=l.err-l.rise))
/-- Heights agree with all lines. -/
def Feas (ls:List Line) (h:Int->Int):Prop:=∀ l,l∈ls->l.rise-l.err<=h l.dst-h l.src/\h l.dst-h l.src<=l.rise+l.err
inductive Wk (ls:List Line) (a:Int):List Int->Int->Prop
  | one:Wk ls a [a] 0
  | snoc {m b:Int} {vs:List Int} {c e:Int} (w:Wk ls a (m :: vs) c) (he:Ed ls m b e):Wk ls a (b :: m :: vs) (c+e)
variable {ls:List Line} {h:Int->Int} {a b c:Int}
theorem Feas.ed (hF:Feas ls h) (e:Ed ls a b c):h b-h a<=c:=by
  obtain ⟨l,hl,⟨rfl,rfl,rfl⟩ | ⟨rfl,rfl,rfl⟩⟩:=e
  · have:=hF l hl; omega
  · have:=hF l hl; omega
theorem feas_of (hE:∀ a b c,Ed ls a b c->h b-h a<=c):Feas ls h:=fun l hl=>by
  have h1:=hE l.src l.dst _ ⟨l,hl,.inl ⟨rfl,rfl,rfl⟩⟩
  have h2:=hE l.dst l.src _ ⟨l,hl,.inr ⟨rfl,rfl,rfl⟩⟩
  omega
theorem Ed.rev (e:Ed ls a b c):∃ c',Ed ls b a c':=by
  obtain ⟨l,hl,⟨rfl,rfl,rfl⟩ | ⟨rfl,rfl,rfl⟩⟩:=e
  · exact ⟨_,l,hl,.inr ⟨rfl,rfl,rfl⟩⟩
  · exact ⟨_,l,hl,.inl ⟨rfl,rfl,rfl⟩⟩
theorem Wk.feas (hF:Feas ls h) {vs:List Int} (w:Wk ls a vs c):∀ b,vs.head?=some b->h b-h a<=c:=by
  induction w with
  | one=>intro b hb; simp at hb; subst hb; omega
  | snoc _ he ih =>
    intro b hb
    simp at hb
    subst hb
    have h1:=ih _ rfl
    have h2:=hF.ed he
    omega
theorem Wk.le (hF:Feas ls h) {vs:List Int} (w:Wk ls a (b :: vs) c):h b-h a<=c:=w.feas hF b rfl
theorem Wk.ne {c:Int} (w:Wk ls a [] c):False:=by cases w
theorem Wk.last {vs:List Int} (w:Wk ls a vs c):vs.getLast?=some a:=by
  induction w with
  | one=>rfl
  | snoc _ _ ih=>rw [List.getLast?_cons_cons]; exact ih
/-- The end of a walk, put behind another one. -/
theorem Wk.cut:∀ (xs:List Int) {v:Int} {ys:List Int} {c:Int},Wk ls a (xs++v :: ys) c->∃ c1,Wk ls a (v :: ys) c1/\∀ (a':Int) (zs:List Int) (c2:Int),Wk ls a' (v :: zs) c2->Wk ls a' (xs++v :: zs) (c2+(c-c1))
  | [],v,ys,c,w=>⟨c,w,fun a' zs c2 w2=>by rw [show c2+(c-c)=c2 by omega]; exact w2⟩
  | [x],v,ys,c,w=>by
    cases w with
    | snoc w he =>
      refine ⟨_,w,fun a' zs c2 w2=>?_⟩
      rename_i c0 e
      rw [show c2+(c0+e-c0)=c2+e by omega]
      exact .snoc w2 he
  | x :: y :: xs,v,ys,c,w=>by
    cases w with
    | snoc w he =>
      rename_i c0 e
      obtain ⟨c1,h1,h2⟩:=Wk.cut (y :: xs) w
      refine ⟨c1,h1,fun a' zs c2 w2=>?_⟩
      have:=h2 a' zs c2 w2
      rw [show c2+(c0+e-c1)=c2+(c0-c1)+e by omega]
      exact .snoc this he
theorem Wk.app {m:Int} {vs ws:List Int} {c d:Int} (w:Wk ls a (m :: vs) c) (w':Wk ls m (b :: ws) d):∃ us,Wk ls a (b :: us) (c+d):=by
  generalize hl:b :: ws=l at w'
  induction w' generalizing b ws with
  | one=>cases hl; exact ⟨vs,by rw [Int.add_zero]; exact w⟩
  | snoc w2 he ih =>
    cases hl
    obtain ⟨us,hu⟩:=ih rfl
    exact ⟨_,by rw [← Int.add_assoc]; exact .snoc hu he⟩
theorem Wk.edge (e:Ed ls a b c):Wk ls a [b,a] c:=by
  have:=Wk.snoc (.one (ls:=ls) (a:=a)) e
  rwa [Int.zero_add] at this
/-- Who can go can go back. -/
theorem Wk.back {vs:List Int} (w:Wk ls a vs c):∀ b,vs.head?=some b->∃ us d,Wk ls b (a :: us) d:=by
  induction w with
  | one=>intro b hb; simp at hb; subst hb; exact ⟨[],0,.one⟩
  | snoc _ he ih =>
    intro b hb
    simp at hb
    subst hb
    obtain ⟨c',hr⟩:=he.rev
    obtain ⟨us,d,hw⟩:=ih _ rfl
    obtain ⟨vs,hv⟩:=(Wk.edge hr).app hw
    exact ⟨vs,_,hv⟩
theorem not_nodup:∀ (l:List Int),¬ l.Nodup->∃ xs v ys zs,l=xs++v :: (ys++v :: zs)
  | [],h=>absurd List.nodup_nil h
  | x :: l,h=>by
    by_cases hx:x∈l
    · obtain ⟨ys,zs,rfl⟩:=List.append_of_mem hx
      exact ⟨[],x,ys,zs,rfl⟩
    · obtain ⟨xs,v,ys,zs,e⟩:=not_nodup l (fun hn=>h (List.nodup_cons.2 ⟨hx,hn⟩))
      exact ⟨x :: xs,v,ys,zs,by rw [e]; rfl⟩
/-- A walk without a mark twice can rise no more, if some heights agree. -/
theorem Wk.short (hF:Feas ls h):∀ (k:Nat) {vs:List Int} {b c:Int},vs.length<=k->Wk ls a (b :: vs) c->∃ vs' c',Wk ls a (b :: vs') c'/\c'<=c/\(b :: vs').Nodup
  | 0,vs,b,c,hk,w=>by
    have:vs=[]:=List.length_eq_zero_iff.1 (Nat.le_zero.1 hk)
    subst this
    exact ⟨[],c,w,Int.le_refl _,by simp⟩
  | k + 1, vs, b, c, hk, w => by
    by_cases hn:(b :: vs).Nodup
    · exact ⟨vs,c,w,Int.le_refl _,hn⟩
    · obtain ⟨xs,v,ys,zs,e⟩:=not_nodup _ hn
      rw [e] at w
      obtain ⟨c1,w1,t1⟩:=Wk.cut xs w
      obtain ⟨c2,w2,t2⟩:=Wk.cut (v :: ys) (v:=v) (ys:=zs) w1
      have w3:=t2 v [] 0 .one
      have h3:0<=c1-c2:=by have:=Wk.le hF w3; omega
      have w4:=t1 a zs c2 w2
      have hlen:(xs++v :: zs).length<=k+1:=by
        have:=congrArg List.length e
        simp at this hk ⊢
        omega
      cases xs with
      | nil =>
        simp only [List.nil_append] at e w4 hlen
        have hb:b=v:=(List.cons.inj e).1
        subst hb
        obtain ⟨vs',c',g1,g2,g3⟩:=Wk.short hF k (by simpa using hlen) w4
        exact ⟨vs',c',g1,by omega,g3⟩
      | cons x xs =>
        simp only [List.cons_append] at e w4 hlen
        have hb:b=x:=(List.cons.inj e).1
        subst hb
        obtain ⟨vs',c',g1,g2,g3⟩:=Wk.short hF k (by simpa using hlen) w4
        exact ⟨vs',c',g1,by omega,g3⟩
/-- All lines lie between marks. -/
def Rng (n:Int) (ls:List Line):Prop:=∀ l,l∈ls->(0<=l.src/\l.src<n)/\(0<=l.dst/\l.dst<n)
theorem Ed.rng {n:Int} (hR:Rng n ls) (e:Ed ls a b c):(0<=a/\a<n)/\(0<=b/\b<n):=by
  obtain ⟨l,hl,⟨rfl,rfl,rfl⟩ | ⟨rfl,rfl,rfl⟩⟩:=e
  · exact hR l hl
  · exact ⟨(hR l hl).2,(hR l hl).1⟩
theorem Wk.rng {n:Int} (hR:Rng n ls) (ha:0<=a/\a<n) {vs:List Int} (w:Wk ls a vs c):∀ v,v∈vs->0<=v/\v<n:=by
  induction w with
  | one=>intro v hv; simp at hv; subst hv; exact ha
  | snoc _ he ih =>
    intro v hv
    rcases List.mem_cons.1 hv with rfl | hv
    · exact (he.rng hR).2
    · exact ih v hv
/-- A shortest walk has fewer legs than there are marks. -/
theorem Wk.few {n:Nat} (hF:Feas ls h) (hR:Rng n ls) (ha:0<=a/\a<n) {vs:List Int} (w:Wk ls a (b :: vs) c):∃ vs' c',Wk ls a (b :: vs') c'/\c'<=c/\(b :: vs').Nodup/\vs'.length+1<=n:=by
  obtain ⟨vs',c',g1,g2,g3⟩:=Wk.short hF _ (Nat.le_refl _) w
  exact ⟨vs',c',g1,g2,g3,nodup_bound n _ g3 (g1.rng hR ha)⟩
/-- What a walk can rise lies between bounds, as long as a leg's does. -/
theorem Wk.size (hB:∀ a b c,Ed ls a b c->-1010000<=c/\c<=1010000) {vs:List Int} (w:Wk ls a vs c):-(1010000*(vs.length:Int))+1010000<=c/\c<=1010000*(vs.length:Int)-1010000:=by
  induction w with
  | one=>simp
  | @snoc m b vs c e _ he ih =>
    have h1:=hB _ _ _ he
    simp only [List.length_cons,Int.natCast_succ] at ih ⊢
    omega
/-- The greatest difference. -/
structure IsDist (ls:List Line) (a b d:Int):Prop where
  has:∃ vs,Wk ls a (b :: vs) d
  le:∀ vs c,Wk ls a (b :: vs) c->d<=c
def Tied (ls:List Line) (a b:Int):Prop:=∃ vs c,Wk ls a (b :: vs) c
theorem IsDist.tied {d:Int} (h:IsDist ls a b d):Tied ls a b:=let ⟨vs,w⟩:=h.has; ⟨vs,d,w⟩
theorem Tied.symm (t:Tied ls a b):Tied ls b a:=by
  obtain ⟨vs,c,w⟩:=t
  obtain ⟨us,d,h⟩:=w.back b rfl
  exact ⟨us,d,h⟩
theorem Tied.trans {m:Int} (t:Tied ls a m) (u:Tied ls m b):Tied ls a b:=by
  obtain ⟨vs,c,w⟩:=t
  obtain ⟨us,d,w'⟩:=u
  obtain ⟨xs,h⟩:=w.app w'
  exact ⟨xs,_,h⟩
theorem Tied.ed (e:Ed ls a b c):Tied ls a b:=⟨_,_,Wk.edge e⟩
theorem least_nat {p:Nat->Prop} (h:∃ n,p n):∃ n,p n/\∀ k,p k->n<=k:=by
  obtain ⟨n,hn⟩:=h
  induction n using Nat.strongRecOn with
  | _ n ih =>
    by_cases hc:∃ k,k<n/\p k
    · obtain ⟨k,hk,hp⟩:=hc
      exact ih k hk hp
    · exact ⟨n,hn,fun k hk=>by
        rcases Nat.lt_or_ge k n with hlt | hge
        · exact absurd ⟨k,hlt,hk⟩ hc
        · exact hge⟩
theorem IsDist.uniq {d d':Int} (h1:IsDist ls a b d) (h2:IsDist ls a b d'):d=d':=by
  obtain ⟨vs,w⟩:=h1.has
  obtain ⟨us,w'⟩:=h2.has
  have:=h1.le _ _ w'
  have:=h2.le _ _ w
  omega
theorem IsDist.self (hF:Feas ls h):IsDist ls a a 0:=⟨⟨[],.one⟩,fun _ _ w=>by have:=w.le hF; omega⟩
theorem IsDist.step {m d e:Int} (h1:IsDist ls a m d) (he:Ed ls m b e) {d':Int} (h2:IsDist ls a b d'):d'<=d+e:=by
  obtain ⟨vs,w⟩:=h1.has
  exact h2.le _ _ (.snoc w he)
theorem IsDist.feas {d:Int} (hF:Feas ls h) (h1:IsDist ls a b d):h b-h a<=d:=by
  obtain ⟨vs,w⟩:=h1.has
  exact w.le hF
end Go.Nm
-- libL/DC2.lean
namespace Go.Nm
/-- A net as it may be. -/
structure NetOk (n:Int) (ls:List Line):Prop where
  marks:1<=n/\n<=12
  few:ls.length<=30
  rng:Rng n ls
  ne:∀ l,l∈ls->l.src ≠ l.dst
  day:∀ l,l∈ls->0<=l.day/\l.day<=40000
  rise:∀ l,l∈ls->-1000000<=l.rise/\l.rise<=1000000
  err:∀ l,l∈ls->0<=l.err/\l.err<=10000
variable {ls:List Line} {n a b c:Int} {h:Int->Int}
theorem NetOk.ed (hN:NetOk n ls):∀ a b c,Ed ls a b c->-1010000<=c/\c<=1010000:=by
  rintro a b c ⟨l,hl,⟨_,_,rfl⟩ | ⟨_,_,rfl⟩⟩
  · have:=hN.rise l hl; have:=hN.err l hl; omega
  · have:=hN.rise l hl; have:=hN.err l hl; omega
/-- What is known of a row at work. -/
structure BF (ls:List Line) (n a:Int) (D:Int->Int) (k:Int):Prop where
  top:∀ v,0<=v->v<n->D v<=1099511627776
  snd:∀ v,0<=v->v<n->D v<1099511627776->∃ vs,Wk ls a (v :: vs) (D v)
  low:∀ v,0<=v->v<n->-(1010000*k)<=D v
  own:D a<=0
  up:∀ v,0<=v->v<n->D v<1099511627776->D v<=1010000*k
theorem BF.init (ls:List Line) (n a:Int):BF ls n a (fun v=>if v=a then 0 else 1099511627776) 0 where
  top v _ _:=by first | (split <;> omega) | (dsimp only; split <;> omega)
  snd v _ _ hv:=by
    try dsimp only at hv ⊢
    split at hv
    · rename_i e; subst e; rw [if_pos rfl]; exact ⟨[],.one⟩
    · omega
  low v _ _:=by first | (split <;> omega) | (dsimp only; split <;> omega)
  own:=by rw [if_pos rfl]; exact Int.le_refl _
  up v _ _:=by first | (split <;> omega) | (dsimp only; split <;> omega)
theorem BF.congr {D D':Int->Int} {k:Int} (hB:BF ls n a D k) (ha:0<=a/\a<n) (hN:Rng n ls) (e:∀ v,0<=v->v<n->D' v=D v):BF ls n a D' k where
  top v h0 h1:=by rw [e v h0 h1]; exact hB.top v h0 h1
  snd v h0 h1:=by rw [e v h0 h1]; exact hB.snd v h0 h1
  low v h0 h1:=by rw [e v h0 h1]; exact hB.low v h0 h1
  own:=by rw [e a ha.1 ha.2]; exact hB.own
  up v h0 h1:=by rw [e v h0 h1]; exact hB.up v h0 h1
theorem BF.mono {D:Int->Int} {k k':Int} (hB:BF ls n a D k) (hk:k<=k'):BF ls n a D k':=⟨hB.top,hB.snd,fun v h0 h1=>by have:=hB.low v h0 h1; omega,hB.own,fun v h0 h1 h2=>by have:=hB.up v h0 h1 h2; omega⟩
theorem BF.relax {D:Int->Int} {k m g e:Int} (hB:BF ls n a D k) (hk:0<=k) (he:Ed ls m g e) (hb:-1010000<=e/\e<=1010000) (hm:0<=m/\m<n) (hg:0<=g/\g<n) (h1:D m<1099511627776) (h2:D m+e<D g):BF ls n a (fun v=>if v=g then D m+e else D v) (k+1) where
  top v h0 h3:=by
    try dsimp only
    split
    · have:=hB.top g hg.1 hg.2; omega
    · exact hB.top v h0 h3
  snd v h0 h3 hv:=by
    try dsimp only at hv ⊢
    split at hv
    · rename_i e; subst e
      rw [if_pos rfl]
      obtain ⟨vs,w⟩:=hB.snd m hm.1 hm.2 h1
      exact ⟨_,.snoc w he⟩
    · rename_i e; rw [if_neg e]; exact hB.snd v h0 h3 hv
  low v h0 h3:=by
    try dsimp only
    split
    · have:=hB.low m hm.1 hm.2; omega
    · have:=hB.low v h0 h3; omega
  own:=by
    try dsimp only
    split
    · rename_i e; subst e; have:=hB.own; omega
    · exact hB.own
  up v h0 h3 hv:=by
    try dsimp only at hv ⊢
    split at hv
    · rename_i e; rw [if_pos e]; have:=hB.up m hm.1 hm.2 h1; omega
    · rename_i e; rw [if_neg e]; have:=hB.up v h0 h3 hv; omega
/-- Walks of so many legs are told. -/
def Cov (ls:List Line) (a:Int) (D:Int->Int) (r:Nat):Prop:=∀ vs b c,Wk ls a (b :: vs) c->vs.length<=r->D b<=c
theorem Cov.zero {D:Int->Int} (h:D a<=0):Cov ls a D 0:=by
  intro vs b c w hl
  have:vs=[]:=List.length_eq_zero_iff.1 (Nat.le_zero.1 hl)
  subst this
  cases w
  exact h
theorem Cov.next {D D':Int->Int} {r:Nat} (hN:NetOk n ls) (hr:r<=1000) (hC:Cov ls a D r) (ha:0<=a/\a<n) (hle:∀ v,0<=v->v<n->D' v<=D v) (hE:∀ m g e,Ed ls m g e->D m<1099511627776->D' g<=D m+e):Cov ls a D' (r+1):=by
  intro vs b c w hl
  cases w with
  | one=>exact Int.le_trans (hle _ ha.1 ha.2) (hC [] _ _ .one (Nat.zero_le _))
  | snoc w he =>
    rename_i m ws c0 e
    have h1:=hC _ _ _ w (by simpa using hl)
    have h2:=w.size hN.ed
    simp only [List.length_cons] at h2 hl
    have h3:D m<1099511627776:=by omega
    have:=hE _ _ _ he h3
    omega
/-- At the end. -/
structure Done (ls:List Line) (n a:Int) (D:Int->Int):Prop where
  far:∀ v,0<=v->v<n->D v ≠ 1099511627776->D v<1099511627776
  dist:∀ v,0<=v->v<n->D v<1099511627776->IsDist ls a v (D v)
  tied:∀ v,0<=v->v<n->Tied ls a v->D v<1099511627776
theorem BF.done {D:Int->Int} {k:Int} {r N:Nat} (hN:NetOk n ls) (hF:Feas ls h) (e:(N:Int)=n) (ha:0<=a/\a<n) (hB:BF ls n a D k) (hC:Cov ls a D r) (hr:N<=r+1):Done ls n a D:=by
  have hle:∀ vs b c,Wk ls a (b :: vs) c->D b<=c/\D b<1099511627776:=by
    intro vs b c w
    obtain ⟨vs',c',w',h1,h2,h3⟩:=w.few (n:=N) hF (by rw [e]; exact hN.rng) (by rw [e]; exact ha)
    have h4:=hC _ _ _ w' (by omega)
    have h5:=w'.size hN.ed
    simp only [List.length_cons] at h5
    have:=hN.marks
    exact ⟨by omega,by omega⟩
  refine ⟨fun v h0 h1 h2=>?_,fun v h0 h1 h2=>⟨hB.snd v h0 h1 h2,fun vs c w=>(hle vs v c w).1⟩,fun v h0 h1 ⟨vs,c,w⟩=>(hle vs v c w).2⟩
  have:=hB.top v h0 h1
  omega
/-- Rows that no leg makes less. -/
structure Tight (ls:List Line) (n:Int) (T:Int->Int->Int):Prop where
  leg:∀ a m g e,0<=a->a<n->Ed ls m g e->T a m<1099511627776->T a g<=T a m+e
  zero:∀ a,0<=a->a<n->T a a=0
theorem Tight.feas {T:Int->Int->Int} (hN:NetOk n ls) (hS:Tight ls n T) (ht:∀ a v,0<=a->a<n->0<=v->v<n->T a v<=1099511627776) (f:Int->Int)
    (hf:∀ v,0<=v->v<n->(0<=f v/\f v<n)/\T (f v) v<1099511627776/\∀ u,0<=u->u<f v->¬ T u v<1099511627776) (hb:∀ a m g e,0<=a->a<n->Ed ls m g e->T a m<1099511627776->T a m+e<1099511627776):Feas ls (fun v=>T (f v) v):=by
  refine feas_of fun m g e he=>?_
  have hr:=he.rng hN.rng
  have hm:=hf m hr.1.1 hr.1.2
  have hg:=hf g hr.2.1 hr.2.2
  have step:∀ u v,Ed ls u v e∨(∃ e',Ed ls u v e')->True:=fun _ _ _=>trivial
  have same:f m=f g:=by
    have key:∀ u v e',Ed ls u v e'->f v<=f u:=by
      intro u v e' h'
      have hr':=h'.rng hN.rng
      have h1:=hf u hr'.1.1 hr'.1.2
      have h2:=hf v hr'.2.1 hr'.2.2
      have h3:=hS.leg _ _ _ _ h1.1.1 h1.1.2 h' h1.2.1
      have h4:=hb _ _ _ _ h1.1.1 h1.1.2 h' h1.2.1
      rcases Int.lt_or_le (f u) (f v) with hlt | hge
      · exact absurd (by omega) (h2.2.2 (f u) h1.1.1 hlt)
      · exact hge
    obtain ⟨e',hr'⟩:=he.rev
    have:=key _ _ _ he
    have:=key _ _ _ hr'
    omega
  try dsimp only
  have h3:=hS.leg (f m) m g e hm.1.1 hm.1.2 he hm.2.1
  rw [← same]
  omega
/-! ### Legs, and the last legs of shortest walks -/
def LegOk (ls:List Line) (g:Leg):Prop:=0<=g.line/\g.line<(ls.length:Int)
def lnOf (ls:List Line) (g:Leg):Line:=ls.getD (Int.toNat g.line) default
def sOf (ls:List Line) (g:Leg):Int:=legEnd g.back (lnOf ls g)
def gOf (ls:List Line) (g:Leg):Int:=legEnd (!g.back) (lnOf ls g)
def rOf (ls:List Line) (g:Leg):Int:=bif g.back then (lnOf ls g).err-(lnOf ls g).rise else (lnOf ls g).err+(lnOf ls g).rise
theorem LegOk.mem {g:Leg} (h:LegOk ls g):lnOf ls g∈ls:=by
  unfold lnOf
  have hl:Int.toNat g.line<ls.length:=by have:=h.1; have:=h.2; omega
  rw [getD_el ls hl]
  exact List.getElem_mem hl
theorem LegOk.ed {g:Leg} (h:LegOk ls g):Ed ls (sOf ls g) (gOf ls g) (rOf ls g):=by
  refine ⟨lnOf ls g,h.mem,?_⟩
  unfold sOf gOf rOf legEnd
  cases g.back with
  | true=>exact .inr ⟨rfl,rfl,rfl⟩
  | false=>exact .inl ⟨rfl,rfl,rfl⟩
theorem leg_of (he:Ed ls a b c):∃ (i:Nat) (k:Bool),i<ls.length/\sOf ls ⟨i,k⟩=a/\gOf ls ⟨i,k⟩=b/\rOf ls ⟨i,k⟩=c:=by
  obtain ⟨l,hl,h⟩:=he
  obtain ⟨i,hi,rfl⟩:=mem_getD hl default
  rcases h with ⟨rfl,rfl,rfl⟩ | ⟨rfl,rfl,rfl⟩
  · exact ⟨i,false,hi,rfl,rfl,rfl⟩
  · exact ⟨i,true,hi,rfl,rfl,rfl⟩
/-- The last legs lead back to the first mark. -/
inductive Ch (ls:List Line) (a:Int) (by_:Int->Leg):Int->Prop
  | root:Ch ls a by_ a
  | up {v:Int} (hv:v ≠ a) (h:Ch ls a by_ (sOf ls (by_ v))):Ch ls a by_ v
structure ByOk (ls:List Line) (n a:Int) (D:Int->Int) (by_:Int->Leg):Prop where
  leg:∀ v,0<=v->v<n->v ≠ a->D v<1099511627776->LegOk ls (by_ v)/\gOf ls (by_ v)=v/\D (sOf ls (by_ v))+rOf ls (by_ v)<=D v/\D (sOf ls (by_ v))<1099511627776
  chn:∀ h,Feas ls h->∀ v,0<=v->v<n->D v<1099511627776->Ch ls a by_ v
theorem ByOk.init (ls:List Line) (n a:Int) (by_:Int->Leg):ByOk ls n a (fun v=>if v=a then 0 else 1099511627776) by_ where
  leg v _ _ hv h:=by rw [if_neg hv] at h; omega
  chn h _ v _ _ hd:=by
    by_cases e:v=a
    · subst e; exact .root
    · rw [if_neg e] at hd; omega
theorem Ch.congr {by_ by':Int->Leg} (e:∀ v,0<=v->v<n->by' v=by_ v) (hR:∀ v,0<=v->v<n->v ≠ a->Ch ls a by_ v->0<=sOf ls (by_ v)/\sOf ls (by_ v)<n) {v:Int} (h0:0<=v/\v<n) (h:Ch ls a by_ v):Ch ls a by' v:=by
  induction h with
  | root=>exact .root
  | @up v hv hc ih=>exact .up hv (by rw [e v h0.1 h0.2]; exact ih (hR v h0.1 h0.2 hv (.up hv hc)))
theorem ByOk.congr {D D':Int->Int} {by_ by':Int->Leg} (hN:NetOk n ls) (hB:ByOk ls n a D by_) (e:∀ v,0<=v->v<n->D' v=D v) (e':∀ v,0<=v->v<n->by' v=by_ v):ByOk ls n a D' by' where
  leg v h0 h1 hv hd:=by
    rw [e v h0 h1] at hd ⊢
    rw [e' v h0 h1]
    obtain ⟨h2,h3,h4,h5⟩:=hB.leg v h0 h1 hv hd
    have hr:=(h2.ed.rng hN.rng).1
    rw [e _ hr.1 hr.2]
    exact ⟨h2,h3,h4,h5⟩
  chn h hF v h0 h1 hd:=by
    rw [e v h0 h1] at hd
    have hc:=hB.chn h hF v h0 h1 hd
    have key:∀ v,Ch ls a by_ v->0<=v->v<n->D v<1099511627776->Ch ls a by' v:=by
      intro v hc
      induction hc with
      | root=>exact fun _ _ _=>.root
      | @up v hv hc ih =>
        intro h0 h1 hd
        obtain ⟨h2,h3,h4,h5⟩:=hB.leg v h0 h1 hv hd
        have hr:=(h2.ed.rng hN.rng).1
        exact .up hv (by rw [e' v h0 h1]; exact ih hr.1 hr.2 h5)
    exact key v hc h0 h1 hd
theorem ByOk.relax {D:Int->Int} {by_:Int->Leg} {k:Int} {x:Leg} (hN:NetOk n ls) (hB:ByOk ls n a D by_) (hD:BF ls n a D k) (hx:LegOk ls x) (h1:D (sOf ls x)<1099511627776) (h2:D (sOf ls x)+rOf ls x<D (gOf ls x)) :
    ByOk ls n a (fun v=>if v=gOf ls x then D (sOf ls x)+rOf ls x else D v) (fun v=>if v=gOf ls x then x else by_ v):=by
  have he:=hx.ed
  have hr:=he.rng hN.rng
  have hne:sOf ls x ≠ gOf ls x:=by
    unfold sOf gOf legEnd
    have:=hN.ne _ hx.mem
    cases x.back with
    | true=>exact fun e=>this e.symm
    | false=>exact this
  have hle:∀ v,(if v=gOf ls x then D (sOf ls x)+rOf ls x else D v)<=D v:=fun v=>by
    split
    · rename_i e; rw [e]; omega
    · exact Int.le_refl _
  refine ⟨fun v h0 h3 hv hd=>?_,fun h hF v h0 h3 hd=>?_⟩
  · by_cases e:v=gOf ls x
    · subst e
      simp only [if_true] at hd ⊢
      rw [if_neg hne]
      exact ⟨hx,trivial,Int.le_refl _,h1⟩
    · simp only [if_neg e] at hd ⊢
      obtain ⟨g1,g2,g3,g4⟩:=hB.leg v h0 h3 hv hd
      have:=hle (sOf ls (by_ v))
      exact ⟨g1,g2,by omega,by omega⟩
  · -- the last legs lead to the first mark without the one that is turned
    have hga:gOf ls x ≠ a:=by
      intro e
      obtain ⟨vs,w⟩:=hD.snd _ hr.1.1 hr.1.2 h1
      have q1:=(Wk.snoc w he).le hF
      have q2:=hD.own
      rw [e] at q1 h2
      omega
    have key:∀ u,Ch ls a by_ u->0<=u->u<n->D u<1099511627776->∀ vs c,Wk ls u (sOf ls x :: vs) c->D u+c<=D (sOf ls x)->Ch ls a (fun v=>if v=gOf ls x then x else by_ v) u:=by
      intro u hc
      induction hc with
      | root=>exact fun _ _ _ _ _ _ _=>.root
      | @up u hu hc ih =>
        intro h0 h3 hd vs c w hle
        obtain ⟨g1,g2,g3,g4⟩:=hB.leg u h0 h3 hu hd
        have hr':=(g1.ed.rng hN.rng).1
        have hug:u ≠ gOf ls x:=by
          intro e
          have q1:=(Wk.snoc w he).le hF
          rw [e] at q1 hle
          omega
        refine .up hu ?_
        rw [if_neg hug]
        have e1:=g1.ed
        rw [g2] at e1
        obtain ⟨us,hw⟩:=(Wk.edge e1).app w
        exact ih hr'.1 hr'.2 g4 us _ hw (by omega)
    have hm:Ch ls a (fun v=>if v=gOf ls x then x else by_ v) (sOf ls x):=key _ (hB.chn h hF _ hr.1.1 hr.1.2 h1) hr.1.1 hr.1.2 h1 [] 0 .one (by omega)
    have hg:Ch ls a (fun v=>if v=gOf ls x then x else by_ v) (gOf ls x):=.up hga (by rw [if_pos rfl]; exact hm)
    have all:∀ u,Ch ls a by_ u->Ch ls a (fun v=>if v=gOf ls x then x else by_ v) u:=by
      intro u hc
      induction hc with
      | root=>exact .root
      | @up u hu hc ih =>
        by_cases e:u=gOf ls x
        · rw [e]; exact hg
        · exact .up hu (by rw [if_neg e]; exact ih)
    by_cases e:v=gOf ls x
    · rw [e]; exact hg
    · simp only [if_neg e] at hd
      exact all v (hB.chn h hF v h0 h3 hd)
end Go.Nm
-- libL/DC3.lean
namespace Go.Nm
def rw_ (can:List Int) (a v:Int):Int:=can.getD (Int.toNat a*13+Int.toNat v) 0
def rb_ (by_:List Leg) (a v:Int):Leg:=by_.getD (Int.toNat a*13+Int.toNat v) default
variable {ls:List Line} {n a:Int}
structure FI (ls:List Line) (n a:Int) (can0:List Int) (by0:List Leg) (k:Int) (can:List Int) (by_:List Leg):Prop where
  lc:can.length=169
  lb:by_.length=169
  oth:∀ i,(i<Int.toNat a*13∨Int.toNat a*13+13<=i)->can.getD i 0=can0.getD i 0/\by_.getD i default=by0.getD i default
  bf:BF ls n a (rw_ can a) k
  bo:ByOk ls n a (rw_ can a) (rb_ by_ a)
theorem FI.mono {can0 can:List Int} {by0 by_:List Leg} {k k':Int} (h:FI ls n a can0 by0 k can by_) (hk:k<=k'):FI ls n a can0 by0 k' can by_:=⟨h.lc,h.lb,h.oth,h.bf.mono hk,h.bo⟩
theorem rw_set {can:List Int} (hl:can.length=169) {a g:Int} (ha:0<=a/\a<12) (hg:0<=g/\g<13) (x:Int) (v:Int) (h0:0<=v) (h1:v<13):rw_ (can.set (Int.toNat a*13+Int.toNat g) x) a v=if v=g then x else rw_ can a v:=by
  unfold rw_
  rw [gset _ _ _ _ _ (by omega)]
  by_cases e:v=g
  · rw [if_pos e,if_pos (by rw [e])]
  · rw [if_neg e,if_neg (by omega)]
theorem rb_set {by_:List Leg} (hl:by_.length=169) {a g:Int} (ha:0<=a/\a<12) (hg:0<=g/\g<13) (x:Leg) (v:Int) (h0:0<=v) (h1:v<13):rb_ (by_.set (Int.toNat a*13+Int.toNat g) x) a v=if v=g then x else rb_ by_ a v:=by
  unfold rb_
  rw [gset _ _ _ _ _ (by omega)]
  by_cases e:v=g
  · rw [if_pos e,if_pos (by rw [e])]
  · rw [if_neg e,if_neg (by omega)]
theorem FI.relax {can0 can:List Int} {by0 by_:List Leg} {k:Int} {x:Leg} (hN:NetOk n ls) (ha:0<=a/\a<n) (h:FI ls n a can0 by0 k can by_) (hk:0<=k) (hx:LegOk ls x) (h1:rw_ can a (sOf ls x)<1099511627776) (h2:rw_ can a (sOf ls x)+rOf ls x<rw_ can a (gOf ls x)) :
    FI ls n a can0 by0 (k+1) (can.set (Int.toNat a*13+Int.toNat (gOf ls x)) (rw_ can a (sOf ls x)+rOf ls x)) (by_.set (Int.toNat a*13+Int.toNat (gOf ls x)) x):=by
  have hm:=hN.marks
  have hr:=hx.ed.rng hN.rng
  have e1:∀ v,0<=v->v<n->rw_ (can.set (Int.toNat a*13+Int.toNat (gOf ls x)) (rw_ can a (sOf ls x)+rOf ls x)) a v=if v=gOf ls x then rw_ can a (sOf ls x)+rOf ls x else rw_ can a v:=fun v h0 h3=>rw_set h.lc (by omega) (by omega) _ v h0 (by omega)
  have e2:∀ v,0<=v->v<n->rb_ (by_.set (Int.toNat a*13+Int.toNat (gOf ls x)) x) a v=if v=gOf ls x then x else rb_ by_ a v:=fun v h0 h3=>rb_set h.lb (by omega) (by omega) _ v h0 (by omega)
  refine ⟨by rw [List.length_set]; exact h.lc,by rw [List.length_set]; exact h.lb,fun i hi=>?_,?_,?_⟩
  · rw [gset _ _ _ _ _ (by rw [h.lc]; omega),gset _ _ _ _ _ (by rw [h.lb]; omega),if_neg (by omega),if_neg (by omega)]
    exact h.oth i hi
  · exact (h.bf.relax hk hx.ed (hN.ed _ _ _ hx.ed) hr.1 hr.2 h1 h2).congr ha hN.rng e1
  · exact (h.bo.relax hN h.bf hx h1 h2).congr hN e1 e2
/-- These legs make nothing less than they did when the round began. -/
def Rlx (ls:List Line) (D0 D:Int->Int) (pr:Nat->Bool->Prop):Prop:=∀ (i:Nat) (k:Bool),i<ls.length->pr i k->D0 (sOf ls ⟨i,k⟩)<1099511627776->D (gOf ls ⟨i,k⟩)<=D0 (sOf ls ⟨i,k⟩)+rOf ls ⟨i,k⟩
theorem Rlx.le {D0 D D':Int->Int} {pr pr':Nat->Bool->Prop} (hR:Rng n ls) (h:Rlx ls D0 D pr) (hle:∀ v,0<=v->v<n->D' v<=D v) (hp:∀ i k,i<ls.length->pr' i k->pr i k):Rlx ls D0 D' pr':=fun i k hi hpr hd=>by
  have hx:LegOk ls ⟨i,k⟩:=⟨by show (0:Int)<=(i:Int); omega,by show (i:Int)<_; omega⟩
  have hr:=(hx.ed.rng hR).2
  have:=h i k hi (hp i k hi hpr) hd
  have:=hle _ hr.1 hr.2
  omega
theorem Rlx.all {D0 D:Int->Int} (h:Rlx ls D0 D (fun _ _=>True)):∀ m g e,Ed ls m g e->D0 m<1099511627776->D g<=D0 m+e:=by
  intro m g e he hd
  obtain ⟨i,k,hi,rfl,rfl,rfl⟩:=leg_of he
  exact h i k hi trivial hd
end Go.Nm
-- libL/DC4.lean
namespace Go.Nm
variable {ls:List Line} {n a:Int}
theorem Cov.congr {D D':Int->Int} {r:Nat} (hR:Rng n ls) (ha:0<=a/\a<n) (h:Cov ls a D r) (e:∀ v,0<=v->v<n->D' v=D v):Cov ls a D' r:=fun vs b c w hl=>by
  have:=w.rng hR ha b (by simp)
  rw [e b this.1 this.2]
  exact h vs b c w hl
def Agr (ls:List Line):Prop:=∃ h,Feas ls h
structure Row (ls:List Line) (n a:Int) (D:Int->Int) (by_:Int->Leg):Prop where
  bf:BF ls n a D 8640
  cov:Cov ls a D (Int.toNat n)
  bo:ByOk ls n a D by_
theorem Row.congr {D D':Int->Int} {b b':Int->Leg} (hN:NetOk n ls) (ha:0<=a/\a<n) (h:Row ls n a D b) (e:∀ v,0<=v->v<n->D' v=D v) (e':∀ v,0<=v->v<n->b' v=b v):Row ls n a D' b' :=
  ⟨h.bf.congr ha hN.rng e,h.cov.congr hN.rng ha e,h.bo.congr hN e e'⟩
structure Wkd (ls:List Line) (n:Int) (can:List Int) (by_:List Leg):Prop where
  lc:can.length=169
  lb:by_.length=169
  row:∀ a,0<=a->a<n->Row ls n a (rw_ can a) (rb_ by_ a)
theorem Wkd.done {can:List Int} {by_:List Leg} (hN:NetOk n ls) (hW:Wkd ls n can by_) (hA:Agr ls) (ha:0<=a/\a<n):Done ls n a (rw_ can a):=by
  obtain ⟨h,hF⟩:=hA
  have hr:=hW.row a ha.1 ha.2
  have hm:=hN.marks
  exact hr.bf.done (N:=Int.toNat n) hN hF (by omega) ha hr.cov (by omega)
def Rx (ls:List Line) (can:List Int) (a:Int) (x:Leg):Prop:=rw_ can a (sOf ls x)<1099511627776/\rw_ can a (sOf ls x)+rOf ls x<rw_ can a (gOf ls x)
theorem Wkd.agr_no {can:List Int} {by_:List Leg} (hN:NetOk n ls) (hW:Wkd ls n can by_) (hA:Agr ls) (ha:0<=a/\a<n) {x:Leg} (hx:LegOk ls x):¬ Rx ls can a x:=by
  rintro ⟨h1,h2⟩
  have hD:=hW.done hN hA ha
  have hr:=hx.ed.rng hN.rng
  have d1:=hD.dist _ hr.1.1 hr.1.2 h1
  have ht:Tied ls a (gOf ls x):=d1.tied.trans (.ed hx.ed)
  have d2:=hD.dist _ hr.2.1 hr.2.2 (hD.tied _ hr.2.1 hr.2.2 ht)
  have:=d1.step hx.ed d2
  omega
theorem Wkd.agr_zero {can:List Int} {by_:List Leg} (hN:NetOk n ls) (hW:Wkd ls n can by_) (hA:Agr ls) (ha:0<=a/\a<n):rw_ can a a=0:=by
  have hD:=hW.done hN hA ha
  have h1:=(hW.row a ha.1 ha.2).bf.own
  obtain ⟨h,hF⟩:=hA
  exact (hD.dist a ha.1 ha.2 (by omega)).uniq (.self hF)
theorem Wkd.agr_of {can:List Int} {by_:List Leg} (hN:NetOk n ls) (hW:Wkd ls n can by_) (h1:∀ a,0<=a->a<n->∀ x,LegOk ls x->¬ Rx ls can a x) (h2:∀ a,0<=a->a<n->¬ rw_ can a a<0) :
    ∃ f:Int->Int,(∀ v,0<=v->v<n->(0<=f v/\f v<n)/\rw_ can (f v) v<1099511627776/\∀ u,0<=u->u<f v->¬ rw_ can u v<1099511627776)/\Feas ls (fun v=>rw_ can (f v) v):=by
  have hS:Tight ls n (rw_ can):=by
    refine ⟨fun a m g e h0 h3 he hd=>?_,fun a h0 h3=>?_⟩
    · obtain ⟨i,k,hi,rfl,rfl,rfl⟩:=leg_of he
      have:=h1 a h0 h3 ⟨i,k⟩ ⟨by show (0:Int)<=(i:Int); omega,by show (i:Int)<_; omega⟩
      unfold Rx at this
      omega
    · have:=h2 a h0 h3
      have:=(hW.row a h0 h3).bf.own
      omega
  have hex:∀ v,0<=v->v<n->∃ u:Nat,((u:Int)<n/\rw_ can u v<1099511627776)/\∀ k:Nat,((k:Int)<n/\rw_ can k v<1099511627776)->u<=k:=by
    intro v h0 h3
    refine least_nat ⟨v.toNat,by omega,?_⟩
    rw [Int.toNat_of_nonneg h0,hS.zero v h0 h3]
    omega
  refine ⟨fun v=>if h:0<=v/\v<n then (((hex v h.1 h.2).choose:Nat):Int) else 0,?_,?_⟩
  · intro v h0 h3
    dsimp only
    rw [dif_pos ⟨h0,h3⟩]
    obtain ⟨⟨g1,g2⟩,g3⟩:=(hex v h0 h3).choose_spec
    refine ⟨⟨by omega,g1⟩,g2,fun u hu0 hu1 hu=>?_⟩
    have:=g3 u.toNat (by rw [Int.toNat_of_nonneg hu0]; exact ⟨by omega,hu⟩)
    omega
  · refine hS.feas hN (fun a v h0 h3 h4 h5=>(hW.row a h0 h3).bf.top v h4 h5) _ ?_ (fun a m g e h0 h3 he hd=>?_)
    · intro v h0 h3
      try dsimp only
      rw [dif_pos ⟨h0,h3⟩]
      obtain ⟨⟨g1,g2⟩,g3⟩:=(hex v h0 h3).choose_spec
      refine ⟨⟨by omega,g1⟩,g2,fun u hu0 hu1 hu=>?_⟩
      have:=g3 u.toNat (by rw [Int.toNat_of_nonneg hu0]; exact ⟨by omega,hu⟩)
      omega
    · have hr:=he.rng hN.rng
      have:=(hW.row a h0 h3).bf.up m hr.1.1 hr.1.2 hd
      have:=hN.ed _ _ _ he
      omega
end Go.Nm
-- libL/DF.lean
namespace Go.Nm
/-- A place of a table. -/
def tb (l:List (List Int)) (a b:Nat):Int:=(l.getD a []).getD b 0
structure Sq (N:Nat) (l:List (List Int)):Prop where
  len:l.length=N
  rows:∀ a,a<N->(l.getD a []).length=N
theorem Sq.set {N a b:Nat} {l:List (List Int)} (h:Sq N l) (ha:a<N) (x:Int):Sq N (l.set a ((l.getD a []).set b x)):=by
  refine ⟨by rw [List.length_set]; exact h.len,fun i hi=>?_⟩
  rw [gset _ _ _ _ _ (by rw [h.len]; exact ha)]
  by_cases e:i=a
  · rw [if_pos e,List.length_set]; exact h.rows a ha
  · rw [if_neg e]; exact h.rows i hi
/-- One step. -/
def up (k a b:Nat) (l:List (List Int)):List (List Int) :=
  if tb l a k<1000000000000/\tb l k b<1000000000000 then l.set a ((l.getD a []).set b (max (-1000000000000) (min (tb l a b) (tb l a k+tb l k b)))) else l
def bd:Nat->Int
  | 0=>1010000
  | k+1=>2*bd k
theorem bd_pos:∀ k,0<bd k
  | 0=>by decide
  | k+1=>by have:=bd_pos k; unfold bd; omega
theorem bd_le:∀ k,k<=12->bd k<=5000000000:=by decide
/-- A table in which the first k marks were gone through. -/
structure RT (N k:Nat) (T0 T:Nat->Nat->Int):Prop where
  lo:∀ a b,a<N->b<N->-bd k<=T a b
  hi:∀ a b,a<N->b<N->T a b=1000000000000∨T a b<=bd k
  cl:∀ a b j,a<N->b<N->j<N->j<k->T a j<1000000000000->T j b<1000000000000->T a b<=T a j+T j b
  le:∀ a b,a<N->b<N->T a b<=T0 a b
def FT (k:Nat) (T:Nat->Nat->Int) (a b:Nat):Int:=if T a k<1000000000000/\T k b<1000000000000 then min (T a b) (T a k+T k b) else T a b
theorem FT_row {k b:Nat} {T:Nat->Nat->Int} (h:0<=T k k):FT k T k b=T k b:=by
  unfold FT
  split <;> omega
theorem FT_col {k a:Nat} {T:Nat->Nat->Int} (h:0<=T k k):FT k T a k=T a k:=by
  unfold FT
  split <;> omega
theorem FT_le (k:Nat) (T:Nat->Nat->Int) (a b:Nat):FT k T a b<=T a b:=by
  unfold FT
  split <;> omega
theorem RT.next {N k:Nat} {T0 T:Nat->Nat->Int} (h:RT N k T0 T) (hk:k<N) (hN:N<=12) (hp:0<=T k k):RT N (k+1) T0 (FT k T):=by
  have hb:=bd_le (k+1) (by omega)
  have hb0:=bd_pos k
  have e2:bd (k+1)=2*bd k:=rfl
  refine ⟨fun a b ha hb=>?_,fun a b ha hb=>?_,fun a b j ha hb hj hjk h1 h2=>?_,fun a b ha hb=>Int.le_trans (FT_le k T a b) (h.le a b ha hb)⟩
  · have l1:=h.lo a b ha hb
    have l2:=h.lo a k ha hk
    have l3:=h.lo k b hk hb
    unfold FT
    split <;> omega
  · have l1:=h.hi a b ha hb
    have l2:=h.hi a k ha hk
    have l3:=h.hi k b hk hb
    unfold FT
    split <;> omega
  · have kj:=h.lo k j hk hj
    have jk:=h.lo j k hj hk
    have ak:=h.lo a k ha hk
    have kb:=h.lo k b hk hb
    have hkj:=h.hi k j hk hj
    have hjk':=h.hi j k hj hk
    have hak:=h.hi a k ha hk
    have hkb:=h.hi k b hk hb
    have haj:=h.hi a j ha hj
    have hjb:=h.hi j b hj hb
    have hab:=h.hi a b ha hb
    by_cases e:j=k
    · subst e
      rw [FT_col hp] at h1 ⊢
      rw [FT_row hp] at h2 ⊢
      unfold FT
      rw [if_pos ⟨h1,h2⟩]
      omega
    · have hjk2:j<k:=by omega
      have c1:=h.cl a b j ha hb hj hjk2
      have c2:=h.cl k b j hk hb hj hjk2
      have c3:=h.cl a k j ha hk hj hjk2
      have c4:=h.cl k k j hk hk hj hjk2
      unfold FT at h1 h2 ⊢
      split at h1 <;> split at h2 <;> split <;> (try split) <;> (try split) <;> omega
/-- A table through which all marks were gone, without a mark that is lower than itself, gives heights. -/
theorem RT.feas {N:Nat} {ls:List Line} {T0 T:Nat->Nat->Int} (h:RT N N T0 T) (hN:1<=N) (hR:Rng N ls) (h0:∀ a b c,Ed ls (a:Nat) (b:Nat) c->T0 a b<=c) (hc:∀ a b c,Ed ls a b c->c<=1010000) (hd:∀ a,a<N->T a a<=0):Agr ls:=by
  have col:∀ v:Nat,∀ m:Nat,m<=N->1<=m->∃ a,a<m/\∀ x,x<m->T a v<=T x v:=by
    intro v m
    induction m with
    | zero=>intro _ h; omega
    | succ m ih =>
      intro hm _
      by_cases e:m=0
      · subst e; exact ⟨0,by omega,fun x hx=>by rw [show x=0 by omega]; exact Int.le_refl _⟩
      · obtain ⟨a,ha,hx⟩:=ih (by omega) (by omega)
        by_cases c:T m v<T a v
        · refine ⟨m,by omega,fun x hx'=>?_⟩
          by_cases e2:x=m
          · rw [e2]; exact Int.le_refl _
          · have:=hx x (by omega); omega
        · refine ⟨a,by omega,fun x hx'=>?_⟩
          by_cases e2:x=m
          · rw [e2]; omega
          · exact hx x (by omega)
  have pick:∀ v:Nat,∃ a,a<N/\∀ x,x<N->T a v<=T x v:=fun v=>col v N (Nat.le_refl _) hN
  refine ⟨fun v=>T (pick v.toNat).choose v.toNat,feas_of fun m g c he=>?_⟩
  have hr:=he.rng hR
  obtain ⟨m,rfl⟩:∃ k:Nat,m=k:=⟨m.toNat,by omega⟩
  obtain ⟨g,rfl⟩:∃ k:Nat,g=k:=⟨g.toNat,by omega⟩
  simp only [Int.toNat_natCast]
  obtain ⟨p1,p2⟩:=(pick m).choose_spec
  obtain ⟨q1,q2⟩:=(pick g).choose_spec
  generalize (pick m).choose=p at *
  generalize (pick g).choose=q at *
  have hm:m<N:=by omega
  have hg:g<N:=by omega
  have e1:=p2 m hm
  have e2:=hd m hm
  have e3:=q2 p p1
  have e4:=h.le m g hm hg
  have e5:=h0 m g c he
  have e6:=hc _ _ _ he
  have:=h.cl p g m p1 hg hm hm (by omega) (by omega)
  omega
end Go.Nm
-- libL/LP.lean
namespace Go.Proofs.Ytigidakpcepdkaa
open Go Go.Nm
variable {ls:List Line} {n:Int}
theorem start_ends {g:Leg} (hg:LegOk ls g):(za8 n ls g).Ends (sOf ls g):=by
  unfold za8
  exact M.i_grd (gA2 hg.1 hg.2) M.i_pure
theorem goal_ends {g:Leg} (hg:LegOk ls g):(zao n ls g).Ends (gOf ls g):=by
  unfold zao
  exact M.i_grd (gA2 hg.1 hg.2) M.i_pure
theorem rise_ends {N:Int} (hN:NetOk N ls) {g:Leg} (hg:LegOk ls g):(zaX n ls g).Ends (rOf ls g):=by
  unfold zaX
  have h1:=hN.rise _ hg.mem
  have h2:=hN.err _ hg.mem
  unfold lnOf at h1 h2
  refine M.i_grd (gA2 hg.1 hg.2) (M.i_if (fun hb=>?_) (fun hb=>?_))
  · unfold rOf; rw [hb]
    exact M.i_grd (gA2 (by omega) (by omega)) M.i_pure
  · unfold rOf; rw [hb]
    exact M.i_grd (gA2 (by omega) (by omega)) M.i_pure
theorem sum2_ends {x y:Int} (h1:-1000000000000000<=x/\x<=1000000000000000) (h2:-1000000000000000<=y/\y<=1000000000000000):(zbp [x,y]).Ends (x+y):=by
  unfold zbp
  refine M.i_bind (a:=x+y) ?_ M.i_pure
  refine M.i_next (s':=(0+x,0+1)) ?_ (M.i_next (s':=(0+x+y,0+1+1)) ?_ (M.i_stop ?_))
  · simp only [zaE]
    exact M.i_t (by simp) (M.i_grd (by simp) (M.i_grd (gA2 (by simp; omega) (by simp; omega)) M.i_pure))
  · simp only [zaE]
    exact M.i_t (by simp) (M.i_grd (by simp) (M.i_grd (gA2 (by simp; omega) (by simp; omega)) M.i_pure))
  · simp only [zaE]
    rw [show x+y=0+x+y by omega]
    exact M.i_f (by simp) M.i_pure
/-- A walk over the legs that begin at a mark. -/
theorem legs_out {S X:Type} {bd:S->Leg->M (S ⊕ X)} {m:Int} (J:Nat->S->Prop) (QX:X->Prop)
    (step:∀ (i:Nat) (k:Bool) (s:S),i<ls.length->sOf ls ⟨i,k⟩=m->J (2*i+k.toNat) s->(bd s ⟨i,k⟩).Out (fun r=>match r with | .inl s'=>J (2*i+k.toNat+1) s' | .inr x=>QX x))
    (skip:∀ (i:Nat) (k:Bool) (s:S),i<ls.length->sOf ls ⟨i,k⟩ ≠ m->J (2*i+k.toNat) s->J (2*i+k.toNat+1) s)
    {s:S} (h:J 0 s):(zah (M.yl bd) (.inl s) n ls m).Out (fun r=>match r with | .inl s'=>J (2*ls.length) s' | .inr x=>QX x):=by
  unfold zah
  refine M.o_bind (P:=fun y=>match y with | .inl t=>∃ x,t = .inr x/\QX x | .inr t=>∃ s,t = .inl s/\J (2*ls.length) s) ?_ ?_
  · refine M.o_for ls.length (fun i st=>st.1=i/\∃ s,st.2 = .inl s/\J (2*i) s) ?_ ?_ ⟨rfl,s,rfl,h⟩
    · rintro i ⟨s2,t⟩ hi ⟨rfl,s,rfl,hJ⟩
      dsimp only at hi hJ
      have one:∀ (k:Bool) (s:S),J (2*s2+k.toNat) s->(M.bind (za8 n ls ⟨s2,k⟩) fun r2=>M.bind (M.opt (r2==m) (M.yl bd (.inl s) ⟨s2,k⟩) (false,.inl s)) fun (go,t) =>
          bif ((r2==m)&&(!go)) then (M.pure (.inr (.inl t))) else (M.pure (.inl (k.toNat+1,t)))).Out
          (fun y:((Nat × (S ⊕ X)) ⊕ ((S ⊕ X) ⊕ (S ⊕ X)))=>match y with | .inl st=>st.1=k.toNat+1/\∃ s,st.2 = .inl s/\J (2*s2+(k.toNat+1)) s | .inr (.inl t)=>∃ x,t = .inr x/\QX x | .inr (.inr _)=>False):=by
        intro k s hJ
        refine M.o_bindE (start_ends ⟨by show (0:Int)<=(s2:Int); omega,by show (s2:Int)<_; omega⟩) ?_
        by_cases hm:sOf ls ⟨s2,k⟩=m
        · have hb:(sOf ls ⟨s2,k⟩==m)=true:=by rw [beq_iff_eq]; exact hm
          rw [hb]
          refine M.o_bind (P:=fun y=>match y.1 with | true=>∃ s,y.2 = .inl s/\J (2*s2+k.toNat+1) s | false=>∃ x,y.2 = .inr x/\QX x) ?_ ?_
          · refine M.o_bind (step s2 k s hi hm hJ) ?_
            rintro (s' | x) hs
            · exact M.o_pure ⟨s',rfl,hs⟩
            · exact M.o_pure ⟨x,rfl,hs⟩
          · rintro ⟨go,t⟩ hy
            cases go with
            | true=>exact M.o_pure ⟨rfl,hy⟩
            | false=>exact M.o_pure hy
        · have hb:(sOf ls ⟨s2,k⟩==m)=false:=by rw [beq_eq_false_iff_ne]; exact hm
          rw [hb]
          refine M.o_bindE (a:=(false,.inl s)) (M.i_opt (fun h=>by cases h) (fun _=>rfl)) ?_
          exact M.o_pure ⟨rfl,s,rfl,skip s2 k s hi hm hJ⟩
      simp only [zaI]
      refine M.o_t (by simpa using hi) ?_
      refine M.o_bind (P:=fun y=>match y with | .inl t=>∃ x,t = .inr x/\QX x | .inr t=>∃ s,t = .inl s/\J (2*(s2+1)) s) ?_ ?_
      · refine M.o_for 2 (fun j st=>st.1=j/\∃ s,st.2 = .inl s/\J (2*s2+j) s) ?_ ?_ ⟨rfl,s,rfl,hJ⟩
        · rintro j ⟨s3,t⟩ hj ⟨rfl,s,rfl,hJ⟩
          dsimp only at hj hJ
          simp only [zaz]
          refine M.o_t (by simp; omega) (M.o_grd (by simp; omega) ?_)
          rcases (show s3=0∨s3=1 by omega) with rfl | rfl
          · exact M.o_mono (one false s hJ) (fun y hy=>by rcases y with st | t | t; exact hy; exact hy; exact hy.elim)
          · exact M.o_mono (one true s hJ) (fun y hy=>by rcases y with st | t | t; exact hy; exact hy; exact hy.elim)
        · rintro ⟨s3,t⟩ ⟨rfl,s,rfl,hJ⟩
          simp only [zaz]
          exact M.o_f (by simp) (M.o_pure ⟨s,rfl,hJ⟩)
      · rintro (t | t) hy
        · exact M.o_pure hy
        · exact M.o_pure ⟨rfl,hy⟩
    · rintro ⟨s2,t⟩ ⟨rfl,s,rfl,hJ⟩
      simp only [zaI]
      exact M.o_f (by simp) (M.o_pure ⟨s,rfl,hJ⟩)
  · rintro (t | t) hy
    · obtain ⟨x,rfl,hx⟩:=hy
      exact M.o_pure hx
    · obtain ⟨s,rfl,hs⟩:=hy
      exact M.o_pure hs
end Go.Proofs.Ytigidakpcepdkaa
-- libL/LP2.lean
namespace Go.Proofs.Ytigidakpcepdkaa
open Go Go.Nm
variable {ls:List Line} {n a:Int}
theorem ij {i:Nat} {k:Bool} (hi:i<ls.length):LegOk ls ⟨i,k⟩:=⟨by show (0:Int)<=(i:Int); omega,by show (i:Int)<_; omega⟩
/-- One leg. -/
theorem fill_leg (hN:NetOk n ls) (ha:0<=a/\a<n) {can0 can:List Int} {by0 by_:List Leg} {k:Int} {m i:Nat} {b:Bool} (hi:i<ls.length) (hs:sOf ls ⟨i,b⟩=(m:Int)) (hk:0<=k/\k<=100000) (h:FI ls n a can0 by0 k can by_) (hd:rw_ can a m<1099511627776) :
    (zab n ls a m (can,by_) ⟨i,b⟩).Out (fun r=>match r with | .inl s=>FI ls n a can0 by0 (k+1) s.1 s.2/\(∀ v,0<=v->v<n->rw_ s.1 a v<=rw_ can a v)/\rw_ s.1 a (gOf ls ⟨i,b⟩)<=rw_ can a m+rOf ls ⟨i,b⟩ | .inr _=>False):=by
  have hx:LegOk ls ⟨i,b⟩:=ij hi
  have hr:=hx.ed.rng hN.rng
  have hm:=hN.marks
  have hc:=hN.ed _ _ _ hx.ed
  have hlo:=h.bf.low m (by omega) (by rw [← hs]; exact hr.1.2)
  simp only [zab]
  refine M.o_bindE (rise_ends hN hx) ?_
  refine M.o_bindE (a:=rw_ can a m+rOf ls ⟨i,b⟩) (sum2_ends (x:=can.getD (Int.toNat a*13+m) 0) (by unfold rw_ at hlo hd; rw [Int.toNat_natCast] at hlo hd; omega) (by omega)) ?_
  refine M.o_bindE (goal_ends hx) ?_
  refine M.o_grd (gA2 (by omega) (by omega)) ?_
  refine M.o_if (fun hb=>?_) (fun hb=>?_)
  · have hb:=of_decide_eq_true hb
    refine M.o_bindE (goal_ends hx) (M.o_bindE (goal_ends hx) (M.o_grd (gA2 (by omega) (by omega)) (M.o_grd (gA2 (by omega) (by omega)) (M.o_pure ?_))))
    have h1:=h.relax hN ha hk.1 hx (by rw [hs]; exact hd) (by rw [hs]; exact hb)
    rw [hs] at h1
    have e1:∀ v,0<=v->v<n->rw_ (can.set (Int.toNat a*13+Int.toNat (gOf ls ⟨i,b⟩)) (rw_ can a m+rOf ls ⟨i,b⟩)) a v=if v=gOf ls ⟨i,b⟩ then rw_ can a m+rOf ls ⟨i,b⟩ else rw_ can a v:=fun v h0 h3=>rw_set h.lc (by omega) (by omega) _ v h0 (by omega)
    refine ⟨h1,fun v h0 h3=>?_,?_⟩
    · dsimp only
      rw [e1 v h0 h3]
      split
      · rename_i e
        rw [e]
        exact Int.le_of_lt hb
      · exact Int.le_refl _
    · dsimp only
      rw [e1 _ hr.2.1 hr.2.2,if_pos rfl]
      exact Int.le_refl _
  · have hb:=of_decide_eq_false hb
    refine M.o_pure ⟨h.mono (by omega),fun v _ _=>Int.le_refl _,?_⟩
    dsimp only
    unfold rw_ at *
    omega
/-- The legs at a mark. -/
theorem fill_mark (hN:NetOk n ls) (ha:0<=a/\a<n) {can0 can:List Int} {by0 by_:List Leg} {k:Int} {m:Nat} (hm:(m:Int)<n) (hk:0<=k/\k<=90000) (h:FI ls n a can0 by0 k can by_) {D0:Int->Int} (hle:∀ v,0<=v->v<n->rw_ can a v<=D0 v) (hR:Rlx ls D0 (rw_ can a) (fun i b=>sOf ls ⟨i,b⟩<(m:Int))) (hd:rw_ can a m<1099511627776) :
    (zah (M.yl (zab n ls a m)) (.inl (can,by_)) n ls m).Out (fun r=>match r with | .inl s=>FI ls n a can0 by0 (k+60) s.1 s.2/\(∀ v,0<=v->v<n->rw_ s.1 a v<=D0 v)/\Rlx ls D0 (rw_ s.1 a) (fun i b=>sOf ls ⟨i,b⟩<(m:Int)+1) | .inr _=>False):=by
  have hf:=hN.few
  refine M.o_mono (legs_out (m:=(m:Int)) (fun idx s=>FI ls n a can0 by0 (k+idx) s.1 s.2/\(∀ v,0<=v->v<n->rw_ s.1 a v<=D0 v)/\rw_ s.1 a m<1099511627776/\Rlx ls D0 (rw_ s.1 a) (fun i b=>sOf ls ⟨i,b⟩<(m:Int)∨(sOf ls ⟨i,b⟩=(m:Int)/\2*i+b.toNat<idx))) (fun _=>False) ?_ ?_ (s:=(can,by_)) ⟨h.mono (by omega),hle,hd,hR.le hN.rng (fun v _ _=>Int.le_refl _) (fun i b _ hp=>by rcases hp with hp | ⟨_,hp⟩; exact hp; omega)⟩) ?_
  · rintro i b ⟨s,s2⟩ hi hs ⟨hF,hle,hd,hR⟩
    dsimp only at hF hle hd hR
    have hb2:b.toNat<=1:=by cases b <;> decide
    refine M.o_mono (fill_leg hN ha hi hs (by omega) hF hd) ?_
    rintro (⟨t,t2⟩ | x) hy
    · obtain ⟨h1,h2,h3⟩:=hy
      dsimp only at h1 h2 h3 ⊢
      refine ⟨h1.mono (by omega),fun v h0 h4=>Int.le_trans (h2 v h0 h4) (hle v h0 h4),Int.lt_of_le_of_lt (h2 m (by omega) hm) hd,fun i' b' hi' hp hd0=>?_⟩
      have hr':=((ij (k:=b') hi').ed.rng hN.rng).2
      by_cases e:sOf ls ⟨i',b'⟩<(m:Int)∨(sOf ls ⟨i',b'⟩=(m:Int)/\2*i'+b'.toNat<2*i+b.toNat)
      · have:=hR i' b' hi' e hd0
        have:=h2 _ hr'.1 hr'.2
        omega
      · have hb3:b'.toNat<=1:=by cases b' <;> decide
        have e2:i'=i/\b'=b:=by
          have:2*i'+b'.toNat=2*i+b.toNat:=by omega
          refine ⟨by omega,?_⟩
          have:b'.toNat=b.toNat:=by omega
          cases b <;> cases b' <;> simp_all
        obtain ⟨rfl,rfl⟩:=e2
        rw [hs] at hd0 ⊢
        have:=hle m (by omega) hm
        omega
    · exact hy.elim
  · rintro i b ⟨s,s2⟩ hi hs ⟨hF,hle,hd,hR⟩
    refine ⟨hF.mono (by omega),hle,hd,hR.le hN.rng (fun v _ _=>Int.le_refl _) (fun i' b' hi' hp=>?_)⟩
    rcases hp with hp | ⟨hp,hp2⟩
    · exact .inl hp
    · have hb2:b.toNat<=1:=by cases b <;> decide
      have hb3:b'.toNat<=1:=by cases b' <;> decide
      refine .inr ⟨hp,?_⟩
      rcases Nat.lt_or_ge (2*i'+b'.toNat) (2*i+b.toNat) with h | h
      · exact h
      · exfalso
        have:2*i'+b'.toNat=2*i+b.toNat:=by omega
        have e1:i'=i:=by omega
        subst e1
        have e2:b'=b:=by
          have:b'.toNat=b.toNat:=by omega
          cases b <;> cases b' <;> simp_all
        subst e2
        exact hs hp
  · rintro (s | x) hy
    · obtain ⟨h1,h2,h3,h4⟩:=hy
      refine ⟨h1.mono (by omega),h2,h4.le hN.rng (fun v _ _=>Int.le_refl _) (fun i b hi hp=>?_)⟩
      have hb2:b.toNat<=1:=by cases b <;> decide
      by_cases e:sOf ls ⟨i,b⟩<(m:Int)
      · exact .inl e
      · exact .inr ⟨by omega,by omega⟩
    · exact hy.elim
/-- A row. -/
theorem fill_out (hN:NetOk n ls) (ha:0<=a/\a<n) {can:List Int} {by_:List Leg} (lc:can.length=169) (lb:by_.length=169) (h0:∀ v,0<=v->v<n->rw_ can a v=if v=a then 0 else 1099511627776) :
    (zbf n ls can by_ a).Out (fun r=>FI ls n a can by_ 8640 r.1 r.2/\Cov ls a (rw_ r.1 a) (Int.toNat n)):=by
  have hm:=hN.marks
  have hI:FI ls n a can by_ 0 can by_:=⟨lc,lb,fun _ _=>⟨rfl,rfl⟩,(BF.init ls n a).congr ha hN.rng h0,(ByOk.init ls n a (rb_ by_ a)).congr hN h0 (fun _ _ _=>rfl)⟩
  unfold zbf
  refine M.o_grd (gA2 (by omega) (by omega)) ?_
  refine M.o_bind (P:=fun r=>FI ls n a can by_ 8640 r.1 r.2/\Cov ls a (rw_ r.1 a) (Int.toNat n)) ?_ (fun y hy=>M.o_pure hy)
  refine M.o_for (Int.toNat n) (fun r st=>st.2.2=r/\FI ls n a can by_ (720*r) st.1 st.2.1/\Cov ls a (rw_ st.1 a) r) ?_ ?_ (s:=(can,by_,0)) ⟨rfl,hI.mono (by simp),Cov.zero (by rw [h0 a ha.1 ha.2,if_pos rfl]; exact Int.le_refl _)⟩
  · rintro r ⟨c,y,r'⟩ hr ⟨rfl,hF,hC⟩
    dsimp only at hr hF hC
    simp only [zap]
    refine M.o_t (by simp; omega) ?_
    refine M.o_bind (P:=fun q=>FI ls n a can by_ (720*(r'+1)) q.1 q.2/\Cov ls a (rw_ q.1 a) (r'+1)) ?_ ?_
    · refine M.o_for (Int.toNat n) (fun m st=>st.1=m/\FI ls n a can by_ (720*r'+60*m) st.2.1 st.2.2/\(∀ v,0<=v->v<n->rw_ st.2.1 a v<=rw_ c a v)/\Rlx ls (rw_ c a) (rw_ st.2.1 a) (fun i b=>sOf ls ⟨i,b⟩<(m:Int))) ?_ ?_ (s:=(0,c,y)) ⟨rfl,hF.mono (by simp),fun v _ _=>Int.le_refl _,fun i b hi hp _=>by have:=((ij (k:=b) hi).ed.rng hN.rng).1; omega⟩
      · rintro m ⟨m',s,s2⟩ hmn ⟨rfl,hF,hle,hR⟩
        dsimp only at hmn hF hle hR
        simp only [zan]
        refine M.o_t (by simp; omega) (M.o_grd (gA2 (by omega) (by omega)) (M.o_if (fun hb=>?_) (fun hb=>?_)))
        · have hb:=beq_iff_eq.1 hb
          refine M.o_grd (gA2 (by omega) (by omega)) (M.o_pure ⟨rfl,hF.mono (by omega),hle,fun i b hi hp hd=>?_⟩)
          by_cases e:sOf ls ⟨i,b⟩<(m':Int)
          · exact hR i b hi e hd
          · exfalso
            have e2:sOf ls ⟨i,b⟩=(m':Int):=by omega
            have:=hle m' (by omega) (by omega)
            rw [e2] at hd
            unfold rw_ at this hd
            rw [Int.toNat_natCast] at this hd
            omega
        · have hb:=beq_eq_false_iff_ne.1 hb
          have htop:=hF.bf.top m' (by omega) (by omega)
          have hd:rw_ s a m'<1099511627776:=by
            unfold rw_ at htop ⊢
            rw [Int.toNat_natCast] at htop ⊢
            omega
          refine M.o_bindE (a:=(m':Int)) M.i_pure ?_
          refine M.o_bind (fill_mark hN ha (m:=m') (by omega) (by omega) hF hle hR hd) ?_
          rintro (⟨t,t2⟩ | x) hy
          · refine M.o_grd (gA2 (by omega) (by omega)) (M.o_pure ⟨rfl,hy.1.mono (by omega),hy.2.1,hy.2.2.le hN.rng (fun v _ _=>Int.le_refl _) (fun i b _ hp=>by omega)⟩)
          · exact hy.elim
      · rintro ⟨m',s,s2⟩ ⟨rfl,hF,hle,hR⟩
        dsimp only at hF hle hR
        simp only [zan]
        refine M.o_f (by simp; omega) (M.o_pure ⟨hF.mono (by omega),?_⟩)
        refine hC.next hN (by omega) ha hle ?_
        refine Rlx.all (hR.le hN.rng (fun v _ _=>Int.le_refl _) (fun i b hi _=>?_))
        have:=((ij (k:=b) hi).ed.rng hN.rng).1
        omega
    · rintro ⟨q,q2⟩ ⟨h1,h2⟩
      exact M.o_grd (gA2 (by omega) (by omega)) (M.o_pure ⟨rfl,h1.mono (by omega),h2⟩)
  · rintro ⟨c,y,r'⟩ ⟨rfl,hF,hC⟩
    simp only [zap]
    exact M.o_f (by simp; omega) (M.o_pure ⟨hF.mono (by omega),hC⟩)
end Go.Proofs.Ytigidakpcepdkaa
-- libL/LP3.lean
namespace Go.Proofs.Ytigidakpcepdkaa
open Go Go.Nm
variable {ls:List Line} {n a:Int}
theorem rw_nat (can:List Int) (i j:Nat):rw_ can i j=can.getD (i*13+j) 0:=by unfold rw_; rw [Int.toNat_natCast,Int.toNat_natCast]
theorem worked_out (hN:NetOk n ls):(zbq n ls).Out (fun r=>r.1=n/\Wkd ls n r.2.1 r.2.2):=by
  have hm:=hN.marks
  unfold zbq
  refine M.o_bind (P:=fun c=>c.length=169/\∀ i j:Nat,(i:Int)<n->(j:Int)<n->c.getD (i*13+j) 0=if j=i then 0 else 1099511627776) ?_ ?_
  · refine M.o_for (Int.toNat n) (fun i st=>st.2=i/\st.1.length=169/\∀ i' j:Nat,i'<i->(j:Int)<n->st.1.getD (i'*13+j) 0=if j=i' then 0 else 1099511627776) ?_ ?_ (s:=(List.replicate 169 0,0)) ⟨rfl,List.length_replicate,fun i' j h=>by omega⟩
    · rintro i ⟨c,i0⟩ hi ⟨rfl,hl,hc⟩
      dsimp only at hi hl hc
      simp only [zaS]
      refine M.o_t (by simp; omega) ?_
      refine M.o_bind (P:=fun d=>d.length=169/\(∀ i' j:Nat,i'<i0->(j:Int)<n->d.getD (i'*13+j) 0=if j=i' then 0 else 1099511627776)/\∀ j:Nat,(j:Int)<n->d.getD (i0*13+j) 0=1099511627776) ?_ ?_
      · refine M.o_for (Int.toNat n) (fun j st=>st.2=j/\st.1.length=169/\(∀ i' j:Nat,i'<i0->(j:Int)<n->st.1.getD (i'*13+j) 0=if j=i' then 0 else 1099511627776)/\∀ j':Nat,j'<j->st.1.getD (i0*13+j') 0=1099511627776) ?_ ?_ (s:=(c,0)) ⟨rfl,hl,hc,fun j h=>by omega⟩
        · rintro j ⟨d,j0⟩ hj ⟨rfl,hl,hd,he⟩
          dsimp only at hj hl hd he
          simp only [zaW]
          refine M.o_t (by simp; omega) (M.o_grd (gA2 (by omega) (by omega)) (M.o_grd (gA2 (by omega) (by omega)) (M.o_grd (gA2 (by omega) (by omega)) (M.o_pure ⟨rfl,by simpa using hl,fun i' j h1 h2=>?_,fun j' h1=>?_⟩))))
          · dsimp only
            rw [gset _ _ _ _ _ (by omega),if_neg (by omega)]
            exact hd i' j h1 h2
          · dsimp only
            rw [gset _ _ _ _ _ (by omega)]
            by_cases e:j'=j0
            · rw [e,if_pos rfl]
            · rw [if_neg (by omega)]; exact he j' (by omega)
        · rintro ⟨d,j0⟩ ⟨rfl,hl,hd,he⟩
          simp only [zaW]
          exact M.o_f (by simp; omega) (M.o_pure ⟨hl,hd,fun j h=>he j (by omega)⟩)
      · rintro d ⟨hl,hd,he⟩
        refine M.o_grd (gA2 (by omega) (by omega)) (M.o_grd (gA2 (by omega) (by omega)) (M.o_pure ⟨rfl,by simpa using hl,fun i' j h1 h2=>?_⟩))
        dsimp only
        rw [gset _ _ _ _ _ (by omega)]
        by_cases e:i'=i0
        · subst e
          by_cases e2:j=i'
          · subst e2; rw [if_pos rfl,if_pos rfl]
          · rw [if_neg (by omega),if_neg e2]; exact he j h2
        · rw [if_neg (by omega)]; exact hd i' j (by omega) h2
    · rintro ⟨c,i0⟩ ⟨rfl,hl,hc⟩
      simp only [zaS]
      exact M.o_f (by simp; omega) (M.o_pure ⟨hl,fun i j h1 h2=>hc i j (by omega) h2⟩)
  · rintro c ⟨hl,hc⟩
    refine M.o_bind (P:=fun r=>Wkd ls n r.1 r.2) ?_ (fun r hr=>M.o_pure ⟨rfl,hr⟩)
    refine M.o_for (Int.toNat n) (fun i st=>st.2.2=i/\st.1.length=169/\st.2.1.length=169/\(∀ a:Nat,a<i->Row ls n a (rw_ st.1 a) (rb_ st.2.1 a))/\∀ a j:Nat,i<=a->(a:Int)<n->(j:Int)<n->st.1.getD (a*13+j) 0=if j=a then 0 else 1099511627776) ?_ ?_ (s:=(c,List.replicate 169 default,0)) ⟨rfl,hl,List.length_replicate,fun a h=>by omega,fun a j _ h1 h2=>hc a j h1 h2⟩
    · rintro i ⟨c,y,i0⟩ hi ⟨rfl,hl,hy,hd,hc⟩
      dsimp only at hi hl hy hd hc
      simp only [zaN]
      refine M.o_t (by simp; omega) ?_
      refine M.o_bind (fill_out hN (a:=(i0:Int)) (by omega) hl hy ?_) ?_
      · intro v h0 h1
        have:=hc i0 v.toNat (Nat.le_refl _) (by omega) (by omega)
        unfold rw_
        rw [Int.toNat_natCast,this]
        by_cases e:v=(i0:Int)
        · rw [if_pos e,if_pos (by omega)]
        · rw [if_neg e,if_neg (by omega)]
      · rintro ⟨q,q2⟩ ⟨hF,hC⟩
        refine M.o_grd (gA2 (by omega) (by omega)) (M.o_pure ⟨rfl,hF.lc,hF.lb,fun a h=>?_,fun a j h1 h2 h3=>?_⟩)
        · by_cases e:a=i0
          · subst e; exact ⟨hF.bf,hC,hF.bo⟩
          · refine (hd a (by omega)).congr hN (by omega) (fun v h0 h1=>?_) (fun v h0 h1=>?_)
            · have:=(hF.oth (a*13+v.toNat) (by rw [Int.toNat_natCast]; omega)).1
              unfold rw_; rw [Int.toNat_natCast]; exact this
            · have:=(hF.oth (a*13+v.toNat) (by rw [Int.toNat_natCast]; omega)).2
              unfold rb_; rw [Int.toNat_natCast]; exact this
        · have:=(hF.oth (a*13+j) (by rw [Int.toNat_natCast]; omega)).1
          dsimp only
          rw [this]
          exact hc a j (by omega) h2 h3
    · rintro ⟨c,y,i0⟩ ⟨rfl,hl,hy,hd,hc⟩
      simp only [zaN]
      refine M.o_f (by simp; omega) (M.o_pure ⟨hl,hy,fun a h0 h1=>?_⟩)
      have:=hd a.toNat (by omega)
      rwa [Int.toNat_of_nonneg h0] at this
theorem open_out (hN:NetOk n ls) {can:List Int} {by_:List Leg} (hW:Wkd ls n can by_):(za9 n ls can by_).Out (fun b=>b=true↔¬ Agr ls):=by
  have hm:=hN.marks
  have leg:∀ (m i:Nat) (b:Bool),i<ls.length->sOf ls ⟨i,b⟩=(m:Int)->(zal n ls can m () ⟨i,b⟩).Out (fun r=>match r with | .inl _=>∀ a,0<=a->a<n->¬ Rx ls can a ⟨i,b⟩ | .inr _=>∃ a,(0<=a/\a<n)/\Rx ls can a ⟨i,b⟩):=by
    intro m i b hi hs
    have hx:LegOk ls ⟨i,b⟩:=ij hi
    have hr:=hx.ed.rng hN.rng
    have hc:=hN.ed _ _ _ hx.ed
    simp only [zal]
    refine M.o_bind (P:=fun y=>match y with | .inl _=>∃ a,(0<=a/\a<n)/\Rx ls can a ⟨i,b⟩ | .inr _=>∀ a,0<=a->a<n->¬ Rx ls can a ⟨i,b⟩) ?_ (fun y hy=>by rcases y with y | y <;> exact M.o_pure hy)
    refine M.o_for (Int.toNat n) (fun k s=>s=k/\∀ a:Nat,a<k->¬ Rx ls can a ⟨i,b⟩) ?_ ?_ (s:=0) ⟨rfl,fun a h=>by omega⟩
    · rintro k s hk ⟨rfl,hJ⟩
      have e0:rw_ can s (sOf ls ⟨i,b⟩)=can.getD (s*13+m) 0:=by rw [hs]; exact rw_nat can s m
      have e1:rw_ can s (gOf ls ⟨i,b⟩)=can.getD (s*13+Int.toNat (gOf ls ⟨i,b⟩)) 0:=by unfold rw_; rw [Int.toNat_natCast]
      have hlo:=(hW.row s (by omega) (by omega)).bf.low (sOf ls ⟨i,b⟩) hr.1.1 hr.1.2
      rw [e0] at hlo
      simp only [zbj]
      refine M.o_t (by simp; omega) (M.o_grd (gA2 (by omega) (by omega)) (M.o_grd (gA2 (by omega) (by omega)) ?_))
      by_cases hd:can.getD (s*13+m) 0<1099511627776
      · have hd':decide (can.getD (s*13+m) 0<1099511627776)=true:=decide_eq_true hd
        rw [hd']
        refine M.o_bindE (a:=rOf ls ⟨i,b⟩) (M.i_opt (fun _=>rise_ends hN hx) (fun h=>by cases h)) (M.o_grd (gOr2 (by omega) (by omega)) (M.o_bindE (a:=gOf ls ⟨i,b⟩) (M.i_opt (fun _=>goal_ends hx) (fun h=>by cases h)) (M.o_grd (gOr2 (by omega) (by omega)) ?_)))
        by_cases h2:can.getD (s*13+m) 0+rOf ls ⟨i,b⟩<can.getD (s*13+Int.toNat (gOf ls ⟨i,b⟩)) 0
        · exact M.o_t (by rw [Bool.true_and]; exact decide_eq_true h2) (M.o_pure ⟨s,by omega,by unfold Rx; rw [e0,e1]; exact ⟨hd,h2⟩⟩)
        · refine M.o_f (by rw [Bool.true_and]; exact decide_eq_false h2) (M.o_grd (gA2 (by omega) (by omega)) (M.o_pure ⟨rfl,fun a h=>?_⟩))
          by_cases e:a=s
          · rw [e]; unfold Rx; rw [e0,e1]; exact fun h=>h2 h.2
          · exact hJ a (by omega)
      · have hd':decide (can.getD (s*13+m) 0<1099511627776)=false:=decide_eq_false hd
        rw [hd']
        refine M.o_bindE (a:=0) (M.i_opt (fun h=>by cases h) (fun _=>rfl)) (M.o_grd (by simp) (M.o_bindE (a:=0) (M.i_opt (fun h=>by cases h) (fun _=>rfl)) (M.o_grd (by simp) ?_)))
        refine M.o_f (by simp) (M.o_grd (gA2 (by omega) (by omega)) (M.o_pure ⟨rfl,fun a h=>?_⟩))
        by_cases e:a=s
        · rw [e]; unfold Rx; rw [e0]; exact fun h=>hd h.1
        · exact hJ a (by omega)
    · rintro s ⟨rfl,hJ⟩
      simp only [zbj]
      refine M.o_f (by simp; omega) (M.o_pure fun a h0 h1=>?_)
      have:=hJ a.toNat (by omega)
      rwa [Int.toNat_of_nonneg h0] at this
  have no_of:(∃ x,LegOk ls x/\∃ a,(0<=a/\a<n)/\Rx ls can a x)->¬ Agr ls:=by
    rintro ⟨x,hx,a,ha,hR⟩ hA
    exact hW.agr_no hN hA ha hx hR
  unfold za9
  refine M.o_bind (P:=fun y=>match y with | .inl _=>¬ Agr ls | .inr _=>Agr ls) ?_ (fun y hy=>by
    rcases y with y | y
    · exact M.o_pure ⟨fun _=>hy,fun _=>rfl⟩
    · exact M.o_pure ⟨fun h=>(by cases h),fun h=>absurd hy h⟩)
  refine M.o_for (Int.toNat n) (fun m s=>s=m/\(∀ i b,i<ls.length->sOf ls ⟨i,b⟩<(m:Int)->∀ a,0<=a->a<n->¬ Rx ls can a ⟨i,b⟩)/\∀ a:Nat,a<m->¬ rw_ can a a<0) ?_ ?_ (s:=0) ⟨rfl,fun i b hi h=>by have:=((ij (k:=b) hi).ed.rng hN.rng).1; omega,fun a h=>by omega⟩
  · rintro m s hmn ⟨rfl,h1,h2⟩
    simp only [zaT]
    refine M.o_t (by simp; omega) (M.o_bindE (a:=(s:Int)) M.i_pure ?_)
    refine M.o_bind (legs_out (m:=(s:Int)) (fun idx _=>∀ i b,i<ls.length->sOf ls ⟨i,b⟩=(s:Int)->2*i+b.toNat<idx->∀ a,0<=a->a<n->¬ Rx ls can a ⟨i,b⟩) (fun _=>¬ Agr ls) ?_ ?_ (s:=()) (fun i b _ _ h=>by omega)) ?_
    · intro i b _ hi hs hJ
      refine M.o_mono (leg s i b hi hs) ?_
      rintro (x | x) hx
      · intro i' b' hi' hs' hlt
        by_cases e:2*i'+b'.toNat<2*i+b.toNat
        · exact hJ i' b' hi' hs' e
        · have hb2:b.toNat<=1:=by cases b <;> decide
          have hb3:b'.toNat<=1:=by cases b' <;> decide
          have e1:i'=i:=by omega
          subst e1
          have e2:b'=b:=by
            have:b'.toNat=b.toNat:=by omega
            cases b <;> cases b' <;> simp_all
          subst e2
          exact hx
      · exact no_of ⟨_,ij hi,hx⟩
    · intro i b _ hi hs hJ i' b' hi' hs' hlt
      refine hJ i' b' hi' hs' ?_
      have hb2:b.toNat<=1:=by cases b <;> decide
      have hb3:b'.toNat<=1:=by cases b' <;> decide
      rcases Nat.lt_or_ge (2*i'+b'.toNat) (2*i+b.toNat) with h | h
      · exact h
      · exfalso
        have e1:i'=i:=by omega
        subst e1
        have e2:b'=b:=by
          have:b'.toNat=b.toNat:=by omega
          cases b <;> cases b' <;> simp_all
        subst e2
        exact hs hs'
    · rintro (x | x) hx
      · refine M.o_grd (gA2 (by omega) (by omega)) ?_
        by_cases hd:rw_ can s s<0
        · refine M.o_t (decide_eq_true (by rw [← rw_nat]; exact hd)) (M.o_pure fun hA=>?_)
          have:=hW.agr_zero hN hA (a:=(s:Int)) (by omega)
          omega
        · refine M.o_f (decide_eq_false (by rw [← rw_nat]; exact hd)) (M.o_grd (gA2 (by omega) (by omega)) (M.o_pure ⟨rfl,fun i b hi h=>?_,fun a h=>?_⟩))
          · by_cases e:sOf ls ⟨i,b⟩<(s:Int)
            · exact h1 i b hi e
            · have hb2:b.toNat<=1:=by cases b <;> decide
              exact hx i b hi (by omega) (by omega)
          · by_cases e:a=s
            · rw [e]; exact hd
            · exact h2 a (by omega)
      · exact M.o_pure hx
  · rintro s ⟨rfl,h1,h2⟩
    simp only [zaT]
    refine M.o_f (by simp; omega) (M.o_pure ?_)
    obtain ⟨f,_,hF⟩:=hW.agr_of hN (fun a h0 h3 x hx=>by
      obtain ⟨l,k⟩:=x
      have hx':=hx
      obtain ⟨l0,l1⟩:=hx
      dsimp only at l0 l1
      have e:l=((l.toNat:Nat):Int):=by omega
      rw [e] at hx' ⊢
      exact h1 l.toNat k (by omega) (by have:=(hx'.ed.rng hN.rng).1; omega) a h0 h3) (fun a h0 h3=>by
      have:=h2 a.toNat (by omega)
      rwa [Int.toNat_of_nonneg h0] at this)
    exact ⟨_,hF⟩
end Go.Proofs.Ytigidakpcepdkaa
-- libL/LP4.lean
namespace Go.Nm
/-- A line, as it may be in a net. -/
def okLine (n:Int) (l:Line):Bool:=(((((decide (0<=l.src)&&decide (l.src<=n-1))&&(decide (0<=l.dst)&&decide (l.dst<=n-1)))&&(l.src != l.dst))&&(decide (0<=l.day)&&decide (l.day<=40000)))&&(decide (-1000000<=l.rise)&&decide (l.rise<=1000000)))&&(decide (0<=l.err)&&decide (l.err<=10000))
def chkE (n:Int) (ls:List Line):Int:=bif (!(decide (1<=n)&&decide (n<=12)))||decide (30<(ls.length:Int)) then 3 else bif !(ls.all (okLine n)) then 20 else 0
theorem okLine_iff {n:Int} {l:Line}:okLine n l=true↔((((((0<=l.src/\l.src<=n-1)/\(0<=l.dst/\l.dst<=n-1))/\l.src ≠ l.dst)/\(0<=l.day/\l.day<=40000))/\(-1000000<=l.rise/\l.rise<=1000000))/\(0<=l.err/\l.err<=10000)):=by
  unfold okLine
  simp only [Bool.and_eq_true,decide_eq_true_eq,bne_iff_ne,ne_eq]
theorem chk_ok {n:Int} {ls:List Line}:chkE n ls=0↔NetOk n ls:=by
  unfold chkE
  cases h1:(!(decide (1<=n)&&decide (n<=12)))||decide (30<(ls.length:Int)) with
  | true =>
    simp only [Bool.or_eq_true,Bool.not_eq_true',Bool.and_eq_false_iff,decide_eq_false_iff_not,decide_eq_true_eq] at h1
    refine ⟨fun h=>by simp at h,fun h=>?_⟩
    have:=h.marks
    have:=h.few
    omega
  | false =>
    simp only [Bool.or_eq_false_iff,Bool.not_eq_false',Bool.and_eq_true,decide_eq_false_iff_not,decide_eq_true_eq] at h1
    cases h2:ls.all (okLine n) with
    | true =>
      rw [List.all_eq_true] at h2
      have h3:=fun l hl=>okLine_iff.1 (h2 l hl)
      exact ⟨fun _=>⟨h1.1,by omega,fun l hl=>by have:=h3 l hl; omega,fun l hl=>(h3 l hl).1.1.1.2,fun l hl=>(h3 l hl).1.1.2,fun l hl=>(h3 l hl).1.2,fun l hl=>(h3 l hl).2⟩,fun _=>rfl⟩
    | false =>
      rw [List.all_eq_false] at h2
      obtain ⟨l,hl,h3⟩:=h2
      refine ⟨fun h=>by simp at h,fun h=>absurd (okLine_iff.2 ?_) h3⟩
      have:=h.rng l hl
      exact ⟨⟨⟨⟨⟨⟨this.1.1,by omega⟩,⟨this.2.1,by omega⟩⟩,h.ne l hl⟩,h.day l hl⟩,h.rise l hl⟩,h.err l hl⟩
/-- What is said of two marks. -/
structure Btw (ls:List Line) (a b:Int) (r:Int × Int × Int):Prop where
  no:¬ Agr ls->r=(0,0,7)
  far:Agr ls->¬ Tied ls a b->r=(0,0,5)
  yes:Agr ls->Tied ls a b->r.2.2=0/\IsDist ls a b r.2.1/\IsDist ls b a (-r.1)
end Go.Nm
namespace Go.Proofs.Ytigidakpcepdkaa
open Go Go.Nm
variable {ls:List Line} {n a:Int}
theorem in_ends (x lo hi:Int):(zai x lo hi).Ends (decide (lo<=x)&&decide (x<=hi)):=M.i_pure
theorem index_line {f:Line->M Bool} {q:Line->Bool} (h:∀ x,x∈ls->(f x).Ends (q x)):(zbw ls f).Out (fun r=>decide (0<=r)=ls.any q):=by
  unfold zbw
  refine M.o_bind (P:=fun y=>match y with | .inl r=>decide (0<=r)=ls.any q | .inr _=>ls.any q=false) ?_ (fun y hy=>by
    rcases y with y | y
    · exact M.o_pure hy
    · exact M.o_pure (by rw [hy]; rfl))
  refine M.o_for ls.length (fun i s=>s=i/\(ls.take i).any q=false) ?_ ?_ (s:=0) ⟨rfl,by simp⟩
  · rintro i s hi ⟨rfl,hJ⟩
    simp only [zaL]
    refine M.o_t (by simpa using hi) (M.o_grd (by simpa using hi) (M.o_bindE (h (ls.getD s default) (by rw [getD_el ls hi]; exact List.getElem_mem hi)) (M.o_if (fun hb=>?_) (fun hb=>?_))))
    · refine M.o_pure ?_
      dsimp only
      rw [show ls.any q=true from List.any_eq_true.2 ⟨_,by rw [getD_el ls hi]; exact List.getElem_mem hi,hb⟩]
      exact decide_eq_true (by omega)
    · refine M.o_pure ⟨rfl,?_⟩
      rw [← take_succ_D ls s hi default,List.any_append,hJ]
      simp only [List.any_cons,List.any_nil,Bool.or_false,Bool.false_or]
      exact hb
  · rintro s ⟨rfl,hJ⟩
    simp only [zaL]
    rw [List.take_length] at hJ
    exact M.o_f (by simp) (M.o_pure hJ)
theorem every_line {so:Line->M Bool} {p:Line->Bool} (h:∀ x,x∈ls->(so x).Ends (p x)):(zbs ls so).Ends (ls.all p):=by
  unfold zbs zbX
  obtain ⟨r,h1,h2⟩:=index_line (ls:=ls) (f:=fun x=>zbd x so) (q:=fun x=>!(p x)) (fun x hx=>by unfold zbd; exact M.i_bind (h x hx) M.i_pure)
  refine M.i_bind (M.i_bind h1 M.i_pure) ?_
  rw [h2,List.any_eq_not_all_not]
  simp only [Bool.not_not]
  exact M.i_pure
theorem check_ends (n:Int) (ls:List Line):(zbi n ls).Ends (chkE n ls):=by
  unfold zbi chkE
  refine M.i_bind (in_ends _ _ _) (M.i_if (fun hb=>?_) (fun hb=>?_))
  · rw [hb]; exact M.i_pure
  · rw [hb]
    simp only [Bool.or_eq_false_iff,Bool.not_eq_false',Bool.and_eq_true,decide_eq_false_iff_not,decide_eq_true_eq] at hb
    refine M.i_bind (every_line (p:=okLine n) fun l _=>?_) (M.i_if (fun h2=>by rw [h2]; exact M.i_pure) (fun h2=>by rw [h2]; exact M.i_pure))
    have mk:∀ x:Int,(zbg x n ls).Ends (decide (0<=x)&&decide (x<=n-1)):=fun x=>by
      unfold zbg
      exact M.i_grd (gA2 (by omega) (by omega)) (M.i_bind (in_ends _ _ _) M.i_pure)
    unfold zbE
    have opt:∀ {c:Bool} {m:M Bool} {b:Bool},m.Ends b->(M.opt c m false).Ends (c&&b):=fun {c m b} h=>M.i_opt (fun e=>by rw [e,Bool.true_and]; exact h) (fun e=>by rw [e]; rfl)
    refine M.i_bind (mk l.src) (M.i_bind (opt (mk l.dst)) (M.i_bind (opt (in_ends _ _ _)) (M.i_bind (opt (in_ends _ _ _)) (M.i_bind (opt (in_ends _ _ _)) ?_))))
    have e:okLine n l=_:=rfl
    unfold okLine
    generalize (decide (0<=l.src)&&decide (l.src<=n-1))=b1
    generalize (decide (0<=l.dst)&&decide (l.dst<=n-1))=b2
    generalize (l.src != l.dst)=b3
    generalize (decide (0<=l.day)&&decide (l.day<=40000))=b4
    generalize (decide (-1000000<=l.rise)&&decide (l.rise<=1000000))=b5
    generalize (decide (0<=l.err)&&decide (l.err<=10000))=b6
    cases b1 <;> cases b2 <;> cases b3 <;> cases b4 <;> cases b5 <;> cases b6 <;> exact M.i_pure
theorem opened_out (hN:NetOk n ls):(zbK n ls).Out (fun y=>∃ can by_,y = .inr (n,can,by_,0)/\Wkd ls n can by_):=by
  unfold zbK
  refine M.o_bindE (check_ends n ls) ?_
  rw [chk_ok.2 hN]
  refine M.o_f (by decide) (M.o_bind (worked_out hN) ?_)
  rintro ⟨r0,c,b⟩ ⟨rfl,hW⟩
  exact M.o_pure ⟨c,b,rfl,hW⟩
theorem between_out (hN:NetOk n ls) {f t:Int} (hf:0<=f/\f<n) (ht:0<=t/\t<n):(zaC n ls f t).Out (Btw ls f t):=by
  have hm:=hN.marks
  unfold zaC
  refine M.o_bind (P:=fun y=>∃ can by_ e,y = .inr (n,can,by_,e)/\Wkd ls n can by_/\(¬ Agr ls->e=7)/\(Agr ls->e=if rw_ can f t=1099511627776 then 5 else 0)) ?_ ?_
  · unfold zcb
    refine M.o_bindE (check_ends n ls) ?_
    rw [chk_ok.2 hN]
    refine M.o_f (by decide) (M.o_grd (gA2 (by omega) (by omega)) (M.o_bindE (in_ends _ _ _) ?_))
    rw [show (decide (0<=f)&&decide (f<=n-1))=true from gA2 (by omega) (by omega)]
    refine M.o_bindE (a:=true) (M.i_opt (fun _=>by rw [← show (decide (0<=t)&&decide (t<=n-1))=true from gA2 (by omega) (by omega)]; exact in_ends _ _ _) (fun h=>by cases h)) ?_
    refine M.o_f (by simp) ?_
    refine M.o_bind (P:=fun y=>∃ can by_ e,y = .inr (n,can,by_,e)/\Wkd ls n can by_/\(¬ Agr ls->e=7)/\(Agr ls->e=0)) ?_ ?_
    · unfold zb7
      refine M.o_bind (opened_out hN) ?_
      rintro y ⟨c,b,rfl,hW⟩
      dsimp only
      refine M.o_bind (P:=fun r=>r=true↔¬ Agr ls) (by
        obtain ⟨r,h1,h2⟩:=open_out hN hW
        exact ⟨r,M.i_opt (fun _=>h1) (fun h=>by simp at h),h2⟩) ?_
      intro r hr
      cases r with
      | true=>exact M.o_t rfl (M.o_pure ⟨c,b,7,rfl,hW,fun _=>rfl,fun h=>absurd h (hr.1 rfl)⟩)
      | false=>exact M.o_f rfl (M.o_pure ⟨c,b,0,rfl,hW,fun h=>absurd (hr.2 h) (by decide),fun _=>rfl⟩)
    · rintro y ⟨c,b,e,rfl,hW,h1,h2⟩
      dsimp only
      refine M.o_grd (gOr2 (by omega) (by omega)) (M.o_grd (gOr2 (by omega) (by omega)) ?_)
      by_cases hA:Agr ls
      · have:=h2 hA
        subst this
        by_cases e:rw_ c f t=1099511627776
        · exact M.o_t (by unfold rw_ at e; rw [e]; rfl) (M.o_pure ⟨c,b,5,rfl,hW,fun h=>absurd hA h,fun _=>by rw [if_pos e]⟩)
        · exact M.o_f (by unfold rw_ at e; simpa using e) (M.o_pure ⟨c,b,0,rfl,hW,fun h=>absurd hA h,fun _=>by rw [if_neg e]⟩)
      · have:=h1 hA
        subst this
        exact M.o_f (by simp) (M.o_pure ⟨c,b,7,rfl,hW,fun _=>rfl,fun h=>absurd h hA⟩)
  · rintro y ⟨c,b,e,rfl,hW,h1,h2⟩
    dsimp only
    by_cases hA:Agr ls
    · have hD:=hW.done hN hA hf
      have hD2:=hW.done hN hA ht
      by_cases e5:rw_ c f t=1099511627776
      · have:=h2 hA
        rw [if_pos e5] at this
        subst this
        refine M.o_t (by decide) (M.o_pure ⟨fun h=>absurd hA h,fun _ _=>rfl,fun _ hT=>?_⟩)
        have:=hD.tied t ht.1 ht.2 hT
        omega
      · have:=h2 hA
        rw [if_neg e5] at this
        subst this
        have hlt:=hD.far t ht.1 ht.2 e5
        have d1:=hD.dist t ht.1 ht.2 hlt
        have hlt2:=hD2.tied f hf.1 hf.2 d1.tied.symm
        have d2:=hD2.dist f hf.1 hf.2 hlt2
        have b1:=(hW.row t ht.1 ht.2).bf.low f hf.1 hf.2
        unfold rw_ at hlt2 b1
        refine M.o_f (by decide) (M.o_grd (gA2 (by omega) (by omega)) (M.o_grd (gA2 (by omega) (by omega)) (M.o_grd (gA2 (by omega) (by omega)) (M.o_pure ⟨fun h=>absurd hA h,fun _ h=>absurd d1.tied h,fun _ _=>⟨rfl,d1,?_⟩⟩))))
        dsimp only
        rw [Int.neg_neg]
        exact d2
    · have:=h1 hA
      subst this
      exact M.o_t (by decide) (M.o_pure ⟨fun _=>rfl,fun h=>absurd h hA,fun h=>absurd h hA⟩)
end Go.Proofs.Ytigidakpcepdkaa
-- libL/LS.lean
namespace Go.Nm
structure SOk (c u x:Int):Prop where
  u0:0<=u
  u1:u<=c
  x0:0<=x
  x1:x<251
theorem SOk.mono {c d u x:Int} (h:SOk c u x) (hd:c<=d):SOk d u x:=⟨h.u0,Int.le_trans h.u1 hd,h.x0,h.x1⟩
/-- What a stream gives: a number below n. -/
structure Nx (c n:Int) (y:Int × Int × Int):Prop where
  ok:SOk c y.2.1 y.2.2
  lt:1<=n->0<=y.1/\y.1<n
  no:n<1->y.1=0
end Go.Nm
namespace Go.Proofs.Ytigidakpcepdkaa
open Go Go.Nm
theorem next_out {b:List UInt8} {c u x n:Int} (h:SOk c u x) (hc:c<=1000000000000) (hn:n<=1000000):(zak b u x n).Out (Nx (c+1) n):=by
  obtain ⟨u0,u1,x0,x1⟩:=h
  unfold zak
  refine M.o_if (fun hb=>?_) (fun hb=>?_)
  · simp only [Bool.or_eq_true,decide_eq_true_eq,beq_iff_eq] at hb
    refine M.o_pure ⟨⟨u0,by dsimp only; omega,x0,x1⟩,fun h1=>⟨Int.le_refl _,?_⟩,fun _=>rfl⟩
    dsimp only
    omega
  · simp only [Bool.or_eq_false_iff,decide_eq_false_iff_not,beq_eq_false_iff_ne,ne_eq] at hb
    have hl:(0:Int)<(b.length:Int):=by omega
    have m0:=Int.emod_nonneg u (show (b.length:Int) ≠ 0 by omega)
    have m1:=Int.emod_lt_of_pos u hl
    have d0:=Int.ediv_nonneg u0 (show (0:Int)<=(b.length:Int) by omega)
    have d1:u / (b.length:Int)<=u:=Int.ediv_le_self _ u0
    have y1:((b.getD (Int.toNat (u % (b.length:Int))) 0).toNat:Int)<256:=by
      have:=UInt8.toNat_lt (b.getD (Int.toNat (u % (b.length:Int))) 0)
      omega
    have y0:(0:Int)<=((b.getD (Int.toNat (u % (b.length:Int))) 0).toNat:Int):=Int.natCast_nonneg _
    generalize ((b.getD (Int.toNat (u % (b.length:Int))) 0).toNat:Int)=y at *
    generalize u % (b.length:Int)=m at *
    generalize u / (b.length:Int)=d at *
    have hn0:0<n:=by omega
    have fin:∀ z:Int,0<=z->0<=z % n/\z % n<n:=fun z hz=>⟨Int.emod_nonneg _ (by omega),Int.emod_lt_of_pos _ hn0⟩
    have pr:∀ z w:Int,0<=z->Nx (c+1) n (z % n,u+1,w % 251):=fun z w hz=>⟨⟨by dsimp only; omega,by dsimp only; omega,by dsimp only; omega,by dsimp only; omega⟩,fun _=>fin z hz,fun h=>by omega⟩
    refine M.o_grd (by simp only [Bool.and_eq_true,decide_eq_true_eq]; omega) (M.o_grd (by simp only [Bool.and_eq_true,decide_eq_true_eq]; omega) (M.o_grd (by simp only [Bool.and_eq_true,decide_eq_true_eq]; omega) ?_))
    refine M.o_if (fun h1=>?_) (fun h1=>?_)
    · refine M.o_grd (by simp only [Bool.and_eq_true,decide_eq_true_eq]; omega) (M.o_grd (by simp only [Bool.and_eq_true,decide_eq_true_eq]; omega) (M.o_grd (by simp only [Bool.and_eq_true,decide_eq_true_eq]; omega) (M.o_grd (by simp only [Bool.and_eq_true,decide_eq_true_eq]; omega) (M.o_grd (by simp only [Bool.and_eq_true,decide_eq_true_eq]; omega) ?_))))
      refine M.o_grd (by simp only [Bool.and_eq_true,decide_eq_true_eq]; omega) (M.o_grd (by simp only [Bool.and_eq_true,decide_eq_true_eq]; omega) (M.o_grd (by simp only [Bool.and_eq_true,decide_eq_true_eq]; omega) (M.o_grd (by simp only [Bool.and_eq_true,decide_eq_true_eq]; omega) ?_)))
      refine M.o_if (fun h2=>?_) (fun h2=>?_)
      · refine M.o_grd (by simp only [Bool.and_eq_true,decide_eq_true_eq]; omega) (M.o_grd (by simp only [Bool.and_eq_true,decide_eq_true_eq]; omega) (M.o_grd (by simp only [Bool.and_eq_true,decide_eq_true_eq]; omega) (M.o_pure (pr _ _ (by omega)))))
      · refine M.o_grd (by simp only [Bool.and_eq_true,decide_eq_true_eq]; omega) (M.o_pure (pr _ _ (by omega)))
    · refine M.o_grd (by simp only [Bool.and_eq_true,decide_eq_true_eq]; omega) (M.o_grd (by simp only [Bool.and_eq_true,decide_eq_true_eq]; omega) (M.o_grd (by simp only [Bool.and_eq_true,decide_eq_true_eq]; omega) (M.o_grd (by simp only [Bool.and_eq_true,decide_eq_true_eq]; omega) (M.o_grd (by simp only [Bool.and_eq_true,decide_eq_true_eq]; omega) ?_))))
      refine M.o_if (fun h2=>?_) (fun h2=>?_)
      · refine M.o_grd (by simp only [Bool.and_eq_true,decide_eq_true_eq]; omega) (M.o_grd (by simp only [Bool.and_eq_true,decide_eq_true_eq]; omega) (M.o_grd (by simp only [Bool.and_eq_true,decide_eq_true_eq]; omega) (M.o_pure (pr _ _ (by omega)))))
      · refine M.o_grd (by simp only [Bool.and_eq_true,decide_eq_true_eq]; omega) (M.o_pure (pr _ _ (by omega)))
theorem within_out {b:List UInt8} {c u x lo hi:Int} (h:SOk c u x) (hc:c<=1000000000000) (h0:-1000<=lo) (h1:lo<=hi) (h2:hi<=10000):(zat b u x lo hi).Out (fun y=>SOk (c+1) y.2.1 y.2.2/\lo<=y.1/\y.1<=hi):=by
  unfold zat
  refine M.o_grd (gA2 (by omega) (by omega)) (M.o_grd (gA2 (by omega) (by omega)) (M.o_bind (next_out h hc (by omega)) ?_))
  rintro ⟨r,u',x'⟩ ⟨k,hl,_⟩
  have:=hl (by omega)
  dsimp only at this k ⊢
  exact M.o_grd (gA2 (by omega) (by omega)) (M.o_pure ⟨k,by dsimp only; omega,by dsimp only; omega⟩)
end Go.Proofs.Ytigidakpcepdkaa
-- libL/LM.lean
namespace Go.Nm
def hOf (hs:List Int) (v:Int):Int:=hs.getD (Int.toNat v) 0
structure LnOk (n:Int) (hs:List Int) (l:Line):Prop where
  src:0<=l.src/\l.src<n
  dst:0<=l.dst/\l.dst<n
  ne:l.src ≠ l.dst
  day:0<=l.day/\l.day<30
  err:0<=l.err/\l.err<=8
  lo:l.rise-l.err<=hOf hs l.dst-hOf hs l.src
  hi:hOf hs l.dst-hOf hs l.src<=l.rise+l.err
structure HsOk (n:Int) (hs:List Int):Prop where
  len:(hs.length:Int)=n
  zero:hs.getD 0 0=0
  bnd:∀ v,-300<=hOf hs v/\hOf hs v<=300
/-- What a net of numbers is like. -/
structure MadeN (most n:Int) (ls:List Line) (hs:List Int):Prop where
  two:2<=n/\n<=most
  hh:HsOk n hs
  one:1<=ls.length/\ls.length<=14
  ln:∀ l,l∈ls->LnOk n hs l
theorem LnOk.rise {n:Int} {hs:List Int} {l:Line} (h:LnOk n hs l) (hh:HsOk n hs):-700<=l.rise/\l.rise<=700:=by
  have h1:=hh.bnd l.src
  have h2:=hh.bnd l.dst
  have:=h.err
  have:=h.lo
  have:=h.hi
  omega
theorem net_ok {most n:Int} {ls:List Line} {hs:List Int} (hm:1<=n/\n<=12) (hh:HsOk n hs) (hl:ls.length<=30) (h:∀ l,l∈ls->LnOk n hs l):NetOk n ls :=
  ⟨hm,hl,fun l hl=>⟨(h l hl).src,(h l hl).dst⟩,fun l hl=>(h l hl).ne,fun l hl=>by have:=(h l hl).day; omega,fun l hl=>by have:=(h l hl).rise hh; omega,fun l hl=>by have:=(h l hl).err; omega⟩
theorem feas_ln {n:Int} {ls:List Line} {hs:List Int} (h:∀ l,l∈ls->LnOk n hs l):Feas ls (hOf hs):=fun l hl=>⟨(h l hl).lo,(h l hl).hi⟩
theorem MadeN.ok {most n:Int} {ls:List Line} {hs:List Int} (h:MadeN most n ls hs) (hm:most<=12):NetOk n ls:=net_ok (most:=0) (by have:=h.two; omega) h.hh (by have:=h.one; omega) h.ln
theorem modne {a j n:Int} (ha:0<=a/\a<n) (hj:1<=j/\j<n):(0<=(a+j) % n/\(a+j) % n<n)/\(a+j) % n ≠ a:=by
  have h1:=Int.emod_nonneg (a+j) (show n ≠ 0 by omega)
  have h2:=Int.emod_lt_of_pos (a+j) (show 0<n by omega)
  refine ⟨⟨h1,h2⟩,fun e=>?_⟩
  by_cases h:a+j<n
  · rw [Int.emod_eq_of_lt (by omega) h] at e; omega
  · rw [← Int.sub_emod_right,Int.emod_eq_of_lt (by omega) (by omega)] at e; omega
end Go.Nm
namespace Go.Proofs.Ytigidakpcepdkaa
open Go Go.Nm
theorem zdt {b:List UInt8} {c u x n:Int} {hs:List Int} {a t day:Int} (h:SOk c u x) (hc:c<=100000000000) (hh:HsOk n hs) (ha:0<=a/\a<n) (ht:0<=t/\t<n) (hne:a ≠ t) (hd:0<=day/\day<30) :
    (zbm b u x hs a t day).Out (fun y=>LnOk n hs ⟨y.1,y.2.1,y.2.2.1,y.2.2.2.1,y.2.2.2.2.1⟩/\SOk (c+2) y.2.2.2.2.2.1 y.2.2.2.2.2.2):=by
  have hl:=hh.len
  have b1:=hh.bnd a
  have b2:=hh.bnd t
  unfold hOf at b1 b2
  unfold zbm
  refine M.o_bind (next_out h (by omega) (by omega)) ?_
  rintro ⟨r2,u1,x1⟩ ⟨ok,hlt,_⟩
  dsimp only at ok hlt ⊢
  have hlt:=hlt (by omega)
  refine M.o_grd (gA2 (by omega) (by omega)) (M.o_grd (gA2 (by omega) (by omega)) (M.o_grd (gA2 (by omega) (by omega)) (M.o_grd (gA2 (by omega) (by omega)) ?_)))
  refine M.o_bind (within_out ok (by omega) (by omega) (by omega) (by omega)) ?_
  rintro ⟨r3,u2,x2⟩ ⟨ok2,h1,h2⟩
  dsimp only at ok2 h1 h2 ⊢
  refine M.o_grd (gA2 (by omega) (by omega)) (M.o_pure ⟨⟨ha,ht,hne,hd,by dsimp only; omega,?_,?_⟩,ok2.mono (by omega)⟩)
  · unfold hOf; dsimp only; omega
  · unfold hOf; dsimp only; omega
theorem made_out {b:List UInt8} {c u x most:Int} (h:SOk c u x) (hc:c<=100000000) (h2:2<=most) (h12:most<=12):(za5 b u x most).Out (fun y=>MadeN most y.1 y.2.1 y.2.2.1/\SOk (c+2000) y.2.2.2.1 y.2.2.2.2):=by
  unfold za5
  refine M.o_bind (within_out h (by omega) (by omega) h2 (by omega)) ?_
  rintro ⟨n,u1,x1⟩ ⟨hs,r0,r1⟩
  dsimp only at hs r0 r1 ⊢
  refine M.o_bind (P:=fun y=>HsOk n y.2.2.2/\SOk (c+100) y.1 y.2.1) ?_ ?_
  · refine M.o_for (Int.toNat n-1) (fun i st=>st.2.2.length=i+1/\SOk (c+1+i) st.1 st.2.1/\st.2.2.getD 0 0=0/\∀ j:Nat,-300<=st.2.2.getD j 0/\st.2.2.getD j 0<=300) ?_ ?_ (s:=(u1,x1,[0])) ⟨rfl,hs.mono (by simp),rfl,fun j=>?_⟩
    · rintro i ⟨u,x,l⟩ hi ⟨hl,ok,hz,hb⟩
      dsimp only at hl ok hz hb
      simp only [za0]
      refine M.o_t (decide_eq_true (by omega)) (M.o_bind (within_out ok (by omega) (by omega) (by omega) (by omega)) ?_)
      rintro ⟨r3,u2,x2⟩ ⟨ok2,h1,h2⟩
      dsimp only at ok2 h1 h2 ⊢
      refine M.o_grdD (by simp only [List.length_cons,List.length_nil]; omega) (M.o_pure ⟨by simp [hl],ok2.mono (by omega),?_,fun j=>?_⟩)
      · dsimp only
        simp only [List.getD_eq_getElem?_getD] at hz ⊢
        rw [List.getElem?_append_left (by omega)]; exact hz
      · dsimp only
        have:=hb j
        simp only [List.getD_eq_getElem?_getD] at this ⊢
        by_cases e:j<l.length
        · rw [List.getElem?_append_left e]; exact this
        · rw [List.getElem?_append_right (by omega)]
          by_cases e2:j-l.length=0
          · rw [e2]; simp; omega
          · rw [List.getElem?_eq_none (by simp; omega)]; simp
    · rintro ⟨u,x,l⟩ ⟨hl,ok,hz,hb⟩
      dsimp only at hl ok hz hb
      simp only [za0]
      exact M.o_f (decide_eq_false (by omega)) (M.o_pure ⟨⟨by dsimp only; omega,hz,fun v=>hb _⟩,ok.mono (by omega)⟩)
    · cases j with
      | zero=>simp
      | succ j=>simp
  · rintro ⟨u,x,l2,l3⟩ ⟨hh,ok⟩
    dsimp only at hh ok ⊢
    refine M.o_bind (within_out ok (by omega) (by omega) (by omega) (by omega)) ?_
    rintro ⟨k,u3,x3⟩ ⟨ok3,k0,k1⟩
    dsimp only at ok3 k0 k1 ⊢
    refine M.o_bind (P:=fun y=>(1<=y.2.1.length/\y.2.1.length<=14)/\(∀ l,l∈y.2.1->LnOk n l3 l)/\SOk (c+2000) y.2.2.1 y.2.2.2) ?_ (fun y hy=>M.o_pure ⟨⟨⟨by dsimp only; omega,by dsimp only; omega⟩,hh,hy.1,hy.2.1⟩,hy.2.2⟩)
    refine M.o_for (Int.toNat k) (fun i st=>st.2.2.1=i/\st.2.2.2.length=i/\SOk (c+101+10*i) st.1 st.2.1/\∀ l,l∈st.2.2.2->LnOk n l3 l) ?_ ?_ (s:=(u3,x3,0,[])) ⟨rfl,rfl,ok3.mono (by omega),fun l hl=>by simp at hl⟩
    · rintro i ⟨u,x,j,l⟩ hi ⟨rfl,hl,ok,hj⟩
      dsimp only at hi hl ok hj
      simp only [zaU]
      refine M.o_t (decide_eq_true (by omega)) (M.o_bind (next_out ok (by omega) (by omega)) ?_)
      rintro ⟨r5,u5,x5⟩ ⟨ok5,h5,_⟩
      dsimp only at ok5 h5 ⊢
      have h5:=h5 (by omega)
      refine M.o_grd (gA2 (by omega) (by omega)) (M.o_grd (gA2 (by omega) (by omega)) (M.o_bind (next_out ok5 (by omega) (by omega)) ?_))
      rintro ⟨r6,u6,x6⟩ ⟨ok6,h6,_⟩
      dsimp only at ok6 h6 ⊢
      have h6:=h6 (by omega)
      refine M.o_grd (gA2 (by omega) (by omega)) (M.o_grd (gA2 (by omega) (by omega)) (M.o_bind (next_out ok6 (by omega) (by omega)) ?_))
      rintro ⟨r7,u7,x7⟩ ⟨ok7,h7,_⟩
      dsimp only at ok7 h7 ⊢
      have h7:=h7 (by omega)
      have hm:=modne (a:=r5) (j:=1+r6) (n:=n) (by omega) (by omega)
      rw [← Int.add_assoc] at hm
      refine M.o_bind (zdt ok7 (by omega) hh (a:=r5) (t:=(r5+1+r6) % n) (by omega) hm.1 (fun e=>hm.2 e.symm) h7) ?_
      rintro ⟨y0,y1,y2,y3,y4,y5,y6⟩ ⟨hln,ok8⟩
      dsimp only at hln ok8 ⊢
      refine M.o_grdD (by simp only [List.length_cons,List.length_nil]; omega) (M.o_grd (gA2 (by omega) (by omega)) (M.o_pure ⟨rfl,by simp [hl],ok8.mono (by omega),fun l' hl'=>?_⟩))
      simp only [List.mem_append,List.mem_cons,List.not_mem_nil,or_false] at hl'
      rcases hl' with hl' | rfl
      · exact hj l' hl'
      · exact hln
    · rintro ⟨u,x,j,l⟩ ⟨rfl,hl,ok,hj⟩
      dsimp only at hl ok hj
      simp only [zaU]
      exact M.o_f (decide_eq_false (by omega)) (M.o_pure ⟨by dsimp only; omega,hj,ok.mono (by omega)⟩)
theorem new_ends (b:List UInt8):(zbG b).Ends (0,0):=M.i_pure
theorem sok0:SOk 0 0 0:=⟨Int.le_refl _,Int.le_refl _,Int.le_refl _,by decide⟩
theorem copy_net {ls:List Line} (h:ls.length<=1000000) (n:Int):(zbH n ls).Ends (n,ls):=by
  unfold zbH zaw
  exact M.i_bind (M.i_grd (decide_eq_true (by simp only [List.length_nil]; omega)) M.i_pure) M.i_pure
end Go.Proofs.Ytigidakpcepdkaa
-- libL/DC5.lean
namespace Go.Nm
variable {ls ks:List Line} {a b d:Int}
theorem Tied.edge {u v c:Int} (he:Ed ls u v c):Tied ls a u↔Tied ls a v:=⟨fun t=>t.trans (.ed he),fun t=>by obtain ⟨c',hr⟩:=he.rev; exact t.trans (.ed hr)⟩
/-! ### Nets that are joined at one mark -/
section
variable {N M there joint:Int} (hN:Rng N ls) (hM:Rng M ks) (hj:0<=joint/\joint<N) (ht:0<=there/\there<M)
include hN hM hj ht
end
end Go.Nm
namespace Go.Nm
/-- A line of the second net. -/
def shl (N:Int) (l:Line):Line:={ l with src:=l.src+N,dst:=l.dst+N }
def un (N:Int) (ls ks:List Line):List Line:=ls++ks.map (shl N)
variable {N k:Int} {ls ks:List Line}
theorem un_ed (hr:Rng N ls) (hk:Rng k ks) {a b c:Int} (ha:N<=a) (e:Ed (un N ls ks) a b c):N<=b/\Ed ks (a-N) (b-N) c:=by
  obtain ⟨l,hl,h⟩:=e
  rcases List.mem_append.1 hl with hl | hl
  · have:=hr l hl
    omega
  · obtain ⟨m,hm,rfl⟩:=List.mem_map.1 hl
    have:=hk m hm
    simp only [shl] at h
    rcases h with ⟨h1,h2,h3⟩ | ⟨h1,h2,h3⟩
    · exact ⟨by omega,m,hm,.inl ⟨by omega,by omega,h3⟩⟩
    · exact ⟨by omega,m,hm,.inr ⟨by omega,by omega,h3⟩⟩
theorem ed_un {a b c:Int} (e:Ed ks a b c):Ed (un N ls ks) (a+N) (b+N) c:=by
  obtain ⟨m,hm,h⟩:=e
  refine ⟨shl N m,List.mem_append_right _ (List.mem_map.2 ⟨m,hm,rfl⟩),?_⟩
  simp only [shl]
  rcases h with ⟨h1,h2,h3⟩ | ⟨h1,h2,h3⟩
  · exact .inl ⟨by omega,by omega,h3⟩
  · exact .inr ⟨by omega,by omega,h3⟩
theorem un_wk (hr:Rng N ls) (hk:Rng k ks) {a:Int} (ha:N<=a) {vs:List Int} {c:Int} (w:Wk (un N ls ks) a vs c):(∀ v∈vs,N<=v)/\Wk ks (a-N) (vs.map fun v=>v-N) c:=by
  induction w with
  | one=>exact ⟨fun v hv=>by rw [List.mem_singleton] at hv; omega,.one⟩
  | snoc w he ih =>
    obtain ⟨h1,h2⟩:=ih
    obtain ⟨g1,g2⟩:=un_ed hr hk (h1 _ (by simp)) he
    refine ⟨fun v hv=>?_,.snoc h2 g2⟩
    rcases List.mem_cons.1 hv with rfl | hv
    · exact g1
    · exact h1 v hv
theorem wk_un {a:Int} {vs:List Int} {c:Int} (w:Wk ks a vs c):Wk (un N ls ks) (a+N) (vs.map fun v=>v+N) c:=by
  induction w with
  | one=>exact .one
  | snoc w he ih=>exact .snoc ih (ed_un he)
theorem un_tied (hr:Rng N ls) (hk:Rng k ks) {a b:Int} (ha:N<=a):Tied (un N ls ks) a b->Tied ks (a-N) (b-N):=by
  rintro ⟨vs,c,w⟩
  exact ⟨_,c,(un_wk hr hk ha w).2⟩
theorem tied_un {a b:Int}:Tied ks a b->Tied (un N ls ks) (a+N) (b+N):=by
  rintro ⟨vs,c,w⟩
  exact ⟨_,c,wk_un w⟩
theorem un_dist (hr:Rng N ls) (hk:Rng k ks) {a b d:Int} (ha:N<=a) (h:IsDist (un N ls ks) a b d):IsDist ks (a-N) (b-N) d:=by
  obtain ⟨vs,w⟩:=h.has
  refine ⟨⟨_,(un_wk hr hk ha w).2⟩,fun us c w2=>?_⟩
  have w3:=wk_un (N:=N) (ls:=ls) w2
  rw [List.map_cons,show a-N+N=a by omega,show b-N+N=b by omega] at w3
  exact h.le _ c w3
/-- What is said of two marks of the second net is what that net says. -/
theorem un_btw (hr:Rng N ls) (hk:Rng k ks) (hA:Agr (un N ls ks)) (hB:Agr ks) {a b:Int} (ha:N<=a) (hb:N<=b) {r s:Int × Int × Int} (h:Btw (un N ls ks) a b r) (h':Btw ks (a-N) (b-N) s):r=s:=by
  by_cases t:Tied ks (a-N) (b-N)
  · have t2:Tied (un N ls ks) a b:=by
      have:=tied_un (N:=N) (ls:=ls) t
      rw [show a-N+N=a by omega,show b-N+N=b by omega] at this
      exact this
    obtain ⟨e1,i1,i2⟩:=h.yes hA t2
    obtain ⟨e2,i3,i4⟩:=h'.yes hB t
    have u1:=(un_dist hr hk ha i1).uniq i3
    have u2:=(un_dist hr hk hb i2).uniq i4
    exact Prod.ext (by omega) (Prod.ext u1 (e1.trans e2.symm))
  · rw [h.far hA (fun t2=>t (un_tied hr hk ha t2)),h'.far hB t]
theorem un_agr (hr:Rng N ls) (hk:Rng k ks) (hA:Agr ls) (hB:Agr ks):Agr (un N ls ks):=by
  obtain ⟨h1,f1⟩:=hA
  obtain ⟨h2,f2⟩:=hB
  refine ⟨fun v=>if v<N then h1 v else h2 (v-N),fun l hl=>?_⟩
  rcases List.mem_append.1 hl with hl | hl
  · have:=hr l hl
    dsimp only
    rw [if_pos (show l.dst<N by omega),if_pos (show l.src<N by omega)]
    exact f1 l hl
  · obtain ⟨m,hm,rfl⟩:=List.mem_map.1 hl
    have hm2:=hk m hm
    have e:∀ x:Int,0<=x->(if x+N<N then h1 (x+N) else h2 (x+N-N))=h2 x:=fun x hx=>by rw [if_neg (by omega),show x+N-N=x by omega]
    show m.rise-m.err<=(if m.dst+N<N then h1 (m.dst+N) else h2 (m.dst+N-N))-(if m.src+N<N then h1 (m.src+N) else h2 (m.src+N-N))/\(if m.dst+N<N then h1 (m.dst+N) else h2 (m.dst+N-N))-(if m.src+N<N then h1 (m.src+N) else h2 (m.src+N-N))<=m.rise+m.err
    rw [e _ hm2.2.1,e _ hm2.1.1]
    exact f2 m hm
theorem un_ok (hA:NetOk N ls) (hB:NetOk k ks) (hm:N+k<=12) (hl:ls.length+ks.length<=30):NetOk (N+k) (un N ls ks):=by
  have m1:=hA.marks
  have m2:=hB.marks
  have key:∀ l∈un N ls ks,(l∈ls)∨∃ m∈ks,l=shl N m:=fun l hl=>by
    rcases List.mem_append.1 hl with hl | hl
    · exact .inl hl
    · obtain ⟨m,hm,rfl⟩:=List.mem_map.1 hl
      exact .inr ⟨m,hm,rfl⟩
  refine ⟨by omega,by unfold un; rw [List.length_append,List.length_map]; exact hl,fun l hl=>?_,fun l hl=>?_,fun l hl=>?_,fun l hl=>?_,fun l hl=>?_⟩ <;> rcases key l hl with h | ⟨m,h,rfl⟩
  · have:=hA.rng l h
    omega
  · have:=hB.rng m h
    simp only [shl]
    omega
  · exact hA.ne l h
  · have:=hB.ne m h
    simp only [shl]
    omega
  · exact hA.day l h
  · exact hB.day m h
  · exact hA.rise l h
  · exact hB.rise m h
  · exact hA.err l h
  · exact hB.err m h
/-- A line that is levelled again, with a wider error. -/
def reLine (i:Nat) (by_:Int) (ls:List Line):List Line:=ls.set i { (ls.getD i default) with err:=(ls.getD i default).err+by_,rise:=(ls.getD i default).rise+by_ / 2 }
theorem re_mem {i:Nat} {y:Int} (hi:i<ls.length) {l:Line} (hl:l∈reLine i y ls):l∈ls∨∃ m∈ls,l={ m with err:=m.err+y,rise:=m.rise+y / 2 }:=by
  unfold reLine at hl
  rcases List.mem_or_eq_of_mem_set hl with h | h
  · exact .inl h
  · exact .inr ⟨_,by rw [List.getD_eq_getElem?_getD,List.getElem?_eq_getElem hi]; exact List.getElem_mem hi,h⟩
theorem re_agr {i:Nat} {y:Int} (hi:i<ls.length) (hy:0<=y) (hA:Agr ls):Agr (reLine i y ls):=by
  obtain ⟨h,f⟩:=hA
  refine ⟨h,fun l hl=>?_⟩
  rcases re_mem hi hl with hl | ⟨m,hm,rfl⟩
  · exact f l hl
  · have:=f m hm
    dsimp only
    omega
theorem re_rng {i:Nat} {y:Int} (hi:i<ls.length) (hA:Rng N ls):Rng N (reLine i y ls):=fun l hl=>by
  rcases re_mem hi hl with hl | ⟨m,hm,rfl⟩
  · exact hA l hl
  · exact hA m hm
end Go.Nm
section
set_option maxRecDepth 100000
set_option maxHeartbeats 16000000
namespace Go.Proofs.Ytigidakpcepdkaa
open Go Go.Nm
attribute [local irreducible] gd execOp SL SLD SLT WR
def zaH (aa r3:List Line):(Nat × (List Work) × (List Note))->M ((Nat × (List Work) × (List Note)) ⊕ ((List Work) × (List Note) × (List Note) × (List Work))):=fun (s,l,l2) =>
  bif decide ((s:Int)<((r3++(aa.take (Int.toNat (min 5 (aa.length:Int))))).length:Int)) then (
  M.grd (decide ((s:Int)<((r3++(aa.take (Int.toNat (min 5 (aa.length:Int))))).length:Int))) <|
  M.grd (decide ((-9223372036854775808:Int)<=((((r3++(aa.take (Int.toNat (min 5 (aa.length:Int))))).getD s default).rise)+1000))&&decide (((((r3++(aa.take (Int.toNat (min 5 (aa.length:Int))))).getD s default).rise)+1000)<=(9223372036854775807:Int))) <|
  M.grd (decide ((l.length+([(⟨([]),(0:Int),(0:Int)⟩:Work)]).length)*40<=140737488355328)) <|
  M.grd (decide ((l2.length+([(⟨(s:Int),(0:Int),((((r3++(aa.take (Int.toNat (min 5 (aa.length:Int))))).getD s default).rise)+1000:Int)⟩:Note)]).length)*24<=140737488355328)) <|
  M.pure (.inl (s+1,l++([(⟨([]),(0:Int),(0:Int)⟩:Work)]),l2++([(⟨(s:Int),(0:Int),((((r3++(aa.take (Int.toNat (min 5 (aa.length:Int))))).getD s default).rise)+1000:Int)⟩:Note)]))))
  else (
  M.pure (.inr (l,l2,l2,l)))
def zaG (aa:List Line) (l6:List Work):(Nat × (List Int) × (List Int))->M ((Nat × (List Int) × (List Int)) ⊕ ((List Int) × (List Int) × (List Int) × (List Int))):=fun (s2,l7,l8) =>
  bif decide ((s2:Int)<(l6.length:Int)) then (
  bif decide ((s2:Int)<((aa.take (Int.toNat (min 5 (aa.length:Int)))).length:Int)) then (
  M.grd (decide ((l7.length+([(s2:Int)]).length)*8<=140737488355328)) <|
  M.pure (.inl (s2+1,l7++([(s2:Int)]),l8)))
  else (
  M.grd (decide ((l8.length+([(s2:Int)]).length)*8<=140737488355328)) <|
  M.pure (.inl (s2+1,l7,l8++([(s2:Int)])))))
  else (
  M.pure (.inr (l7,l8,l8,l7)))
def zbx (ab:Int) (aa ac:List Line) (s3:Nat):M (((List Line) × Nat) ⊕ ((List Line) × (List Line))) :=
  M.grd (decide ((ac.length+([(⟨((((aa.take (Int.toNat (min 5 (aa.length:Int)))).getD s3 default).src)+ab:Int),((((aa.take (Int.toNat (min 5 (aa.length:Int)))).getD s3 default).dst)+ab:Int),(((aa.take (Int.toNat (min 5 (aa.length:Int)))).getD s3 default).day:Int),(((aa.take (Int.toNat (min 5 (aa.length:Int)))).getD s3 default).rise:Int),(((aa.take (Int.toNat (min 5 (aa.length:Int)))).getD s3 default).err:Int)⟩:Line)]).length)*40<=140737488355328)) <|
  M.pure (.inl (ac++([(⟨((((aa.take (Int.toNat (min 5 (aa.length:Int)))).getD s3 default).src)+ab:Int),((((aa.take (Int.toNat (min 5 (aa.length:Int)))).getD s3 default).dst)+ab:Int),(((aa.take (Int.toNat (min 5 (aa.length:Int)))).getD s3 default).day:Int),(((aa.take (Int.toNat (min 5 (aa.length:Int)))).getD s3 default).rise:Int),(((aa.take (Int.toNat (min 5 (aa.length:Int)))).getD s3 default).err:Int)⟩:Line)]),s3+1))
def zaJ (ab:Int) (aa:List Line):((List Line) × Nat)->M (((List Line) × Nat) ⊕ ((List Line) × (List Line))):=fun (ac,s3) =>
  bif decide ((s3:Int)<((aa.take (Int.toNat (min 5 (aa.length:Int)))).length:Int)) then (
  M.grd (decide ((s3:Int)<((aa.take (Int.toNat (min 5 (aa.length:Int)))).length:Int))) <|
  M.grd (decide ((-9223372036854775808:Int)<=((((aa.take (Int.toNat (min 5 (aa.length:Int)))).getD s3 default).src)+ab))&&decide (((((aa.take (Int.toNat (min 5 (aa.length:Int)))).getD s3 default).src)+ab)<=(9223372036854775807:Int))) <|
  M.grd (decide ((-9223372036854775808:Int)<=((((aa.take (Int.toNat (min 5 (aa.length:Int)))).getD s3 default).dst)+ab))&&decide (((((aa.take (Int.toNat (min 5 (aa.length:Int)))).getD s3 default).dst)+ab)<=(9223372036854775807:Int))) <|
  zbx ab aa ac s3)
  else (
  M.pure (.inr (ac,ac)))
def zav (which ae ac:Int) (aa:List Line) (ag:Int) (ah ao:List Line) (ap:Int) (ab:List Line):Int->M (Int ⊕ (Unit ⊕ Unit)):=fun a =>
  bif decide (a<(ac+ag)) then (
  M.bind (zaC (ac+ag) ao ac a) fun (ai,aj,am) =>
  M.bind (zaC ap ((ab.set (Int.toNat (which % ((aa.take (Int.toNat (min 5 (aa.length:Int)))).length:Int))) ({ (ab.getD (Int.toNat (which % ((aa.take (Int.toNat (min 5 (aa.length:Int)))).length:Int))) default) with err:=((ab.getD (Int.toNat (which % ((aa.take (Int.toNat (min 5 (aa.length:Int)))).length:Int))) default).err)+ae })).set (Int.toNat (which % ((aa.take (Int.toNat (min 5 (aa.length:Int)))).length:Int))) ({ ((ab.set (Int.toNat (which % ((aa.take (Int.toNat (min 5 (aa.length:Int)))).length:Int))) ({ (ab.getD (Int.toNat (which % ((aa.take (Int.toNat (min 5 (aa.length:Int)))).length:Int))) default) with err:=((ab.getD (Int.toNat (which % ((aa.take (Int.toNat (min 5 (aa.length:Int)))).length:Int))) default).err)+ae })).getD (Int.toNat (which % ((aa.take (Int.toNat (min 5 (aa.length:Int)))).length:Int))) default) with rise:=(((ab.set (Int.toNat (which % ((aa.take (Int.toNat (min 5 (aa.length:Int)))).length:Int))) ({ (ab.getD (Int.toNat (which % ((aa.take (Int.toNat (min 5 (aa.length:Int)))).length:Int))) default) with err:=((ab.getD (Int.toNat (which % ((aa.take (Int.toNat (min 5 (aa.length:Int)))).length:Int))) default).err)+ae })).getD (Int.toNat (which % ((aa.take (Int.toNat (min 5 (aa.length:Int)))).length:Int))) default).rise)+(ae / 2) })) ac a) fun (aq,au,av) =>
  M.grd (decide ((-9223372036854775808:Int)<=(a-ac))&&decide ((a-ac)<=(9223372036854775807:Int))) <|
  M.bind (zaC ag (ah.take (Int.toNat (min 5 (ah.length:Int)))) 0 (a-ac)) fun (aw,ax,ay) =>
  bif ((((!(decide ((⟨(ai:Int),(aj:Int)⟩:Span)=(⟨(aq:Int),(au:Int)⟩:Span))))||(!(decide ((⟨(ai:Int),(aj:Int)⟩:Span)=(⟨(aw:Int),(ax:Int)⟩:Span)))))||(am != av))||(am != ay)) then (
  M.pure (.inr (.inl ())))
  else (
  M.grd (decide ((-9223372036854775808:Int)<=(a+1))&&decide ((a+1)<=(9223372036854775807:Int))) <|
  M.pure (.inl (a+1))))
  else (
  M.pure (.inr (.inr ())))
def zbk (which ac ae:Int) (aa:List Line) (ai:Int) (aj:List Line) (l5:List Note) (l6:List Work) (am ao r0:List Int) (r4:List Line):M Bool :=
  M.bind (M.iter (zaJ ae aj) (r4,0)) fun (aw,ap) =>
  M.bind (zbH (ae+ai) ap) fun (au,ab) =>
  M.grd (decide ((0:Int)<=(which % ((aa.take (Int.toNat (min 5 (aa.length:Int)))).length:Int)))&&decide ((which % ((aa.take (Int.toNat (min 5 (aa.length:Int)))).length:Int))<(ab.length:Int))) <|
  M.grd (decide ((0:Int)<=ac)&&decide (ac<(256:Int))) <|
  M.grd (decide ((-9223372036854775808:Int)<=(((ab.getD (Int.toNat (which % ((aa.take (Int.toNat (min 5 (aa.length:Int)))).length:Int))) default).err)+ac))&&decide ((((ab.getD (Int.toNat (which % ((aa.take (Int.toNat (min 5 (aa.length:Int)))).length:Int))) default).err)+ac)<=(9223372036854775807:Int))) <|
  M.grd (decide ((0:Int)<=(which % ((aa.take (Int.toNat (min 5 (aa.length:Int)))).length:Int)))&&decide ((which % ((aa.take (Int.toNat (min 5 (aa.length:Int)))).length:Int))<((ab.set (Int.toNat (which % ((aa.take (Int.toNat (min 5 (aa.length:Int)))).length:Int))) ({ (ab.getD (Int.toNat (which % ((aa.take (Int.toNat (min 5 (aa.length:Int)))).length:Int))) default) with err:=((ab.getD (Int.toNat (which % ((aa.take (Int.toNat (min 5 (aa.length:Int)))).length:Int))) default).err)+ac })).length:Int))) <|
  M.grd (decide (0<=ac)&&decide (ac<=(9223372036854775807:Int))&&decide ((0:Int)<2)) <|
  M.grd (decide ((-9223372036854775808:Int)<=((((ab.set (Int.toNat (which % ((aa.take (Int.toNat (min 5 (aa.length:Int)))).length:Int))) ({ (ab.getD (Int.toNat (which % ((aa.take (Int.toNat (min 5 (aa.length:Int)))).length:Int))) default) with err:=((ab.getD (Int.toNat (which % ((aa.take (Int.toNat (min 5 (aa.length:Int)))).length:Int))) default).err)+ac })).getD (Int.toNat (which % ((aa.take (Int.toNat (min 5 (aa.length:Int)))).length:Int))) default).rise)+(ac / 2)))&&decide (((((ab.set (Int.toNat (which % ((aa.take (Int.toNat (min 5 (aa.length:Int)))).length:Int))) ({ (ab.getD (Int.toNat (which % ((aa.take (Int.toNat (min 5 (aa.length:Int)))).length:Int))) default) with err:=((ab.getD (Int.toNat (which % ((aa.take (Int.toNat (min 5 (aa.length:Int)))).length:Int))) default).err)+ac })).getD (Int.toNat (which % ((aa.take (Int.toNat (min 5 (aa.length:Int)))).length:Int))) default).rise)+(ac / 2))<=(9223372036854775807:Int))) <|
  M.bind (zaK (l6++([(⟨ao,(0:Int),(0:Int)⟩:Work),(⟨am,(0:Int),(0:Int)⟩:Work)])) ([which % ((aa.take (Int.toNat (min 5 (aa.length:Int)))).length:Int)])) fun (av,ag) =>
  M.grd (decide ((0:Int)<=(which % ((aa.take (Int.toNat (min 5 (aa.length:Int)))).length:Int)))&&decide ((which % ((aa.take (Int.toNat (min 5 (aa.length:Int)))).length:Int))<(((ab.set (Int.toNat (which % ((aa.take (Int.toNat (min 5 (aa.length:Int)))).length:Int))) ({ (ab.getD (Int.toNat (which % ((aa.take (Int.toNat (min 5 (aa.length:Int)))).length:Int))) default) with err:=((ab.getD (Int.toNat (which % ((aa.take (Int.toNat (min 5 (aa.length:Int)))).length:Int))) default).err)+ac })).set (Int.toNat (which % ((aa.take (Int.toNat (min 5 (aa.length:Int)))).length:Int))) ({ ((ab.set (Int.toNat (which % ((aa.take (Int.toNat (min 5 (aa.length:Int)))).length:Int))) ({ (ab.getD (Int.toNat (which % ((aa.take (Int.toNat (min 5 (aa.length:Int)))).length:Int))) default) with err:=((ab.getD (Int.toNat (which % ((aa.take (Int.toNat (min 5 (aa.length:Int)))).length:Int))) default).err)+ac })).getD (Int.toNat (which % ((aa.take (Int.toNat (min 5 (aa.length:Int)))).length:Int))) default) with rise:=(((ab.set (Int.toNat (which % ((aa.take (Int.toNat (min 5 (aa.length:Int)))).length:Int))) ({ (ab.getD (Int.toNat (which % ((aa.take (Int.toNat (min 5 (aa.length:Int)))).length:Int))) default) with err:=((ab.getD (Int.toNat (which % ((aa.take (Int.toNat (min 5 (aa.length:Int)))).length:Int))) default).err)+ac })).getD (Int.toNat (which % ((aa.take (Int.toNat (min 5 (aa.length:Int)))).length:Int))) default).rise)+(ac / 2) })).length:Int))) <|
  M.grd (decide ((-9223372036854775808:Int)<=(((((ab.set (Int.toNat (which % ((aa.take (Int.toNat (min 5 (aa.length:Int)))).length:Int))) ({ (ab.getD (Int.toNat (which % ((aa.take (Int.toNat (min 5 (aa.length:Int)))).length:Int))) default) with err:=((ab.getD (Int.toNat (which % ((aa.take (Int.toNat (min 5 (aa.length:Int)))).length:Int))) default).err)+ac })).set (Int.toNat (which % ((aa.take (Int.toNat (min 5 (aa.length:Int)))).length:Int))) ({ ((ab.set (Int.toNat (which % ((aa.take (Int.toNat (min 5 (aa.length:Int)))).length:Int))) ({ (ab.getD (Int.toNat (which % ((aa.take (Int.toNat (min 5 (aa.length:Int)))).length:Int))) default) with err:=((ab.getD (Int.toNat (which % ((aa.take (Int.toNat (min 5 (aa.length:Int)))).length:Int))) default).err)+ac })).getD (Int.toNat (which % ((aa.take (Int.toNat (min 5 (aa.length:Int)))).length:Int))) default) with rise:=(((ab.set (Int.toNat (which % ((aa.take (Int.toNat (min 5 (aa.length:Int)))).length:Int))) ({ (ab.getD (Int.toNat (which % ((aa.take (Int.toNat (min 5 (aa.length:Int)))).length:Int))) default) with err:=((ab.getD (Int.toNat (which % ((aa.take (Int.toNat (min 5 (aa.length:Int)))).length:Int))) default).err)+ac })).getD (Int.toNat (which % ((aa.take (Int.toNat (min 5 (aa.length:Int)))).length:Int))) default).rise)+(ac / 2) })).getD (Int.toNat (which % ((aa.take (Int.toNat (min 5 (aa.length:Int)))).length:Int))) default).rise)+1000))&&decide ((((((ab.set (Int.toNat (which % ((aa.take (Int.toNat (min 5 (aa.length:Int)))).length:Int))) ({ (ab.getD (Int.toNat (which % ((aa.take (Int.toNat (min 5 (aa.length:Int)))).length:Int))) default) with err:=((ab.getD (Int.toNat (which % ((aa.take (Int.toNat (min 5 (aa.length:Int)))).length:Int))) default).err)+ac })).set (Int.toNat (which % ((aa.take (Int.toNat (min 5 (aa.length:Int)))).length:Int))) ({ ((ab.set (Int.toNat (which % ((aa.take (Int.toNat (min 5 (aa.length:Int)))).length:Int))) ({ (ab.getD (Int.toNat (which % ((aa.take (Int.toNat (min 5 (aa.length:Int)))).length:Int))) default) with err:=((ab.getD (Int.toNat (which % ((aa.take (Int.toNat (min 5 (aa.length:Int)))).length:Int))) default).err)+ac })).getD (Int.toNat (which % ((aa.take (Int.toNat (min 5 (aa.length:Int)))).length:Int))) default) with rise:=(((ab.set (Int.toNat (which % ((aa.take (Int.toNat (min 5 (aa.length:Int)))).length:Int))) ({ (ab.getD (Int.toNat (which % ((aa.take (Int.toNat (min 5 (aa.length:Int)))).length:Int))) default) with err:=((ab.getD (Int.toNat (which % ((aa.take (Int.toNat (min 5 (aa.length:Int)))).length:Int))) default).err)+ac })).getD (Int.toNat (which % ((aa.take (Int.toNat (min 5 (aa.length:Int)))).length:Int))) default).rise)+(ac / 2) })).getD (Int.toNat (which % ((aa.take (Int.toNat (min 5 (aa.length:Int)))).length:Int))) default).rise)+1000)<=(9223372036854775807:Int))) <|
  M.grd (decide ((l5.length+([(⟨which % ((aa.take (Int.toNat (min 5 (aa.length:Int)))).length:Int),(1:Int),(((((ab.set (Int.toNat (which % ((aa.take (Int.toNat (min 5 (aa.length:Int)))).length:Int))) ({ (ab.getD (Int.toNat (which % ((aa.take (Int.toNat (min 5 (aa.length:Int)))).length:Int))) default) with err:=((ab.getD (Int.toNat (which % ((aa.take (Int.toNat (min 5 (aa.length:Int)))).length:Int))) default).err)+ac })).set (Int.toNat (which % ((aa.take (Int.toNat (min 5 (aa.length:Int)))).length:Int))) ({ ((ab.set (Int.toNat (which % ((aa.take (Int.toNat (min 5 (aa.length:Int)))).length:Int))) ({ (ab.getD (Int.toNat (which % ((aa.take (Int.toNat (min 5 (aa.length:Int)))).length:Int))) default) with err:=((ab.getD (Int.toNat (which % ((aa.take (Int.toNat (min 5 (aa.length:Int)))).length:Int))) default).err)+ac })).getD (Int.toNat (which % ((aa.take (Int.toNat (min 5 (aa.length:Int)))).length:Int))) default) with rise:=(((ab.set (Int.toNat (which % ((aa.take (Int.toNat (min 5 (aa.length:Int)))).length:Int))) ({ (ab.getD (Int.toNat (which % ((aa.take (Int.toNat (min 5 (aa.length:Int)))).length:Int))) default) with err:=((ab.getD (Int.toNat (which % ((aa.take (Int.toNat (min 5 (aa.length:Int)))).length:Int))) default).err)+ac })).getD (Int.toNat (which % ((aa.take (Int.toNat (min 5 (aa.length:Int)))).length:Int))) default).rise)+(ac / 2) })).getD (Int.toNat (which % ((aa.take (Int.toNat (min 5 (aa.length:Int)))).length:Int))) default).rise)+1000:Int)⟩:Note)]).length)*24<=140737488355328)) <|
  M.bind (zay (l6++([(⟨ao,(0:Int),(0:Int)⟩:Work),(⟨am,(0:Int),(0:Int)⟩:Work)])) (l5++([(⟨which % ((aa.take (Int.toNat (min 5 (aa.length:Int)))).length:Int),(1:Int),(((((ab.set (Int.toNat (which % ((aa.take (Int.toNat (min 5 (aa.length:Int)))).length:Int))) ({ (ab.getD (Int.toNat (which % ((aa.take (Int.toNat (min 5 (aa.length:Int)))).length:Int))) default) with err:=((ab.getD (Int.toNat (which % ((aa.take (Int.toNat (min 5 (aa.length:Int)))).length:Int))) default).err)+ac })).set (Int.toNat (which % ((aa.take (Int.toNat (min 5 (aa.length:Int)))).length:Int))) ({ ((ab.set (Int.toNat (which % ((aa.take (Int.toNat (min 5 (aa.length:Int)))).length:Int))) ({ (ab.getD (Int.toNat (which % ((aa.take (Int.toNat (min 5 (aa.length:Int)))).length:Int))) default) with err:=((ab.getD (Int.toNat (which % ((aa.take (Int.toNat (min 5 (aa.length:Int)))).length:Int))) default).err)+ac })).getD (Int.toNat (which % ((aa.take (Int.toNat (min 5 (aa.length:Int)))).length:Int))) default) with rise:=(((ab.set (Int.toNat (which % ((aa.take (Int.toNat (min 5 (aa.length:Int)))).length:Int))) ({ (ab.getD (Int.toNat (which % ((aa.take (Int.toNat (min 5 (aa.length:Int)))).length:Int))) default) with err:=((ab.getD (Int.toNat (which % ((aa.take (Int.toNat (min 5 (aa.length:Int)))).length:Int))) default).err)+ac })).getD (Int.toNat (which % ((aa.take (Int.toNat (min 5 (aa.length:Int)))).length:Int))) default).rise)+(ac / 2) })).getD (Int.toNat (which % ((aa.take (Int.toNat (min 5 (aa.length:Int)))).length:Int))) default).rise)+1000:Int)⟩:Note)])) ([(⟨(l6.length:Int),(r0.getD (l6.length) 0:Int)⟩:Pub),(⟨((l6.length:Int)+1:Int),(r0.getD (Int.toNat ((l6.length:Int)+1)) 0:Int)⟩:Pub)])) fun (aq,ah) =>
  M.bind (M.opt (!((ag != 0)||(ah != 0))) (zaf av ([which % ((aa.take (Int.toNat (min 5 (aa.length:Int)))).length:Int),(l6.length:Int)])) false) fun r5 =>
  M.bind (M.opt (!(((ag != 0)||(ah != 0))||(!r5))) (zaa aq 1) false) fun r6 =>
  M.bind (M.opt (!((((ag != 0)||(ah != 0))||(!r5))||r6)) (zaa aq 0) false) fun r7 =>
  bif (((((ag != 0)||(ah != 0))||(!r5))||r6)||(r7 != (decide (0<(ac / 2))))) then (
  M.pure false)
  else (
  M.bind (M.iter (zav which ac ae aa ai aj ap au ab) ae) fun x_=>match x_ with
  | (.inl (_:Unit))=>(
  M.pure false)
  | (.inr (_:Unit))=>(
  M.bind (zcr) fun r8 =>
  M.pure r8))
def zbA (which ai ag:Int) (aa:List Line) (ah:Int) (ab:List Line):M Bool :=
  M.bind (zaw (aa.take (Int.toNat (min 5 (aa.length:Int))))) fun r3 =>
  M.grd (decide ((r3.length+(ab.take (Int.toNat (min 5 (ab.length:Int)))).length)*40<=140737488355328)) <|
  M.bind (M.iter (zaH ab r3) (0,[],[])) fun (l3,l4,l5,l6) =>
  M.bind (M.iter (zaG aa l6) (0,[],[])) fun (l9,am,ac,ae) =>
  M.grd (decide ((-9223372036854775808:Int)<=((l6.length:Int)+1))&&decide (((l6.length:Int)+1)<=(9223372036854775807:Int))) <|
  M.grd (decide ((l6.length+([(⟨ae,(0:Int),(0:Int)⟩:Work),(⟨ac,(0:Int),(0:Int)⟩:Work)]).length)*40<=140737488355328)) <|
  M.bind (zaA (l6++([(⟨ae,(0:Int),(0:Int)⟩:Work),(⟨ac,(0:Int),(0:Int)⟩:Work)])) l5) fun (r0,aj) =>
  bif ((aj != 0)||((r0.length:Int) != ((l6++([(⟨ae,(0:Int),(0:Int)⟩:Work),(⟨ac,(0:Int),(0:Int)⟩:Work)])).length:Int))) then (
  M.pure false)
  else (
  M.grd (decide ((0:Int)<=(l6.length:Int))&&decide ((l6.length:Int)<(r0.length:Int))) <|
  M.grd (decide ((0:Int)<=((l6.length:Int)+1))&&decide (((l6.length:Int)+1)<(r0.length:Int))) <|
  M.grd (decide ((0:Int)<=which)&&decide (which<(256:Int))) <|
  M.grd (decide ((0:Int)<=which)&&decide ((0:Int)<((aa.take (Int.toNat (min 5 (aa.length:Int)))).length:Int))) <|
  M.grd (decide ((-9223372036854775808:Int)<=(ag+ah))&&decide ((ag+ah)<=(9223372036854775807:Int))) <|
  M.bind (zaw (aa.take (Int.toNat (min 5 (aa.length:Int))))) fun r4 =>
  zbk which ai ag aa ah ab l5 l6 ac ae r0 r4)
def zbt (one other:List UInt8) (which ac:Int):M Bool :=
  M.bind (zbG one) fun (r1,r2) =>
  M.bind (za5 one r1 r2 4) fun (ae,aa,aj,q1,q2) =>
  M.bind (zbG other) fun (ag,ah) =>
  M.bind (za5 other ag ah 4) fun (ai,ab,am,ao,ap) =>
  M.grd (decide ((0:Int)<=(min 5 (ab.length:Int)))&&decide ((min 5 (ab.length:Int))<=(ab.length:Int))) <|
  M.grd (decide ((0:Int)<=(min 5 (aa.length:Int)))&&decide ((min 5 (aa.length:Int))<=(aa.length:Int))) <|
  zbA which ac ae aa ai ab
theorem zdJ {R:List Chunk} {bT:Cells} {bC:Value} {bU:Cells} {bD:Value} (one:List UInt8) (other:List UInt8) (which:Int) (ae:Int) (bV:Reads R bT) (bW:Sl bT bC one) (bX:Reads R bU) (bY:Sl bU bD other) {r:Bool} (hM:(zbt one other which ae).Ends r) (w:World) (H:St w w [] R):Ret Try.prog 3 #[bC,bD,.int .u8 which,.int .u8 ae] w fun v w'=>∃ (y0:Bool),y0=r/\v=B y0/\St w w' [] R:=by
 refine ret_of_W Try.func3 rfl rfl rfl ?_;refine kg 7 ?_;obtain ⟨d4,cp,hM⟩:=M.e_bind hM;refine s_call cf5 [bC] rfl (zdc one (bV.app _) bW cp _ (H.gt 0)) ?_
 rintro vq d5 ⟨r1,r2,cq,rfl,hvq,ai⟩
 subst vq;(try dsimp only at hM);replace H:=H.bk ai;clear ai;obtain ⟨d6,cr,hM⟩:=M.e_bind hM;refine s_call cf4 [Pq cq,I 4] rfl (zcM one r1 r2 4 (bV.app _) bW cr _ (H.gt 0)) ?_
 rintro vq d7 ⟨ag,aa,d8,q1,q2,aC,d9,rfl,hvq,ai⟩
 subst vq;(try dsimp only at hM);replace H:=H.bk ai;clear ai;refine kg 3 ?_;refine t_alloc (cs:=[I 0,.slice none 0 0]) H Al25 rfl ?_;intro ao ea H;refine t_sw 0 0 [I ag,aC] (.agg #[I ag,aC]) H rfl rfl Sz25 rfl rfl rfl (by simp only [List.all_cons,List.all_nil,Bool.true_and,Bool.and_true,Sl.oc (H.os 1)]; try rfl) ?_;intro eb H;refine kg 2 ?_;replace H:=H.pk [0,1];refine kg 3 ?_;obtain ⟨ec,ct,hM⟩:=M.e_bind hM;refine s_call cf5 [bD] rfl (zdc other (bX.app _) bY ct _ (H.gt 2)) ?_
 rintro vq ee ⟨cu,cv,cw,rfl,hvq,ai⟩
 subst vq;(try dsimp only at hM);replace H:=H.bk ai;clear ai;obtain ⟨ef,cx,hM⟩:=M.e_bind hM;refine s_call cf4 [Pq cw,I 4] rfl (zcM other cu cv 4 (bX.app _) bY cx _ (H.gt 2)) ?_
 rintro vq eg ⟨ah,ab,eh,ej,ek,az,el,rfl,hvq,ai⟩
 subst vq;(try dsimp only at hM);replace H:=H.bk ai;clear ai;refine kg 3 ?_;refine t_alloc (cs:=[I 0,.slice none 0 0]) H Al25 rfl ?_;intro ap em H;refine t_sw 0 0 [I ah,az] (.agg #[I ah,az]) H rfl rfl Sz25 rfl rfl rfl (by simp only [List.all_cons,List.all_nil,Bool.true_and,Bool.and_true,Sl.oc (H.os 1)]; try rfl) ?_;intro eo H;refine kg 2 ?_;replace H:=H.pk [0,1,4,5]
 have ep:=((H.os 1)).len_le
 obtain ⟨eq,hM⟩:=M.e_gd hM
 obtain ⟨aw,cy,aX⟩:=sl_hi T23.und T23.size (H.os 1) (j:=min 5 (ab.length:Int)) (by omega) (by omega)
 replace aX:Sl _ aw (ab.take (Int.toNat (min 5 (ab.length:Int)))):=aX
 have er:=((H.os 3)).len_le
 obtain ⟨eu,hM⟩:=M.e_gd hM
 obtain ⟨av,bZ,aS⟩:=sl_hi T23.und T23.size (H.os 3) (j:=min 5 (aa.length:Int)) (by omega) (by omega)
 replace aS:Sl _ av (aa.take (Int.toNat (min 5 (aa.length:Int)))):=aS
 refine W.seqJ (fun σ W=>∃ (ρ:Env),σ=upds ρ [(2,.int .u8 which),(3,.int .u8 ae),(9,Pq ao),(11,Pq ap)]/\(zbA which ae ag aa ah ab).Ends r/\St w W [cBlk ap [I ah,aw] 25,cOwn (α:=Line) 35 az ab,cBlk ao [I ag,av] 25,cOwn (α:=Line) 35 aC aa] R) ?_ ?_
 ·skip
  refine W.drawTZ (fun W=>St w W [cBlk ap [I ah,az] 25,cOwn (α:=Line) 35 az ab,cOwn (α:=Line) 35 aC aa] R) (.q 0 (.q 2 (.q 7 (.q 8 (.q 9 (.q 10 (.q 11 (.q 12 (.q 13 (.l2 1 (.l 3 (.q 4 (.q 5 (.q 6 (.q 14 (.l 15 (.q 16 .nil))))))) 3 (.q 4 (.q 5 (.l 1 (.q 6 (.q 14 (.l 15 (.q 16 .nil))))))))))))))))) 17 17 mixed (by decide +kernel) rfl ?_;intro ey aB;replace H:=H.ext aB;clear aB
  refine ⟨(H.pk [0,1,3]),?_⟩
  refine tz_q rfl (fun w' H=>x_fa (v:=Oq ao 1) rfl (fa_blk (o:=0) Fd25_1 Sz23)) ?_;refine tz_q rfl (fun w' H=>x_fa (v:=Oq ao 1) rfl (fa_blk (o:=0) Fd25_1 Sz23)) ?_;refine tz_q rfl (fun w' H=>x_fa (v:=Oq ap 1) rfl (fa_blk (o:=0) Fd25_1 Sz23)) ?_;refine tz_q rfl (fun w' H=>x_ld (v:=az) rfl (ldb_sc Sc23 (H.bl 0) rfl)) ?_;refine tz_q rfl (fun w' H=>x_fa (v:=Oq ap 1) rfl (fa_blk (o:=0) Fd25_1 Sz23)) ?_;refine tz_q rfl (fun w' H=>x_ld (v:=az) rfl (ldb_sc Sc23 (H.bl 0) rfl)) ?_
  have ez:=((H.os 1)).len_le
  refine tz_q rfl (fun w' H=>x_lenS T23.und rfl (H.os 1)) ?_;refine tz_q rfl (fun w' H=>x_min (kd:=.i64) (a:=5) (b:=(ab.length:Int)) rfl rfl) ?_;refine tz_q rfl (fun w' H=>x_sl (v:=az) (u:=aw) (lo':=none) (hi':=some (I (min 5 (ab.length:Int)))) (mx':=none) rfl rfl rfl rfl (cy _)) ?_;refine tz_l2 rfl rfl ?_ ?_
  ·skip
   refine kg 1 ?_
   refine s_nil ⟨(H.pk [0,1,3]),?_⟩
   refine tz_l rfl ?_;refine kg 1 ?_
   refine s_nil ⟨(H.pk [0,1,3]),?_⟩
   have eA:=((H.os 3)).len_le
   refine tz_q rfl (fun w' H=>x_lenS T23.und rfl (H.os 2)) ?_;refine tz_q rfl (fun w' H=>x_min (kd:=.i64) (a:=5) (b:=(aa.length:Int)) rfl rfl) ?_;refine tz_q rfl (fun w' H=>x_sl (v:=aC) (u:=av) (lo':=none) (hi':=some (I (min 5 (aa.length:Int)))) (mx':=none) rfl rfl rfl rfl (bZ _)) ?_;refine tz_q rfl (fun w' H=>x_fa (v:=Oq ao 1) rfl (fa_blk (o:=0) Fd25_1 Sz23)) ?_;refine tz_l rfl ?_;refine t_sw 2 1 [av] av H rfl rfl Sz23 (Sl.cells aS) rfl rfl (by simp only [List.all_cons,List.all_nil,Bool.true_and,Bool.and_true,Sl.oc aS]; try rfl) ?_;intro eB H
   refine s_nil ⟨(H.pk [0,1,3]),?_⟩
   refine tz_q rfl (fun w' H=>x_fa (v:=Oq ap 1) rfl (fa_blk (o:=0) Fd25_1 Sz23)) ?_;refine tz_nil rfl ?_;refine t_sw 0 1 [aw] aw H rfl rfl Sz23 (Sl.cells aX) rfl rfl (by simp only [List.all_cons,List.all_nil,Bool.true_and,Bool.and_true,Sl.oc aX]; try rfl) ?_;intro eC H
   refine s_nil ⟨trivial,?_⟩
   exact ⟨_,upds_of _ _ ⟨rfl,rfl,rfl,rfl,trivial⟩,hM,H⟩
  skip
  refine kg 1 ?_
  refine s_nil ⟨(H.pk [0,1,3]),?_⟩
  have eD:=((H.os 3)).len_le
  refine tz_q rfl (fun w' H=>x_lenS T23.und rfl (H.os 2)) ?_;refine tz_q rfl (fun w' H=>x_min (kd:=.i64) (a:=5) (b:=(aa.length:Int)) rfl rfl) ?_;refine tz_l rfl ?_;refine kg 1 ?_
  refine s_nil ⟨(H.pk [0,1,3]),?_⟩
  refine tz_q rfl (fun w' H=>x_sl (v:=aC) (u:=av) (lo':=none) (hi':=some (I (min 5 (aa.length:Int)))) (mx':=none) rfl rfl rfl rfl (bZ _)) ?_;refine tz_q rfl (fun w' H=>x_fa (v:=Oq ao 1) rfl (fa_blk (o:=0) Fd25_1 Sz23)) ?_;refine tz_l rfl ?_;refine t_sw 2 1 [av] av H rfl rfl Sz23 (Sl.cells aS) rfl rfl (by simp only [List.all_cons,List.all_nil,Bool.true_and,Bool.and_true,Sl.oc aS]; try rfl) ?_;intro eE H
  refine s_nil ⟨(H.pk [0,1,3]),?_⟩
  refine tz_q rfl (fun w' H=>x_fa (v:=Oq ap 1) rfl (fa_blk (o:=0) Fd25_1 Sz23)) ?_;refine tz_nil rfl ?_;refine t_sw 0 1 [aw] aw H rfl rfl Sz23 (Sl.cells aX) rfl rfl (by simp only [List.all_cons,List.all_nil,Bool.true_and,Bool.and_true,Sl.oc aX]; try rfl) ?_;intro eF H
  refine s_nil ⟨trivial,?_⟩
  exact ⟨_,upds_of _ _ ⟨rfl,rfl,rfl,rfl,trivial⟩,hM,H⟩
 rintro _ eG ⟨ρ,rfl,hM,H⟩
 unfold zbA at hM
 refine kg 10 ?_;refine W.draw (fun W=>St w W [cBlk ap [I ah,aw] 25,cOwn (α:=Line) 35 az ab,cBlk ao [I ag,av] 25,cOwn (α:=Line) 35 aC aa] R) [(0,true),(1,true),(3,true),(4,true),(7,true),(2,false),(5,false),(6,false)] mixed (by decide +kernel) rfl ?_;intro eH aB;replace H:=H.ext aB;clear aB
 refine ⟨(H.pk [0,1,2,3]),?_⟩
 refine kg 5 ?_;refine d_l rfl ?_;obtain ⟨eI,cz,hM⟩:=M.e_bind hM;refine s_call cf6 [av] rfl (zby (aa.take (Int.toNat (min 5 (aa.length:Int)))) (rdo 3) aS cz _ (H.gt 4)) ?_
 rintro vq eJ ⟨r3,eK,rfl,hvq,ai⟩
 subst vq;(try dsimp only at hM);replace H:=H.bk ai;clear ai
 have eL:=Sl.cells (H.os 0)
 have eM:=Sl.oc (H.os 0)
 refine s_nil ⟨(H.pk [1,2,3,4]),?_⟩
 refine d_l rfl ?_;obtain ⟨eN,hM⟩:=M.e_gd hM;refine t_app (α:=Line) (k:=0) (l:=r3) (l2:=ab.take (Int.toNat (min 5 (ab.length:Int)))) (l':=r3++(ab.take (Int.toNat (min 5 (ab.length:Int))))) (vy:=aw) T23 rfl H rfl rfl rfl aX (H.ol 2) (rfl) (by first | omega | (simp only [List.length_nil] at *; omega)) ?_;intro bp eO H;replace H:=H.nf
 have eP:=Sl.cells (H.os 0)
 have eQ:=Sl.oc (H.os 0)
 refine s_nil ⟨(H.pk [1,2,3,4]),?_⟩
 refine d_l rfl ?_
 have eS:=((H.os 0)).len_le
 refine kg 1 ?_
 refine s_nil ⟨(H.pk [1,2,3,4]),?_⟩
 refine kg 2 ?_
 obtain ⟨b7,H⟩:=H.emptyE
 replace H:=H.nilOwn (α:=Raw 2) 37
 have cA:RepR (α:=Work) (n:=2) b7.cells [] []:=.nil
 replace H:=H.nilOwn (α:=Note) 39
 obtain ⟨cB,bE,cC⟩:=M.e_bind hM
 obtain ⟨bF,bE⟩:=M.e_iter bE
 refine W.loop (fun m σ W=>∃ (s:Nat) (l:List Work) (l2:List Note) (bj:Value) (aJ:Value) (ax:List (Raw 2)) (B_l:Base) (ρ:Env),σ=upds ρ [(2,.int .u8 which),(3,.int .u8 ae),(9,Pq ao),(11,Pq ap),(13,bj),(14,aJ),(73,bp),(74,I ((r3++(ab.take (Int.toNat (min 5 (ab.length:Int))))).length:Int)),(75,I (s:Int))]/\M.iterN (zaH ab r3) m (s,l,l2)=some cB/\St w W [cOwn (α:=Note) 39 aJ l2,cOwn (α:=Raw 2) 37 bj ax,cRo B_l,cOwn (α:=Line) 35 bp (r3++(ab.take (Int.toNat (min 5 (ab.length:Int))))),cBlk ap [I ah,aw] 25,cOwn (α:=Line) 35 az ab,cBlk ao [I ag,av] 25,cOwn (α:=Line) 35 aC aa] R/\RepR (α:=Work) B_l.cells ax l) ?_ ?_
 ·exact ⟨_,0,[],[],(.slice none 0 0),(.slice none 0 0),[],b7,_,upds_of _ _ ⟨rfl,rfl,rfl,rfl,rfl,rfl,rfl,rfl,rfl,trivial⟩,bE,H,cA⟩
 rintro eT σ eU ⟨s,l,l2,bj,aJ,ax,B_l,ρ,rfl,b8,H,ay⟩
 obtain ⟨bG,bH,eV,hM,br⟩:=M.e_iterN b8
 simp only [zaH] at hM
 clear b8;refine kg 5 ?_
 refine W.cond (decide ((s:Int)<((r3++(ab.take (Int.toNat (min 5 (ab.length:Int))))).length:Int))) rfl (fun a7=>?_) (fun a7=>?_)
 ·replace hM:=M.e_t hM a7
  replace a7:=dI a7
  obtain ⟨eW,hM⟩:=M.e_gd hM;refine kg 8 ?_;refine t_alloc (cs:=[I 0,I 0,I 0,I 0,I 0]) H Al35 rfl ?_;intro cD eX H;refine kg 1 ?_;refine t_sw 0 0 [I (((r3++(ab.take (Int.toNat (min 5 (ab.length:Int))))).getD s default).src),I (((r3++(ab.take (Int.toNat (min 5 (ab.length:Int))))).getD s default).dst),I (((r3++(ab.take (Int.toNat (min 5 (ab.length:Int))))).getD s default).day),I (((r3++(ab.take (Int.toNat (min 5 (ab.length:Int))))).getD s default).rise),I (((r3++(ab.take (Int.toNat (min 5 (ab.length:Int))))).getD s default).err)] (.agg #[I (((r3++(ab.take (Int.toNat (min 5 (ab.length:Int))))).getD s default).src),I (((r3++(ab.take (Int.toNat (min 5 (ab.length:Int))))).getD s default).dst),I (((r3++(ab.take (Int.toNat (min 5 (ab.length:Int))))).getD s default).day),I (((r3++(ab.take (Int.toNat (min 5 (ab.length:Int))))).getD s default).rise),I (((r3++(ab.take (Int.toNat (min 5 (ab.length:Int))))).getD s default).err)]) H rfl rfl Sz35 rfl rfl rfl rfl ?_;intro eY H;refine s_nil ?_;refine W.drawT (fun W=>St w W [cBlk cD [I (((r3++(ab.take (Int.toNat (min 5 (ab.length:Int))))).getD s default).src),I (((r3++(ab.take (Int.toNat (min 5 (ab.length:Int))))).getD s default).dst),I (((r3++(ab.take (Int.toNat (min 5 (ab.length:Int))))).getD s default).day),I (((r3++(ab.take (Int.toNat (min 5 (ab.length:Int))))).getD s default).rise),I (((r3++(ab.take (Int.toNat (min 5 (ab.length:Int))))).getD s default).err)] 35,cRo B_l,cOwn (α:=Line) 35 bp (r3++(ab.take (Int.toNat (min 5 (ab.length:Int))))),cBlk ap [I ah,aw] 25,cOwn (α:=Line) 35 az ab,cBlk ao [I ag,av] 25,cOwn (α:=Line) 35 aC aa] R) (.q 0 (.q 1 (.q 4 (.q 5 (.q 6 (.q 7 (.q 8 (.q 9 (.l2 2 (.l2 3 (.l 10 (.l 11 (.q 12 (.q 13 .nil)))) 10 (.l 3 (.l 11 (.q 12 (.q 13 .nil))))) 10 (.l 2 (.l 3 (.l 11 (.q 12 (.q 13 .nil)))))))))))))) mixed (by decide +kernel) rfl ?_;intro eZ aB;replace H:=H.ext aB;clear aB
  refine ⟨(H.pk [0,3,4,5,6,7,8]),?_⟩
  refine kg 1 ?_;refine t_q rfl (fun w' H=>x_bld (ps:=[]) (zs:=[.slice none 0 0,I 0,I 0]) (L':=[.slice none 0 0,I 0,I 0]) rfl Try.underlying37 Al37 rfl (Bd37 Try.underlying37) (.nil)) ?_;obtain ⟨e7,hM⟩:=M.e_gd hM;refine kg 5 ?_;refine t_q rfl (fun w' H=>x_bld (ps:=[(0,I (s:Int)),(2,I ((((r3++(ab.take (Int.toNat (min 5 (ab.length:Int))))).getD s default).rise)+1000))]) (zs:=[I 0,I 0,I 0]) (L':=[I (s:Int),I 0,I ((((r3++(ab.take (Int.toNat (min 5 (ab.length:Int))))).getD s default).rise)+1000)]) rfl Try.underlying39 Al39 rfl (Bd39 Try.underlying39) (.cons (cs:=[I (s:Int)]) rfl rfl rfl rfl rfl<|.cons (cs:=[I ((((r3++(ab.take (Int.toNat (min 5 (ab.length:Int))))).getD s default).rise)+1000)]) rfl rfl rfl rfl rfl<|.nil)) ?_;obtain ⟨e8,hM⟩:=M.e_gd hM;obtain ⟨e9,hM⟩:=M.e_gd hM;refine t_l2 rfl rfl ?_ ?_
  ·skip
   obtain ⟨bI,H⟩:=H.emptyE
   obtain ⟨aU,b9⟩:∃ r:Raw 2,r.cs=[.slice none 0 0,I 0,I 0]:=⟨Raw.of [.slice none 0 0,I 0,I 0] rfl rfl,rfl⟩
   have ca:RepR (α:=Work) bI.cells [aU] [(⟨([]),(0:Int),(0:Int)⟩:Work)]:=.cons (by rw [b9]; exact ⟨_,rfl,(Sl.nil _)⟩)<|.nil
   refine t_bs (α:=Raw 2) T31 [.agg #[.slice none 0 0,I 0,I 0]] [aU] H rfl (.cons (by rw [show (Flat.enc aU:List Value)=aU.cs from rfl,b9]; rfl) (Flat.rep_enc _ _)<|.nil) rfl rfl rfl ?_;intro cb fa H;replace H:=H.nf
   have fb:=Sl.cells (H.os 0)
   have fd:=Sl.oc (H.os 0)
   have fe:=Sl.cells (H.os 3)
   have ff:=Sl.oc (H.os 3)
   have fg:=Sl.cells (H.os 4)
   have fh:=Sl.oc (H.os 4)
   refine s_nil ⟨(H.pk [2,5,6,7,8,9,10]),?_⟩
   refine t_l2 rfl rfl ?_ ?_
   ·skip
    have bt:=ca
    obtain ⟨bm,H,cE,cF⟩:=H.joinE (i:=5) (j:=1) rfl rfl
    replace ay:=ay.mono cE
    replace bt:=bt.mono cF
    have cG:=ay.app bt
    refine t_app (α:=Raw 2) (k:=5) (l:=ax) (l2:=[aU]) (l':=ax++([aU])) (vy:=cb) T31 rfl H rfl rfl rfl (H.os 1) (H.ol 1) (rfl) (by have a_:=ay.len; have b_:=bt.len; (try simp only [List.length_nil] at *); first | omega | (rw [a_,b_]; omega)) ?_;intro cH fi H;replace H:=H.nf
    have fj:=Sl.cells (H.os 5)
    have fk:=Sl.oc (H.os 5)
    refine s_nil ⟨(H.pk [3,6,7,8,9,10,11]),?_⟩
    refine t_l rfl ?_;refine t_bs (α:=Note) T32 [.agg #[I (s:Int),I 0,I ((((r3++(ab.take (Int.toNat (min 5 (ab.length:Int))))).getD s default).rise)+1000)]] [(⟨(s:Int),(0:Int),((((r3++(ab.take (Int.toNat (min 5 (ab.length:Int))))).getD s default).rise)+1000:Int)⟩:Note)] H rfl (.cons rfl (Flat.rep_enc _ (⟨(s:Int),(0:Int),((((r3++(ab.take (Int.toNat (min 5 (ab.length:Int))))).getD s default).rise)+1000:Int)⟩:Note))<|.nil) rfl rfl rfl ?_;intro cI fl H
    have fm:=Sl.cells (H.os 0)
    have fo:=Sl.oc (H.os 0)
    refine s_nil ⟨(H.pk [4,7,8,9,10,11,12]),?_⟩
    refine t_l rfl ?_;refine t_app (α:=Note) (k:=5) (l:=l2) (l2:=[(⟨(s:Int),(0:Int),((((r3++(ab.take (Int.toNat (min 5 (ab.length:Int))))).getD s default).rise)+1000:Int)⟩:Note)]) (l':=l2++([(⟨(s:Int),(0:Int),((((r3++(ab.take (Int.toNat (min 5 (ab.length:Int))))).getD s default).rise)+1000:Int)⟩:Note)])) (vy:=cI) T32 rfl H rfl rfl rfl (H.os 0) (H.ol 0) (rfl) (by first | omega | (simp only [List.length_nil] at *; omega)) ?_;intro cJ fp H;replace H:=H.nf
    have fq:=Sl.cells (H.os 5)
    have fu:=Sl.oc (H.os 5)
    refine s_nil ⟨(H.pk [4,7,8,9,10,11,12]),?_⟩
    refine kg 3 ?_;replace H:=H.pk [1,5,6,7,8,9,10,11,12];refine kg 4 ?_
    exact ⟨bG,bH,s+1,l++([(⟨([]),(0:Int),(0:Int)⟩:Work)]),l2++([(⟨(s:Int),(0:Int),((((r3++(ab.take (Int.toNat (min 5 (ab.length:Int))))).getD s default).rise)+1000:Int)⟩:Note)]),cH,cJ,ax++([aU]),bm,_,upds_of _ _ ⟨rfl,rfl,rfl,rfl,rfl,rfl,rfl,rfl,rfl,trivial⟩,M.e_inl hM br,(H.pk [1,2,0,4,5,6,7,8]),cG⟩
   skip
   refine t_bs (α:=Note) T32 [.agg #[I (s:Int),I 0,I ((((r3++(ab.take (Int.toNat (min 5 (ab.length:Int))))).getD s default).rise)+1000)]] [(⟨(s:Int),(0:Int),((((r3++(ab.take (Int.toNat (min 5 (ab.length:Int))))).getD s default).rise)+1000:Int)⟩:Note)] H rfl (.cons rfl (Flat.rep_enc _ (⟨(s:Int),(0:Int),((((r3++(ab.take (Int.toNat (min 5 (ab.length:Int))))).getD s default).rise)+1000:Int)⟩:Note))<|.nil) rfl rfl rfl ?_;intro cK fv H
   have fw:=Sl.cells (H.os 0)
   have fx:=Sl.oc (H.os 0)
   refine s_nil ⟨(H.pk [3,6,7,8,9,10,11]),?_⟩
   refine t_l rfl ?_
   have bu:=ca
   obtain ⟨bm,H,cL,cM⟩:=H.joinE (i:=6) (j:=2) rfl rfl
   replace ay:=ay.mono cL
   replace bu:=bu.mono cM
   have cN:=ay.app bu
   refine t_app (α:=Raw 2) (k:=6) (l:=ax) (l2:=[aU]) (l':=ax++([aU])) (vy:=cb) T31 rfl H rfl rfl rfl (H.os 2) (H.ol 2) (rfl) (by have a_:=ay.len; have b_:=bu.len; (try simp only [List.length_nil] at *); first | omega | (rw [a_,b_]; omega)) ?_;intro cO fy H;replace H:=H.nf
   have fA:=Sl.cells (H.os 6)
   have fB:=Sl.oc (H.os 6)
   refine s_nil ⟨(H.pk [4,7,8,9,10,11,12]),?_⟩
   refine t_l rfl ?_;refine t_app (α:=Note) (k:=5) (l:=l2) (l2:=[(⟨(s:Int),(0:Int),((((r3++(ab.take (Int.toNat (min 5 (ab.length:Int))))).getD s default).rise)+1000:Int)⟩:Note)]) (l':=l2++([(⟨(s:Int),(0:Int),((((r3++(ab.take (Int.toNat (min 5 (ab.length:Int))))).getD s default).rise)+1000:Int)⟩:Note)])) (vy:=cK) T32 rfl H rfl rfl rfl (H.os 1) (H.ol 1) (rfl) (by first | omega | (simp only [List.length_nil] at *; omega)) ?_;intro cP fC H;replace H:=H.nf
   have fD:=Sl.cells (H.os 5)
   have fE:=Sl.oc (H.os 5)
   refine s_nil ⟨(H.pk [4,7,8,9,10,11,12]),?_⟩
   refine kg 3 ?_;replace H:=H.pk [0,5,6,7,8,9,10,11,12];refine kg 4 ?_
   exact ⟨bG,bH,s+1,l++([(⟨([]),(0:Int),(0:Int)⟩:Work)]),l2++([(⟨(s:Int),(0:Int),((((r3++(ab.take (Int.toNat (min 5 (ab.length:Int))))).getD s default).rise)+1000:Int)⟩:Note)]),cO,cP,ax++([aU]),bm,_,upds_of _ _ ⟨rfl,rfl,rfl,rfl,rfl,rfl,rfl,rfl,rfl,trivial⟩,M.e_inl hM br,(H.pk [1,2,0,4,5,6,7,8]),cN⟩
  skip
  refine t_bs (α:=Note) T32 [.agg #[I (s:Int),I 0,I ((((r3++(ab.take (Int.toNat (min 5 (ab.length:Int))))).getD s default).rise)+1000)]] [(⟨(s:Int),(0:Int),((((r3++(ab.take (Int.toNat (min 5 (ab.length:Int))))).getD s default).rise)+1000:Int)⟩:Note)] H rfl (.cons rfl (Flat.rep_enc _ (⟨(s:Int),(0:Int),((((r3++(ab.take (Int.toNat (min 5 (ab.length:Int))))).getD s default).rise)+1000:Int)⟩:Note))<|.nil) rfl rfl rfl ?_;intro cQ fF H
  have fG:=Sl.cells (H.os 0)
  have fH:=Sl.oc (H.os 0)
  have fI:=Sl.cells (H.os 2)
  have fJ:=Sl.oc (H.os 2)
  have fK:=Sl.cells (H.os 3)
  have fL:=Sl.oc (H.os 3)
  refine s_nil ⟨(H.pk [1,4,5,6,7,8,9]),?_⟩
  refine t_l rfl ?_
  obtain ⟨bI,H⟩:=H.emptyE
  obtain ⟨a8,cc⟩:∃ r:Raw 2,r.cs=[.slice none 0 0,I 0,I 0]:=⟨Raw.of [.slice none 0 0,I 0,I 0] rfl rfl,rfl⟩
  have cR:RepR (α:=Work) bI.cells [a8] [(⟨([]),(0:Int),(0:Int)⟩:Work)]:=.cons (by rw [cc]; exact ⟨_,rfl,(Sl.nil _)⟩)<|.nil
  refine t_bs (α:=Raw 2) T31 [.agg #[.slice none 0 0,I 0,I 0]] [a8] H rfl (.cons (by rw [show (Flat.enc a8:List Value)=a8.cs from rfl,cc]; rfl) (Flat.rep_enc _ _)<|.nil) rfl rfl rfl ?_;intro cS fM H;replace H:=H.nf
  have fN:=Sl.cells (H.os 0)
  have fO:=Sl.oc (H.os 0)
  refine s_nil ⟨(H.pk [3,6,7,8,9,10,11]),?_⟩
  refine t_l rfl ?_
  have bv:=cR
  obtain ⟨bm,H,cT,cU⟩:=H.joinE (i:=6) (j:=1) rfl rfl
  replace ay:=ay.mono cT
  replace bv:=bv.mono cU
  have cV:=ay.app bv
  refine t_app (α:=Raw 2) (k:=6) (l:=ax) (l2:=[a8]) (l':=ax++([a8])) (vy:=cS) T31 rfl H rfl rfl rfl (H.os 1) (H.ol 1) (rfl) (by have a_:=ay.len; have b_:=bv.len; (try simp only [List.length_nil] at *); first | omega | (rw [a_,b_]; omega)) ?_;intro cW fP H;replace H:=H.nf
  have fQ:=Sl.cells (H.os 6)
  have fR:=Sl.oc (H.os 6)
  refine s_nil ⟨(H.pk [4,7,8,9,10,11,12]),?_⟩
  refine t_l rfl ?_;refine t_app (α:=Note) (k:=5) (l:=l2) (l2:=[(⟨(s:Int),(0:Int),((((r3++(ab.take (Int.toNat (min 5 (ab.length:Int))))).getD s default).rise)+1000:Int)⟩:Note)]) (l':=l2++([(⟨(s:Int),(0:Int),((((r3++(ab.take (Int.toNat (min 5 (ab.length:Int))))).getD s default).rise)+1000:Int)⟩:Note)])) (vy:=cQ) T32 rfl H rfl rfl rfl (H.os 3) (H.ol 3) (rfl) (by first | omega | (simp only [List.length_nil] at *; omega)) ?_;intro cX fS H;replace H:=H.nf
  have fT:=Sl.cells (H.os 5)
  have fU:=Sl.oc (H.os 5)
  refine s_nil ⟨(H.pk [4,7,8,9,10,11,12]),?_⟩
  refine kg 3 ?_;replace H:=H.pk [0,5,6,7,8,9,10,11,12];refine kg 4 ?_
  exact ⟨bG,bH,s+1,l++([(⟨([]),(0:Int),(0:Int)⟩:Work)]),l2++([(⟨(s:Int),(0:Int),((((r3++(ab.take (Int.toNat (min 5 (ab.length:Int))))).getD s default).rise)+1000:Int)⟩:Note)]),cW,cX,ax++([a8]),bm,_,upds_of _ _ ⟨rfl,rfl,rfl,rfl,rfl,rfl,rfl,rfl,rfl,trivial⟩,M.e_inl hM br,(H.pk [1,2,0,4,5,6,7,8]),cV⟩
 replace hM:=M.e_f hM a7
 replace a7:=dI a7
 refine W.exit ?_
 have cY:=M.e_inr hM br
 subst cY;replace hM:=cC;(try dsimp only at hM)
 have fV:=((rowSl rfl (H.get (k:=1) rfl) (roLe _ (H.get (k:=2) rfl)) ay)).len_le
 refine kg 9 ?_;refine s_val (x_lenS T31.und rfl (rowSl rfl (H.get (k:=1) rfl) (roLe _ (H.get (k:=2) rfl)) ay)) ?_;refine kg 3 ?_
 replace H:=H.nilOwn (α:=Int) 3
 replace H:=H.nilOwn (α:=Int) 3
 obtain ⟨cZ,bJ,c6⟩:=M.e_bind hM
 obtain ⟨bF,bJ⟩:=M.e_iter bJ
 refine W.loop (fun m σ W=>∃ (s2:Nat) (l7:List Int) (l8:List Int) (aV:Value) (aW:Value) (ρ:Env),σ=upds ρ [(2,.int .u8 which),(3,.int .u8 ae),(9,Pq ao),(11,Pq ap),(13,bj),(14,aJ),(17,aV),(18,aW),(94,I (l.length:Int)),(95,I (s2:Int))]/\M.iterN (zaG aa l) m (s2,l7,l8)=some cZ/\St w W [cOwn (α:=Int) 3 aW l8,cOwn (α:=Int) 3 aV l7,cOwn (α:=Note) 39 aJ l2,cOwn (α:=Raw 2) 37 bj ax,cRo B_l,cOwn (α:=Line) 35 bp (r3++(ab.take (Int.toNat (min 5 (ab.length:Int))))),cBlk ap [I ah,aw] 25,cOwn (α:=Line) 35 az ab,cBlk ao [I ag,av] 25,cOwn (α:=Line) 35 aC aa] R) ?_ ?_
 ·exact ⟨_,0,[],[],(.slice none 0 0),(.slice none 0 0),_,upds_of _ _ ⟨rfl,rfl,rfl,rfl,rfl,rfl,rfl,rfl,rfl,rfl,trivial⟩,bJ,H⟩
 rintro fW σ fX ⟨s2,l7,l8,aV,aW,ρ,rfl,cd,H⟩
 obtain ⟨ce,cf,fY,hM,bK⟩:=M.e_iterN cd
 simp only [zaG] at hM
 clear cd;refine kg 5 ?_
 refine W.cond (decide ((s2:Int)<(l.length:Int))) rfl (fun a9=>?_) (fun a9=>?_)
 ·replace hM:=M.e_t hM a9
  replace a9:=dI a9
  have fZ:=(aS).len_le
  refine kg 16 ?_
  refine W.cond (decide ((s2:Int)<((aa.take (Int.toNat (min 5 (aa.length:Int)))).length:Int))) rfl (fun ba=>?_) (fun ba=>?_)
  ·replace hM:=M.e_t hM ba
   replace ba:=dI ba
   refine kg 3 ?_;refine t_bs (α:=Int) T26 [I (s2:Int)] [(s2:Int)] H rfl (.cons rfl (Flat.rep_enc _ (s2:Int))<|.nil) rfl rfl rfl ?_;intro c7 f4 H;obtain ⟨f5,hM⟩:=M.e_gd hM;refine t_app (α:=Int) (k:=2) (l:=l7) (l2:=[(s2:Int)]) (l':=l7++([(s2:Int)])) (vy:=c7) T26 rfl H rfl rfl rfl (H.os 0) (H.ol 0) (rfl) (by first | omega | (simp only [List.length_nil] at *; omega)) ?_;intro c8 f6 H;replace H:=H.nf;refine kg 6 ?_
   exact ⟨ce,cf,s2+1,l7++([(s2:Int)]),l8,c8,aW,_,upds_of _ _ ⟨rfl,rfl,rfl,rfl,rfl,rfl,rfl,rfl,rfl,rfl,trivial⟩,M.e_inl hM bK,(H.pk [1,2,3,4,5,6,7,8,9,10])⟩
  replace hM:=M.e_f hM ba
  replace ba:=dI ba
  refine kg 3 ?_;refine t_bs (α:=Int) T26 [I (s2:Int)] [(s2:Int)] H rfl (.cons rfl (Flat.rep_enc _ (s2:Int))<|.nil) rfl rfl rfl ?_;intro c9 f7 H;obtain ⟨f8,hM⟩:=M.e_gd hM;refine t_app (α:=Int) (k:=1) (l:=l8) (l2:=[(s2:Int)]) (l':=l8++([(s2:Int)])) (vy:=c9) T26 rfl H rfl rfl rfl (H.os 0) (H.ol 0) (rfl) (by first | omega | (simp only [List.length_nil] at *; omega)) ?_;intro da f9 H;replace H:=H.nf;refine kg 6 ?_
  exact ⟨ce,cf,s2+1,l7,l8++([(s2:Int)]),aV,da,_,upds_of _ _ ⟨rfl,rfl,rfl,rfl,rfl,rfl,rfl,rfl,rfl,rfl,trivial⟩,M.e_inl hM bK,(H.pk [1,2,3,4,5,6,7,8,9,10])⟩
 replace hM:=M.e_f hM a9
 replace a9:=dI a9
 refine W.exit ?_
 have db:=M.e_inr hM bK
 subst db;replace hM:=c6;(try dsimp only at hM)
 have gc:=((rowSl rfl (H.get (k:=3) rfl) (roLe _ (H.get (k:=4) rfl)) ay)).len_le
 refine kg 3 ?_;refine s_val (x_lenS T31.und rfl (rowSl rfl (H.get (k:=3) rfl) (roLe _ (H.get (k:=4) rfl)) ay)) ?_
 have gf:=((rowSl rfl (H.get (k:=3) rfl) (roLe _ (H.get (k:=4) rfl)) ay)).len_le
 refine kg 1 ?_;refine s_val (x_lenS T31.und rfl (rowSl rfl (H.get (k:=3) rfl) (roLe _ (H.get (k:=4) rfl)) ay)) ?_;obtain ⟨gg,hM⟩:=M.e_gd hM;refine kg 8 ?_;refine s_val (x_bld (ps:=[(0,aV)]) (zs:=[.slice none 0 0,I 0,I 0]) (L':=[aV,I 0,I 0]) rfl Try.underlying37 Al37 rfl (Bd37 Try.underlying37) (.cons (cs:=[aV]) (Sl.cells (H.os 1)) rfl rfl rfl rfl<|.nil)) ?_;refine kg 1 ?_;refine s_val (x_bld (ps:=[(0,aW)]) (zs:=[.slice none 0 0,I 0,I 0]) (L':=[aW,I 0,I 0]) rfl Try.underlying37 Al37 rfl (Bd37 Try.underlying37) (.cons (cs:=[aW]) (Sl.cells (H.os 0)) rfl rfl rfl rfl<|.nil)) ?_
 obtain ⟨gh,H⟩:=H.emptyE
 obtain ⟨gi,H,dc⟩:=H.freezeE (k:=2) rfl
 replace H:=H.nf
 have bg:=dc
 obtain ⟨gj,H,gk,dg⟩:=H.joinE (i:=0) (j:=2) rfl rfl
 replace bg:=bg.mono dg
 obtain ⟨gl,H,dh⟩:=H.freezeE (k:=2) rfl
 replace H:=H.nf
 have bw:=dh
 obtain ⟨di,H,dj,dk⟩:=H.joinE (i:=0) (j:=2) rfl rfl
 replace bg:=bg.mono dj
 replace bw:=bw.mono dk
 obtain ⟨aO,cg⟩:∃ r:Raw 2,r.cs=[aV,I 0,I 0]:=⟨Raw.of [aV,I 0,I 0] rfl (by simp only [List.all_cons,List.all_nil,Bool.true_and,Bool.and_true,Sl.oc bg]; try rfl),rfl⟩
 obtain ⟨aP,ch⟩:∃ r:Raw 2,r.cs=[aW,I 0,I 0]:=⟨Raw.of [aW,I 0,I 0] rfl (by simp only [List.all_cons,List.all_nil,Bool.true_and,Bool.and_true,Sl.oc bw]; try rfl),rfl⟩
 have dl:RepR (α:=Work) di.cells [aO,aP] [(⟨l7,(0:Int),(0:Int)⟩:Work),(⟨l8,(0:Int),(0:Int)⟩:Work)]:=.cons (by rw [cg]; exact ⟨_,rfl,bg⟩)<|.cons (by rw [ch]; exact ⟨_,rfl,bw⟩)<|.nil
 refine t_bs (α:=Raw 2) T31 [.agg #[aV,I 0,I 0],.agg #[aW,I 0,I 0]] [aO,aP] H rfl (.cons (by rw [show (Flat.enc aO:List Value)=aO.cs from rfl,cg]; rfl) (Flat.rep_enc _ _)<|.cons (by rw [show (Flat.enc aP:List Value)=aP.cs from rfl,ch]; rfl) (Flat.rep_enc _ _)<|.nil) rfl rfl rfl ?_;intro dm gm H;replace H:=H.nf;obtain ⟨gn,hM⟩:=M.e_gd hM
 have bx:=dl
 obtain ⟨aZ,H,dp,dq⟩:=H.joinE (i:=8) (j:=1) rfl rfl
 replace ay:=ay.mono dp
 replace bx:=bx.mono dq
 have bz:=ay.app bx
 refine t_app (α:=Raw 2) (k:=8) (l:=ax) (l2:=[aO,aP]) (l':=ax++([aO,aP])) (vy:=dm) T31 rfl H rfl rfl rfl (H.os 1) (H.ol 1) (rfl) (by have a_:=ay.len; have b_:=bx.len; (try simp only [List.length_nil] at *); first | omega | (rw [a_,b_]; omega)) ?_;intro aL gp H;replace H:=H.nf;refine kg 2 ?_;replace H:=H.pk [0,7,8,11,12,13,14];refine kg 4 ?_;obtain ⟨gq,dr,hM⟩:=M.e_bind hM;refine s_call cf7 [aL,aJ] rfl (zcG (l++([(⟨l7,(0:Int),(0:Int)⟩:Work),(⟨l8,(0:Int),(0:Int)⟩:Work)])) l2 (Reads.sup (rdo 2) (Reads.of (k:=0) rfl roLe)) (rowSl rfl (H.get (k:=2) rfl) (roLe _ (H.get (k:=0) rfl)) bz) (rdo 1) (H.os 1) dr _ (H.gt 7)) ?_
 rintro vq gr ⟨r0,bA,a4,rfl,hvq,ai⟩
 subst vq;(try dsimp only at hM);replace H:=H.bk ai;clear ai;refine kg 15 ?_;refine g_val (!(bA != 0)) (gy_f rfl) (fun hg=>x_lenS T31.und (gd_of hg (aL)) (rowSl rfl (H.get (k:=3) rfl) (roLe _ (H.get (k:=1) rfl)) bz)) ?_;refine kg 1 ?_;refine s_val (x_por (b:=bA != 0) (r:=(r0.length:Int) != ((l++([(⟨l7,(0:Int),(0:Int)⟩:Work),(⟨l8,(0:Int),(0:Int)⟩:Work)])).length:Int)) rfl rfl (fun hb=>gd_of (c:=!(bA != 0)) (by first | exact hb | (rw [hb]; rfl) | simp_all) (B ((r0.length:Int) != ((l++([(⟨l7,(0:Int),(0:Int)⟩:Work),(⟨l8,(0:Int),(0:Int)⟩:Work)])).length:Int)))))<|s_nil ?_
 refine W.cond ((bA != 0)||((r0.length:Int) != ((l++([(⟨l7,(0:Int),(0:Int)⟩:Work),(⟨l8,(0:Int),(0:Int)⟩:Work)])).length:Int))) rfl (fun bL=>?_) (fun bL=>?_)
 ·replace hM:=M.e_t hM bL;refine kg 4 ?_;replace H:=H.pk [];refine W.ret ?_
  have aQ:=M.e_pure hM
  exact ⟨_,resE_tmp rfl,⟨false,aQ,rfl,H⟩⟩
 replace hM:=M.e_f hM bL;refine kg 2 ?_;refine W.draw (fun W=>St w W [cOwn (α:=Int) 3 a4 r0,cRo aZ,cOwn (α:=Note) 39 aJ l2,cOwn (α:=Raw 2) 37 aL (ax++([aO,aP])),cBlk ap [I ah,aw] 25,cOwn (α:=Line) 35 az ab,cBlk ao [I ag,av] 25,cOwn (α:=Line) 35 aC aa] R) [(0,true),(1,true),(2,true),(3,true),(4,true),(5,true),(6,true),(7,true),(8,true),(9,true),(10,true),(11,true),(12,false),(13,true)] mixed (by decide +kernel) rfl ?_;intro gu aB;replace H:=H.ext aB;clear aB
 refine ⟨(H.pk [0,1,2,3,4,5,6,7]),?_⟩
 obtain ⟨gv,hM⟩:=M.e_gd hM;refine kg 5 ?_;refine d_q rfl (fun w' H=>x_bld (ps:=[(0,I (l.length:Int)),(1,I (r0.getD (l.length) 0))]) (zs:=[I 0,I 0]) (L':=[I (l.length:Int),I (r0.getD (l.length) 0)]) rfl Try.underlying44 Al44 rfl (Bd44 Try.underlying44) (.cons (cs:=[I (l.length:Int)]) rfl rfl rfl rfl rfl<|.cons (cs:=[I (r0.getD (l.length) 0)]) rfl rfl rfl rfl rfl<|.nil)) ?_;obtain ⟨gw,hM⟩:=M.e_gd hM;refine kg 5 ?_;refine d_q rfl (fun w' H=>x_bld (ps:=[(0,I ((l.length:Int)+1)),(1,I (r0.getD (Int.toNat ((l.length:Int)+1)) 0))]) (zs:=[I 0,I 0]) (L':=[I ((l.length:Int)+1),I (r0.getD (Int.toNat ((l.length:Int)+1)) 0)]) rfl Try.underlying44 Al44 rfl (Bd44 Try.underlying44) (.cons (cs:=[I ((l.length:Int)+1)]) rfl rfl rfl rfl rfl<|.cons (cs:=[I (r0.getD (Int.toNat ((l.length:Int)+1)) 0)]) rfl rfl rfl rfl rfl<|.nil))<|d_l rfl ?_;refine t_bs (α:=Pub) T45 [.agg #[I (l.length:Int),I (r0.getD (l.length) 0)],.agg #[I ((l.length:Int)+1),I (r0.getD (Int.toNat ((l.length:Int)+1)) 0)]] [(⟨(l.length:Int),(r0.getD (l.length) 0:Int)⟩:Pub),(⟨((l.length:Int)+1:Int),(r0.getD (Int.toNat ((l.length:Int)+1)) 0:Int)⟩:Pub)] H rfl (.cons rfl (Flat.rep_enc _ (⟨(l.length:Int),(r0.getD (l.length) 0:Int)⟩:Pub))<|.cons rfl (Flat.rep_enc _ (⟨((l.length:Int)+1:Int),(r0.getD (Int.toNat ((l.length:Int)+1)) 0:Int)⟩:Pub))<|.nil) rfl rfl rfl ?_;intro aT gx H
 have gy:=Sl.cells (H.os 0)
 have gz:=Sl.oc (H.os 0)
 refine s_nil ⟨(H.pk [1,2,3,4,5,6,7,8]),?_⟩
 obtain ⟨gC,hM⟩:=M.e_gd hM;refine kg 5 ?_;refine s_val (x_conv64 (kd:=.u8) (a:=which) Try.underlying5 Try.underlying3 rfl (by omega)) ?_
 have gD:=(aS).len_le
 obtain ⟨gE,hM⟩:=M.e_gd hM;refine kg 3 ?_;refine s_val (x_rem' (a:=which) (b:=((aa.take (Int.toNat (min 5 (aa.length:Int)))).length:Int)) rfl rfl (by omega)) ?_;refine kg 2 ?_;refine W.seqJ (fun σ W=>∃ (aK:Nat) (r4:List Line) (aH:Value) (ρ:Env),σ=upds ρ [(3,.int .u8 ae),(9,Pq ao),(11,Pq ap),(13,aL),(14,aJ),(20,I (l.length:Int)),(24,aT),(25,I (which % ((aa.take (Int.toNat (min 5 (aa.length:Int)))).length:Int))),(26,Pq aK)]/\(zbk which ae ag aa ah ab l2 l l8 l7 r0 r4).Ends r/\St w W [cBlk aK [I (ag+ah),aH] 25,cOwn (α:=Line) 35 aH r4,cOwn (α:=Pub) 44 aT ([(⟨(l.length:Int),(r0.getD (l.length) 0:Int)⟩:Pub),(⟨((l.length:Int)+1:Int),(r0.getD (Int.toNat ((l.length:Int)+1)) 0:Int)⟩:Pub)]),cOwn (α:=Int) 3 a4 r0,cRo aZ,cOwn (α:=Note) 39 aJ l2,cOwn (α:=Raw 2) 37 aL (ax++([aO,aP])),cBlk ap [I ah,aw] 25,cOwn (α:=Line) 35 az ab,cBlk ao [I ag,av] 25,cOwn (α:=Line) 35 aC aa] R) ?_ ?_
 ·skip
  refine W.drawTZ (fun W=>St w W [cOwn (α:=Pub) 44 aT ([(⟨(l.length:Int),(r0.getD (l.length) 0:Int)⟩:Pub),(⟨((l.length:Int)+1:Int),(r0.getD (Int.toNat ((l.length:Int)+1)) 0:Int)⟩:Pub)]),cOwn (α:=Int) 3 a4 r0,cRo aZ,cOwn (α:=Note) 39 aJ l2,cOwn (α:=Raw 2) 37 aL (ax++([aO,aP])),cBlk ap [I ah,aw] 25,cOwn (α:=Line) 35 az ab,cBlk ao [I ag,av] 25,cOwn (α:=Line) 35 aC aa] R) (.q 0 (.q 1 (.q 2 (.q 3 (.q 4 (.q 5 (.q 6 (.l2 7 (.q 8 (.l 9 .nil)) 9 (.l 7 (.q 8 .nil)))))))))) 10 10 mixed (by decide +kernel) rfl ?_;intro gF aB;replace H:=H.ext aB;clear aB
  refine ⟨(H.pk [0,1,2,3,4,5,6,7,8]),?_⟩
  refine tz_q rfl (fun w' H=>x_fa (v:=Pq ao) rfl (fa_blk (o:=0) Fd25_0 Sz3)) ?_;refine tz_q rfl (fun w' H=>x_ld (v:=I ag) rfl (ldb_sc Sc3 (H.bl 7) rfl)) ?_;refine tz_q rfl (fun w' H=>x_fa (v:=Pq ap) rfl (fa_blk (o:=0) Fd25_0 Sz3)) ?_;refine tz_q rfl (fun w' H=>x_ld (v:=I ah) rfl (ldb_sc Sc3 (H.bl 5) rfl)) ?_;obtain ⟨gG,hM⟩:=M.e_gd hM;refine tz_q rfl (fun w' H=>x_ari (r:=ag+ah) rfl rfl rfl (by omega)) ?_;refine tz_q rfl (fun w' H=>x_fa (v:=Oq ao 1) rfl (fa_blk (o:=0) Fd25_1 Sz23)) ?_;refine tz_q rfl (fun w' H=>x_ld (v:=av) rfl (ldb_sc Sc23 (H.bl 7) rfl)) ?_;refine tz_l2 rfl rfl ?_ ?_
  ·skip
   obtain ⟨gH,dt,hM⟩:=M.e_bind hM;refine s_call cf6 [av] rfl (zby (aa.take (Int.toNat (min 5 (aa.length:Int)))) (rdo 8) aS dt _ (H.gt 9)) ?_
   rintro vq gI ⟨r4,aH,rfl,hvq,ai⟩
   subst vq;(try dsimp only at hM);replace H:=H.bk ai;clear ai
   have du:=Sl.cells (H.os 0)
   have gJ:=Sl.oc (H.os 0)
   refine s_nil ⟨(H.pk [1,2,3,4,5,6,7,8,9]),?_⟩
   refine tz_q rfl (fun w' H=>x_bld (ps:=[(0,I (ag+ah)),(1,aH)]) (zs:=[I 0,.slice none 0 0]) (L':=[I (ag+ah),aH]) rfl Try.underlying25 Al25 rfl (Bd25 Try.underlying25) (.cons (cs:=[I (ag+ah)]) rfl rfl rfl rfl rfl<|.cons (cs:=[aH]) du rfl rfl rfl rfl<|.nil)) ?_;refine tz_l rfl ?_;refine t_alloc (cs:=[I 0,.slice none 0 0]) H Al25 rfl ?_;intro aK gK H
   refine s_nil ⟨(H.pk [2,3,4,5,6,7,8,9,10]),?_⟩
   refine tz_nil rfl ?_;refine t_sw 0 0 [I (ag+ah),aH] (.agg #[I (ag+ah),aH]) H rfl rfl Sz25 rfl rfl rfl (by simp only [List.all_cons,List.all_nil,Bool.true_and,Bool.and_true,Sl.oc (H.os 1)]; try rfl) ?_;intro gL H
   refine s_nil ⟨trivial,?_⟩
   exact ⟨aK,r4,aH,_,upds_of _ _ ⟨rfl,rfl,rfl,rfl,rfl,rfl,rfl,rfl,rfl,trivial⟩,hM,H⟩
  skip
  refine t_alloc (cs:=[I 0,.slice none 0 0]) H Al25 rfl ?_;intro aK gM H
  refine s_nil ⟨(H.pk [1,2,3,4,5,6,7,8,9]),?_⟩
  refine tz_l rfl ?_;obtain ⟨gN,dv,hM⟩:=M.e_bind hM;refine s_call cf6 [av] rfl (zby (aa.take (Int.toNat (min 5 (aa.length:Int)))) (rdo 9) aS dv _ (H.gt 10)) ?_
  rintro vq gO ⟨r4,aH,rfl,hvq,ai⟩
  subst vq;(try dsimp only at hM);replace H:=H.bk ai;clear ai
  have dw:=Sl.cells (H.os 0)
  have gP:=Sl.oc (H.os 0)
  refine s_nil ⟨(H.pk [2,3,4,5,6,7,8,9,10]),?_⟩
  refine tz_q rfl (fun w' H=>x_bld (ps:=[(0,I (ag+ah)),(1,aH)]) (zs:=[I 0,.slice none 0 0]) (L':=[I (ag+ah),aH]) rfl Try.underlying25 Al25 rfl (Bd25 Try.underlying25) (.cons (cs:=[I (ag+ah)]) rfl rfl rfl rfl rfl<|.cons (cs:=[aH]) dw rfl rfl rfl rfl<|.nil)) ?_;refine tz_nil rfl ?_;refine t_sw 1 0 [I (ag+ah),aH] (.agg #[I (ag+ah),aH]) H rfl rfl Sz25 rfl rfl rfl (by simp only [List.all_cons,List.all_nil,Bool.true_and,Bool.and_true,Sl.oc (H.os 0)]; try rfl) ?_;intro gQ H
  refine s_nil ⟨trivial,?_⟩
  exact ⟨aK,r4,aH,_,upds_of _ _ ⟨rfl,rfl,rfl,rfl,rfl,rfl,rfl,rfl,rfl,trivial⟩,hM,(H.pk [1,0,2,3,4,5,6,7,8,9,10])⟩
 rintro _ gS ⟨aK,r4,aH,ρ,rfl,hM,H⟩
 unfold zbk at hM
 have gT:=(aX).len_le
 refine kg 9 ?_;obtain ⟨dy,bM,dz⟩:=M.e_bind hM
 obtain ⟨bF,bM⟩:=M.e_iter bM
 refine W.loop (fun m σ W=>∃ (aM:List Line) (s3:Nat) (aN:Value) (ρ:Env),σ=upds ρ [(3,.int .u8 ae),(9,Pq ao),(11,Pq ap),(13,aL),(14,aJ),(20,I (l.length:Int)),(24,aT),(25,I (which % ((aa.take (Int.toNat (min 5 (aa.length:Int)))).length:Int))),(26,Pq aK),(168,aw),(169,I ((ab.take (Int.toNat (min 5 (ab.length:Int)))).length:Int)),(170,I (s3:Int))]/\M.iterN (zaJ ag ab) m (aM,s3)=some dy/\St w W [cBlk aK [I (ag+ah),aN] 25,cOwn (α:=Line) 35 aN aM,cOwn (α:=Pub) 44 aT ([(⟨(l.length:Int),(r0.getD (l.length) 0:Int)⟩:Pub),(⟨((l.length:Int)+1:Int),(r0.getD (Int.toNat ((l.length:Int)+1)) 0:Int)⟩:Pub)]),cOwn (α:=Int) 3 a4 r0,cRo aZ,cOwn (α:=Note) 39 aJ l2,cOwn (α:=Raw 2) 37 aL (ax++([aO,aP])),cBlk ap [I ah,aw] 25,cOwn (α:=Line) 35 az ab,cBlk ao [I ag,av] 25,cOwn (α:=Line) 35 aC aa] R) ?_ ?_
 ·exact ⟨_,r4,0,aH,_,upds_of _ _ ⟨rfl,rfl,rfl,rfl,rfl,rfl,rfl,rfl,rfl,rfl,rfl,rfl,trivial⟩,bM,H⟩
 rintro gV σ gW ⟨aM,s3,aN,ρ,rfl,ci,H⟩
 obtain ⟨dA,dB,dC,hM,cj⟩:=M.e_iterN ci
 simp only [zaJ] at hM
 clear ci;refine kg 5 ?_
 refine W.cond (decide ((s3:Int)<((ab.take (Int.toNat (min 5 (ab.length:Int)))).length:Int))) rfl (fun bb=>?_) (fun bb=>?_)
 ·replace hM:=M.e_t hM bb
  replace bb:=dI bb
  obtain ⟨gX,hM⟩:=M.e_gd hM;refine kg 7 ?_;refine t_alloc (cs:=[I 0,I 0,I 0,I 0,I 0]) H Al35 rfl ?_;intro a5 gY H;refine t_sw 0 0 [I (((ab.take (Int.toNat (min 5 (ab.length:Int)))).getD s3 default).src),I (((ab.take (Int.toNat (min 5 (ab.length:Int)))).getD s3 default).dst),I (((ab.take (Int.toNat (min 5 (ab.length:Int)))).getD s3 default).day),I (((ab.take (Int.toNat (min 5 (ab.length:Int)))).getD s3 default).rise),I (((ab.take (Int.toNat (min 5 (ab.length:Int)))).getD s3 default).err)] (.agg #[I (((ab.take (Int.toNat (min 5 (ab.length:Int)))).getD s3 default).src),I (((ab.take (Int.toNat (min 5 (ab.length:Int)))).getD s3 default).dst),I (((ab.take (Int.toNat (min 5 (ab.length:Int)))).getD s3 default).day),I (((ab.take (Int.toNat (min 5 (ab.length:Int)))).getD s3 default).rise),I (((ab.take (Int.toNat (min 5 (ab.length:Int)))).getD s3 default).err)]) H rfl rfl Sz35 rfl rfl rfl rfl ?_;intro gZ H;refine s_nil ?_;refine W.seqJ (fun σ W=>∃ (ρ:Env),σ=upds ρ [(3,.int .u8 ae),(9,Pq ao),(11,Pq ap),(13,aL),(14,aJ),(20,I (l.length:Int)),(24,aT),(25,I (which % ((aa.take (Int.toNat (min 5 (aa.length:Int)))).length:Int))),(26,Pq aK),(28,Pq a5),(168,aw),(169,I ((ab.take (Int.toNat (min 5 (ab.length:Int)))).length:Int)),(170,I (s3:Int))]/\(zbx ag ab aM s3).Ends dC/\St w W [cBlk a5 [I ((((ab.take (Int.toNat (min 5 (ab.length:Int)))).getD s3 default).src)+ag),I ((((ab.take (Int.toNat (min 5 (ab.length:Int)))).getD s3 default).dst)+ag),I (((ab.take (Int.toNat (min 5 (ab.length:Int)))).getD s3 default).day),I (((ab.take (Int.toNat (min 5 (ab.length:Int)))).getD s3 default).rise),I (((ab.take (Int.toNat (min 5 (ab.length:Int)))).getD s3 default).err)] 35,cBlk aK [I (ag+ah),aN] 25,cOwn (α:=Line) 35 aN aM,cOwn (α:=Pub) 44 aT ([(⟨(l.length:Int),(r0.getD (l.length) 0:Int)⟩:Pub),(⟨((l.length:Int)+1:Int),(r0.getD (Int.toNat ((l.length:Int)+1)) 0:Int)⟩:Pub)]),cOwn (α:=Int) 3 a4 r0,cRo aZ,cOwn (α:=Note) 39 aJ l2,cOwn (α:=Raw 2) 37 aL (ax++([aO,aP])),cBlk ap [I ah,aw] 25,cOwn (α:=Line) 35 az ab,cBlk ao [I ag,av] 25,cOwn (α:=Line) 35 aC aa] R) ?_ ?_
  ·skip
   refine W.drawTZ (fun W=>St w W [cBlk aK [I (ag+ah),aN] 25,cOwn (α:=Line) 35 aN aM,cOwn (α:=Pub) 44 aT ([(⟨(l.length:Int),(r0.getD (l.length) 0:Int)⟩:Pub),(⟨((l.length:Int)+1:Int),(r0.getD (Int.toNat ((l.length:Int)+1)) 0:Int)⟩:Pub)]),cOwn (α:=Int) 3 a4 r0,cRo aZ,cOwn (α:=Note) 39 aJ l2,cOwn (α:=Raw 2) 37 aL (ax++([aO,aP])),cBlk ap [I ah,aw] 25,cOwn (α:=Line) 35 az ab,cBlk ao [I ag,av] 25,cOwn (α:=Line) 35 aC aa] R) (.q 0 (.q 2 (.q 3 (.q 5 (.q 7 (.q 8 (.l2 1 (.q 4 (.l 6 (.q 9 (.q 10 (.l 11 (.q 12 .nil)))))) 6 (.q 9 (.l 1 (.q 4 (.q 10 (.l 11 (.q 12 .nil))))))))))))) 13 13 mixed (by decide +kernel) rfl ?_;intro g0 aB;replace H:=H.ext aB;clear aB
   refine ⟨(H.pk [1,2,3,4,5,6,7,8,9,10,11]),?_⟩
   refine tz_q rfl (fun w' H=>x_fa (v:=Pq a5) rfl (fa_blk (o:=0) Fd35_0 Sz3)) ?_;refine tz_q rfl (fun w' H=>x_fa (v:=Pq ao) rfl (fa_blk (o:=0) Fd25_0 Sz3)) ?_;refine tz_q rfl (fun w' H=>x_ld (v:=I ag) rfl (ldb_sc Sc3 (H.bl 9) rfl)) ?_;refine tz_q rfl (fun w' H=>x_fa (v:=Oq a5 1) rfl (fa_blk (o:=0) Fd35_1 Sz3)) ?_;refine tz_q rfl (fun w' H=>x_fa (v:=Pq ao) rfl (fa_blk (o:=0) Fd25_0 Sz3)) ?_;refine tz_q rfl (fun w' H=>x_ld (v:=I ag) rfl (ldb_sc Sc3 (H.bl 9) rfl)) ?_;obtain ⟨g5,hM⟩:=M.e_gd hM;obtain ⟨g6,hM⟩:=M.e_gd hM;refine tz_l2 rfl rfl ?_ ?_
   ·skip
    refine kg 1 ?_
    refine s_nil ⟨(H.pk [1,2,3,4,5,6,7,8,9,10,11]),?_⟩
    refine tz_q rfl (fun w' H=>x_ari (r:=(((ab.take (Int.toNat (min 5 (ab.length:Int)))).getD s3 default).src)+ag) rfl rfl rfl (by omega)) ?_;refine tz_l rfl ?_;refine kg 1 ?_
    refine s_nil ⟨(H.pk [1,2,3,4,5,6,7,8,9,10,11]),?_⟩
    refine tz_q rfl (fun w' H=>x_ari (r:=(((ab.take (Int.toNat (min 5 (ab.length:Int)))).getD s3 default).dst)+ag) rfl rfl rfl (by omega)) ?_;refine tz_q rfl (fun w' H=>x_fa (v:=Pq a5) rfl (fa_blk (o:=0) Fd35_0 Sz3)) ?_;refine tz_l rfl ?_;refine t_sw 0 0 [I ((((ab.take (Int.toNat (min 5 (ab.length:Int)))).getD s3 default).src)+ag)] (I ((((ab.take (Int.toNat (min 5 (ab.length:Int)))).getD s3 default).src)+ag)) H rfl rfl Sz3 rfl rfl rfl rfl ?_;intro g7 H
    refine s_nil ⟨(H.pk [1,2,3,4,5,6,7,8,9,10,11]),?_⟩
    refine tz_q rfl (fun w' H=>x_fa (v:=Oq a5 1) rfl (fa_blk (o:=0) Fd35_1 Sz3)) ?_;refine tz_nil rfl ?_;refine t_sw 0 1 [I ((((ab.take (Int.toNat (min 5 (ab.length:Int)))).getD s3 default).dst)+ag)] (I ((((ab.take (Int.toNat (min 5 (ab.length:Int)))).getD s3 default).dst)+ag)) H rfl rfl Sz3 rfl rfl rfl rfl ?_;intro g8 H
    refine s_nil ⟨trivial,?_⟩
    exact ⟨_,upds_of _ _ ⟨rfl,rfl,rfl,rfl,rfl,rfl,rfl,rfl,rfl,rfl,rfl,rfl,rfl,trivial⟩,hM,H⟩
   skip
   refine kg 1 ?_
   refine s_nil ⟨(H.pk [1,2,3,4,5,6,7,8,9,10,11]),?_⟩
   refine tz_q rfl (fun w' H=>x_ari (r:=(((ab.take (Int.toNat (min 5 (ab.length:Int)))).getD s3 default).dst)+ag) rfl rfl rfl (by omega)) ?_;refine tz_l rfl ?_;refine kg 1 ?_
   refine s_nil ⟨(H.pk [1,2,3,4,5,6,7,8,9,10,11]),?_⟩
   refine tz_q rfl (fun w' H=>x_ari (r:=(((ab.take (Int.toNat (min 5 (ab.length:Int)))).getD s3 default).src)+ag) rfl rfl rfl (by omega)) ?_;refine tz_q rfl (fun w' H=>x_fa (v:=Pq a5) rfl (fa_blk (o:=0) Fd35_0 Sz3)) ?_;refine tz_l rfl ?_;refine t_sw 0 0 [I ((((ab.take (Int.toNat (min 5 (ab.length:Int)))).getD s3 default).src)+ag)] (I ((((ab.take (Int.toNat (min 5 (ab.length:Int)))).getD s3 default).src)+ag)) H rfl rfl Sz3 rfl rfl rfl rfl ?_;intro g9 H
   refine s_nil ⟨(H.pk [1,2,3,4,5,6,7,8,9,10,11]),?_⟩
   refine tz_q rfl (fun w' H=>x_fa (v:=Oq a5 1) rfl (fa_blk (o:=0) Fd35_1 Sz3)) ?_;refine tz_nil rfl ?_;refine t_sw 0 1 [I ((((ab.take (Int.toNat (min 5 (ab.length:Int)))).getD s3 default).dst)+ag)] (I ((((ab.take (Int.toNat (min 5 (ab.length:Int)))).getD s3 default).dst)+ag)) H rfl rfl Sz3 rfl rfl rfl rfl ?_;intro hG H
   refine s_nil ⟨trivial,?_⟩
   exact ⟨_,upds_of _ _ ⟨rfl,rfl,rfl,rfl,rfl,rfl,rfl,rfl,rfl,rfl,rfl,rfl,rfl,trivial⟩,hM,H⟩
  rintro _ hH ⟨ρ,rfl,hM,H⟩
  unfold zbx at hM
  refine kg 4 ?_;refine t_bs (α:=Line) T23 [.agg #[I ((((ab.take (Int.toNat (min 5 (ab.length:Int)))).getD s3 default).src)+ag),I ((((ab.take (Int.toNat (min 5 (ab.length:Int)))).getD s3 default).dst)+ag),I (((ab.take (Int.toNat (min 5 (ab.length:Int)))).getD s3 default).day),I (((ab.take (Int.toNat (min 5 (ab.length:Int)))).getD s3 default).rise),I (((ab.take (Int.toNat (min 5 (ab.length:Int)))).getD s3 default).err)]] [(⟨((((ab.take (Int.toNat (min 5 (ab.length:Int)))).getD s3 default).src)+ag:Int),((((ab.take (Int.toNat (min 5 (ab.length:Int)))).getD s3 default).dst)+ag:Int),(((ab.take (Int.toNat (min 5 (ab.length:Int)))).getD s3 default).day:Int),(((ab.take (Int.toNat (min 5 (ab.length:Int)))).getD s3 default).rise:Int),(((ab.take (Int.toNat (min 5 (ab.length:Int)))).getD s3 default).err:Int)⟩:Line)] H rfl (.cons rfl (Flat.rep_enc _ (⟨((((ab.take (Int.toNat (min 5 (ab.length:Int)))).getD s3 default).src)+ag:Int),((((ab.take (Int.toNat (min 5 (ab.length:Int)))).getD s3 default).dst)+ag:Int),(((ab.take (Int.toNat (min 5 (ab.length:Int)))).getD s3 default).day:Int),(((ab.take (Int.toNat (min 5 (ab.length:Int)))).getD s3 default).rise:Int),(((ab.take (Int.toNat (min 5 (ab.length:Int)))).getD s3 default).err:Int)⟩:Line))<|.nil) rfl rfl rfl ?_;intro dD hO H;obtain ⟨hP,hM⟩:=M.e_gd hM;refine t_app (α:=Line) (k:=3) (l:=aM) (l2:=[(⟨((((ab.take (Int.toNat (min 5 (ab.length:Int)))).getD s3 default).src)+ag:Int),((((ab.take (Int.toNat (min 5 (ab.length:Int)))).getD s3 default).dst)+ag:Int),(((ab.take (Int.toNat (min 5 (ab.length:Int)))).getD s3 default).day:Int),(((ab.take (Int.toNat (min 5 (ab.length:Int)))).getD s3 default).rise:Int),(((ab.take (Int.toNat (min 5 (ab.length:Int)))).getD s3 default).err:Int)⟩:Line)]) (l':=aM++([(⟨((((ab.take (Int.toNat (min 5 (ab.length:Int)))).getD s3 default).src)+ag:Int),((((ab.take (Int.toNat (min 5 (ab.length:Int)))).getD s3 default).dst)+ag:Int),(((ab.take (Int.toNat (min 5 (ab.length:Int)))).getD s3 default).day:Int),(((ab.take (Int.toNat (min 5 (ab.length:Int)))).getD s3 default).rise:Int),(((ab.take (Int.toNat (min 5 (ab.length:Int)))).getD s3 default).err:Int)⟩:Line)])) (vy:=dD) T23 rfl H rfl rfl rfl (H.os 0) (H.ol 0) (rfl) (by first | omega | (simp only [List.length_nil] at *; omega)) ?_;intro bN hZ H;replace H:=H.nf;refine kg 1 ?_;refine t_sw 2 1 [bN] bN H rfl rfl Sz23 (Sl.cells (H.os 3)) rfl rfl (by simp only [List.all_cons,List.all_nil,Bool.true_and,Bool.and_true,Sl.oc (H.os 3)]; try rfl) ?_;intro h8 H;refine s_nil ?_;replace H:=H.pk [2,3,4,5,6,7,8,9,10,11,12];refine kg 4 ?_
  exact ⟨dA,dB,aM++([(⟨((((ab.take (Int.toNat (min 5 (ab.length:Int)))).getD s3 default).src)+ag:Int),((((ab.take (Int.toNat (min 5 (ab.length:Int)))).getD s3 default).dst)+ag:Int),(((ab.take (Int.toNat (min 5 (ab.length:Int)))).getD s3 default).day:Int),(((ab.take (Int.toNat (min 5 (ab.length:Int)))).getD s3 default).rise:Int),(((ab.take (Int.toNat (min 5 (ab.length:Int)))).getD s3 default).err:Int)⟩:Line)]),s3+1,bN,_,upds_of _ _ ⟨rfl,rfl,rfl,rfl,rfl,rfl,rfl,rfl,rfl,rfl,rfl,rfl,trivial⟩,M.e_inl hM cj,H⟩
 replace hM:=M.e_f hM bb
 replace bb:=dI bb
 refine W.exit ?_
 have dE:=M.e_inr hM cj
 subst dE;replace hM:=dz;(try dsimp only at hM);refine kg 3 ?_;obtain ⟨h9,dF,hM⟩:=M.e_bind hM;refine s_call cf8 [.agg #[I (ag+ah),aN]] rfl (zdu (ag+ah) aM (rdo 1) (H.os 1) dF _ (H.gt 11)) ?_
 rintro vq ia ⟨a6,ac,aY,rfl,hvq,ai⟩
 subst vq;(try dsimp only at hM);replace H:=H.bk ai;clear ai;refine t_alloc (cs:=[I 0,.slice none 0 0]) H Al25 rfl ?_;intro bB ib H;refine t_sw 0 0 [I a6,aY] (.agg #[I a6,aY]) H rfl rfl Sz25 rfl rfl rfl (by simp only [List.all_cons,List.all_nil,Bool.true_and,Bool.and_true,Sl.oc (H.os 1)]; try rfl) ?_;intro ic H;obtain ⟨ie,hM⟩:=M.e_gd hM;obtain ⟨ig,hM⟩:=M.e_gd hM;refine kg 10 ?_;refine s_val (x_conv64 (kd:=.u8) (a:=ae) Try.underlying5 Try.underlying3 rfl (by omega)) ?_;obtain ⟨ii,hM⟩:=M.e_gd hM;refine kg 3 ?_;refine t_fst (α:=Line) (k:=1) (i:=which % ((aa.take (Int.toNat (min 5 (aa.length:Int)))).length:Int)) (off:=4) (l:=ac) (l':=ac.set (Int.toNat (which % ((aa.take (Int.toNat (min 5 (aa.length:Int)))).length:Int))) ({ (ac.getD (Int.toNat (which % ((aa.take (Int.toNat (min 5 (aa.length:Int)))).length:Int))) default) with err:=((ac.getD (Int.toNat (which % ((aa.take (Int.toNat (min 5 (aa.length:Int)))).length:Int))) default).err)+ae })) (val:=I (((ac.getD (Int.toNat (which % ((aa.take (Int.toNat (min 5 (aa.length:Int)))).length:Int))) default).err)+ae)) (L':=[cBlk bB [I a6,aY] 25,cOwn (α:=Line) 35 aY (ac.set (Int.toNat (which % ((aa.take (Int.toNat (min 5 (aa.length:Int)))).length:Int))) ({ (ac.getD (Int.toNat (which % ((aa.take (Int.toNat (min 5 (aa.length:Int)))).length:Int))) default) with err:=((ac.getD (Int.toNat (which % ((aa.take (Int.toNat (min 5 (aa.length:Int)))).length:Int))) default).err)+ae })),cBlk aK [I (ag+ah),aN] 25,cOwn (α:=Line) 35 aN aM,cOwn (α:=Pub) 44 aT ([(⟨(l.length:Int),(r0.getD (l.length) 0:Int)⟩:Pub),(⟨((l.length:Int)+1:Int),(r0.getD (Int.toNat ((l.length:Int)+1)) 0:Int)⟩:Pub)]),cOwn (α:=Int) 3 a4 r0,cRo aZ,cOwn (α:=Note) 39 aJ l2,cOwn (α:=Raw 2) 37 aL (ax++([aO,aP])),cBlk ap [I ah,aw] 25,cOwn (α:=Line) 35 az ab,cBlk ao [I ag,av] 25,cOwn (α:=Line) 35 aC aa]) H rfl Sz3 (by omega) (by omega) (ac.getD (Int.toNat (which % ((aa.take (Int.toNat (min 5 (aa.length:Int)))).length:Int))) default) ({ (ac.getD (Int.toNat (which % ((aa.take (Int.toNat (min 5 (aa.length:Int)))).length:Int))) default) with err:=((ac.getD (Int.toNat (which % ((aa.take (Int.toNat (min 5 (aa.length:Int)))).length:Int))) default).err)+ae }) (getD_some _ (by omega) _) rfl rfl [I (((ac.getD (Int.toNat (which % ((aa.take (Int.toNat (min 5 (aa.length:Int)))).length:Int))) default).err)+ae)] rfl rfl rfl rfl rfl rfl rfl ?_;intro ik H
 have il:(ac.set (Int.toNat (which % ((aa.take (Int.toNat (min 5 (aa.length:Int)))).length:Int))) ({ (ac.getD (Int.toNat (which % ((aa.take (Int.toNat (min 5 (aa.length:Int)))).length:Int))) default) with err:=((ac.getD (Int.toNat (which % ((aa.take (Int.toNat (min 5 (aa.length:Int)))).length:Int))) default).err)+ae })).length=(ac).length:=List.length_set
 obtain ⟨im,hM⟩:=M.e_gd hM;refine kg 10 ?_;refine s_val (x_conv64 (kd:=.u8) (a:=ae) Try.underlying5 Try.underlying3 rfl (by omega)) ?_;obtain ⟨io,hM⟩:=M.e_gd hM;obtain ⟨ip,hM⟩:=M.e_gd hM;refine kg 4 ?_;refine t_fst (α:=Line) (k:=1) (i:=which % ((aa.take (Int.toNat (min 5 (aa.length:Int)))).length:Int)) (off:=3) (l:=ac.set (Int.toNat (which % ((aa.take (Int.toNat (min 5 (aa.length:Int)))).length:Int))) ({ (ac.getD (Int.toNat (which % ((aa.take (Int.toNat (min 5 (aa.length:Int)))).length:Int))) default) with err:=((ac.getD (Int.toNat (which % ((aa.take (Int.toNat (min 5 (aa.length:Int)))).length:Int))) default).err)+ae })) (l':=(ac.set (Int.toNat (which % ((aa.take (Int.toNat (min 5 (aa.length:Int)))).length:Int))) ({ (ac.getD (Int.toNat (which % ((aa.take (Int.toNat (min 5 (aa.length:Int)))).length:Int))) default) with err:=((ac.getD (Int.toNat (which % ((aa.take (Int.toNat (min 5 (aa.length:Int)))).length:Int))) default).err)+ae })).set (Int.toNat (which % ((aa.take (Int.toNat (min 5 (aa.length:Int)))).length:Int))) ({ ((ac.set (Int.toNat (which % ((aa.take (Int.toNat (min 5 (aa.length:Int)))).length:Int))) ({ (ac.getD (Int.toNat (which % ((aa.take (Int.toNat (min 5 (aa.length:Int)))).length:Int))) default) with err:=((ac.getD (Int.toNat (which % ((aa.take (Int.toNat (min 5 (aa.length:Int)))).length:Int))) default).err)+ae })).getD (Int.toNat (which % ((aa.take (Int.toNat (min 5 (aa.length:Int)))).length:Int))) default) with rise:=(((ac.set (Int.toNat (which % ((aa.take (Int.toNat (min 5 (aa.length:Int)))).length:Int))) ({ (ac.getD (Int.toNat (which % ((aa.take (Int.toNat (min 5 (aa.length:Int)))).length:Int))) default) with err:=((ac.getD (Int.toNat (which % ((aa.take (Int.toNat (min 5 (aa.length:Int)))).length:Int))) default).err)+ae })).getD (Int.toNat (which % ((aa.take (Int.toNat (min 5 (aa.length:Int)))).length:Int))) default).rise)+(ae / 2) })) (val:=I ((((ac.set (Int.toNat (which % ((aa.take (Int.toNat (min 5 (aa.length:Int)))).length:Int))) ({ (ac.getD (Int.toNat (which % ((aa.take (Int.toNat (min 5 (aa.length:Int)))).length:Int))) default) with err:=((ac.getD (Int.toNat (which % ((aa.take (Int.toNat (min 5 (aa.length:Int)))).length:Int))) default).err)+ae })).getD (Int.toNat (which % ((aa.take (Int.toNat (min 5 (aa.length:Int)))).length:Int))) default).rise)+(ae / 2))) (L':=[cBlk bB [I a6,aY] 25,cOwn (α:=Line) 35 aY ((ac.set (Int.toNat (which % ((aa.take (Int.toNat (min 5 (aa.length:Int)))).length:Int))) ({ (ac.getD (Int.toNat (which % ((aa.take (Int.toNat (min 5 (aa.length:Int)))).length:Int))) default) with err:=((ac.getD (Int.toNat (which % ((aa.take (Int.toNat (min 5 (aa.length:Int)))).length:Int))) default).err)+ae })).set (Int.toNat (which % ((aa.take (Int.toNat (min 5 (aa.length:Int)))).length:Int))) ({ ((ac.set (Int.toNat (which % ((aa.take (Int.toNat (min 5 (aa.length:Int)))).length:Int))) ({ (ac.getD (Int.toNat (which % ((aa.take (Int.toNat (min 5 (aa.length:Int)))).length:Int))) default) with err:=((ac.getD (Int.toNat (which % ((aa.take (Int.toNat (min 5 (aa.length:Int)))).length:Int))) default).err)+ae })).getD (Int.toNat (which % ((aa.take (Int.toNat (min 5 (aa.length:Int)))).length:Int))) default) with rise:=(((ac.set (Int.toNat (which % ((aa.take (Int.toNat (min 5 (aa.length:Int)))).length:Int))) ({ (ac.getD (Int.toNat (which % ((aa.take (Int.toNat (min 5 (aa.length:Int)))).length:Int))) default) with err:=((ac.getD (Int.toNat (which % ((aa.take (Int.toNat (min 5 (aa.length:Int)))).length:Int))) default).err)+ae })).getD (Int.toNat (which % ((aa.take (Int.toNat (min 5 (aa.length:Int)))).length:Int))) default).rise)+(ae / 2) })),cBlk aK [I (ag+ah),aN] 25,cOwn (α:=Line) 35 aN aM,cOwn (α:=Pub) 44 aT ([(⟨(l.length:Int),(r0.getD (l.length) 0:Int)⟩:Pub),(⟨((l.length:Int)+1:Int),(r0.getD (Int.toNat ((l.length:Int)+1)) 0:Int)⟩:Pub)]),cOwn (α:=Int) 3 a4 r0,cRo aZ,cOwn (α:=Note) 39 aJ l2,cOwn (α:=Raw 2) 37 aL (ax++([aO,aP])),cBlk ap [I ah,aw] 25,cOwn (α:=Line) 35 az ab,cBlk ao [I ag,av] 25,cOwn (α:=Line) 35 aC aa]) H rfl Sz3 (by omega) (by omega) ((ac.set (Int.toNat (which % ((aa.take (Int.toNat (min 5 (aa.length:Int)))).length:Int))) ({ (ac.getD (Int.toNat (which % ((aa.take (Int.toNat (min 5 (aa.length:Int)))).length:Int))) default) with err:=((ac.getD (Int.toNat (which % ((aa.take (Int.toNat (min 5 (aa.length:Int)))).length:Int))) default).err)+ae })).getD (Int.toNat (which % ((aa.take (Int.toNat (min 5 (aa.length:Int)))).length:Int))) default) ({ ((ac.set (Int.toNat (which % ((aa.take (Int.toNat (min 5 (aa.length:Int)))).length:Int))) ({ (ac.getD (Int.toNat (which % ((aa.take (Int.toNat (min 5 (aa.length:Int)))).length:Int))) default) with err:=((ac.getD (Int.toNat (which % ((aa.take (Int.toNat (min 5 (aa.length:Int)))).length:Int))) default).err)+ae })).getD (Int.toNat (which % ((aa.take (Int.toNat (min 5 (aa.length:Int)))).length:Int))) default) with rise:=(((ac.set (Int.toNat (which % ((aa.take (Int.toNat (min 5 (aa.length:Int)))).length:Int))) ({ (ac.getD (Int.toNat (which % ((aa.take (Int.toNat (min 5 (aa.length:Int)))).length:Int))) default) with err:=((ac.getD (Int.toNat (which % ((aa.take (Int.toNat (min 5 (aa.length:Int)))).length:Int))) default).err)+ae })).getD (Int.toNat (which % ((aa.take (Int.toNat (min 5 (aa.length:Int)))).length:Int))) default).rise)+(ae / 2) }) (getD_some _ (by omega) _) rfl rfl [I ((((ac.set (Int.toNat (which % ((aa.take (Int.toNat (min 5 (aa.length:Int)))).length:Int))) ({ (ac.getD (Int.toNat (which % ((aa.take (Int.toNat (min 5 (aa.length:Int)))).length:Int))) default) with err:=((ac.getD (Int.toNat (which % ((aa.take (Int.toNat (min 5 (aa.length:Int)))).length:Int))) default).err)+ae })).getD (Int.toNat (which % ((aa.take (Int.toNat (min 5 (aa.length:Int)))).length:Int))) default).rise)+(ae / 2))] rfl rfl rfl rfl rfl rfl rfl ?_;intro iq H
 have ir:((ac.set (Int.toNat (which % ((aa.take (Int.toNat (min 5 (aa.length:Int)))).length:Int))) ({ (ac.getD (Int.toNat (which % ((aa.take (Int.toNat (min 5 (aa.length:Int)))).length:Int))) default) with err:=((ac.getD (Int.toNat (which % ((aa.take (Int.toNat (min 5 (aa.length:Int)))).length:Int))) default).err)+ae })).set (Int.toNat (which % ((aa.take (Int.toNat (min 5 (aa.length:Int)))).length:Int))) ({ ((ac.set (Int.toNat (which % ((aa.take (Int.toNat (min 5 (aa.length:Int)))).length:Int))) ({ (ac.getD (Int.toNat (which % ((aa.take (Int.toNat (min 5 (aa.length:Int)))).length:Int))) default) with err:=((ac.getD (Int.toNat (which % ((aa.take (Int.toNat (min 5 (aa.length:Int)))).length:Int))) default).err)+ae })).getD (Int.toNat (which % ((aa.take (Int.toNat (min 5 (aa.length:Int)))).length:Int))) default) with rise:=(((ac.set (Int.toNat (which % ((aa.take (Int.toNat (min 5 (aa.length:Int)))).length:Int))) ({ (ac.getD (Int.toNat (which % ((aa.take (Int.toNat (min 5 (aa.length:Int)))).length:Int))) default) with err:=((ac.getD (Int.toNat (which % ((aa.take (Int.toNat (min 5 (aa.length:Int)))).length:Int))) default).err)+ae })).getD (Int.toNat (which % ((aa.take (Int.toNat (min 5 (aa.length:Int)))).length:Int))) default).rise)+(ae / 2) })).length=(ac.set (Int.toNat (which % ((aa.take (Int.toNat (min 5 (aa.length:Int)))).length:Int))) ({ (ac.getD (Int.toNat (which % ((aa.take (Int.toNat (min 5 (aa.length:Int)))).length:Int))) default) with err:=((ac.getD (Int.toNat (which % ((aa.take (Int.toNat (min 5 (aa.length:Int)))).length:Int))) default).err)+ae })).length:=List.length_set
 refine kg 5 ?_;refine t_bs (α:=Int) T26 [I (which % ((aa.take (Int.toNat (min 5 (aa.length:Int)))).length:Int))] [which % ((aa.take (Int.toNat (min 5 (aa.length:Int)))).length:Int)] H rfl (.cons rfl (Flat.rep_enc _ (which % ((aa.take (Int.toNat (min 5 (aa.length:Int)))).length:Int)))<|.nil) rfl rfl rfl ?_;intro dG iu H;obtain ⟨iv,dH,hM⟩:=M.e_bind hM;refine s_call cf9 [aL,dG] rfl (zcW (l++([(⟨l7,(0:Int),(0:Int)⟩:Work),(⟨l8,(0:Int),(0:Int)⟩:Work)])) ([which % ((aa.take (Int.toNat (min 5 (aa.length:Int)))).length:Int)]) (Reads.sup (rdo 9) (Reads.of (k:=7) rfl roLe)) (rowSl rfl (H.get (k:=9) rfl) (roLe _ (H.get (k:=7) rfl)) bz) (rdo 0) (H.os 0) dH _ (H.gt 14)) ?_
 rintro vq iw ⟨dJ,aq,bO,rfl,hvq,ai⟩
 subst vq;(try dsimp only at hM);replace H:=H.bk ai;clear ai;refine kg 6 ?_;replace H:=H.pk [0,2,3,4,5,6,8,9,10,11,12,13,14];obtain ⟨iy,hM⟩:=M.e_gd hM;obtain ⟨iz,hM⟩:=M.e_gd hM;refine kg 12 ?_;refine s_val (x_bld (ps:=[(0,I (which % ((aa.take (Int.toNat (min 5 (aa.length:Int)))).length:Int))),(1,I 1),(2,I (((((ac.set (Int.toNat (which % ((aa.take (Int.toNat (min 5 (aa.length:Int)))).length:Int))) ({ (ac.getD (Int.toNat (which % ((aa.take (Int.toNat (min 5 (aa.length:Int)))).length:Int))) default) with err:=((ac.getD (Int.toNat (which % ((aa.take (Int.toNat (min 5 (aa.length:Int)))).length:Int))) default).err)+ae })).set (Int.toNat (which % ((aa.take (Int.toNat (min 5 (aa.length:Int)))).length:Int))) ({ ((ac.set (Int.toNat (which % ((aa.take (Int.toNat (min 5 (aa.length:Int)))).length:Int))) ({ (ac.getD (Int.toNat (which % ((aa.take (Int.toNat (min 5 (aa.length:Int)))).length:Int))) default) with err:=((ac.getD (Int.toNat (which % ((aa.take (Int.toNat (min 5 (aa.length:Int)))).length:Int))) default).err)+ae })).getD (Int.toNat (which % ((aa.take (Int.toNat (min 5 (aa.length:Int)))).length:Int))) default) with rise:=(((ac.set (Int.toNat (which % ((aa.take (Int.toNat (min 5 (aa.length:Int)))).length:Int))) ({ (ac.getD (Int.toNat (which % ((aa.take (Int.toNat (min 5 (aa.length:Int)))).length:Int))) default) with err:=((ac.getD (Int.toNat (which % ((aa.take (Int.toNat (min 5 (aa.length:Int)))).length:Int))) default).err)+ae })).getD (Int.toNat (which % ((aa.take (Int.toNat (min 5 (aa.length:Int)))).length:Int))) default).rise)+(ae / 2) })).getD (Int.toNat (which % ((aa.take (Int.toNat (min 5 (aa.length:Int)))).length:Int))) default).rise)+1000))]) (zs:=[I 0,I 0,I 0]) (L':=[I (which % ((aa.take (Int.toNat (min 5 (aa.length:Int)))).length:Int)),I 1,I (((((ac.set (Int.toNat (which % ((aa.take (Int.toNat (min 5 (aa.length:Int)))).length:Int))) ({ (ac.getD (Int.toNat (which % ((aa.take (Int.toNat (min 5 (aa.length:Int)))).length:Int))) default) with err:=((ac.getD (Int.toNat (which % ((aa.take (Int.toNat (min 5 (aa.length:Int)))).length:Int))) default).err)+ae })).set (Int.toNat (which % ((aa.take (Int.toNat (min 5 (aa.length:Int)))).length:Int))) ({ ((ac.set (Int.toNat (which % ((aa.take (Int.toNat (min 5 (aa.length:Int)))).length:Int))) ({ (ac.getD (Int.toNat (which % ((aa.take (Int.toNat (min 5 (aa.length:Int)))).length:Int))) default) with err:=((ac.getD (Int.toNat (which % ((aa.take (Int.toNat (min 5 (aa.length:Int)))).length:Int))) default).err)+ae })).getD (Int.toNat (which % ((aa.take (Int.toNat (min 5 (aa.length:Int)))).length:Int))) default) with rise:=(((ac.set (Int.toNat (which % ((aa.take (Int.toNat (min 5 (aa.length:Int)))).length:Int))) ({ (ac.getD (Int.toNat (which % ((aa.take (Int.toNat (min 5 (aa.length:Int)))).length:Int))) default) with err:=((ac.getD (Int.toNat (which % ((aa.take (Int.toNat (min 5 (aa.length:Int)))).length:Int))) default).err)+ae })).getD (Int.toNat (which % ((aa.take (Int.toNat (min 5 (aa.length:Int)))).length:Int))) default).rise)+(ae / 2) })).getD (Int.toNat (which % ((aa.take (Int.toNat (min 5 (aa.length:Int)))).length:Int))) default).rise)+1000)]) rfl Try.underlying39 Al39 rfl (Bd39 Try.underlying39) (.cons (cs:=[I (which % ((aa.take (Int.toNat (min 5 (aa.length:Int)))).length:Int))]) rfl rfl rfl rfl rfl<|.cons (cs:=[I 1]) rfl rfl rfl rfl rfl<|.cons (cs:=[I (((((ac.set (Int.toNat (which % ((aa.take (Int.toNat (min 5 (aa.length:Int)))).length:Int))) ({ (ac.getD (Int.toNat (which % ((aa.take (Int.toNat (min 5 (aa.length:Int)))).length:Int))) default) with err:=((ac.getD (Int.toNat (which % ((aa.take (Int.toNat (min 5 (aa.length:Int)))).length:Int))) default).err)+ae })).set (Int.toNat (which % ((aa.take (Int.toNat (min 5 (aa.length:Int)))).length:Int))) ({ ((ac.set (Int.toNat (which % ((aa.take (Int.toNat (min 5 (aa.length:Int)))).length:Int))) ({ (ac.getD (Int.toNat (which % ((aa.take (Int.toNat (min 5 (aa.length:Int)))).length:Int))) default) with err:=((ac.getD (Int.toNat (which % ((aa.take (Int.toNat (min 5 (aa.length:Int)))).length:Int))) default).err)+ae })).getD (Int.toNat (which % ((aa.take (Int.toNat (min 5 (aa.length:Int)))).length:Int))) default) with rise:=(((ac.set (Int.toNat (which % ((aa.take (Int.toNat (min 5 (aa.length:Int)))).length:Int))) ({ (ac.getD (Int.toNat (which % ((aa.take (Int.toNat (min 5 (aa.length:Int)))).length:Int))) default) with err:=((ac.getD (Int.toNat (which % ((aa.take (Int.toNat (min 5 (aa.length:Int)))).length:Int))) default).err)+ae })).getD (Int.toNat (which % ((aa.take (Int.toNat (min 5 (aa.length:Int)))).length:Int))) default).rise)+(ae / 2) })).getD (Int.toNat (which % ((aa.take (Int.toNat (min 5 (aa.length:Int)))).length:Int))) default).rise)+1000)]) rfl rfl rfl rfl rfl<|.nil)) ?_;refine t_bs (α:=Note) T32 [.agg #[I (which % ((aa.take (Int.toNat (min 5 (aa.length:Int)))).length:Int)),I 1,I (((((ac.set (Int.toNat (which % ((aa.take (Int.toNat (min 5 (aa.length:Int)))).length:Int))) ({ (ac.getD (Int.toNat (which % ((aa.take (Int.toNat (min 5 (aa.length:Int)))).length:Int))) default) with err:=((ac.getD (Int.toNat (which % ((aa.take (Int.toNat (min 5 (aa.length:Int)))).length:Int))) default).err)+ae })).set (Int.toNat (which % ((aa.take (Int.toNat (min 5 (aa.length:Int)))).length:Int))) ({ ((ac.set (Int.toNat (which % ((aa.take (Int.toNat (min 5 (aa.length:Int)))).length:Int))) ({ (ac.getD (Int.toNat (which % ((aa.take (Int.toNat (min 5 (aa.length:Int)))).length:Int))) default) with err:=((ac.getD (Int.toNat (which % ((aa.take (Int.toNat (min 5 (aa.length:Int)))).length:Int))) default).err)+ae })).getD (Int.toNat (which % ((aa.take (Int.toNat (min 5 (aa.length:Int)))).length:Int))) default) with rise:=(((ac.set (Int.toNat (which % ((aa.take (Int.toNat (min 5 (aa.length:Int)))).length:Int))) ({ (ac.getD (Int.toNat (which % ((aa.take (Int.toNat (min 5 (aa.length:Int)))).length:Int))) default) with err:=((ac.getD (Int.toNat (which % ((aa.take (Int.toNat (min 5 (aa.length:Int)))).length:Int))) default).err)+ae })).getD (Int.toNat (which % ((aa.take (Int.toNat (min 5 (aa.length:Int)))).length:Int))) default).rise)+(ae / 2) })).getD (Int.toNat (which % ((aa.take (Int.toNat (min 5 (aa.length:Int)))).length:Int))) default).rise)+1000)]] [(⟨which % ((aa.take (Int.toNat (min 5 (aa.length:Int)))).length:Int),(1:Int),(((((ac.set (Int.toNat (which % ((aa.take (Int.toNat (min 5 (aa.length:Int)))).length:Int))) ({ (ac.getD (Int.toNat (which % ((aa.take (Int.toNat (min 5 (aa.length:Int)))).length:Int))) default) with err:=((ac.getD (Int.toNat (which % ((aa.take (Int.toNat (min 5 (aa.length:Int)))).length:Int))) default).err)+ae })).set (Int.toNat (which % ((aa.take (Int.toNat (min 5 (aa.length:Int)))).length:Int))) ({ ((ac.set (Int.toNat (which % ((aa.take (Int.toNat (min 5 (aa.length:Int)))).length:Int))) ({ (ac.getD (Int.toNat (which % ((aa.take (Int.toNat (min 5 (aa.length:Int)))).length:Int))) default) with err:=((ac.getD (Int.toNat (which % ((aa.take (Int.toNat (min 5 (aa.length:Int)))).length:Int))) default).err)+ae })).getD (Int.toNat (which % ((aa.take (Int.toNat (min 5 (aa.length:Int)))).length:Int))) default) with rise:=(((ac.set (Int.toNat (which % ((aa.take (Int.toNat (min 5 (aa.length:Int)))).length:Int))) ({ (ac.getD (Int.toNat (which % ((aa.take (Int.toNat (min 5 (aa.length:Int)))).length:Int))) default) with err:=((ac.getD (Int.toNat (which % ((aa.take (Int.toNat (min 5 (aa.length:Int)))).length:Int))) default).err)+ae })).getD (Int.toNat (which % ((aa.take (Int.toNat (min 5 (aa.length:Int)))).length:Int))) default).rise)+(ae / 2) })).getD (Int.toNat (which % ((aa.take (Int.toNat (min 5 (aa.length:Int)))).length:Int))) default).rise)+1000:Int)⟩:Note)] H rfl (.cons rfl (Flat.rep_enc _ (⟨which % ((aa.take (Int.toNat (min 5 (aa.length:Int)))).length:Int),(1:Int),(((((ac.set (Int.toNat (which % ((aa.take (Int.toNat (min 5 (aa.length:Int)))).length:Int))) ({ (ac.getD (Int.toNat (which % ((aa.take (Int.toNat (min 5 (aa.length:Int)))).length:Int))) default) with err:=((ac.getD (Int.toNat (which % ((aa.take (Int.toNat (min 5 (aa.length:Int)))).length:Int))) default).err)+ae })).set (Int.toNat (which % ((aa.take (Int.toNat (min 5 (aa.length:Int)))).length:Int))) ({ ((ac.set (Int.toNat (which % ((aa.take (Int.toNat (min 5 (aa.length:Int)))).length:Int))) ({ (ac.getD (Int.toNat (which % ((aa.take (Int.toNat (min 5 (aa.length:Int)))).length:Int))) default) with err:=((ac.getD (Int.toNat (which % ((aa.take (Int.toNat (min 5 (aa.length:Int)))).length:Int))) default).err)+ae })).getD (Int.toNat (which % ((aa.take (Int.toNat (min 5 (aa.length:Int)))).length:Int))) default) with rise:=(((ac.set (Int.toNat (which % ((aa.take (Int.toNat (min 5 (aa.length:Int)))).length:Int))) ({ (ac.getD (Int.toNat (which % ((aa.take (Int.toNat (min 5 (aa.length:Int)))).length:Int))) default) with err:=((ac.getD (Int.toNat (which % ((aa.take (Int.toNat (min 5 (aa.length:Int)))).length:Int))) default).err)+ae })).getD (Int.toNat (which % ((aa.take (Int.toNat (min 5 (aa.length:Int)))).length:Int))) default).rise)+(ae / 2) })).getD (Int.toNat (which % ((aa.take (Int.toNat (min 5 (aa.length:Int)))).length:Int))) default).rise)+1000:Int)⟩:Note))<|.nil) rfl rfl rfl ?_;intro dK iA H;obtain ⟨iB,hM⟩:=M.e_gd hM;refine t_app (α:=Note) (k:=8) (l:=l2) (l2:=[(⟨which % ((aa.take (Int.toNat (min 5 (aa.length:Int)))).length:Int),(1:Int),(((((ac.set (Int.toNat (which % ((aa.take (Int.toNat (min 5 (aa.length:Int)))).length:Int))) ({ (ac.getD (Int.toNat (which % ((aa.take (Int.toNat (min 5 (aa.length:Int)))).length:Int))) default) with err:=((ac.getD (Int.toNat (which % ((aa.take (Int.toNat (min 5 (aa.length:Int)))).length:Int))) default).err)+ae })).set (Int.toNat (which % ((aa.take (Int.toNat (min 5 (aa.length:Int)))).length:Int))) ({ ((ac.set (Int.toNat (which % ((aa.take (Int.toNat (min 5 (aa.length:Int)))).length:Int))) ({ (ac.getD (Int.toNat (which % ((aa.take (Int.toNat (min 5 (aa.length:Int)))).length:Int))) default) with err:=((ac.getD (Int.toNat (which % ((aa.take (Int.toNat (min 5 (aa.length:Int)))).length:Int))) default).err)+ae })).getD (Int.toNat (which % ((aa.take (Int.toNat (min 5 (aa.length:Int)))).length:Int))) default) with rise:=(((ac.set (Int.toNat (which % ((aa.take (Int.toNat (min 5 (aa.length:Int)))).length:Int))) ({ (ac.getD (Int.toNat (which % ((aa.take (Int.toNat (min 5 (aa.length:Int)))).length:Int))) default) with err:=((ac.getD (Int.toNat (which % ((aa.take (Int.toNat (min 5 (aa.length:Int)))).length:Int))) default).err)+ae })).getD (Int.toNat (which % ((aa.take (Int.toNat (min 5 (aa.length:Int)))).length:Int))) default).rise)+(ae / 2) })).getD (Int.toNat (which % ((aa.take (Int.toNat (min 5 (aa.length:Int)))).length:Int))) default).rise)+1000:Int)⟩:Note)]) (l':=l2++([(⟨which % ((aa.take (Int.toNat (min 5 (aa.length:Int)))).length:Int),(1:Int),(((((ac.set (Int.toNat (which % ((aa.take (Int.toNat (min 5 (aa.length:Int)))).length:Int))) ({ (ac.getD (Int.toNat (which % ((aa.take (Int.toNat (min 5 (aa.length:Int)))).length:Int))) default) with err:=((ac.getD (Int.toNat (which % ((aa.take (Int.toNat (min 5 (aa.length:Int)))).length:Int))) default).err)+ae })).set (Int.toNat (which % ((aa.take (Int.toNat (min 5 (aa.length:Int)))).length:Int))) ({ ((ac.set (Int.toNat (which % ((aa.take (Int.toNat (min 5 (aa.length:Int)))).length:Int))) ({ (ac.getD (Int.toNat (which % ((aa.take (Int.toNat (min 5 (aa.length:Int)))).length:Int))) default) with err:=((ac.getD (Int.toNat (which % ((aa.take (Int.toNat (min 5 (aa.length:Int)))).length:Int))) default).err)+ae })).getD (Int.toNat (which % ((aa.take (Int.toNat (min 5 (aa.length:Int)))).length:Int))) default) with rise:=(((ac.set (Int.toNat (which % ((aa.take (Int.toNat (min 5 (aa.length:Int)))).length:Int))) ({ (ac.getD (Int.toNat (which % ((aa.take (Int.toNat (min 5 (aa.length:Int)))).length:Int))) default) with err:=((ac.getD (Int.toNat (which % ((aa.take (Int.toNat (min 5 (aa.length:Int)))).length:Int))) default).err)+ae })).getD (Int.toNat (which % ((aa.take (Int.toNat (min 5 (aa.length:Int)))).length:Int))) default).rise)+(ae / 2) })).getD (Int.toNat (which % ((aa.take (Int.toNat (min 5 (aa.length:Int)))).length:Int))) default).rise)+1000:Int)⟩:Note)])) (vy:=dK) T32 rfl H rfl rfl rfl (H.os 0) (H.ol 0) (rfl) (by first | omega | (simp only [List.length_nil] at *; omega)) ?_;intro dL iC H;replace H:=H.nf;refine kg 1 ?_;obtain ⟨iD,dM,hM⟩:=M.e_bind hM;refine s_call cf10 [aL,dL,aT] rfl (zc8 (l++([(⟨l7,(0:Int),(0:Int)⟩:Work),(⟨l8,(0:Int),(0:Int)⟩:Work)])) (l2++([(⟨which % ((aa.take (Int.toNat (min 5 (aa.length:Int)))).length:Int),(1:Int),(((((ac.set (Int.toNat (which % ((aa.take (Int.toNat (min 5 (aa.length:Int)))).length:Int))) ({ (ac.getD (Int.toNat (which % ((aa.take (Int.toNat (min 5 (aa.length:Int)))).length:Int))) default) with err:=((ac.getD (Int.toNat (which % ((aa.take (Int.toNat (min 5 (aa.length:Int)))).length:Int))) default).err)+ae })).set (Int.toNat (which % ((aa.take (Int.toNat (min 5 (aa.length:Int)))).length:Int))) ({ ((ac.set (Int.toNat (which % ((aa.take (Int.toNat (min 5 (aa.length:Int)))).length:Int))) ({ (ac.getD (Int.toNat (which % ((aa.take (Int.toNat (min 5 (aa.length:Int)))).length:Int))) default) with err:=((ac.getD (Int.toNat (which % ((aa.take (Int.toNat (min 5 (aa.length:Int)))).length:Int))) default).err)+ae })).getD (Int.toNat (which % ((aa.take (Int.toNat (min 5 (aa.length:Int)))).length:Int))) default) with rise:=(((ac.set (Int.toNat (which % ((aa.take (Int.toNat (min 5 (aa.length:Int)))).length:Int))) ({ (ac.getD (Int.toNat (which % ((aa.take (Int.toNat (min 5 (aa.length:Int)))).length:Int))) default) with err:=((ac.getD (Int.toNat (which % ((aa.take (Int.toNat (min 5 (aa.length:Int)))).length:Int))) default).err)+ae })).getD (Int.toNat (which % ((aa.take (Int.toNat (min 5 (aa.length:Int)))).length:Int))) default).rise)+(ae / 2) })).getD (Int.toNat (which % ((aa.take (Int.toNat (min 5 (aa.length:Int)))).length:Int))) default).rise)+1000:Int)⟩:Note)])) ([(⟨(l.length:Int),(r0.getD (l.length) 0:Int)⟩:Pub),(⟨((l.length:Int)+1:Int),(r0.getD (Int.toNat ((l.length:Int)+1)) 0:Int)⟩:Pub)]) (Reads.sup (rdo 9) (Reads.of (k:=7) rfl roLe)) (rowSl rfl (H.get (k:=9) rfl) (roLe _ (H.get (k:=7) rfl)) bz) (rdo 8) (H.os 8) (rdo 6) (H.os 6) dM _ (H.gt 14)) ?_
 rintro vq iE ⟨ck,au,bh,rfl,hvq,ai⟩
 subst vq;(try dsimp only at hM);replace H:=H.bk ai;clear ai;refine kg 6 ?_;replace H:=H.pk [0,2,3,4,5,6,11,12,13,14];refine kg 8 ?_;refine s_val (x_por (b:=aq != 0) (r:=au != 0) rfl rfl (fun hb=>gd_of (c:=!(aq != 0)) (by first | exact hb | (rw [hb]; rfl) | simp_all) (B (au != 0))))<|zM (B ((aq != 0)||(au != 0))) rfl<|g_val (!((aq != 0)||(au != 0))) (gy_f rfl) (fun hg=>x_mv (v:=bO) rfl)<|g_val (!((aq != 0)||(au != 0))) (gy_f rfl) (fun hg=>x_mv (v:=I (which % ((aa.take (Int.toNat (min 5 (aa.length:Int)))).length:Int))) rfl)<|g_val (!((aq != 0)||(au != 0))) (gy_f rfl) (fun hg=>x_mv (v:=I (l.length:Int)) rfl) ?_;refine t_gbs (α:=Int) T26 (!((aq != 0)||(au != 0))) (gy_f rfl) [I (which % ((aa.take (Int.toNat (min 5 (aa.length:Int)))).length:Int)),I (l.length:Int)] [which % ((aa.take (Int.toNat (min 5 (aa.length:Int)))).length:Int),(l.length:Int)] H (fun hg=>by exact prs2 (gd_of hg (I (which % ((aa.take (Int.toNat (min 5 (aa.length:Int)))).length:Int)))) (gd_of hg (I (l.length:Int)))) (.cons rfl (Flat.rep_enc _ (which % ((aa.take (Int.toNat (min 5 (aa.length:Int)))).length:Int)))<|.cons rfl (Flat.rep_enc _ (l.length:Int))<|.nil) rfl rfl rfl ?_;intro cm iF iG H dN;obtain ⟨r5,dO,hM⟩:=M.e_bind hM;refine t_gcall (!((aq != 0)||(au != 0))) (gy_f rfl) cf11 (B r5) (fun _=>[bO,cm]) (fun hg=>lst2 (gd_of hg (bO)) (gd_of hg (cm))) H (fun hg=>(zau dJ ([which % ((aa.take (Int.toNat (min 5 (aa.length:Int)))).length:Int),(l.length:Int)]) (rdo 2) (H.os 2) (Reads.of (k:=0) rfl roLe) (dN hg) (M.e_opt dO hg) _ (H.give (A:=[]) rfl)).mono fun v_ w_ ⟨y_,aQ,bn,H_⟩=>by subst aQ; exact ⟨bn,H.via H_⟩) ?_;intro iH H;refine g_val (!((aq != 0)||(au != 0))) (gy_f rfl) (fun hg=>x_not (b:=r5) (gd_of hg (B r5)))<|s_val (x_por (b:=((aq != 0)||(au != 0))) (r:=!r5) rfl rfl (fun hb=>gd_of (c:=!((aq != 0)||(au != 0))) (by first | exact hb | (rw [hb]; rfl) | simp_all) (B (!r5))))<|zM (B (((aq != 0)||(au != 0))||(!r5))) rfl<|g_val (!(((aq != 0)||(au != 0))||(!r5))) (gy_f rfl) (fun hg=>x_mv (v:=bh) rfl) ?_;obtain ⟨r6,dP,hM⟩:=M.e_bind hM;refine t_gcall (!(((aq != 0)||(au != 0))||(!r5))) (gy_f rfl) cf12 (B r6) (fun _=>[bh,I 1]) (fun hg=>lst2 (gd_of hg (bh)) rfl) H (fun hg=>(zaj ck 1 (rdo 1) (H.os 1) (M.e_opt dP hg) _ (H.give (A:=[]) rfl)).mono fun v_ w_ ⟨y_,aQ,bn,H_⟩=>by subst aQ; exact ⟨bn,H.via H_⟩) ?_;intro iI H;refine s_val (x_por (b:=(((aq != 0)||(au != 0))||(!r5))) (r:=r6) rfl rfl (fun hb=>gd_of (c:=!(((aq != 0)||(au != 0))||(!r5))) (by first | exact hb | (rw [hb]; rfl) | simp_all) (B r6)))<|zM (B ((((aq != 0)||(au != 0))||(!r5))||r6)) rfl<|g_val (!((((aq != 0)||(au != 0))||(!r5))||r6)) (gy_f rfl) (fun hg=>x_mv (v:=bh) rfl) ?_;obtain ⟨r7,dQ,hM⟩:=M.e_bind hM;refine t_gcall (!((((aq != 0)||(au != 0))||(!r5))||r6)) (gy_f rfl) cf12 (B r7) (fun _=>[bh,I 0]) (fun hg=>lst2 (gd_of hg (bh)) rfl) H (fun hg=>(zaj ck 0 (rdo 1) (H.os 1) (M.e_opt dQ hg) _ (H.give (A:=[]) rfl)).mono fun v_ w_ ⟨y_,aQ,bn,H_⟩=>by subst aQ; exact ⟨bn,H.via H_⟩) ?_;intro iJ H;refine g_val (!((((aq != 0)||(au != 0))||(!r5))||r6)) (gy_f rfl) (fun hg=>x_mv (v:=.int .u8 ae) rfl)<|g_val (!((((aq != 0)||(au != 0))||(!r5))||r6)) (gy_f rfl) (fun hg=>x_conv64 (kd:=.u8) (a:=ae) Try.underlying5 Try.underlying3 (gd_of hg (.int .u8 ae)) (by first | omega | (have aB:=hg; simp at aB; omega)))<|g_val (!((((aq != 0)||(au != 0))||(!r5))||r6)) (gy_f rfl) (fun hg=>x_quo (a:=ae) (b:=2) (gd_of hg (I ae)) rfl (by first | omega | (have aB:=hg; simp at aB; omega)))<|g_val (!((((aq != 0)||(au != 0))||(!r5))||r6)) (gy_f rfl) (fun hg=>x_cmp (kd:=.i64) (r:=decide (0<(ae / 2))) (gd_of hg (I (ae / 2))) rfl rfl)<|g_val (!((((aq != 0)||(au != 0))||(!r5))||r6)) (gy_f rfl) (fun hg=>x_eqb (a:=r7) (b:=decide (0<(ae / 2))) (r:=(r7 != (decide (0<(ae / 2))))) (gd_of hg (B r7)) (gd_of hg (B (decide (0<(ae / 2))))) Try.underlying4 rfl)<|s_val (x_por (b:=((((aq != 0)||(au != 0))||(!r5))||r6)) (r:=(r7 != (decide (0<(ae / 2))))) rfl rfl (fun hb=>gd_of (c:=!((((aq != 0)||(au != 0))||(!r5))||r6)) (by first | exact hb | (rw [hb]; rfl) | simp_all) (B (r7 != (decide (0<(ae / 2)))))))<|s_nil ?_;replace H:=H.pk [3,4,5,6,7,8,9,10]
 refine W.cond (((((aq != 0)||(au != 0))||(!r5))||r6)||(r7 != (decide (0<(ae / 2))))) rfl (fun bP=>?_) (fun bP=>?_)
 ·replace hM:=M.e_t hM bP;refine kg 4 ?_;replace H:=H.pk [];refine W.ret ?_
  have aQ:=M.e_pure hM
  exact ⟨_,resE_tmp rfl,⟨false,aQ,rfl,H⟩⟩
 replace hM:=M.e_f hM bP;refine kg 9 ?_;obtain ⟨dR,bQ,cn⟩:=M.e_bind hM
 obtain ⟨bF,bQ⟩:=M.e_iter bQ
 refine W.loop (fun m σ W=>∃ (a:Int) (ρ:Env),σ=upds ρ [(9,Pq ao),(11,Pq ap),(26,Pq aK),(29,Pq bB),(33,I a)]/\M.iterN (zav which ae ag aa ah ab aM a6 ac) m a=some dR/\St w W [cBlk bB [I a6,aY] 25,cOwn (α:=Line) 35 aY ((ac.set (Int.toNat (which % ((aa.take (Int.toNat (min 5 (aa.length:Int)))).length:Int))) ({ (ac.getD (Int.toNat (which % ((aa.take (Int.toNat (min 5 (aa.length:Int)))).length:Int))) default) with err:=((ac.getD (Int.toNat (which % ((aa.take (Int.toNat (min 5 (aa.length:Int)))).length:Int))) default).err)+ae })).set (Int.toNat (which % ((aa.take (Int.toNat (min 5 (aa.length:Int)))).length:Int))) ({ ((ac.set (Int.toNat (which % ((aa.take (Int.toNat (min 5 (aa.length:Int)))).length:Int))) ({ (ac.getD (Int.toNat (which % ((aa.take (Int.toNat (min 5 (aa.length:Int)))).length:Int))) default) with err:=((ac.getD (Int.toNat (which % ((aa.take (Int.toNat (min 5 (aa.length:Int)))).length:Int))) default).err)+ae })).getD (Int.toNat (which % ((aa.take (Int.toNat (min 5 (aa.length:Int)))).length:Int))) default) with rise:=(((ac.set (Int.toNat (which % ((aa.take (Int.toNat (min 5 (aa.length:Int)))).length:Int))) ({ (ac.getD (Int.toNat (which % ((aa.take (Int.toNat (min 5 (aa.length:Int)))).length:Int))) default) with err:=((ac.getD (Int.toNat (which % ((aa.take (Int.toNat (min 5 (aa.length:Int)))).length:Int))) default).err)+ae })).getD (Int.toNat (which % ((aa.take (Int.toNat (min 5 (aa.length:Int)))).length:Int))) default).rise)+(ae / 2) })),cBlk aK [I (ag+ah),aN] 25,cOwn (α:=Line) 35 aN aM,cBlk ap [I ah,aw] 25,cOwn (α:=Line) 35 az ab,cBlk ao [I ag,av] 25,cOwn (α:=Line) 35 aC aa] R) ?_ ?_
 ·exact ⟨_,ag,_,upds_of _ _ ⟨rfl,rfl,rfl,rfl,rfl,trivial⟩,bQ,H⟩
 rintro iK σ iL ⟨a,ρ,rfl,co,H⟩
 obtain ⟨dS,dT,iM,hM,bR⟩:=M.e_iterN co
 simp only [zav] at hM
 clear co;refine kg 8 ?_
 refine W.cond (decide (a<(ag+ah))) rfl (fun bc=>?_) (fun bc=>?_)
 ·replace hM:=M.e_t hM bc
  replace bc:=dI bc
  refine kg 9 ?_;obtain ⟨iN,dU,hM⟩:=M.e_bind hM;refine s_call cf13 [.agg #[I (ag+ah),aN],I ag,I a] rfl (zbZ (ag+ah) aM ag a (rdo 3) (H.os 3) dU _ (H.gt 8)) ?_
  rintro vq iO ⟨aj,am,aI,rfl,hvq,ai⟩
  subst vq;(try dsimp only at hM);replace H:=H.bk ai;clear ai;refine kg 3 ?_;refine t_alloc (cs:=[I 0,I 0]) H Al52 rfl ?_;intro iP iQ H;refine t_sw 0 0 [I aj,I am] (.agg #[I aj,I am]) H rfl rfl Sz52 rfl rfl rfl rfl ?_;intro iR H;refine kg 8 ?_;obtain ⟨iS,dV,hM⟩:=M.e_bind hM;refine s_call cf13 [.agg #[I a6,aY],I ag,I a] rfl (zbZ a6 ((ac.set (Int.toNat (which % ((aa.take (Int.toNat (min 5 (aa.length:Int)))).length:Int))) ({ (ac.getD (Int.toNat (which % ((aa.take (Int.toNat (min 5 (aa.length:Int)))).length:Int))) default) with err:=((ac.getD (Int.toNat (which % ((aa.take (Int.toNat (min 5 (aa.length:Int)))).length:Int))) default).err)+ae })).set (Int.toNat (which % ((aa.take (Int.toNat (min 5 (aa.length:Int)))).length:Int))) ({ ((ac.set (Int.toNat (which % ((aa.take (Int.toNat (min 5 (aa.length:Int)))).length:Int))) ({ (ac.getD (Int.toNat (which % ((aa.take (Int.toNat (min 5 (aa.length:Int)))).length:Int))) default) with err:=((ac.getD (Int.toNat (which % ((aa.take (Int.toNat (min 5 (aa.length:Int)))).length:Int))) default).err)+ae })).getD (Int.toNat (which % ((aa.take (Int.toNat (min 5 (aa.length:Int)))).length:Int))) default) with rise:=(((ac.set (Int.toNat (which % ((aa.take (Int.toNat (min 5 (aa.length:Int)))).length:Int))) ({ (ac.getD (Int.toNat (which % ((aa.take (Int.toNat (min 5 (aa.length:Int)))).length:Int))) default) with err:=((ac.getD (Int.toNat (which % ((aa.take (Int.toNat (min 5 (aa.length:Int)))).length:Int))) default).err)+ae })).getD (Int.toNat (which % ((aa.take (Int.toNat (min 5 (aa.length:Int)))).length:Int))) default).rise)+(ae / 2) })) ag a (rdo 2) (H.os 2) dV _ (H.gt 9)) ?_
  rintro vq iT ⟨aD,aE,aR,rfl,hvq,ai⟩
  subst vq;(try dsimp only at hM);replace H:=H.bk ai;clear ai;refine kg 3 ?_;refine t_alloc (cs:=[I 0,I 0]) H Al52 rfl ?_;intro iV iW H;refine t_sw 0 0 [I aD,I aE] (.agg #[I aD,I aE]) H rfl rfl Sz52 rfl rfl rfl rfl ?_;intro iX H;obtain ⟨iY,hM⟩:=M.e_gd hM;refine kg 9 ?_;obtain ⟨iZ,dW,hM⟩:=M.e_bind hM;refine s_call cf13 [.agg #[I ah,aw],I 0,I (a-ag)] rfl (zbZ ah (ab.take (Int.toNat (min 5 (ab.length:Int)))) 0 (a-ag) (rdo 7) aX dW _ (H.gt 10)) ?_
  rintro vq i5 ⟨aF,aG,bi,rfl,hvq,ai⟩
  subst vq;(try dsimp only at hM);replace H:=H.bk ai;clear ai;refine kg 3 ?_;refine t_alloc (cs:=[I 0,I 0]) H Al52 rfl ?_;intro i6 i7 H;refine t_sw 0 0 [I aF,I aG] (.agg #[I aF,I aG]) H rfl rfl Sz52 rfl rfl rfl rfl ?_;intro i8 H;refine kg 6 ?_;refine s_val (x_neS (eqT52 (⟨(aj:Int),(am:Int)⟩:Span) (⟨(aD:Int),(aE:Int)⟩:Span) _) gdT52 rfl rfl) ?_;refine kg 3 ?_;refine g_val (!(!(decide ((⟨(aj:Int),(am:Int)⟩:Span)=(⟨(aD:Int),(aE:Int)⟩:Span))))) (gy_f rfl) (fun hg=>x_neS (eqT52 (⟨(aj:Int),(am:Int)⟩:Span) (⟨(aF:Int),(aG:Int)⟩:Span) _) gdT52 (gd_of hg (.agg #[I aj,I am])) (gd_of hg (.agg #[I aF,I aG])))<|s_val (x_por (b:=!(decide ((⟨(aj:Int),(am:Int)⟩:Span)=(⟨(aD:Int),(aE:Int)⟩:Span)))) (r:=!(decide ((⟨(aj:Int),(am:Int)⟩:Span)=(⟨(aF:Int),(aG:Int)⟩:Span)))) rfl rfl (fun hb=>gd_of (c:=!(!(decide ((⟨(aj:Int),(am:Int)⟩:Span)=(⟨(aD:Int),(aE:Int)⟩:Span))))) (by first | exact hb | (rw [hb]; rfl) | simp_all) (B (!(decide ((⟨(aj:Int),(am:Int)⟩:Span)=(⟨(aF:Int),(aG:Int)⟩:Span)))))))<|zM (B ((!(decide ((⟨(aj:Int),(am:Int)⟩:Span)=(⟨(aD:Int),(aE:Int)⟩:Span))))||(!(decide ((⟨(aj:Int),(am:Int)⟩:Span)=(⟨(aF:Int),(aG:Int)⟩:Span)))))) rfl<|g_val (!((!(decide ((⟨(aj:Int),(am:Int)⟩:Span)=(⟨(aD:Int),(aE:Int)⟩:Span))))||(!(decide ((⟨(aj:Int),(am:Int)⟩:Span)=(⟨(aF:Int),(aG:Int)⟩:Span)))))) (gy_f rfl) (fun hg=>x_mv (v:=I aI) rfl)<|g_val (!((!(decide ((⟨(aj:Int),(am:Int)⟩:Span)=(⟨(aD:Int),(aE:Int)⟩:Span))))||(!(decide ((⟨(aj:Int),(am:Int)⟩:Span)=(⟨(aF:Int),(aG:Int)⟩:Span)))))) (gy_f rfl) (fun hg=>x_mv (v:=I aR) rfl)<|g_val (!((!(decide ((⟨(aj:Int),(am:Int)⟩:Span)=(⟨(aD:Int),(aE:Int)⟩:Span))))||(!(decide ((⟨(aj:Int),(am:Int)⟩:Span)=(⟨(aF:Int),(aG:Int)⟩:Span)))))) (gy_f rfl) (fun hg=>x_cmp (kd:=.i64) (r:=aI != aR) (gd_of hg (I aI)) (gd_of hg (I aR)) rfl)<|s_val (x_por (b:=((!(decide ((⟨(aj:Int),(am:Int)⟩:Span)=(⟨(aD:Int),(aE:Int)⟩:Span))))||(!(decide ((⟨(aj:Int),(am:Int)⟩:Span)=(⟨(aF:Int),(aG:Int)⟩:Span)))))) (r:=aI != aR) rfl rfl (fun hb=>gd_of (c:=!((!(decide ((⟨(aj:Int),(am:Int)⟩:Span)=(⟨(aD:Int),(aE:Int)⟩:Span))))||(!(decide ((⟨(aj:Int),(am:Int)⟩:Span)=(⟨(aF:Int),(aG:Int)⟩:Span)))))) (by first | exact hb | (rw [hb]; rfl) | simp_all) (B (aI != aR))))<|zM (B (((!(decide ((⟨(aj:Int),(am:Int)⟩:Span)=(⟨(aD:Int),(aE:Int)⟩:Span))))||(!(decide ((⟨(aj:Int),(am:Int)⟩:Span)=(⟨(aF:Int),(aG:Int)⟩:Span)))))||(aI != aR))) rfl<|g_val (!(((!(decide ((⟨(aj:Int),(am:Int)⟩:Span)=(⟨(aD:Int),(aE:Int)⟩:Span))))||(!(decide ((⟨(aj:Int),(am:Int)⟩:Span)=(⟨(aF:Int),(aG:Int)⟩:Span)))))||(aI != aR))) (gy_f rfl) (fun hg=>x_mv (v:=I aI) rfl)<|g_val (!(((!(decide ((⟨(aj:Int),(am:Int)⟩:Span)=(⟨(aD:Int),(aE:Int)⟩:Span))))||(!(decide ((⟨(aj:Int),(am:Int)⟩:Span)=(⟨(aF:Int),(aG:Int)⟩:Span)))))||(aI != aR))) (gy_f rfl) (fun hg=>x_mv (v:=I bi) rfl) ?_;refine g_val (!(((!(decide ((⟨(aj:Int),(am:Int)⟩:Span)=(⟨(aD:Int),(aE:Int)⟩:Span))))||(!(decide ((⟨(aj:Int),(am:Int)⟩:Span)=(⟨(aF:Int),(aG:Int)⟩:Span)))))||(aI != aR))) (gy_f rfl) (fun hg=>x_cmp (kd:=.i64) (r:=aI != bi) (gd_of hg (I aI)) (gd_of hg (I bi)) rfl)<|s_val (x_por (b:=(((!(decide ((⟨(aj:Int),(am:Int)⟩:Span)=(⟨(aD:Int),(aE:Int)⟩:Span))))||(!(decide ((⟨(aj:Int),(am:Int)⟩:Span)=(⟨(aF:Int),(aG:Int)⟩:Span)))))||(aI != aR))) (r:=aI != bi) rfl rfl (fun hb=>gd_of (c:=!(((!(decide ((⟨(aj:Int),(am:Int)⟩:Span)=(⟨(aD:Int),(aE:Int)⟩:Span))))||(!(decide ((⟨(aj:Int),(am:Int)⟩:Span)=(⟨(aF:Int),(aG:Int)⟩:Span)))))||(aI != aR))) (by first | exact hb | (rw [hb]; rfl) | simp_all) (B (aI != bi))))<|s_nil ?_;replace H:=H.pk [3,4,5,6,7,8,9,10]
  refine W.cond ((((!(decide ((⟨(aj:Int),(am:Int)⟩:Span)=(⟨(aD:Int),(aE:Int)⟩:Span))))||(!(decide ((⟨(aj:Int),(am:Int)⟩:Span)=(⟨(aF:Int),(aG:Int)⟩:Span)))))||(aI != aR))||(aI != bi)) rfl (fun bS=>?_) (fun bS=>?_)
  ·replace hM:=M.e_t hM bS;refine kg 4 ?_;refine W.ret ?_
   have dX:=M.e_inr hM bR
   subst dX;replace hM:=cn;(try dsimp only at hM)
   have aQ:=M.e_pure hM
   exact ⟨_,resE_tmp rfl,⟨false,aQ,rfl,(H.pk [])⟩⟩
  replace hM:=M.e_f hM bS;obtain ⟨i9,hM⟩:=M.e_gd hM;refine kg 6 ?_
  exact ⟨dS,dT,a+1,_,upds_of _ _ ⟨rfl,rfl,rfl,rfl,rfl,trivial⟩,M.e_inl hM bR,H⟩
 replace hM:=M.e_f hM bc
 replace bc:=dI bc
 refine W.exit ?_
 have dY:=M.e_inr hM bR
 subst dY;replace hM:=cn;(try dsimp only at hM);replace H:=H.pk [];refine kg 2 ?_;obtain ⟨ja,dZ,hM⟩:=M.e_bind hM;refine s_call cf14 [] rfl (zdX dZ _ (H.gt 0)) ?_
 rintro vq jb ⟨r8,rfl,hvq,ai⟩
 subst vq;(try dsimp only at hM);replace H:=H.bk ai;clear ai;refine kg 2 ?_;refine W.ret ?_
 have aQ:=M.e_pure hM
 exact ⟨_,resE_tmp rfl,⟨r8,aQ,rfl,H⟩⟩

end Go.Proofs.Ytigidakpcepdkaa
end
namespace Go.Nm
open Go
/-- Numbers from s on. -/
def rg (s n:Nat):List Int:=(List.range n).map fun i=>((s+i:Nat):Int)
theorem rg_len (s n:Nat):(rg s n).length=n:=by simp [rg]
theorem rg_get {s n i:Nat} (h:i<n) (d:Int):(rg s n).getD i d=((s+i:Nat):Int):=by
  unfold rg
  rw [List.getD_eq_getElem?_getD]
  simp [h]
theorem rg_succ (s n:Nat):rg s (n+1)=rg s n++[((s+n:Nat):Int)]:=by simp [rg,List.range_succ]
theorem rg_mem {s n:Nat} {x:Int} (h:x∈rg s n):∃ i:Nat,i<n/\x=((s+i:Nat):Int):=by
  unfold rg at h
  obtain ⟨i,hi,rfl⟩:=List.mem_map.1 h
  exact ⟨i,List.mem_range.1 hi,rfl⟩
/-- Sources, and two works that are made of them. -/
def Wk2 (a b:Nat):List Work:=List.replicate (a+b) ⟨[],0,0⟩++[⟨rg 0 a,0,0⟩,⟨rg a b,0,0⟩]
theorem wk2_len (a b:Nat):(Wk2 a b).length=a+b+2:=by simp [Wk2]
theorem wk2_src {a b i:Nat} (h:i<a+b):(Wk2 a b).getD i default=⟨[],0,0⟩:=by
  unfold Wk2
  rw [List.getD_eq_getElem?_getD,List.getElem?_append_left (by simpa using h)]
  simp [h]
theorem wk2_one (a b:Nat):(Wk2 a b).getD (a+b) default=⟨rg 0 a,0,0⟩:=by
  unfold Wk2
  rw [List.getD_eq_getElem?_getD,List.getElem?_append_right (by simp)]
  simp
theorem wk2_two (a b:Nat):(Wk2 a b).getD (a+b+1) default=⟨rg a b,0,0⟩:=by
  unfold Wk2
  rw [List.getD_eq_getElem?_getD,List.getElem?_append_right (by simp)]
  simp [show a+b+1-(a+b)=1 by omega]
/-- What a work is worth that is made of so many sources. -/
def sm (v:Nat->Int) (s:Nat):Nat->Int
  | 0=>0
  | t+1=>sm v s t+((t:Int)+1)*v (s+t)
theorem part_bnd {x:Int} {t:Nat} (ht:t<5) (h:0<=x/\x<=1000002):0<=((t:Int)+1)*x/\((t:Int)+1)*x<=5000010:=by
  have h1:0<=((t:Int)+1)*x:=Int.mul_nonneg (by omega) h.1
  have h2:((t:Int)+1)*x<=5*1000002:=Int.mul_le_mul (by omega) h.2 h.1 (by omega)
  omega
theorem sm_bnd {v:Nat->Int} {s n:Nat} (hn:n<=5) (hv:∀ j,j<s+n->0<=v j/\v j<=1000002):∀ t:Nat,t<=n->0<=sm v s t/\sm v s t<=5000010*t:=by
  intro t
  induction t with
  | zero=>intro _; simp [sm]
  | succ t ih =>
    intro ht
    have h1:=ih (by omega)
    have h2:=part_bnd (t:=t) (by omega) (hv (s+t) (by omega))
    unfold sm
    push_cast
    omega
/-- A note more, and the newest ones of notes. -/
def nwS (mp:Int->Option Note) (n:Note):Int->Option Note:=bif (!(mp n.work).isSome)||decide (((mp n.work).getD default).version<n.version) then updF mp n.work n else mp
def nw (l:List Note):Int->Option Note:=l.foldl nwS (fun _=>none)
theorem nw_snoc (l:List Note) (n:Note):nw (l++[n])=nwS (nw l) n:=by
  unfold nw
  rw [List.foldl_append]
  rfl
theorem i_sel {α β:Type} {c:Bool} {f:α->β} {x y:α}:(bif c then M.pure (f x) else M.pure (f y)).Ends (f (bif c then x else y)):=by cases c <;> exact M.i_pure
/-- Notes of sources, and what each one is worth. -/
structure Ns (k:Nat) (l:List Note) (v:Nat->Int):Prop where
  len:l.length<=200
  rng:∀ x∈l,(0<=x.work/\x.work<k)/\(0<=x.version/\x.version<=1000000)/\0<=x.value/\x.value<=1000002
  one:∀ i j:Nat,i<j->j<l.length->(l.getD i default).work=(l.getD j default).work->(l.getD i default).version=(l.getD j default).version->l.getD i default=l.getD j default
  src:∀ j:Nat,j<k->∃ n,nw l (j:Int)=some n/\n.value=v j
  out:∀ j:Nat,k<=j->nw l (j:Int)=none
  bnd:∀ j:Nat,j<k->0<=v j/\v j<=1000002
end Go.Nm
namespace Go.Proofs.Ytigidakpcepdkaa
open Go Go.Nm
def okO (a b:Nat):Bool:=decide ((za6 (Wk2 a b)).run 400=some (.inr (rg 0 (a+b+2),0)))
theorem okO_all:((List.range 5).all fun a=>(List.range 5).all fun b=>okO (a+1) (b+1))=true:=by decide +kernel
theorem opened_ends {a b:Nat} (ha:1<=a/\a<=5) (hb:1<=b/\b<=5):(za6 (Wk2 a b)).Ends (.inr (rg 0 (a+b+2),0)):=by
  have h:=List.all_eq_true.1 (List.all_eq_true.1 okO_all (a-1) (List.mem_range.2 (by omega))) (b-1) (List.mem_range.2 (by omega))
  rw [show a-1+1=a by omega,show b-1+1=b by omega] at h
  exact ⟨400,of_decide_eq_true h⟩
def okS (a b i:Nat):Bool:=decide ((zaK (Wk2 a b) [(i:Int)]).run 400=some ([(i:Int),((a+b:Nat):Int)],0))
theorem okS_all:((List.range 5).all fun a=>(List.range 5).all fun b=>(List.range (a+1)).all fun i=>okS (a+1) (b+1) i)=true:=by decide +kernel
theorem stale_ends {a b i:Nat} (ha:1<=a/\a<=5) (hb:1<=b/\b<=5) (hi:i<a):(zaK (Wk2 a b) [(i:Int)]).Ends ([(i:Int),((a+b:Nat):Int)],0):=by
  have h:=List.all_eq_true.1 (List.all_eq_true.1 (List.all_eq_true.1 okS_all (a-1) (List.mem_range.2 (by omega))) (b-1) (List.mem_range.2 (by omega))) i (List.mem_range.2 (by omega))
  rw [show a-1+1=a by omega,show b-1+1=b by omega] at h
  exact ⟨400,of_decide_eq_true h⟩
theorem awake_ends:zcr.Ends true:=⟨60,by kernel_rfl⟩
theorem every_note {f:Note->M Bool} {l:List Note} (h:∀ x∈l,(f x).Ends true):(zbh f l).Ends true:=by
  unfold zbh zcf zcx
  refine M.i_bind (a:=false) (M.i_bind (a:=-1) (M.i_bind (a:=(.inr ():Int ⊕ Unit)) (M.i_for (fun i=>i) l.length (fun i hi=>?_) ?_) M.i_pure) M.i_pure) M.i_pure
  · simp only [zbc]
    refine M.i_t (decide_eq_true (by omega)) (M.i_grd (decide_eq_true (by omega)) (M.i_bind (a:=false) ?_ M.i_pure))
    exact M.i_bind (h _ (by rw [getD_el l hi]; exact List.getElem_mem hi)) M.i_pure
  · simp only [zbc]
    exact M.i_f (decide_eq_false (by omega)) M.i_pure
theorem every_pub {f:Pub->M Bool} {l:List Pub} (h:∀ x∈l,(f x).Ends true):(zbo f l).Ends true:=by
  unfold zbo zcA zcC
  refine M.i_bind (a:=false) (M.i_bind (a:=-1) (M.i_bind (a:=(.inr ():Int ⊕ Unit)) (M.i_for (fun i=>i) l.length (fun i hi=>?_) ?_) M.i_pure) M.i_pure) M.i_pure
  · simp only [zbe]
    refine M.i_t (decide_eq_true (by omega)) (M.i_grd (decide_eq_true (by omega)) (M.i_bind (a:=false) ?_ M.i_pure))
    exact M.i_bind (h _ (by rw [getD_el l hi]; exact List.getElem_mem hi)) M.i_pure
  · simp only [zbe]
    exact M.i_f (decide_eq_false (by omega)) M.i_pure
theorem every_int {f:Int->M Bool} {l:List Int} (h:∀ x∈l,(f x).Ends true):(zam f l).Ends true:=by
  unfold zam zba zaO
  refine M.i_bind (a:=false) (M.i_bind (a:=-1) (M.i_bind (a:=(.inr ():Int ⊕ Unit)) (M.i_for (fun i=>i) l.length (fun i hi=>?_) ?_) M.i_pure) M.i_pure) M.i_pure
  · simp only [zaV]
    refine M.i_t (decide_eq_true (by omega)) (M.i_grd (decide_eq_true (by omega)) (M.i_bind (a:=false) ?_ M.i_pure))
    exact M.i_bind (h _ (by rw [getD_el l hi]; exact List.getElem_mem hi)) M.i_pure
  · simp only [zaV]
    exact M.i_f (decide_eq_false (by omega)) M.i_pure
theorem newest_ends {l:List Note} (h:∀ i j:Nat,i<j->j<l.length->(l.getD i default).work=(l.getD j default).work->(l.getD i default).version=(l.getD j default).version->l.getD i default=l.getD j default) :
    (M.iter (zaD l) ((fun _=>none),0)).Ends (.inr (nw l)):=by
  refine M.i_for (fun i=>(nw (l.take i),i)) l.length (fun i hi=>?_) ?_
  · simp only [zaD]
    refine M.i_t (decide_eq_true (by omega)) (M.i_grd (decide_eq_true (by omega)) (M.i_bind (a:=.inr ()) ?_ ?_))
    · refine M.i_for (fun j=>j) i (fun j hj=>?_) ?_
      · simp only [zbb]
        have ht:(l.take i).length=i:=by rw [List.length_take]; omega
        have hg:(l.take i).getD j default=l.getD j default:=by simp [List.getD_eq_getElem?_getD,List.getElem?_take,hj]
        rw [ht,hg]
        refine M.i_t (decide_eq_true (by omega)) (M.i_grd (decide_eq_true (by omega)) (M.i_f ?_ M.i_pure))
        have:=h j i hj hi
        by_cases h1:(l.getD j default).work=(l.getD i default).work <;> by_cases h2:(l.getD j default).version=(l.getD i default).version <;> simp_all
      · simp only [zbb]
        exact M.i_f (decide_eq_false (by rw [List.length_take]; omega)) M.i_pure
    · dsimp only
      rw [← take_succ_D l i hi default,nw_snoc]
      unfold nwS
      exact i_sel (f:=fun mp:Int->Option Note=>(Sum.inl (mp,i+1):((Int->Option Note) × Nat) ⊕ ((Int->Option Note) ⊕ (Int->Option Note))))
  · simp only [zaD]
    rw [List.take_length]
    exact M.i_f (decide_eq_false (by omega)) M.i_pure
end Go.Proofs.Ytigidakpcepdkaa
namespace Go.Proofs.Ytigidakpcepdkaa
open Go Go.Nm
theorem inb_ends {n a b:Int} (h:a<=n/\n<=b):(zac n a b).Ends true:=by
  unfold zac
  rw [decide_eq_true h.1,decide_eq_true h.2]
  exact M.i_pure
/-- A work of a row of sources: its sum. -/
theorem sum_out {a b i s t:Nat} {v:Nat->Int} {l:List Int} {r1:List Int} (ht:1<=t/\t<=5) (hs:s+t<=a+b) (hi:i<a+b+2) (hr:r1.getD i 0=(i:Int)) (hw:(Wk2 a b).getD i default=⟨rg s t,0,0⟩) (hv:∀ j:Nat,j<a+b->0<=v j/\v j<=1000002)
    (hl:l.length=a+b+2) (hj:∀ j:Nat,j<a+b->l.getD j 0=v j):(zas (Wk2 a b) r1 i l).Out (fun x=>x = .inl (l.set i (sm v s t % 1000003),i+1)):=by
  unfold zas
  rw [hr,Int.toNat_natCast,hw]
  dsimp only
  have h1:=rg_len s t
  refine M.o_grd (gA2 (by omega) (by rw [wk2_len]; omega)) ?_
  refine M.o_bind (P:=fun x=>x=true) (M.o_opt (fun _=>M.o_of (every_int fun x hx=>?_) rfl) (fun h=>?_)) ?_
  · obtain ⟨k,hk,rfl⟩:=rg_mem hx
    unfold zbz
    refine M.i_grd (gA2 (by omega) (by omega)) ?_
    rw [Int.toNat_natCast,hj _ (by omega)]
    have:=hv (s+k) (by omega)
    rw [show (v (s+k) != (-1:Int))=true by simp; omega]
    exact M.i_pure
  · exfalso
    rw [h1] at h
    simp at h
    omega
  · rintro _ rfl
    refine M.o_f (by rw [h1]; simp; omega) ?_
    refine M.o_bind (P:=fun x=>x=sm v s t) ?_ ?_
    · refine M.o_for t (fun k st=>st.2=k/\st.1=sm v s k) ?_ ?_ ⟨rfl,rfl⟩
      · rintro k ⟨x,y⟩ hk ⟨e1,e2⟩
        dsimp only at hk e1 e2 ⊢
        subst e1
        subst e2
        simp only [za3]
        rw [hr,Int.toNat_natCast,hw]
        dsimp only
        rw [rg_get hk,Int.toNat_natCast,hj _ (by omega),h1]
        have b1:=sm_bnd (v:=v) (s:=s) (n:=t) ht.2 (fun j hj=>hv j (by omega)) y (by omega)
        have b2:=part_bnd (t:=y) (by omega) (hv (s+y) (by omega))
        refine M.o_t (decide_eq_true (by omega)) (M.o_grd (decide_eq_true (by omega)) (M.o_grd (gA2 (by omega) (by omega)) (M.o_grd (gA2 (by omega) (by omega)) (M.o_grd (gA2 (by omega) (by omega)) (M.o_pure ⟨rfl,?_⟩)))))
        rfl
      · rintro ⟨x,y⟩ ⟨e1,e2⟩
        dsimp only at e1 e2
        subst e1
        subst e2
        simp only [za3]
        rw [hr,Int.toNat_natCast,hw]
        dsimp only
        rw [h1]
        exact M.o_f (decide_eq_false (by omega)) (M.o_pure rfl)
    · rintro _ rfl
      have b1:=sm_bnd (v:=v) (s:=s) (n:=t) ht.2 (fun j hj=>hv j (by omega)) t (Nat.le_refl _)
      exact M.o_grd (gA2 b1.1 (by omega)) (M.o_grd (gA2 (by omega) (by omega)) (M.o_pure rfl))
/-- What works are worth. -/
def vOf (v:Nat->Int) (a b j:Nat):Int:=if j<a+b then v j else if j=a+b then sm v 0 a % 1000003 else sm v a b % 1000003
theorem values_out {a b:Nat} {l:List Note} {v:Nat->Int} (ha:1<=a/\a<=5) (hb:1<=b/\b<=5) (h:Ns (a+b) l v) :
    (zaA (Wk2 a b) l).Out (fun r=>r.2=0/\r.1.length=a+b+2/\r.1.getD (a+b) 0=sm v 0 a % 1000003/\r.1.getD (a+b+1) 0=sm v a b % 1000003):=by
  have hw:=wk2_len a b
  unfold zaA
  refine M.o_bindE (opened_ends ha hb) ?_
  dsimp only
  refine M.o_f rfl (M.o_f (decide_eq_false (by have:=h.len; omega)) (M.o_bindE (every_note fun x hx=>?_) ?_))
  · have hx:=(h.rng x hx).1
    unfold zbF
    refine M.i_bind (inb_ends (by omega)) (M.i_grd (gOr2 hx.1 (by omega)) ?_)
    rw [wk2_src (by omega)]
    exact M.i_pure
  refine M.o_f rfl (M.o_bindE (every_note fun x hx=>?_) ?_)
  · have hx:=(h.rng x hx).2
    unfold zbI
    exact M.i_bind (inb_ends hx.1) (M.i_bind (M.i_opt (fun _=>inb_ends hx.2) (fun h=>by cases h)) M.i_pure)
  refine M.o_f rfl (M.o_bindE (newest_ends h.one) ?_)
  dsimp only
  refine M.o_grd (gA2 (by omega) (by omega)) ?_
  refine M.o_bind (P:=fun y=>y.2.length=a+b+2/\∀ j:Nat,j<a+b+2->y.2.getD j 0=vOf v a b j) ?_ ?_
  · refine M.o_for (a+b+2) (fun i st=>st.2=i/\st.1.length=a+b+2/\∀ j:Nat,j<i->st.1.getD j 0=vOf v a b j) ?_ ?_ ⟨rfl,by rw [List.length_replicate,hw],fun j hj=>by omega⟩
    · rintro i ⟨l3,s4⟩ hi ⟨rfl,hl,hj⟩
      dsimp only at hi hl hj
      simp only [za7]
      have hr:(rg 0 (a+b+2)).getD s4 0=(s4:Int):=by rw [rg_get hi]; simp
      have hrl:=rg_len 0 (a+b+2)
      rw [hr,Int.toNat_natCast,hrl]
      refine M.o_t (decide_eq_true (by omega)) (M.o_grd (decide_eq_true (by omega)) ?_)
      have next:∀ x:Int,x=vOf v a b s4->(Sum.inl (l3.set s4 x,s4+1):(List Int × Nat) ⊕ (List Int × List Int)) = .inl (l3.set s4 x,s4+1)->(∀ j:Nat,j<s4+1->(l3.set s4 x).getD j 0=vOf v a b j):=fun x hx _ j hj2=>by
        rw [gset _ _ _ _ _ (by omega)]
        by_cases e:j=s4
        · rw [if_pos e,e,hx]
        · rw [if_neg e]
          exact hj j (by omega)
      by_cases c:s4<a+b
      · obtain ⟨nt,e1,e2⟩:=h.src s4 c
        rw [e1]
        refine M.o_t rfl (M.o_grd (gA2 (by omega) (by omega)) ?_)
        unfold zas
        rw [hr,Int.toNat_natCast,wk2_src c]
        dsimp only
        refine M.o_grd (gA2 (by omega) (by omega)) (M.o_bind (P:=fun _=>True) (M.o_opt (fun h=>by simp at h) (fun _=>trivial)) (fun _ _=>M.o_t (by simp) (M.o_pure ⟨rfl,by simpa using hl,?_⟩)))
        refine next _ ?_ rfl
        show nt.value=_
        unfold vOf
        rw [if_pos c,e2]
      · rw [h.out s4 (by omega)]
        refine M.o_f rfl ?_
        have hb1:∀ j:Nat,j<a+b->l3.getD j 0=v j:=fun j hj2=>by
          rw [hj j (by omega)]
          unfold vOf
          rw [if_pos hj2]
        by_cases c2:s4=a+b
        · refine M.o_mono (sum_out (s:=0) (t:=a) ha (by omega) hi hr (by rw [c2]; exact wk2_one a b) h.bnd hl hb1) ?_
          rintro _ rfl
          refine ⟨rfl,by simpa using hl,next _ ?_ rfl⟩
          unfold vOf
          rw [if_neg c,if_pos c2]
        · refine M.o_mono (sum_out (s:=a) (t:=b) hb (by omega) hi hr (by rw [show s4=a+b+1 by omega]; exact wk2_two a b) h.bnd hl hb1) ?_
          rintro _ rfl
          refine ⟨rfl,by simpa using hl,next _ ?_ rfl⟩
          unfold vOf
          rw [if_neg c,if_neg c2]
    · rintro ⟨l3,s4⟩ ⟨rfl,hl,hj⟩
      simp only [za7]
      exact M.o_f (decide_eq_false (by rw [rg_len]; omega)) (M.o_pure ⟨hl,hj⟩)
  · rintro ⟨x,y⟩ ⟨h1,h2⟩
    dsimp only at h1 h2 ⊢
    refine M.o_pure ⟨rfl,h1,?_,?_⟩
    · rw [h2 _ (by omega)]
      unfold vOf
      rw [if_neg (by omega),if_pos rfl]
    · rw [h2 _ (by omega)]
      unfold vOf
      rw [if_neg (by omega),if_neg (by omega)]
end Go.Proofs.Ytigidakpcepdkaa
namespace Go.Nm
open Go
def ntf (ls:List Line) (i:Nat):Note:=⟨(i:Int),0,(ls.getD i default).rise+1000⟩
/-- A note for each line. -/
def nts (ls:List Line) (n:Nat):List Note:=(List.range n).map (ntf ls)
theorem nts_len (ls:List Line) (n:Nat):(nts ls n).length=n:=by simp [nts]
theorem nts_succ (ls:List Line) (n:Nat):nts ls (n+1)=nts ls n++[ntf ls n]:=by simp [nts,List.range_succ]
theorem nts_get {ls:List Line} {n i:Nat} (h:i<n):(nts ls n).getD i default=ntf ls i:=by
  unfold nts
  rw [List.getD_eq_getElem?_getD]
  simp [h]
theorem nts_mem {ls:List Line} {n:Nat} {x:Note} (h:x∈nts ls n):∃ i:Nat,i<n/\x=ntf ls i:=by
  unfold nts at h
  obtain ⟨i,hi,rfl⟩:=List.mem_map.1 h
  exact ⟨i,List.mem_range.1 hi,rfl⟩
theorem nw_nts (ls:List Line):∀ n j:Nat,nw (nts ls n) (j:Int)=if j<n then some (ntf ls j) else none:=by
  intro n
  induction n with
  | zero=>intro j; rfl
  | succ n ih =>
    intro j
    rw [nts_succ,nw_snoc]
    unfold nwS
    have h:nw (nts ls n) (ntf ls n).work=none:=by
      show nw (nts ls n) (n:Int)=none
      rw [ih n,if_neg (by omega)]
    rw [h]
    show updF (nw (nts ls n)) (n:Int) (ntf ls n) (j:Int)=_
    unfold updF
    by_cases e:j=n
    · subst e
      rw [if_pos rfl,if_pos (by omega)]
    · rw [if_neg (by omega),ih j]
      by_cases e2:j<n
      · rw [if_pos e2,if_pos (by omega)]
      · rw [if_neg e2,if_neg (by omega)]
def vB (ls:List Line) (j:Nat):Int:=(ls.getD j default).rise+1000
theorem ns_base {ls:List Line} {k:Nat} (hk:k<=100) (h:∀ j:Nat,j<k->0<=vB ls j/\vB ls j<=1000002):Ns k (nts ls k) (vB ls):=by
  refine ⟨by rw [nts_len]; omega,fun x hx=>?_,fun i j hij hj e _=>?_,fun j hj=>⟨ntf ls j,by rw [nw_nts,if_pos hj],rfl⟩,fun j hj=>by rw [nw_nts,if_neg (by omega)],h⟩
  · obtain ⟨i,hi,rfl⟩:=nts_mem hx
    exact ⟨⟨by show (0:Int)<=(i:Int); omega,by show (i:Int)<k; omega⟩,⟨by show (0:Int)<=0; omega,by show (0:Int)<=1000000; omega⟩,h i hi⟩
  · rw [nts_len] at hj
    rw [nts_get (by omega),nts_get hj] at e
    have:(i:Int)=j:=e
    omega
def vM (ls:List Line) (i:Nat) (x:Int) (j:Nat):Int:=if j=i then x else vB ls j
theorem ns_more {ls:List Line} {k i:Nat} {x:Int} (hk:k<=100) (hi:i<k) (h:∀ j:Nat,j<k->0<=vB ls j/\vB ls j<=1000002) (hx:0<=x/\x<=1000002):Ns k (nts ls k++[(⟨(i:Int),1,x⟩:Note)]) (vM ls i x):=by
  have B:=ns_base hk h
  have hl:=nts_len ls k
  have ga:∀ j:Nat,j<k->(nts ls k++[(⟨(i:Int),1,x⟩:Note)]).getD j default=ntf ls j:=fun j hj=>by
    rw [List.getD_eq_getElem?_getD,List.getElem?_append_left (by omega),← List.getD_eq_getElem?_getD,nts_get hj]
  have gb:(nts ls k++[(⟨(i:Int),1,x⟩:Note)]).getD k default=(⟨(i:Int),1,x⟩:Note):=by
    rw [List.getD_eq_getElem?_getD,List.getElem?_append_right (by omega),hl,Nat.sub_self]
    rfl
  have nwm:∀ j:Nat,nw (nts ls k++[(⟨(i:Int),1,x⟩:Note)]) (j:Int)=if j=i then some (⟨(i:Int),1,x⟩:Note) else nw (nts ls k) (j:Int):=fun j=>by
    rw [nw_snoc]
    unfold nwS
    have e:nw (nts ls k) (i:Int)=some (ntf ls i):=by rw [nw_nts,if_pos hi]
    dsimp only
    rw [e]
    show updF (nw (nts ls k)) (i:Int) ⟨(i:Int),1,x⟩ (j:Int)=_
    unfold updF
    by_cases c:j=i
    · rw [if_pos (by omega),if_pos c]
    · rw [if_neg (by omega),if_neg c]
  refine ⟨by rw [List.length_append,hl]; simp; omega,fun y hy=>?_,fun a b hab hb e e2=>?_,fun j hj=>?_,fun j hj=>?_,fun j hj=>?_⟩
  · rcases List.mem_append.1 hy with hy | hy
    · exact B.rng y hy
    · obtain rfl:=List.mem_singleton.1 hy
      dsimp only
      exact ⟨by omega,by omega,hx⟩
  · rw [List.length_append,hl] at hb
    simp only [List.length_singleton] at hb
    rw [ga a (by omega)] at e e2 ⊢
    by_cases c:b<k
    · rw [ga b c] at e
      have:(a:Int)=b:=e
      omega
    · obtain rfl:b=k:=by omega
      rw [gb] at e2
      have:(0:Int)=1:=e2
      omega
  · rw [nwm]
    unfold vM
    by_cases c:j=i
    · rw [if_pos c,if_pos c]
      exact ⟨_,rfl,rfl⟩
    · rw [if_neg c,if_neg c]
      exact B.src j hj
  · rw [nwm,if_neg (by omega)]
    exact B.out j hj
  · unfold vM
    by_cases c:j=i
    · rw [if_pos c]; exact hx
    · rw [if_neg c]; exact h j hj
theorem sm_same {v u:Nat->Int} {s:Nat}:∀ n:Nat,(∀ j,j<n->u (s+j)=v (s+j))->sm u s n=sm v s n
  | 0,_=>rfl
  | n+1,h=>by
    unfold sm
    rw [sm_same n (fun j hj=>h j (by omega)),h n (by omega)]
theorem sm_more {ls:List Line} {i:Nat} {x:Int}:∀ n:Nat,sm (vM ls i x) 0 n=sm (vB ls) 0 n+if i<n then ((i:Int)+1)*(x-vB ls i) else 0
  | 0=>by simp [sm]
  | n+1=>by
    unfold sm
    rw [sm_more n,Nat.zero_add]
    unfold vM
    by_cases c:n=i
    · subst c
      rw [if_pos rfl,if_neg (by omega),if_pos (by omega),Int.mul_sub]
      omega
    · rw [if_neg c]
      by_cases c2:i<n
      · rw [if_pos c2,if_pos (by omega)]; omega
      · rw [if_neg c2,if_neg (by omega)]; omega
/-- A source that is worth a little more changes what is made of it. -/
theorem mod_more {s z:Int} (hz:0<=z/\z<=1000):(s+z) % 1000003=s % 1000003↔z=0:=by omega
theorem re_eq {ls:List Line} {i:Nat} {y:Int} (hi:i<ls.length):(ls.set i { (ls.getD i default) with err:=(ls.getD i default).err+y }).set i { ((ls.set i { (ls.getD i default) with err:=(ls.getD i default).err+y }).getD i default) with rise:=((ls.set i { (ls.getD i default) with err:=(ls.getD i default).err+y }).getD i default).rise+y / 2 }=reLine i y ls:=by
  rw [gset _ _ _ _ _ hi,if_pos rfl,List.set_set]
  rfl
theorem re_un {N:Int} {ls ks:List Line} {i:Nat} {y:Int} (hi:i<ls.length):reLine i y (un N ls ks)=un N (reLine i y ls) ks:=by
  unfold reLine un
  have e:(ls++ks.map (shl N)).getD i default=ls.getD i default:=by rw [List.getD_eq_getElem?_getD,List.getElem?_append_left hi,← List.getD_eq_getElem?_getD]
  rw [e,List.set_append_left _ _ hi]
theorem re_len {ls:List Line} {i:Nat} {y:Int}:(reLine i y ls).length=ls.length:=by unfold reLine; exact List.length_set
theorem re_ok {n y:Int} {ls:List Line} {i:Nat} (hN:NetOk n ls) (hi:i<ls.length) (hy:0<=y/\y<=255) (hr:∀ l∈ls,-2000<=l.rise/\l.rise<=2000) (he:∀ l∈ls,l.err<=100):NetOk n (reLine i y ls):=by
  refine ⟨hN.marks,by rw [re_len]; exact hN.few,re_rng hi hN.rng,fun l hl=>?_,fun l hl=>?_,fun l hl=>?_,fun l hl=>?_⟩ <;> rcases re_mem hi hl with h | ⟨m,hm,rfl⟩
  · exact hN.ne l h
  · exact hN.ne m hm
  · exact hN.day l h
  · exact hN.day m hm
  · exact hN.rise l h
  · have:=hr m hm
    dsimp only
    omega
  · exact hN.err l h
  · have h1:=hN.err m hm
    have h2:=he m hm
    dsimp only
    omega
end Go.Nm
namespace Go.Proofs.Ytigidakpcepdkaa
open Go Go.Nm
theorem withdrawn_out {a b:Nat} {l:List Note} {v:Nat->Int} {p q:Int} (ha:1<=a/\a<=5) (hb:1<=b/\b<=5) (h:Ns (a+b) l v) :
    (zay (Wk2 a b) l [⟨((a+b:Nat):Int),p⟩,⟨((a+b:Nat):Int)+1,q⟩]).Ends ((if sm v 0 a % 1000003=p then [] else [0])++(if sm v a b % 1000003=q then [] else [1]),0):=by
  have hw:=wk2_len a b
  have out:(zay (Wk2 a b) l [⟨((a+b:Nat):Int),p⟩,⟨((a+b:Nat):Int)+1,q⟩]).Out (fun r=>r=((if sm v 0 a % 1000003=p then [] else [0])++(if sm v a b % 1000003=q then [] else [1]),0)):=by
    unfold zay
    refine M.o_bind (values_out ha hb h) ?_
    rintro ⟨r0,r1⟩ ⟨e1,e2,e3,e4⟩
    dsimp only at e1 e2 e3 e4 ⊢
    subst e1
    refine M.o_f rfl (M.o_f rfl (M.o_bindE (every_pub fun x hx=>?_) ?_))
    · unfold zbl
      refine M.i_bind (inb_ends ?_) M.i_pure
      simp only [List.mem_cons,List.not_mem_nil,or_false] at hx
      rcases hx with rfl | rfl <;> dsimp only <;> omega
    refine M.o_f rfl ?_
    have n1:((sm v 0 a % 1000003)==(-1:Int))=false:=by simp; omega
    have n2:((sm v a b % 1000003)==(-1:Int))=false:=by simp; omega
    refine M.o_bind (P:=fun y=>y.2=(if sm v 0 a % 1000003=p then [] else [0])++(if sm v a b % 1000003=q then [] else [1])) ?_ (fun y hy=>M.o_pure (by rw [hy]))
    refine M.o_for 2 (fun i st=>st.1=i/\st.2=if i=0 then [] else if i=1 then (if sm v 0 a % 1000003=p then [] else [0]) else (if sm v 0 a % 1000003=p then [] else [0])++(if sm v a b % 1000003=q then [] else [1])) ?_ ?_ ⟨rfl,rfl⟩
    · rintro i ⟨x,y⟩ hi ⟨f1,f2⟩
      dsimp only at f1 f2
      subst f1
      simp only [zaQ]
      obtain rfl | rfl:x=0∨x=1:=by omega
      · rw [if_pos rfl] at f2
        subst f2
        refine M.o_t rfl (M.o_grd rfl (M.o_grd (gA2 (by show (0:Int)<=((a+b:Nat):Int); omega) (by show ((a+b:Nat):Int)<_; omega)) ?_))
        show M.Out (bif ((r0.getD (Int.toNat ((a+b:Nat):Int)) 0 == -1)||(r0.getD (Int.toNat ((a+b:Nat):Int)) 0 != p)) then _ else _) _
        rw [Int.toNat_natCast,e3,n1]
        by_cases c:sm v 0 a % 1000003=p
        · exact M.o_f (by rw [c]; simp) (M.o_pure ⟨rfl,by simp [c]⟩)
        · exact M.o_t (by simpa using c) (M.o_grd rfl (M.o_pure ⟨rfl,by simp [c]⟩))
      · rw [if_neg (by omega),if_pos rfl] at f2
        have yl:y.length<=1:=by rw [f2]; split <;> simp
        refine M.o_t rfl (M.o_grd rfl (M.o_grd (gA2 (by show (0:Int)<=((a+b:Nat):Int)+1; omega) (by show ((a+b:Nat):Int)+1<_; omega)) ?_))
        show M.Out (bif ((r0.getD (Int.toNat (((a+b:Nat):Int)+1)) 0 == -1)||(r0.getD (Int.toNat (((a+b:Nat):Int)+1)) 0 != q)) then _ else _) _
        rw [show Int.toNat (((a+b:Nat):Int)+1)=a+b+1 by omega,e4,n2]
        by_cases c:sm v a b % 1000003=q
        · exact M.o_f (by rw [c]; simp) (M.o_pure ⟨rfl,by rw [f2]; simp [c]⟩)
        · exact M.o_t (by simpa using c) (M.o_grd (decide_eq_true (by simp only [List.length_singleton]; omega)) (M.o_pure ⟨rfl,by rw [f2]; simp [c]⟩))
    · rintro ⟨x,y⟩ ⟨f1,f2⟩
      dsimp only at f1 f2
      subst f1
      simp only [zaQ]
      exact M.o_f rfl (M.o_pure (by simpa using f2))
  obtain ⟨r,h1,h2⟩:=out
  exact h2 ▸ h1
theorem same_self (l:List Int):(zaf l l).Ends true:=by
  unfold zaf
  refine M.i_f (by simp) (M.i_bind (a:=(.inr ():Unit ⊕ Unit)) (M.i_for (fun i=>i) l.length (fun i hi=>?_) ?_) M.i_pure)
  · simp only [za2]
    exact M.i_t (decide_eq_true (by omega)) (M.i_grd (decide_eq_true (by omega)) (M.i_grd (decide_eq_true (by omega)) (M.i_f (by simp) M.i_pure)))
  · simp only [za2]
    exact M.i_f (decide_eq_false (by omega)) M.i_pure
theorem copy_lines {ls:List Line} (h:ls.length<=1000000):(zaw ls).Ends ls:=by
  unfold zaw
  exact M.i_grd (decide_eq_true (by simp only [List.length_nil]; omega)) M.i_pure
end Go.Proofs.Ytigidakpcepdkaa
namespace Go.Proofs.Ytigidakpcepdkaa
open Go Go.Nm
/-- The lines that count: five at most. -/
def Cut (ls A:List Line):Prop:=ls.take (Int.toNat (min 5 (ls.length:Int)))=A
theorem b0_ends {A B ks:List Line} (hB:Cut ks B) (hn:(A++B).length<=100) (hr:∀ j:Nat,-2000<=((A++B).getD j default).rise/\((A++B).getD j default).rise<=2000) :
    (M.iter (zaH ks A) (0,[],[])).Ends (List.replicate (A++B).length ⟨[],0,0⟩,nts (A++B) (A++B).length,nts (A++B) (A++B).length,List.replicate (A++B).length ⟨[],0,0⟩):=by
  unfold Cut at hB
  refine M.i_for (fun i=>(i,List.replicate i (⟨[],0,0⟩:Work),nts (A++B) i)) (A++B).length (fun i hi=>?_) ?_
  · simp only [zaH]
    rw [hB]
    have:=hr i
    refine M.i_t (decide_eq_true (by omega)) (M.i_grd (decide_eq_true (by omega)) (M.i_grd (gA2 (by omega) (by omega)) (M.i_grd (decide_eq_true ?_) (M.i_grd (decide_eq_true ?_) ?_))))
    · rw [List.length_replicate,List.length_singleton]; omega
    · rw [nts_len,List.length_singleton]; omega
    · rw [List.replicate_succ',nts_succ]
      exact M.i_pure
  · simp only [zaH]
    rw [hB]
    exact M.i_f (decide_eq_false (by omega)) M.i_pure
theorem b1_ends {A ls:List Line} {a b:Nat} {w:Work} (hA:Cut ls A) (ha:A.length=a) (hn:a+b<=100) :
    (M.iter (zaG ls (List.replicate (a+b) w)) (0,[],[])).Ends (rg 0 a,rg a b,rg a b,rg 0 a):=by
  unfold Cut at hA
  rw [show ((0,[],[]):Nat × List Int × List Int)=(0,rg 0 (min 0 a),rg a (0-a)) by rw [Nat.zero_min,Nat.zero_sub]; rfl]
  refine M.i_for (fun i=>(i,rg 0 (min i a),rg a (i-a))) (a+b) (fun i hi=>?_) ?_
  · simp only [zaG]
    rw [hA,ha,List.length_replicate]
    refine M.i_t (decide_eq_true (by omega)) ?_
    by_cases c:i<a
    · refine M.i_t (decide_eq_true (by omega)) (M.i_grd (decide_eq_true (by rw [rg_len,List.length_singleton]; omega)) ?_)
      rw [show min (i+1) a=min i a+1 by omega,rg_succ,show 0+min i a=i by omega,show i+1-a=i-a by omega]
      exact M.i_pure
    · refine M.i_f (decide_eq_false (by omega)) (M.i_grd (decide_eq_true (by rw [rg_len,List.length_singleton]; omega)) ?_)
      rw [show min (i+1) a=min i a by omega,show i+1-a=i-a+1 by omega,rg_succ,show a+(i-a)=i by omega]
      exact M.i_pure
  · simp only [zaG]
    rw [List.length_replicate,show min (a+b) a=a by omega,show a+b-a=b by omega]
    exact M.i_f (decide_eq_false (by omega)) M.i_pure
theorem b4_ends {A B ks:List Line} {n k:Int} (hB:Cut ks B) (h1:A.length<=100) (h2:B.length<=100) (hn:0<=n/\n<=12) (hk:k<=12) (hR:Rng k B) :
    (M.iter (zaJ n ks) (A,0)).Ends (un n A B,un n A B):=by
  unfold Cut at hB
  refine M.i_for (fun i=>(A++(B.take i).map (shl n),i)) B.length (fun i hi=>?_) ?_ |> fun h=>by simpa using h
  · simp only [zaJ,zbx]
    rw [hB]
    have hm:=hR (B.getD i default) (by rw [getD_el B hi]; exact List.getElem_mem hi)
    refine M.i_t (decide_eq_true (by omega)) (M.i_grd (decide_eq_true (by omega)) (M.i_grd (gA2 (by omega) (by omega)) (M.i_grd (gA2 (by omega) (by omega)) (M.i_grd (decide_eq_true ?_) ?_))))
    · rw [List.length_append,List.length_map,List.length_take,List.length_singleton]; omega
    · rw [← take_succ_D B i hi default,List.map_append,← List.append_assoc]
      exact M.i_pure
  · simp only [zaJ]
    rw [hB,List.take_length]
    exact M.i_f (decide_eq_false (by omega)) M.i_pure
theorem b5_ends {A B ls ks:List Line} {n k which y:Int} {i:Nat} (hA:Cut ls A) (hB:Cut ks B) (hw:which % (A.length:Int)=(i:Int)) (hi:i<A.length) (hy:0<=y/\y<=255) (hn:1<=n) (hk:1<=k)
    (rA:Rng n A) (rB:Rng k B) (gA:Agr A) (gB:Agr B) (oB:NetOk k B) (oU:NetOk (n+k) (un n A B)) (oR:NetOk (n+k) (reLine i y (un n A B))) :
    (M.iter (zav which y n ls k ks (un n A B) (n+k) (un n A B)) n).Ends (.inr ()):=by
  unfold Cut at hA hB
  have gU:Agr (un n A B):=un_agr rA rB gA gB
  have iU:i<(un n A B).length:=by unfold un; rw [List.length_append]; omega
  have eR:=re_un (N:=n) (ks:=B) (y:=y) hi
  have gR:Agr (un n (reLine i y A) B):=un_agr (re_rng hi rA) rB (re_agr hi hy.1 gA) gB
  have m1:=oU.marks
  have out:(M.iter (zav which y n ls k ks (un n A B) (n+k) (un n A B)) n).Out (fun r=>r = .inr ()):=by
    refine M.o_for (Int.toNat k) (fun j a=>a=n+j) ?_ ?_ (by simp)
    · rintro j a hj rfl
      simp only [zav,hA,hB,hw,Int.toNat_natCast]
      rw [re_eq iU]
      refine M.o_t (decide_eq_true (by omega)) (M.o_bind (between_out oU (f:=n) (t:=n+j) (by omega) (by omega)) ?_)
      rintro ⟨p1,p2,p3⟩ h1
      dsimp only
      refine M.o_bind (between_out oR (f:=n) (t:=n+j) (by omega) (by omega)) ?_
      rintro ⟨q1,q2,q3⟩ h2
      dsimp only
      refine M.o_grd (gA2 (by omega) (by omega)) (M.o_bind (between_out oB (f:=0) (t:=n+j-n) (by omega) (by omega)) ?_)
      rintro ⟨s1,s2,s3⟩ h3
      dsimp only
      have h3:Btw B (n-n) (n+j-n) (s1,s2,s3):=by rw [Int.sub_self]; exact h3
      have e1:=un_btw rA rB gU gB (Int.le_refl n) (show n<=n+(j:Int) by omega) h1 h3
      have e2:=un_btw (re_rng hi rA) rB gR gB (Int.le_refl n) (show n<=n+(j:Int) by omega) (eR ▸ h2) h3
      obtain ⟨rfl,rfl,rfl⟩:p1=s1/\p2=s2/\p3=s3:=by simpa using e1
      obtain ⟨rfl,rfl,rfl⟩:q1=p1/\q2=p2/\q3=p3:=by simpa using e2
      exact M.o_f (by simp) (M.o_grd (gA2 (by omega) (by omega)) (M.o_pure (by dsimp only; push_cast; omega)))
    · rintro a rfl
      simp only [zav]
      exact M.o_f (decide_eq_false (by omega)) (M.o_pure rfl)
  obtain ⟨r,h1,h2⟩:=out
  exact h2 ▸ h1
end Go.Proofs.Ytigidakpcepdkaa
namespace Go.Proofs.Ytigidakpcepdkaa
open Go Go.Nm
theorem c01:(zaa [] 1).Ends false:=⟨5,by kernel_rfl⟩
theorem c00:(zaa [] 0).Ends false:=⟨5,by kernel_rfl⟩
theorem c11:(zaa [0] 1).Ends false:=⟨5,by kernel_rfl⟩
theorem c10:(zaa [0] 0).Ends true:=⟨5,by kernel_rfl⟩
theorem rest_out {A B ls ks:List Line} {n k:Int} {hs gs:List Int} {W Y:Nat} {r0:List Int} (hA:Cut ls A) (hB:Cut ks B) (ha:1<=A.length/\A.length<=5) (hb:1<=B.length/\B.length<=5) (hn:2<=n/\n<=4) (hk:2<=k/\k<=4)
    (lA:∀ l,l∈A->LnOk n hs l) (lB:∀ l,l∈B->LnOk k gs l) (h1:HsOk n hs) (h2:HsOk k gs) (hW:W<256) (hY:Y<256)
    (e3:r0.getD (A.length+B.length) 0=sm (vB (A++B)) 0 A.length % 1000003) (e4:r0.getD (A.length+B.length+1) 0=sm (vB (A++B)) A.length B.length % 1000003) :
    (zbk W Y n ls k ks (nts (A++B) (A.length+B.length)) (List.replicate (A.length+B.length) ⟨[],0,0⟩) (rg A.length B.length) (rg 0 A.length) r0 A).Out (fun r=>r=true):=by
  have oA:NetOk n A:=net_ok (most:=0) (by omega) h1 (by omega) lA
  have oB:NetOk k B:=net_ok (most:=0) (by omega) h2 (by omega) lB
  have gA:Agr A:=⟨_,feas_ln lA⟩
  have gB:Agr B:=⟨_,feas_ln lB⟩
  have oU:NetOk (n+k) (un n A B):=un_ok oA oB (by omega) (by omega)
  obtain ⟨i,hw⟩:∃ i:Nat,(W:Int) % (A.length:Int)=(i:Int):=⟨W % A.length,by simp⟩
  have hi:i<A.length:=by
    have:=Int.emod_lt_of_pos (W:Int) (show (0:Int)<A.length by omega)
    omega
  have ul:(un n A B).length=A.length+B.length:=by unfold un; rw [List.length_append,List.length_map]
  have iU:i<(un n A B).length:=by omega
  have uA:(un n A B).getD i default=A.getD i default:=by unfold un; rw [List.getD_eq_getElem?_getD,List.getElem?_append_left hi,← List.getD_eq_getElem?_getD]
  have aA:(A++B).getD i default=A.getD i default:=by rw [List.getD_eq_getElem?_getD,List.getElem?_append_left hi,← List.getD_eq_getElem?_getD]
  have mi:A.getD i default∈A:=by rw [getD_el A hi]; exact List.getElem_mem hi
  have ri:=(lA _ mi).rise h1
  have ei:=(lA _ mi).err
  have vb:∀ j:Nat,j<A.length+B.length->0<=vB (A++B) j/\vB (A++B) j<=1000002:=fun j hj=>by
    have hm:(A++B).getD j default∈A++B:=by rw [getD_el (A++B) (by rw [List.length_append]; exact hj)]; exact List.getElem_mem _
    unfold vB
    rcases List.mem_append.1 hm with hm | hm
    · have:=(lA _ hm).rise h1; omega
    · have:=(lB _ hm).rise h2; omega
  have oR:NetOk (n+k) (reLine i (Y:Int) (un n A B)):=by
    have q:∀ l∈un n A B,(-700<=l.rise/\l.rise<=700)/\l.err<=8:=fun l hl=>by
      rcases List.mem_append.1 hl with hl | hl
      · exact ⟨(lA l hl).rise h1,(lA l hl).err.2⟩
      · obtain ⟨m,hm,rfl⟩:=List.mem_map.1 hl
        exact ⟨(lB m hm).rise h2,(lB m hm).err.2⟩
    exact re_ok oU iU (by omega) (fun l hl=>by have:=(q l hl).1; omega) (fun l hl=>by have:=(q l hl).2; omega)
  have gR:∀ d,(reLine i (Y:Int) (un n A B)).getD i d={ (A.getD i default) with err:=(A.getD i default).err+(Y:Int),rise:=(A.getD i default).rise+(Y:Int) / 2 }:=fun d=>by
    unfold reLine
    rw [gset _ _ _ _ _ iU,if_pos rfl,uA]
  have ew:List.replicate (A.length+B.length) (⟨[],0,0⟩:Work)++[⟨rg 0 A.length,0,0⟩,⟨rg A.length B.length,0,0⟩]=Wk2 A.length B.length:=rfl
  have hA':ls.take (Int.toNat (min 5 (ls.length:Int)))=A:=hA
  unfold zbk
  simp only [hA',hw,Int.toNat_natCast]
  refine M.o_bindE (b4_ends hB (by omega) (by omega) (by omega) (by omega) oB.rng) ?_
  dsimp only
  refine M.o_bindE (copy_net (by omega) (n+k)) ?_
  dsimp only
  rw [re_eq iU,ew,List.length_replicate,gR,e3,show Int.toNat (((A.length+B.length:Nat):Int)+1)=A.length+B.length+1 by omega,e4,uA]
  refine M.o_grd (gA2 (by omega) (by omega)) (M.o_grd (gA2 (by omega) (by omega)) (M.o_grd (gA2 (by omega) (by omega)) (M.o_grd (gA2 (by omega) (by rw [List.length_set]; omega)) (M.o_grd (gA3 (by omega) (by omega) (by omega)) (M.o_grd ?_ (M.o_bindE (stale_ends ha hb hi) ?_))))))
  · rw [gset _ _ _ _ _ iU,if_pos rfl]
    dsimp only
    exact gA2 (by omega) (by omega)
  dsimp only
  refine M.o_grd (gA2 (by omega) (by rw [re_len]; omega)) (M.o_grd (gA2 (by omega) (by omega)) (M.o_grd (decide_eq_true (by rw [nts_len,List.length_singleton]; omega)) ?_))
  refine M.o_bindE (withdrawn_out ha hb (ns_more (x:=(A.getD i default).rise+(Y:Int) / 2+1000) (by omega) (by omega) vb (by omega))) ?_
  have vi:vB (A++B) i=(A.getD i default).rise+1000:=by unfold vB; rw [aA]
  have s2:sm (vM (A++B) i ((A.getD i default).rise+(Y:Int) / 2+1000)) A.length B.length=sm (vB (A++B)) A.length B.length:=sm_same _ fun j _=>by unfold vM; rw [if_neg (by omega)]
  have dx:(A.getD i default).rise+(Y:Int) / 2+1000-vB (A++B) i=(Y:Int) / 2:=by rw [vi]; omega
  have z1:0<=((i:Int)+1)*((Y:Int) / 2):=Int.mul_nonneg (by omega) (by omega)
  have z2:((i:Int)+1)*((Y:Int) / 2)<=5*127:=Int.mul_le_mul (by omega) (by omega) (by omega) (by omega)
  have s1:(sm (vM (A++B) i ((A.getD i default).rise+(Y:Int) / 2+1000)) 0 A.length % 1000003=sm (vB (A++B)) 0 A.length % 1000003)↔(Y:Int) / 2=0:=by
    rw [sm_more,if_pos hi,dx,mod_more (by omega)]
    refine ⟨fun h=>?_,fun h=>by rw [h,Int.mul_zero]⟩
    rcases Int.mul_eq_zero.1 h with h | h <;> omega
  rw [s2,if_pos rfl,List.append_nil]
  dsimp only
  refine M.o_bind (P:=fun r=>r=true) (M.o_opt (fun _=>M.o_of (same_self _) rfl) (fun h=>by simp at h)) ?_
  rintro _ rfl
  refine M.o_bind (P:=fun r=>r=false) (M.o_opt (fun _=>?_) (fun _=>rfl)) ?_
  · split
    · exact M.o_of c01 rfl
    · exact M.o_of c11 rfl
  rintro _ rfl
  refine M.o_bind (P:=fun r=>r=decide (0<(Y:Int) / 2)) (M.o_opt (fun _=>?_) (fun h=>by simp at h)) ?_
  · by_cases c:(Y:Int) / 2=0
    · rw [if_pos (s1.2 c)]
      exact M.o_of c00 (by simp [c])
    · rw [if_neg (fun h=>c (s1.1 h))]
      exact M.o_of c10 (by simp; omega)
  rintro _ rfl
  refine M.o_f (by simp) (M.o_bindE (b5_ends hA hB hw hi (by omega) (by omega) (by omega) oA.rng oB.rng gA gB oB oU oR) ?_)
  dsimp only
  exact M.o_bindE awake_ends (M.o_pure rfl)
theorem zd0 (p q:List UInt8) (w y:UInt8):(zbt p q w.toNat y.toNat).Ends true:=by
  have out:(zbt p q w.toNat y.toNat).Out (fun r=>r=true):=by
    have hW:=w.toNat_lt
    have hY:=y.toNat_lt
    generalize w.toNat=W at *
    generalize y.toNat=Y at *
    unfold zbt
    refine M.o_bindE (new_ends p) (M.o_bind (made_out sok0 (by omega) (by omega) (by omega)) ?_)
    rintro ⟨n,ls,hs,c1,c2⟩ ⟨mA,_⟩
    dsimp only at mA ⊢
    refine M.o_bindE (new_ends q) (M.o_bind (made_out sok0 (by omega) (by omega) (by omega)) ?_)
    rintro ⟨k,ks,gs,c3,c4⟩ ⟨mB,_⟩
    dsimp only at mB ⊢
    refine M.o_grd (gA2 (by omega) (by omega)) (M.o_grd (gA2 (by omega) (by omega)) ?_)
    obtain ⟨A,hA⟩:∃ A,Cut ls A:=⟨_,rfl⟩
    obtain ⟨B,hB⟩:∃ B,Cut ks B:=⟨_,rfl⟩
    have hA':ls.take (Int.toNat (min 5 (ls.length:Int)))=A:=hA
    have hB':ks.take (Int.toNat (min 5 (ks.length:Int)))=B:=hB
    have m1:=mA.one
    have m2:=mB.one
    have t1:=mA.two
    have t2:=mB.two
    have al:1<=A.length/\A.length<=5:=by rw [← hA',List.length_take]; omega
    have bl:1<=B.length/\B.length<=5:=by rw [← hB',List.length_take]; omega
    have lA:∀ l,l∈A->LnOk n hs l:=fun l hl=>mA.ln l (by rw [← hA'] at hl; exact List.mem_of_mem_take hl)
    have lB:∀ l,l∈B->LnOk k gs l:=fun l hl=>mB.ln l (by rw [← hB'] at hl; exact List.mem_of_mem_take hl)
    have rz:∀ j:Nat,-700<=((A++B).getD j default).rise/\((A++B).getD j default).rise<=700:=fun j=>by
      by_cases hj:j<(A++B).length
      · have hm:(A++B).getD j default∈A++B:=by rw [getD_el (A++B) hj]; exact List.getElem_mem _
        rcases List.mem_append.1 hm with hm | hm
        · exact (lA _ hm).rise mA.hh
        · exact (lB _ hm).rise mB.hh
      · rw [List.getD_eq_getElem?_getD,List.getElem?_eq_none (by omega)]
        show (-700:Int)<=0/\(0:Int)<=700
        omega
    unfold zbA
    simp only [hA',hB']
    refine M.o_bindE (copy_lines (by omega)) (M.o_grd (decide_eq_true (by omega)) (M.o_bindE (b0_ends hB (by rw [List.length_append]; omega) (fun j=>by have:=rz j; omega)) ?_))
    dsimp only
    rw [List.length_append]
    refine M.o_bindE (b1_ends hA rfl (by omega)) ?_
    dsimp only
    have ew:List.replicate (A.length+B.length) (⟨[],0,0⟩:Work)++[⟨rg 0 A.length,0,0⟩,⟨rg A.length B.length,0,0⟩]=Wk2 A.length B.length:=rfl
    rw [ew,wk2_len,List.length_replicate]
    refine M.o_grd (gA2 (by omega) (by omega)) (M.o_grd (decide_eq_true (by simp only [List.length_cons,List.length_nil]; omega)) (M.o_bind (values_out al bl (ns_base (by omega) fun j _=>by have:=rz j; unfold vB; omega)) ?_))
    rintro ⟨r0,r1⟩ ⟨e1,e2,e3,e4⟩
    dsimp only at e1 e2 e3 e4 ⊢
    subst e1
    refine M.o_f (by rw [e2]; simp) (M.o_grd (gA2 (by omega) (by omega)) (M.o_grd (gA2 (by omega) (by omega)) (M.o_grd (gA2 (by omega) (by omega)) (M.o_grd (gA2 (by omega) (by omega)) (M.o_grd (gA2 (by omega) (by omega)) (M.o_bindE (copy_lines (by omega)) ?_))))))
    exact rest_out hA hB al bl t1 t2 lA lB mA.hh mB.hh hW hY e3 e4
  obtain ⟨r,h1,h2⟩:=out
  exact h2 ▸ h1
end Go.Proofs.Ytigidakpcepdkaa
