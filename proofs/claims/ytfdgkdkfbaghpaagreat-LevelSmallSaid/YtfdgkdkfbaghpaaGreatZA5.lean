/- Part 5 of the texts on which the proof rests. Conditions: none. -/
import Derived.Test.YtfdgkdkfbaghpaaGreatZA4
set_option linter.unusedVariables false
set_option linter.unusedSimpArgs false
set_option linter.unusedSectionVars false
-- libL/AWL.lean
namespace Go.Proofs.YtfdgkdkfbaghpaaGreat
open Go Go.Nm
set_option maxRecDepth 100000 in
theorem awake_ends:(zax).Ends true:=⟨300,by kernel_rfl⟩
end Go.Proofs.YtfdgkdkfbaghpaaGreat
-- libL/PN.lean
namespace Go.Nm
namespace M
variable {α β σ ρ:Type}
def Out (m:M α) (Q:α->Prop):Prop:=∃ r,m.Ends r/\Q r
theorem o_of {m:M α} {a:α} {Q:α->Prop} (h:m.Ends a) (q:Q a):m.Out Q:=⟨a,h,q⟩
theorem o_pure {a:α} {Q:α->Prop} (h:Q a):(pure a).Out Q:=⟨a,i_pure,h⟩
theorem o_mono {m:M α} {P Q:α->Prop} (h:m.Out P) (k:∀ a,P a->Q a):m.Out Q:=by
  obtain ⟨a,h1,h2⟩:=h
  exact ⟨a,h1,k a h2⟩
theorem o_bind {m:M α} {k:α->M β} {P:α->Prop} {Q:β->Prop} (h:m.Out P) (h':∀ a,P a->(k a).Out Q):(bind m k).Out Q:=by
  obtain ⟨a,h1,h2⟩:=h
  obtain ⟨b,h3,h4⟩:=h' a h2
  exact ⟨b,i_bind h1 h3,h4⟩
theorem o_bindE {m:M α} {k:α->M β} {a:α} {Q:β->Prop} (h:m.Ends a) (h':(k a).Out Q):(bind m k).Out Q:=o_bind (o_of (Q:=fun x=>x=a) h rfl) (fun _ e=>by subst e; exact h')
theorem o_grd {b:Bool} {k:M α} {Q:α->Prop} (hb:b=true) (h:k.Out Q):(grd b k).Out Q:=by subst hb; exact h
theorem o_grdD {p:Prop} [Decidable p] {k:M α} {Q:α->Prop} (hp:p) (h:k.Out Q):(grd (decide p) k).Out Q:=o_grd (decide_eq_true hp) h
theorem o_if {b:Bool} {x y:M α} {Q:α->Prop} (h:b=true->x.Out Q) (h':b=false->y.Out Q):(bif b then x else y).Out Q:=by
  cases b with
  | true=>exact h rfl
  | false=>exact h' rfl
theorem o_t {b:Bool} {x y:M α} {Q:α->Prop} (hb:b=true) (h:x.Out Q):(bif b then x else y).Out Q:=by subst hb; exact h
theorem o_f {b:Bool} {x y:M α} {Q:α->Prop} (hb:b=false) (h:y.Out Q):(bif b then x else y).Out Q:=by subst hb; exact h
theorem o_opt {b:Bool} {m:M α} {d:α} {Q:α->Prop} (h:b=true->m.Out Q) (h':b=false->Q d):(opt b m d).Out Q:=by
  cases b with
  | true=>exact h rfl
  | false=>exact o_pure (h' rfl)
/-- What a round leaves. -/
def Rd (J:Nat->σ->Prop) (Q:ρ->Prop) (m:Nat):σ ⊕ ρ->Prop
  | .inl s=>∃ m',m'<m/\J m' s
  | .inr r=>Q r
theorem o_iter {body:σ->M (σ ⊕ ρ)} {Q:ρ->Prop} (J:Nat->σ->Prop) (round:∀ m s,J m s->(body s).Out (Rd J Q m)):∀ (m:Nat) (s:σ),J m s->(iter body s).Out Q:=by
  intro m
  induction m using Nat.strongRecOn with
  | _ m ih =>
    intro s hs
    obtain ⟨x,h1,h2⟩:=round m s hs
    cases x with
    | inl s' =>
      obtain ⟨m',hlt,hj⟩:=h2
      obtain ⟨r,h3,h4⟩:=ih m' hlt s' hj
      exact ⟨r,i_next h1 h3,h4⟩
    | inr r=>exact ⟨r,i_stop h1,h2⟩
/-- A loop that counts from 0 to n. -/
theorem o_for {body:σ->M (σ ⊕ ρ)} {Q:ρ->Prop} (n:Nat) (J:Nat->σ->Prop) (round:∀ i s,i<n->J i s->(body s).Out (fun x=>match x with | .inl s'=>J (i+1) s' | .inr r=>Q r))
    (last:∀ s,J n s->(body s).Out (fun x=>match x with | .inl _=>False | .inr r=>Q r)) {s:σ} (h:J 0 s):(iter body s).Out Q:=by
  refine o_iter (fun m s=>∃ i,i<=n/\m=n-i/\J i s) ?_ n s ⟨0,Nat.zero_le _,rfl,h⟩
  rintro m s ⟨i,hi,rfl,hj⟩
  by_cases e:i<n
  · refine o_mono (round i s e hj) ?_
    intro x hx
    cases x with
    | inl s'=>exact ⟨n-(i+1),by omega,i+1,e,rfl,hx⟩
    | inr r=>exact hx
  · obtain rfl:i=n:=by omega
    refine o_mono (last s hj) ?_
    intro x hx
    cases x with
    | inl s'=>exact hx.elim
    | inr r=>exact hx
end M
theorem M.i_f {α:Type} {b:Bool} {x y:M α} {r:α} (hb:b=false) (h:y.Ends r):(bif b then x else y).Ends r:=by subst hb; exact h
theorem M.i_t {α:Type} {b:Bool} {x y:M α} {r:α} (hb:b=true) (h:x.Ends r):(bif b then x else y).Ends r:=by subst hb; exact h
theorem take_succ_D {α:Type} (l:List α) (i:Nat) (h:i<l.length) (d:α):l.take i++[l.getD i d]=l.take (i+1):=by
  rw [List.take_succ_eq_append_getElem h]
  simp [List.getD,h]
theorem gset {α:Type} (l:List α) (i j:Nat) (x d:α) (h:i<l.length):(l.set i x).getD j d=if j=i then x else l.getD j d:=by
  simp only [List.getD_eq_getElem?_getD,List.getElem?_set]
  by_cases e:i=j
  · subst e; simp [h]
  · rw [if_neg e,if_neg (fun h=>e h.symm)]
theorem getD_el {α:Type} (l:List α) {k:Nat} (h:k<l.length) (d:α):l.getD k d=l[k]:=by rw [List.getD_eq_getElem?_getD,List.getElem?_eq_getElem h,Option.getD_some]
theorem gOr {c:Bool} {p:Prop} [Decidable p] (hp:p):(!c||decide p)=true:=by rw [decide_eq_true hp,Bool.or_true]
theorem gOr2 {c:Bool} {p q:Prop} [Decidable p] [Decidable q] (hp:p) (hq:q):(!c||(decide p&&decide q))=true:=by rw [decide_eq_true hp,decide_eq_true hq]; cases c <;> rfl
theorem gA2 {p q:Prop} [Decidable p] [Decidable q] (hp:p) (hq:q):(decide p&&decide q)=true:=by rw [decide_eq_true hp,decide_eq_true hq]; rfl
theorem gA3 {p q r:Prop} [Decidable p] [Decidable q] [Decidable r] (hp:p) (hq:q) (hr:r):(decide p&&decide q&&decide r)=true:=by rw [decide_eq_true hp,decide_eq_true hq,decide_eq_true hr]; rfl
theorem nodup_bound:∀ (n:Nat) (l:List Int),l.Nodup->(∀ x∈l,0<=x/\x<n)->l.length<=n
  | 0,l,_,hb=>by
    cases l with
    | nil=>exact Nat.le_refl _
    | cons x l=>have:=hb x (by simp); omega
  | n + 1, l, hn, hb => by
    by_cases hm:(n:Int)∈l
    · have h1:(l.erase (n:Int)).length=l.length-1:=List.length_erase_of_mem hm
      have h2:=nodup_bound n (l.erase (n:Int)) (hn.erase _) (fun x hx=>by
        have hx':=(List.Nodup.mem_erase_iff hn).1 hx
        have:=hb x hx'.2
        have:=hx'.1
        omega)
      have:=List.length_pos_of_mem hm
      omega
    · have:=nodup_bound n l hn (fun x hx=>by
        have:=hb x hx
        have:x ≠ n:=fun e=>hm (e ▸ hx)
        omega)
      omega
theorem mem_getD {α:Type} {l:List α} {x:α} (h:x∈l) (d:α):∃ i,i<l.length/\l.getD i d=x:=by
  obtain ⟨i,hi,e⟩:=List.getElem_of_mem h
  exact ⟨i,hi,by rw [getD_el l hi d]; exact e⟩
end Go.Nm
-- libL/DC.lean
namespace Go.Nm
/-- A leg leads from a mark to another one, and can rise so much. -/
def Ed (ls:List Line) (a b c:Int):Prop:=∃ l,l∈ls/\((l.src=a/\l.dst=b/\c=l.err+l.rise)∨(l.dst=a/\l.src=b/\c=l.err-l.rise))
/-- Heights agree with all lines. -/
def Feas (ls:List Line) (h:Int->Int):Prop:=∀ l,l∈ls->l.rise-l.err<=h l.dst-h l.src/\h l.dst-h l.src<=l.rise+l.err
inductive Wk (ls:List Line) (a:Int):List Int->Int->Prop
  | one:Wk ls a [a] 0
  | snoc {m b:Int} {vs:List Int} {c e:Int} (w:Wk ls a (m :: vs) c) (he:Ed ls m b e):Wk ls a (b :: m :: vs) (c+e)
variable {ls:List Line} {h:Int->Int} {a b c:Int}
theorem Feas.ed (hF:Feas ls h) (e:Ed ls a b c):h b-h a<=c:=by
  obtain ⟨l,hl,⟨rfl,rfl,rfl⟩ | ⟨rfl,rfl,rfl⟩⟩:=e
  · have:=hF l hl; omega
  · have:=hF l hl; omega
theorem feas_of (hE:∀ a b c,Ed ls a b c->h b-h a<=c):Feas ls h:=fun l hl=>by
  have h1:=hE l.src l.dst _ ⟨l,hl,.inl ⟨rfl,rfl,rfl⟩⟩
  have h2:=hE l.dst l.src _ ⟨l,hl,.inr ⟨rfl,rfl,rfl⟩⟩
  omega
theorem Ed.rev (e:Ed ls a b c):∃ c',Ed ls b a c':=by
  obtain ⟨l,hl,⟨rfl,rfl,rfl⟩ | ⟨rfl,rfl,rfl⟩⟩:=e
  · exact ⟨_,l,hl,.inr ⟨rfl,rfl,rfl⟩⟩
  · exact ⟨_,l,hl,.inl ⟨rfl,rfl,rfl⟩⟩
theorem Ed.sub {ks:List Line} (e:Ed ls a b c) (hs:∀ l,l∈ls->l∈ks):Ed ks a b c:=by
  obtain ⟨l,hl,h⟩:=e
  exact ⟨l,hs l hl,h⟩
theorem Wk.sub {ks:List Line} {vs:List Int} (w:Wk ls a vs c) (hs:∀ l,l∈ls->l∈ks):Wk ks a vs c:=by
  induction w with
  | one=>exact .one
  | snoc _ he ih=>exact .snoc ih (he.sub hs)
theorem Wk.feas (hF:Feas ls h) {vs:List Int} (w:Wk ls a vs c):∀ b,vs.head?=some b->h b-h a<=c:=by
  induction w with
  | one=>intro b hb; simp at hb; subst hb; omega
  | snoc _ he ih =>
    intro b hb
    simp at hb
    subst hb
    have h1:=ih _ rfl
    have h2:=hF.ed he
    omega
theorem Wk.le (hF:Feas ls h) {vs:List Int} (w:Wk ls a (b :: vs) c):h b-h a<=c:=w.feas hF b rfl
theorem Wk.ne {c:Int} (w:Wk ls a [] c):False:=by cases w
theorem Wk.last {vs:List Int} (w:Wk ls a vs c):vs.getLast?=some a:=by
  induction w with
  | one=>rfl
  | snoc _ _ ih=>rw [List.getLast?_cons_cons]; exact ih
/-- The end of a walk, put behind another one. -/
theorem Wk.cut:∀ (xs:List Int) {v:Int} {ys:List Int} {c:Int},Wk ls a (xs++v :: ys) c->∃ c1,Wk ls a (v :: ys) c1/\∀ (a':Int) (zs:List Int) (c2:Int),Wk ls a' (v :: zs) c2->Wk ls a' (xs++v :: zs) (c2+(c-c1))
  | [],v,ys,c,w=>⟨c,w,fun a' zs c2 w2=>by rw [show c2+(c-c)=c2 by omega]; exact w2⟩
  | [x],v,ys,c,w=>by
    cases w with
    | snoc w he =>
      refine ⟨_,w,fun a' zs c2 w2=>?_⟩
      rename_i c0 e
      rw [show c2+(c0+e-c0)=c2+e by omega]
      exact .snoc w2 he
  | x :: y :: xs,v,ys,c,w=>by
    cases w with
    | snoc w he =>
      rename_i c0 e
      obtain ⟨c1,h1,h2⟩:=Wk.cut (y :: xs) w
      refine ⟨c1,h1,fun a' zs c2 w2=>?_⟩
      have:=h2 a' zs c2 w2
      rw [show c2+(c0+e-c1)=c2+(c0-c1)+e by omega]
      exact .snoc this he
theorem Wk.app {m:Int} {vs ws:List Int} {c d:Int} (w:Wk ls a (m :: vs) c) (w':Wk ls m (b :: ws) d):∃ us,Wk ls a (b :: us) (c+d):=by
  generalize hl:b :: ws=l at w'
  induction w' generalizing b ws with
  | one=>cases hl; exact ⟨vs,by rw [Int.add_zero]; exact w⟩
  | snoc w2 he ih =>
    cases hl
    obtain ⟨us,hu⟩:=ih rfl
    exact ⟨_,by rw [← Int.add_assoc]; exact .snoc hu he⟩
theorem Wk.edge (e:Ed ls a b c):Wk ls a [b,a] c:=by
  have:=Wk.snoc (.one (ls:=ls) (a:=a)) e
  rwa [Int.zero_add] at this
/-- Who can go can go back. -/
theorem Wk.back {vs:List Int} (w:Wk ls a vs c):∀ b,vs.head?=some b->∃ us d,Wk ls b (a :: us) d:=by
  induction w with
  | one=>intro b hb; simp at hb; subst hb; exact ⟨[],0,.one⟩
  | snoc _ he ih =>
    intro b hb
    simp at hb
    subst hb
    obtain ⟨c',hr⟩:=he.rev
    obtain ⟨us,d,hw⟩:=ih _ rfl
    obtain ⟨vs,hv⟩:=(Wk.edge hr).app hw
    exact ⟨vs,_,hv⟩
theorem not_nodup:∀ (l:List Int),¬ l.Nodup->∃ xs v ys zs,l=xs++v :: (ys++v :: zs)
  | [],h=>absurd List.nodup_nil h
  | x :: l,h=>by
    by_cases hx:x∈l
    · obtain ⟨ys,zs,rfl⟩:=List.append_of_mem hx
      exact ⟨[],x,ys,zs,rfl⟩
    · obtain ⟨xs,v,ys,zs,e⟩:=not_nodup l (fun hn=>h (List.nodup_cons.2 ⟨hx,hn⟩))
      exact ⟨x :: xs,v,ys,zs,by rw [e]; rfl⟩
/-- A walk without a mark twice can rise no more, if some heights agree. -/
theorem Wk.short (hF:Feas ls h):∀ (k:Nat) {vs:List Int} {b c:Int},vs.length<=k->Wk ls a (b :: vs) c->∃ vs' c',Wk ls a (b :: vs') c'/\c'<=c/\(b :: vs').Nodup
  | 0,vs,b,c,hk,w=>by
    have:vs=[]:=List.length_eq_zero_iff.1 (Nat.le_zero.1 hk)
    subst this
    exact ⟨[],c,w,Int.le_refl _,by simp⟩
  | k + 1, vs, b, c, hk, w => by
    by_cases hn:(b :: vs).Nodup
    · exact ⟨vs,c,w,Int.le_refl _,hn⟩
    · obtain ⟨xs,v,ys,zs,e⟩:=not_nodup _ hn
      rw [e] at w
      obtain ⟨c1,w1,t1⟩:=Wk.cut xs w
      obtain ⟨c2,w2,t2⟩:=Wk.cut (v :: ys) (v:=v) (ys:=zs) w1
      have w3:=t2 v [] 0 .one
      have h3:0<=c1-c2:=by have:=Wk.le hF w3; omega
      have w4:=t1 a zs c2 w2
      have hlen:(xs++v :: zs).length<=k+1:=by
        have:=congrArg List.length e
        simp at this hk ⊢
        omega
      cases xs with
      | nil =>
        simp only [List.nil_append] at e w4 hlen
        have hb:b=v:=(List.cons.inj e).1
        subst hb
        obtain ⟨vs',c',g1,g2,g3⟩:=Wk.short hF k (by simpa using hlen) w4
        exact ⟨vs',c',g1,by omega,g3⟩
      | cons x xs =>
        simp only [List.cons_append] at e w4 hlen
        have hb:b=x:=(List.cons.inj e).1
        subst hb
        obtain ⟨vs',c',g1,g2,g3⟩:=Wk.short hF k (by simpa using hlen) w4
        exact ⟨vs',c',g1,by omega,g3⟩
/-- All lines lie between marks. -/
def Rng (n:Int) (ls:List Line):Prop:=∀ l,l∈ls->(0<=l.src/\l.src<n)/\(0<=l.dst/\l.dst<n)
theorem Ed.rng {n:Int} (hR:Rng n ls) (e:Ed ls a b c):(0<=a/\a<n)/\(0<=b/\b<n):=by
  obtain ⟨l,hl,⟨rfl,rfl,rfl⟩ | ⟨rfl,rfl,rfl⟩⟩:=e
  · exact hR l hl
  · exact ⟨(hR l hl).2,(hR l hl).1⟩
theorem Wk.rng {n:Int} (hR:Rng n ls) (ha:0<=a/\a<n) {vs:List Int} (w:Wk ls a vs c):∀ v,v∈vs->0<=v/\v<n:=by
  induction w with
  | one=>intro v hv; simp at hv; subst hv; exact ha
  | snoc _ he ih =>
    intro v hv
    rcases List.mem_cons.1 hv with rfl | hv
    · exact (he.rng hR).2
    · exact ih v hv
/-- A shortest walk has fewer legs than there are marks. -/
theorem Wk.few {n:Nat} (hF:Feas ls h) (hR:Rng n ls) (ha:0<=a/\a<n) {vs:List Int} (w:Wk ls a (b :: vs) c):∃ vs' c',Wk ls a (b :: vs') c'/\c'<=c/\(b :: vs').Nodup/\vs'.length+1<=n:=by
  obtain ⟨vs',c',g1,g2,g3⟩:=Wk.short hF _ (Nat.le_refl _) w
  exact ⟨vs',c',g1,g2,g3,nodup_bound n _ g3 (g1.rng hR ha)⟩
/-- What a walk can rise lies between bounds, as long as a leg's does. -/
theorem Wk.size (hB:∀ a b c,Ed ls a b c->-1010000<=c/\c<=1010000) {vs:List Int} (w:Wk ls a vs c):-(1010000*(vs.length:Int))+1010000<=c/\c<=1010000*(vs.length:Int)-1010000:=by
  induction w with
  | one=>simp
  | @snoc m b vs c e _ he ih =>
    have h1:=hB _ _ _ he
    simp only [List.length_cons,Int.natCast_succ] at ih ⊢
    omega
/-- The greatest difference. -/
structure IsDist (ls:List Line) (a b d:Int):Prop where
  has:∃ vs,Wk ls a (b :: vs) d
  le:∀ vs c,Wk ls a (b :: vs) c->d<=c
def Tied (ls:List Line) (a b:Int):Prop:=∃ vs c,Wk ls a (b :: vs) c
theorem IsDist.tied {d:Int} (h:IsDist ls a b d):Tied ls a b:=let ⟨vs,w⟩:=h.has; ⟨vs,d,w⟩
theorem Tied.refl (ls:List Line) (a:Int):Tied ls a a:=⟨[],0,.one⟩
theorem Tied.symm (t:Tied ls a b):Tied ls b a:=by
  obtain ⟨vs,c,w⟩:=t
  obtain ⟨us,d,h⟩:=w.back b rfl
  exact ⟨us,d,h⟩
theorem Tied.trans {m:Int} (t:Tied ls a m) (u:Tied ls m b):Tied ls a b:=by
  obtain ⟨vs,c,w⟩:=t
  obtain ⟨us,d,w'⟩:=u
  obtain ⟨xs,h⟩:=w.app w'
  exact ⟨xs,_,h⟩
theorem Tied.ed (e:Ed ls a b c):Tied ls a b:=⟨_,_,Wk.edge e⟩
theorem least_nat {p:Nat->Prop} (h:∃ n,p n):∃ n,p n/\∀ k,p k->n<=k:=by
  obtain ⟨n,hn⟩:=h
  induction n using Nat.strongRecOn with
  | _ n ih =>
    by_cases hc:∃ k,k<n/\p k
    · obtain ⟨k,hk,hp⟩:=hc
      exact ih k hk hp
    · exact ⟨n,hn,fun k hk=>by
        rcases Nat.lt_or_ge k n with hlt | hge
        · exact absurd ⟨k,hlt,hk⟩ hc
        · exact hge⟩
theorem dist_ex (hF:Feas ls h) (t:Tied ls a b):∃ d,IsDist ls a b d:=by
  obtain ⟨vs,c,w⟩:=t
  obtain ⟨k,⟨vs',w'⟩,hk⟩:=least_nat (p:=fun k=>∃ vs,Wk ls a (b :: vs) (h b-h a+k)) ⟨(c-(h b-h a)).toNat,vs,by
    have:=w.le hF
    rw [show h b-h a+((c-(h b-h a)).toNat:Int)=c by omega]; exact w⟩
  refine ⟨_,⟨vs',w'⟩,fun us c' wc=>?_⟩
  have h1:=wc.le hF
  have h2:=hk (c'-(h b-h a)).toNat ⟨us,by rw [show h b-h a+((c'-(h b-h a)).toNat:Int)=c' by omega]; exact wc⟩
  omega
theorem IsDist.uniq {d d':Int} (h1:IsDist ls a b d) (h2:IsDist ls a b d'):d=d':=by
  obtain ⟨vs,w⟩:=h1.has
  obtain ⟨us,w'⟩:=h2.has
  have:=h1.le _ _ w'
  have:=h2.le _ _ w
  omega
theorem IsDist.self (hF:Feas ls h):IsDist ls a a 0:=⟨⟨[],.one⟩,fun _ _ w=>by have:=w.le hF; omega⟩
theorem IsDist.step {m d e:Int} (h1:IsDist ls a m d) (he:Ed ls m b e) {d':Int} (h2:IsDist ls a b d'):d'<=d+e:=by
  obtain ⟨vs,w⟩:=h1.has
  exact h2.le _ _ (.snoc w he)
theorem IsDist.feas {d:Int} (hF:Feas ls h) (h1:IsDist ls a b d):h b-h a<=d:=by
  obtain ⟨vs,w⟩:=h1.has
  exact w.le hF
end Go.Nm
-- libL/DC2.lean
namespace Go.Nm
/-- A net as it may be. -/
structure NetOk (n:Int) (ls:List Line):Prop where
  marks:1<=n/\n<=12
  few:ls.length<=30
  rng:Rng n ls
  ne:∀ l,l∈ls->l.src ≠ l.dst
  day:∀ l,l∈ls->0<=l.day/\l.day<=40000
  rise:∀ l,l∈ls->-1000000<=l.rise/\l.rise<=1000000
  err:∀ l,l∈ls->0<=l.err/\l.err<=10000
variable {ls:List Line} {n a b c:Int} {h:Int->Int}
theorem NetOk.ed (hN:NetOk n ls):∀ a b c,Ed ls a b c->-1010000<=c/\c<=1010000:=by
  rintro a b c ⟨l,hl,⟨_,_,rfl⟩ | ⟨_,_,rfl⟩⟩
  · have:=hN.rise l hl; have:=hN.err l hl; omega
  · have:=hN.rise l hl; have:=hN.err l hl; omega
/-- What is known of a row at work. -/
structure BF (ls:List Line) (n a:Int) (D:Int->Int) (k:Int):Prop where
  top:∀ v,0<=v->v<n->D v<=1099511627776
  snd:∀ v,0<=v->v<n->D v<1099511627776->∃ vs,Wk ls a (v :: vs) (D v)
  low:∀ v,0<=v->v<n->-(1010000*k)<=D v
  own:D a<=0
  up:∀ v,0<=v->v<n->D v<1099511627776->D v<=1010000*k
theorem BF.init (ls:List Line) (n a:Int):BF ls n a (fun v=>if v=a then 0 else 1099511627776) 0 where
  top v _ _:=by first | (split <;> omega) | (dsimp only; split <;> omega)
  snd v _ _ hv:=by
    try dsimp only at hv ⊢
    split at hv
    · rename_i e; subst e; rw [if_pos rfl]; exact ⟨[],.one⟩
    · omega
  low v _ _:=by first | (split <;> omega) | (dsimp only; split <;> omega)
  own:=by rw [if_pos rfl]; exact Int.le_refl _
  up v _ _:=by first | (split <;> omega) | (dsimp only; split <;> omega)
theorem BF.congr {D D':Int->Int} {k:Int} (hB:BF ls n a D k) (ha:0<=a/\a<n) (hN:Rng n ls) (e:∀ v,0<=v->v<n->D' v=D v):BF ls n a D' k where
  top v h0 h1:=by rw [e v h0 h1]; exact hB.top v h0 h1
  snd v h0 h1:=by rw [e v h0 h1]; exact hB.snd v h0 h1
  low v h0 h1:=by rw [e v h0 h1]; exact hB.low v h0 h1
  own:=by rw [e a ha.1 ha.2]; exact hB.own
  up v h0 h1:=by rw [e v h0 h1]; exact hB.up v h0 h1
theorem BF.mono {D:Int->Int} {k k':Int} (hB:BF ls n a D k) (hk:k<=k'):BF ls n a D k':=⟨hB.top,hB.snd,fun v h0 h1=>by have:=hB.low v h0 h1; omega,hB.own,fun v h0 h1 h2=>by have:=hB.up v h0 h1 h2; omega⟩
theorem BF.relax {D:Int->Int} {k m g e:Int} (hB:BF ls n a D k) (hk:0<=k) (he:Ed ls m g e) (hb:-1010000<=e/\e<=1010000) (hm:0<=m/\m<n) (hg:0<=g/\g<n) (h1:D m<1099511627776) (h2:D m+e<D g):BF ls n a (fun v=>if v=g then D m+e else D v) (k+1) where
  top v h0 h3:=by
    try dsimp only
    split
    · have:=hB.top g hg.1 hg.2; omega
    · exact hB.top v h0 h3
  snd v h0 h3 hv:=by
    try dsimp only at hv ⊢
    split at hv
    · rename_i e; subst e
      rw [if_pos rfl]
      obtain ⟨vs,w⟩:=hB.snd m hm.1 hm.2 h1
      exact ⟨_,.snoc w he⟩
    · rename_i e; rw [if_neg e]; exact hB.snd v h0 h3 hv
  low v h0 h3:=by
    try dsimp only
    split
    · have:=hB.low m hm.1 hm.2; omega
    · have:=hB.low v h0 h3; omega
  own:=by
    try dsimp only
    split
    · rename_i e; subst e; have:=hB.own; omega
    · exact hB.own
  up v h0 h3 hv:=by
    try dsimp only at hv ⊢
    split at hv
    · rename_i e; rw [if_pos e]; have:=hB.up m hm.1 hm.2 h1; omega
    · rename_i e; rw [if_neg e]; have:=hB.up v h0 h3 hv; omega
/-- Walks of so many legs are told. -/
def Cov (ls:List Line) (a:Int) (D:Int->Int) (r:Nat):Prop:=∀ vs b c,Wk ls a (b :: vs) c->vs.length<=r->D b<=c
theorem Cov.zero {D:Int->Int} (h:D a<=0):Cov ls a D 0:=by
  intro vs b c w hl
  have:vs=[]:=List.length_eq_zero_iff.1 (Nat.le_zero.1 hl)
  subst this
  cases w
  exact h
theorem Cov.next {D D':Int->Int} {r:Nat} (hN:NetOk n ls) (hr:r<=1000) (hC:Cov ls a D r) (ha:0<=a/\a<n) (hle:∀ v,0<=v->v<n->D' v<=D v) (hE:∀ m g e,Ed ls m g e->D m<1099511627776->D' g<=D m+e):Cov ls a D' (r+1):=by
  intro vs b c w hl
  cases w with
  | one=>exact Int.le_trans (hle _ ha.1 ha.2) (hC [] _ _ .one (Nat.zero_le _))
  | snoc w he =>
    rename_i m ws c0 e
    have h1:=hC _ _ _ w (by simpa using hl)
    have h2:=w.size hN.ed
    simp only [List.length_cons] at h2 hl
    have h3:D m<1099511627776:=by omega
    have:=hE _ _ _ he h3
    omega
/-- At the end. -/
structure Done (ls:List Line) (n a:Int) (D:Int->Int):Prop where
  far:∀ v,0<=v->v<n->D v ≠ 1099511627776->D v<1099511627776
  dist:∀ v,0<=v->v<n->D v<1099511627776->IsDist ls a v (D v)
  tied:∀ v,0<=v->v<n->Tied ls a v->D v<1099511627776
theorem BF.done {D:Int->Int} {k:Int} {r N:Nat} (hN:NetOk n ls) (hF:Feas ls h) (e:(N:Int)=n) (ha:0<=a/\a<n) (hB:BF ls n a D k) (hC:Cov ls a D r) (hr:N<=r+1):Done ls n a D:=by
  have hle:∀ vs b c,Wk ls a (b :: vs) c->D b<=c/\D b<1099511627776:=by
    intro vs b c w
    obtain ⟨vs',c',w',h1,h2,h3⟩:=w.few (n:=N) hF (by rw [e]; exact hN.rng) (by rw [e]; exact ha)
    have h4:=hC _ _ _ w' (by omega)
    have h5:=w'.size hN.ed
    simp only [List.length_cons] at h5
    have:=hN.marks
    exact ⟨by omega,by omega⟩
  refine ⟨fun v h0 h1 h2=>?_,fun v h0 h1 h2=>⟨hB.snd v h0 h1 h2,fun vs c w=>(hle vs v c w).1⟩,fun v h0 h1 ⟨vs,c,w⟩=>(hle vs v c w).2⟩
  have:=hB.top v h0 h1
  omega
/-- Rows that no leg makes less. -/
structure Tight (ls:List Line) (n:Int) (T:Int->Int->Int):Prop where
  leg:∀ a m g e,0<=a->a<n->Ed ls m g e->T a m<1099511627776->T a g<=T a m+e
  zero:∀ a,0<=a->a<n->T a a=0
theorem Tight.feas {T:Int->Int->Int} (hN:NetOk n ls) (hS:Tight ls n T) (ht:∀ a v,0<=a->a<n->0<=v->v<n->T a v<=1099511627776) (f:Int->Int)
    (hf:∀ v,0<=v->v<n->(0<=f v/\f v<n)/\T (f v) v<1099511627776/\∀ u,0<=u->u<f v->¬ T u v<1099511627776) (hb:∀ a m g e,0<=a->a<n->Ed ls m g e->T a m<1099511627776->T a m+e<1099511627776):Feas ls (fun v=>T (f v) v):=by
  refine feas_of fun m g e he=>?_
  have hr:=he.rng hN.rng
  have hm:=hf m hr.1.1 hr.1.2
  have hg:=hf g hr.2.1 hr.2.2
  have step:∀ u v,Ed ls u v e∨(∃ e',Ed ls u v e')->True:=fun _ _ _=>trivial
  have same:f m=f g:=by
    have key:∀ u v e',Ed ls u v e'->f v<=f u:=by
      intro u v e' h'
      have hr':=h'.rng hN.rng
      have h1:=hf u hr'.1.1 hr'.1.2
      have h2:=hf v hr'.2.1 hr'.2.2
      have h3:=hS.leg _ _ _ _ h1.1.1 h1.1.2 h' h1.2.1
      have h4:=hb _ _ _ _ h1.1.1 h1.1.2 h' h1.2.1
      rcases Int.lt_or_le (f u) (f v) with hlt | hge
      · exact absurd (by omega) (h2.2.2 (f u) h1.1.1 hlt)
      · exact hge
    obtain ⟨e',hr'⟩:=he.rev
    have:=key _ _ _ he
    have:=key _ _ _ hr'
    omega
  try dsimp only
  have h3:=hS.leg (f m) m g e hm.1.1 hm.1.2 he hm.2.1
  rw [← same]
  omega
/-! ### Legs, and the last legs of shortest walks -/
def LegOk (ls:List Line) (g:Leg):Prop:=0<=g.line/\g.line<(ls.length:Int)
def lnOf (ls:List Line) (g:Leg):Line:=ls.getD (Int.toNat g.line) default
def sOf (ls:List Line) (g:Leg):Int:=legEnd g.back (lnOf ls g)
def gOf (ls:List Line) (g:Leg):Int:=legEnd (!g.back) (lnOf ls g)
def rOf (ls:List Line) (g:Leg):Int:=bif g.back then (lnOf ls g).err-(lnOf ls g).rise else (lnOf ls g).err+(lnOf ls g).rise
theorem LegOk.mem {g:Leg} (h:LegOk ls g):lnOf ls g∈ls:=by
  unfold lnOf
  have hl:Int.toNat g.line<ls.length:=by have:=h.1; have:=h.2; omega
  rw [getD_el ls hl]
  exact List.getElem_mem hl
theorem LegOk.ed {g:Leg} (h:LegOk ls g):Ed ls (sOf ls g) (gOf ls g) (rOf ls g):=by
  refine ⟨lnOf ls g,h.mem,?_⟩
  unfold sOf gOf rOf legEnd
  cases g.back with
  | true=>exact .inr ⟨rfl,rfl,rfl⟩
  | false=>exact .inl ⟨rfl,rfl,rfl⟩
theorem leg_of (he:Ed ls a b c):∃ (i:Nat) (k:Bool),i<ls.length/\sOf ls ⟨i,k⟩=a/\gOf ls ⟨i,k⟩=b/\rOf ls ⟨i,k⟩=c:=by
  obtain ⟨l,hl,h⟩:=he
  obtain ⟨i,hi,rfl⟩:=mem_getD hl default
  rcases h with ⟨rfl,rfl,rfl⟩ | ⟨rfl,rfl,rfl⟩
  · exact ⟨i,false,hi,rfl,rfl,rfl⟩
  · exact ⟨i,true,hi,rfl,rfl,rfl⟩
/-- The last legs lead back to the first mark. -/
inductive Ch (ls:List Line) (a:Int) (by_:Int->Leg):Int->Prop
  | root:Ch ls a by_ a
  | up {v:Int} (hv:v ≠ a) (h:Ch ls a by_ (sOf ls (by_ v))):Ch ls a by_ v
structure ByOk (ls:List Line) (n a:Int) (D:Int->Int) (by_:Int->Leg):Prop where
  leg:∀ v,0<=v->v<n->v ≠ a->D v<1099511627776->LegOk ls (by_ v)/\gOf ls (by_ v)=v/\D (sOf ls (by_ v))+rOf ls (by_ v)<=D v/\D (sOf ls (by_ v))<1099511627776
  chn:∀ h,Feas ls h->∀ v,0<=v->v<n->D v<1099511627776->Ch ls a by_ v
theorem ByOk.init (ls:List Line) (n a:Int) (by_:Int->Leg):ByOk ls n a (fun v=>if v=a then 0 else 1099511627776) by_ where
  leg v _ _ hv h:=by rw [if_neg hv] at h; omega
  chn h _ v _ _ hd:=by
    by_cases e:v=a
    · subst e; exact .root
    · rw [if_neg e] at hd; omega
theorem Ch.congr {by_ by':Int->Leg} (e:∀ v,0<=v->v<n->by' v=by_ v) (hR:∀ v,0<=v->v<n->v ≠ a->Ch ls a by_ v->0<=sOf ls (by_ v)/\sOf ls (by_ v)<n) {v:Int} (h0:0<=v/\v<n) (h:Ch ls a by_ v):Ch ls a by' v:=by
  induction h with
  | root=>exact .root
  | @up v hv hc ih=>exact .up hv (by rw [e v h0.1 h0.2]; exact ih (hR v h0.1 h0.2 hv (.up hv hc)))
theorem ByOk.congr {D D':Int->Int} {by_ by':Int->Leg} (hN:NetOk n ls) (hB:ByOk ls n a D by_) (e:∀ v,0<=v->v<n->D' v=D v) (e':∀ v,0<=v->v<n->by' v=by_ v):ByOk ls n a D' by' where
  leg v h0 h1 hv hd:=by
    rw [e v h0 h1] at hd ⊢
    rw [e' v h0 h1]
    obtain ⟨h2,h3,h4,h5⟩:=hB.leg v h0 h1 hv hd
    have hr:=(h2.ed.rng hN.rng).1
    rw [e _ hr.1 hr.2]
    exact ⟨h2,h3,h4,h5⟩
  chn h hF v h0 h1 hd:=by
    rw [e v h0 h1] at hd
    have hc:=hB.chn h hF v h0 h1 hd
    have key:∀ v,Ch ls a by_ v->0<=v->v<n->D v<1099511627776->Ch ls a by' v:=by
      intro v hc
      induction hc with
      | root=>exact fun _ _ _=>.root
      | @up v hv hc ih =>
        intro h0 h1 hd
        obtain ⟨h2,h3,h4,h5⟩:=hB.leg v h0 h1 hv hd
        have hr:=(h2.ed.rng hN.rng).1
        exact .up hv (by rw [e' v h0 h1]; exact ih hr.1 hr.2 h5)
    exact key v hc h0 h1 hd
theorem ByOk.relax {D:Int->Int} {by_:Int->Leg} {k:Int} {x:Leg} (hN:NetOk n ls) (hB:ByOk ls n a D by_) (hD:BF ls n a D k) (hx:LegOk ls x) (h1:D (sOf ls x)<1099511627776) (h2:D (sOf ls x)+rOf ls x<D (gOf ls x)) :
    ByOk ls n a (fun v=>if v=gOf ls x then D (sOf ls x)+rOf ls x else D v) (fun v=>if v=gOf ls x then x else by_ v):=by
  have he:=hx.ed
  have hr:=he.rng hN.rng
  have hne:sOf ls x ≠ gOf ls x:=by
    unfold sOf gOf legEnd
    have:=hN.ne _ hx.mem
    cases x.back with
    | true=>exact fun e=>this e.symm
    | false=>exact this
  have hle:∀ v,(if v=gOf ls x then D (sOf ls x)+rOf ls x else D v)<=D v:=fun v=>by
    split
    · rename_i e; rw [e]; omega
    · exact Int.le_refl _
  refine ⟨fun v h0 h3 hv hd=>?_,fun h hF v h0 h3 hd=>?_⟩
  · by_cases e:v=gOf ls x
    · subst e
      simp only [if_true] at hd ⊢
      rw [if_neg hne]
      exact ⟨hx,trivial,Int.le_refl _,h1⟩
    · simp only [if_neg e] at hd ⊢
      obtain ⟨g1,g2,g3,g4⟩:=hB.leg v h0 h3 hv hd
      have:=hle (sOf ls (by_ v))
      exact ⟨g1,g2,by omega,by omega⟩
  · -- the last legs lead to the first mark without the one that is turned
    have hga:gOf ls x ≠ a:=by
      intro e
      obtain ⟨vs,w⟩:=hD.snd _ hr.1.1 hr.1.2 h1
      have q1:=(Wk.snoc w he).le hF
      have q2:=hD.own
      rw [e] at q1 h2
      omega
    have key:∀ u,Ch ls a by_ u->0<=u->u<n->D u<1099511627776->∀ vs c,Wk ls u (sOf ls x :: vs) c->D u+c<=D (sOf ls x)->Ch ls a (fun v=>if v=gOf ls x then x else by_ v) u:=by
      intro u hc
      induction hc with
      | root=>exact fun _ _ _ _ _ _ _=>.root
      | @up u hu hc ih =>
        intro h0 h3 hd vs c w hle
        obtain ⟨g1,g2,g3,g4⟩:=hB.leg u h0 h3 hu hd
        have hr':=(g1.ed.rng hN.rng).1
        have hug:u ≠ gOf ls x:=by
          intro e
          have q1:=(Wk.snoc w he).le hF
          rw [e] at q1 hle
          omega
        refine .up hu ?_
        rw [if_neg hug]
        have e1:=g1.ed
        rw [g2] at e1
        obtain ⟨us,hw⟩:=(Wk.edge e1).app w
        exact ih hr'.1 hr'.2 g4 us _ hw (by omega)
    have hm:Ch ls a (fun v=>if v=gOf ls x then x else by_ v) (sOf ls x):=key _ (hB.chn h hF _ hr.1.1 hr.1.2 h1) hr.1.1 hr.1.2 h1 [] 0 .one (by omega)
    have hg:Ch ls a (fun v=>if v=gOf ls x then x else by_ v) (gOf ls x):=.up hga (by rw [if_pos rfl]; exact hm)
    have all:∀ u,Ch ls a by_ u->Ch ls a (fun v=>if v=gOf ls x then x else by_ v) u:=by
      intro u hc
      induction hc with
      | root=>exact .root
      | @up u hu hc ih =>
        by_cases e:u=gOf ls x
        · rw [e]; exact hg
        · exact .up hu (by rw [if_neg e]; exact ih)
    by_cases e:v=gOf ls x
    · rw [e]; exact hg
    · simp only [if_neg e] at hd
      exact all v (hB.chn h hF v h0 h3 hd)
end Go.Nm
-- libL/DC3.lean
namespace Go.Nm
def rw_ (can:List Int) (a v:Int):Int:=can.getD (Int.toNat a*13+Int.toNat v) 0
def rb_ (by_:List Leg) (a v:Int):Leg:=by_.getD (Int.toNat a*13+Int.toNat v) default
variable {ls:List Line} {n a:Int}
structure FI (ls:List Line) (n a:Int) (can0:List Int) (by0:List Leg) (k:Int) (can:List Int) (by_:List Leg):Prop where
  lc:can.length=169
  lb:by_.length=169
  oth:∀ i,(i<Int.toNat a*13∨Int.toNat a*13+13<=i)->can.getD i 0=can0.getD i 0/\by_.getD i default=by0.getD i default
  bf:BF ls n a (rw_ can a) k
  bo:ByOk ls n a (rw_ can a) (rb_ by_ a)
theorem FI.mono {can0 can:List Int} {by0 by_:List Leg} {k k':Int} (h:FI ls n a can0 by0 k can by_) (hk:k<=k'):FI ls n a can0 by0 k' can by_:=⟨h.lc,h.lb,h.oth,h.bf.mono hk,h.bo⟩
theorem rw_set {can:List Int} (hl:can.length=169) {a g:Int} (ha:0<=a/\a<12) (hg:0<=g/\g<13) (x:Int) (v:Int) (h0:0<=v) (h1:v<13):rw_ (can.set (Int.toNat a*13+Int.toNat g) x) a v=if v=g then x else rw_ can a v:=by
  unfold rw_
  rw [gset _ _ _ _ _ (by omega)]
  by_cases e:v=g
  · rw [if_pos e,if_pos (by rw [e])]
  · rw [if_neg e,if_neg (by omega)]
theorem rb_set {by_:List Leg} (hl:by_.length=169) {a g:Int} (ha:0<=a/\a<12) (hg:0<=g/\g<13) (x:Leg) (v:Int) (h0:0<=v) (h1:v<13):rb_ (by_.set (Int.toNat a*13+Int.toNat g) x) a v=if v=g then x else rb_ by_ a v:=by
  unfold rb_
  rw [gset _ _ _ _ _ (by omega)]
  by_cases e:v=g
  · rw [if_pos e,if_pos (by rw [e])]
  · rw [if_neg e,if_neg (by omega)]
theorem FI.relax {can0 can:List Int} {by0 by_:List Leg} {k:Int} {x:Leg} (hN:NetOk n ls) (ha:0<=a/\a<n) (h:FI ls n a can0 by0 k can by_) (hk:0<=k) (hx:LegOk ls x) (h1:rw_ can a (sOf ls x)<1099511627776) (h2:rw_ can a (sOf ls x)+rOf ls x<rw_ can a (gOf ls x)) :
    FI ls n a can0 by0 (k+1) (can.set (Int.toNat a*13+Int.toNat (gOf ls x)) (rw_ can a (sOf ls x)+rOf ls x)) (by_.set (Int.toNat a*13+Int.toNat (gOf ls x)) x):=by
  have hm:=hN.marks
  have hr:=hx.ed.rng hN.rng
  have e1:∀ v,0<=v->v<n->rw_ (can.set (Int.toNat a*13+Int.toNat (gOf ls x)) (rw_ can a (sOf ls x)+rOf ls x)) a v=if v=gOf ls x then rw_ can a (sOf ls x)+rOf ls x else rw_ can a v:=fun v h0 h3=>rw_set h.lc (by omega) (by omega) _ v h0 (by omega)
  have e2:∀ v,0<=v->v<n->rb_ (by_.set (Int.toNat a*13+Int.toNat (gOf ls x)) x) a v=if v=gOf ls x then x else rb_ by_ a v:=fun v h0 h3=>rb_set h.lb (by omega) (by omega) _ v h0 (by omega)
  refine ⟨by rw [List.length_set]; exact h.lc,by rw [List.length_set]; exact h.lb,fun i hi=>?_,?_,?_⟩
  · rw [gset _ _ _ _ _ (by rw [h.lc]; omega),gset _ _ _ _ _ (by rw [h.lb]; omega),if_neg (by omega),if_neg (by omega)]
    exact h.oth i hi
  · exact (h.bf.relax hk hx.ed (hN.ed _ _ _ hx.ed) hr.1 hr.2 h1 h2).congr ha hN.rng e1
  · exact (h.bo.relax hN h.bf hx h1 h2).congr hN e1 e2
/-- These legs make nothing less than they did when the round began. -/
def Rlx (ls:List Line) (D0 D:Int->Int) (pr:Nat->Bool->Prop):Prop:=∀ (i:Nat) (k:Bool),i<ls.length->pr i k->D0 (sOf ls ⟨i,k⟩)<1099511627776->D (gOf ls ⟨i,k⟩)<=D0 (sOf ls ⟨i,k⟩)+rOf ls ⟨i,k⟩
theorem Rlx.le {D0 D D':Int->Int} {pr pr':Nat->Bool->Prop} (hR:Rng n ls) (h:Rlx ls D0 D pr) (hle:∀ v,0<=v->v<n->D' v<=D v) (hp:∀ i k,i<ls.length->pr' i k->pr i k):Rlx ls D0 D' pr':=fun i k hi hpr hd=>by
  have hx:LegOk ls ⟨i,k⟩:=⟨by show (0:Int)<=(i:Int); omega,by show (i:Int)<_; omega⟩
  have hr:=(hx.ed.rng hR).2
  have:=h i k hi (hp i k hi hpr) hd
  have:=hle _ hr.1 hr.2
  omega
theorem Rlx.all {D0 D:Int->Int} (h:Rlx ls D0 D (fun _ _=>True)):∀ m g e,Ed ls m g e->D0 m<1099511627776->D g<=D0 m+e:=by
  intro m g e he hd
  obtain ⟨i,k,hi,rfl,rfl,rfl⟩:=leg_of he
  exact h i k hi trivial hd
end Go.Nm
-- libL/DC4.lean
namespace Go.Nm
variable {ls:List Line} {n a:Int}
theorem Cov.congr {D D':Int->Int} {r:Nat} (hR:Rng n ls) (ha:0<=a/\a<n) (h:Cov ls a D r) (e:∀ v,0<=v->v<n->D' v=D v):Cov ls a D' r:=fun vs b c w hl=>by
  have:=w.rng hR ha b (by simp)
  rw [e b this.1 this.2]
  exact h vs b c w hl
def Agr (ls:List Line):Prop:=∃ h,Feas ls h
structure Row (ls:List Line) (n a:Int) (D:Int->Int) (by_:Int->Leg):Prop where
  bf:BF ls n a D 8640
  cov:Cov ls a D (Int.toNat n)
  bo:ByOk ls n a D by_
theorem Row.congr {D D':Int->Int} {b b':Int->Leg} (hN:NetOk n ls) (ha:0<=a/\a<n) (h:Row ls n a D b) (e:∀ v,0<=v->v<n->D' v=D v) (e':∀ v,0<=v->v<n->b' v=b v):Row ls n a D' b' :=
  ⟨h.bf.congr ha hN.rng e,h.cov.congr hN.rng ha e,h.bo.congr hN e e'⟩
structure Wkd (ls:List Line) (n:Int) (can:List Int) (by_:List Leg):Prop where
  lc:can.length=169
  lb:by_.length=169
  row:∀ a,0<=a->a<n->Row ls n a (rw_ can a) (rb_ by_ a)
theorem Wkd.done {can:List Int} {by_:List Leg} (hN:NetOk n ls) (hW:Wkd ls n can by_) (hA:Agr ls) (ha:0<=a/\a<n):Done ls n a (rw_ can a):=by
  obtain ⟨h,hF⟩:=hA
  have hr:=hW.row a ha.1 ha.2
  have hm:=hN.marks
  exact hr.bf.done (N:=Int.toNat n) hN hF (by omega) ha hr.cov (by omega)
def Rx (ls:List Line) (can:List Int) (a:Int) (x:Leg):Prop:=rw_ can a (sOf ls x)<1099511627776/\rw_ can a (sOf ls x)+rOf ls x<rw_ can a (gOf ls x)
theorem Wkd.agr_no {can:List Int} {by_:List Leg} (hN:NetOk n ls) (hW:Wkd ls n can by_) (hA:Agr ls) (ha:0<=a/\a<n) {x:Leg} (hx:LegOk ls x):¬ Rx ls can a x:=by
  rintro ⟨h1,h2⟩
  have hD:=hW.done hN hA ha
  have hr:=hx.ed.rng hN.rng
  have d1:=hD.dist _ hr.1.1 hr.1.2 h1
  have ht:Tied ls a (gOf ls x):=d1.tied.trans (.ed hx.ed)
  have d2:=hD.dist _ hr.2.1 hr.2.2 (hD.tied _ hr.2.1 hr.2.2 ht)
  have:=d1.step hx.ed d2
  omega
theorem Wkd.agr_zero {can:List Int} {by_:List Leg} (hN:NetOk n ls) (hW:Wkd ls n can by_) (hA:Agr ls) (ha:0<=a/\a<n):rw_ can a a=0:=by
  have hD:=hW.done hN hA ha
  have h1:=(hW.row a ha.1 ha.2).bf.own
  obtain ⟨h,hF⟩:=hA
  exact (hD.dist a ha.1 ha.2 (by omega)).uniq (.self hF)
theorem Wkd.agr_of {can:List Int} {by_:List Leg} (hN:NetOk n ls) (hW:Wkd ls n can by_) (h1:∀ a,0<=a->a<n->∀ x,LegOk ls x->¬ Rx ls can a x) (h2:∀ a,0<=a->a<n->¬ rw_ can a a<0) :
    ∃ f:Int->Int,(∀ v,0<=v->v<n->(0<=f v/\f v<n)/\rw_ can (f v) v<1099511627776/\∀ u,0<=u->u<f v->¬ rw_ can u v<1099511627776)/\Feas ls (fun v=>rw_ can (f v) v):=by
  have hS:Tight ls n (rw_ can):=by
    refine ⟨fun a m g e h0 h3 he hd=>?_,fun a h0 h3=>?_⟩
    · obtain ⟨i,k,hi,rfl,rfl,rfl⟩:=leg_of he
      have:=h1 a h0 h3 ⟨i,k⟩ ⟨by show (0:Int)<=(i:Int); omega,by show (i:Int)<_; omega⟩
      unfold Rx at this
      omega
    · have:=h2 a h0 h3
      have:=(hW.row a h0 h3).bf.own
      omega
  have hex:∀ v,0<=v->v<n->∃ u:Nat,((u:Int)<n/\rw_ can u v<1099511627776)/\∀ k:Nat,((k:Int)<n/\rw_ can k v<1099511627776)->u<=k:=by
    intro v h0 h3
    refine least_nat ⟨v.toNat,by omega,?_⟩
    rw [Int.toNat_of_nonneg h0,hS.zero v h0 h3]
    omega
  refine ⟨fun v=>if h:0<=v/\v<n then (((hex v h.1 h.2).choose:Nat):Int) else 0,?_,?_⟩
  · intro v h0 h3
    dsimp only
    rw [dif_pos ⟨h0,h3⟩]
    obtain ⟨⟨g1,g2⟩,g3⟩:=(hex v h0 h3).choose_spec
    refine ⟨⟨by omega,g1⟩,g2,fun u hu0 hu1 hu=>?_⟩
    have:=g3 u.toNat (by rw [Int.toNat_of_nonneg hu0]; exact ⟨by omega,hu⟩)
    omega
  · refine hS.feas hN (fun a v h0 h3 h4 h5=>(hW.row a h0 h3).bf.top v h4 h5) _ ?_ (fun a m g e h0 h3 he hd=>?_)
    · intro v h0 h3
      try dsimp only
      rw [dif_pos ⟨h0,h3⟩]
      obtain ⟨⟨g1,g2⟩,g3⟩:=(hex v h0 h3).choose_spec
      refine ⟨⟨by omega,g1⟩,g2,fun u hu0 hu1 hu=>?_⟩
      have:=g3 u.toNat (by rw [Int.toNat_of_nonneg hu0]; exact ⟨by omega,hu⟩)
      omega
    · have hr:=he.rng hN.rng
      have:=(hW.row a h0 h3).bf.up m hr.1.1 hr.1.2 hd
      have:=hN.ed _ _ _ he
      omega
end Go.Nm
-- libL/DF.lean
namespace Go.Nm
/-- A place of a table. -/
def tb (l:List (List Int)) (a b:Nat):Int:=(l.getD a []).getD b 0
structure Sq (N:Nat) (l:List (List Int)):Prop where
  len:l.length=N
  rows:∀ a,a<N->(l.getD a []).length=N
theorem Sq.set {N a b:Nat} {l:List (List Int)} (h:Sq N l) (ha:a<N) (x:Int):Sq N (l.set a ((l.getD a []).set b x)):=by
  refine ⟨by rw [List.length_set]; exact h.len,fun i hi=>?_⟩
  rw [gset _ _ _ _ _ (by rw [h.len]; exact ha)]
  by_cases e:i=a
  · rw [if_pos e,List.length_set]; exact h.rows a ha
  · rw [if_neg e]; exact h.rows i hi
theorem tb_set {N a b:Nat} {l:List (List Int)} (h:Sq N l) (ha:a<N) (hb:b<N) (x:Int) (i j:Nat):tb (l.set a ((l.getD a []).set b x)) i j=if i=a/\j=b then x else tb l i j:=by
  unfold tb
  rw [gset _ _ _ _ _ (by rw [h.len]; exact ha)]
  by_cases e:i=a
  · subst e
    rw [if_pos rfl,gset _ _ _ _ _ (by rw [h.rows i ha]; exact hb)]
    by_cases e2:j=b
    · rw [if_pos e2,if_pos ⟨rfl,e2⟩]
    · rw [if_neg e2,if_neg (fun h=>e2 h.2)]
  · rw [if_neg e,if_neg (fun h=>e h.1)]
/-- One step. -/
def up (k a b:Nat) (l:List (List Int)):List (List Int) :=
  if tb l a k<1000000000000/\tb l k b<1000000000000 then l.set a ((l.getD a []).set b (max (-1000000000000) (min (tb l a b) (tb l a k+tb l k b)))) else l
theorem up_sq {N k a b:Nat} {l:List (List Int)} (h:Sq N l) (ha:a<N):Sq N (up k a b l):=by
  unfold up
  split
  · exact h.set ha _
  · exact h
theorem tb_up {N k a b:Nat} {l:List (List Int)} (h:Sq N l) (ha:a<N) (hb:b<N) (i j:Nat):tb (up k a b l) i j=if i=a/\j=b/\tb l a k<1000000000000/\tb l k b<1000000000000 then max (-1000000000000) (min (tb l a b) (tb l a k+tb l k b)) else tb l i j:=by
  unfold up
  by_cases c:tb l a k<1000000000000/\tb l k b<1000000000000
  · rw [if_pos c,tb_set h ha hb]
    by_cases e:i=a/\j=b
    · rw [if_pos e,if_pos ⟨e.1,e.2,c⟩]
    · rw [if_neg e,if_neg (fun h=>e ⟨h.1,h.2.1⟩)]
  · rw [if_neg c,if_neg (fun h=>c h.2.2)]
def bd:Nat->Int
  | 0=>1010000
  | k+1=>2*bd k
theorem bd_pos:∀ k,0<bd k
  | 0=>by decide
  | k+1=>by have:=bd_pos k; unfold bd; omega
theorem bd_le:∀ k,k<=12->bd k<=5000000000:=by decide
/-- A table in which the first k marks were gone through. -/
structure RT (N k:Nat) (T0 T:Nat->Nat->Int):Prop where
  lo:∀ a b,a<N->b<N->-bd k<=T a b
  hi:∀ a b,a<N->b<N->T a b=1000000000000∨T a b<=bd k
  cl:∀ a b j,a<N->b<N->j<N->j<k->T a j<1000000000000->T j b<1000000000000->T a b<=T a j+T j b
  le:∀ a b,a<N->b<N->T a b<=T0 a b
def FT (k:Nat) (T:Nat->Nat->Int) (a b:Nat):Int:=if T a k<1000000000000/\T k b<1000000000000 then min (T a b) (T a k+T k b) else T a b
theorem FT_row {k b:Nat} {T:Nat->Nat->Int} (h:0<=T k k):FT k T k b=T k b:=by
  unfold FT
  split <;> omega
theorem FT_col {k a:Nat} {T:Nat->Nat->Int} (h:0<=T k k):FT k T a k=T a k:=by
  unfold FT
  split <;> omega
theorem FT_le (k:Nat) (T:Nat->Nat->Int) (a b:Nat):FT k T a b<=T a b:=by
  unfold FT
  split <;> omega
theorem RT.next {N k:Nat} {T0 T:Nat->Nat->Int} (h:RT N k T0 T) (hk:k<N) (hN:N<=12) (hp:0<=T k k):RT N (k+1) T0 (FT k T):=by
  have hb:=bd_le (k+1) (by omega)
  have hb0:=bd_pos k
  have e2:bd (k+1)=2*bd k:=rfl
  refine ⟨fun a b ha hb=>?_,fun a b ha hb=>?_,fun a b j ha hb hj hjk h1 h2=>?_,fun a b ha hb=>Int.le_trans (FT_le k T a b) (h.le a b ha hb)⟩
  · have l1:=h.lo a b ha hb
    have l2:=h.lo a k ha hk
    have l3:=h.lo k b hk hb
    unfold FT
    split <;> omega
  · have l1:=h.hi a b ha hb
    have l2:=h.hi a k ha hk
    have l3:=h.hi k b hk hb
    unfold FT
    split <;> omega
  · have kj:=h.lo k j hk hj
    have jk:=h.lo j k hj hk
    have ak:=h.lo a k ha hk
    have kb:=h.lo k b hk hb
    have hkj:=h.hi k j hk hj
    have hjk':=h.hi j k hj hk
    have hak:=h.hi a k ha hk
    have hkb:=h.hi k b hk hb
    have haj:=h.hi a j ha hj
    have hjb:=h.hi j b hj hb
    have hab:=h.hi a b ha hb
    by_cases e:j=k
    · subst e
      rw [FT_col hp] at h1 ⊢
      rw [FT_row hp] at h2 ⊢
      unfold FT
      rw [if_pos ⟨h1,h2⟩]
      omega
    · have hjk2:j<k:=by omega
      have c1:=h.cl a b j ha hb hj hjk2
      have c2:=h.cl k b j hk hb hj hjk2
      have c3:=h.cl a k j ha hk hj hjk2
      have c4:=h.cl k k j hk hk hj hjk2
      unfold FT at h1 h2 ⊢
      split at h1 <;> split at h2 <;> split <;> (try split) <;> (try split) <;> omega
/-- A table through which all marks were gone, without a mark that is lower than itself, gives heights. -/
theorem RT.feas {N:Nat} {ls:List Line} {T0 T:Nat->Nat->Int} (h:RT N N T0 T) (hN:1<=N) (hR:Rng N ls) (h0:∀ a b c,Ed ls (a:Nat) (b:Nat) c->T0 a b<=c) (hc:∀ a b c,Ed ls a b c->c<=1010000) (hd:∀ a,a<N->T a a<=0):Agr ls:=by
  have col:∀ v:Nat,∀ m:Nat,m<=N->1<=m->∃ a,a<m/\∀ x,x<m->T a v<=T x v:=by
    intro v m
    induction m with
    | zero=>intro _ h; omega
    | succ m ih =>
      intro hm _
      by_cases e:m=0
      · subst e; exact ⟨0,by omega,fun x hx=>by rw [show x=0 by omega]; exact Int.le_refl _⟩
      · obtain ⟨a,ha,hx⟩:=ih (by omega) (by omega)
        by_cases c:T m v<T a v
        · refine ⟨m,by omega,fun x hx'=>?_⟩
          by_cases e2:x=m
          · rw [e2]; exact Int.le_refl _
          · have:=hx x (by omega); omega
        · refine ⟨a,by omega,fun x hx'=>?_⟩
          by_cases e2:x=m
          · rw [e2]; omega
          · exact hx x (by omega)
  have pick:∀ v:Nat,∃ a,a<N/\∀ x,x<N->T a v<=T x v:=fun v=>col v N (Nat.le_refl _) hN
  refine ⟨fun v=>T (pick v.toNat).choose v.toNat,feas_of fun m g c he=>?_⟩
  have hr:=he.rng hR
  obtain ⟨m,rfl⟩:∃ k:Nat,m=k:=⟨m.toNat,by omega⟩
  obtain ⟨g,rfl⟩:∃ k:Nat,g=k:=⟨g.toNat,by omega⟩
  simp only [Int.toNat_natCast]
  obtain ⟨p1,p2⟩:=(pick m).choose_spec
  obtain ⟨q1,q2⟩:=(pick g).choose_spec
  generalize (pick m).choose=p at *
  generalize (pick g).choose=q at *
  have hm:m<N:=by omega
  have hg:g<N:=by omega
  have e1:=p2 m hm
  have e2:=hd m hm
  have e3:=q2 p p1
  have e4:=h.le m g hm hg
  have e5:=h0 m g c he
  have e6:=hc _ _ _ he
  have:=h.cl p g m p1 hg hm hm (by omega) (by omega)
  omega
end Go.Nm
-- libL/LP.lean
namespace Go.Proofs.YtfdgkdkfbaghpaaGreat
open Go Go.Nm
variable {ls:List Line} {n:Int}
theorem start_ends {g:Leg} (hg:LegOk ls g):(zaq n ls g).Ends (sOf ls g):=by
  unfold zaq
  exact M.i_grd (gA2 hg.1 hg.2) M.i_pure
theorem goal_ends {g:Leg} (hg:LegOk ls g):(zay n ls g).Ends (gOf ls g):=by
  unfold zay
  exact M.i_grd (gA2 hg.1 hg.2) M.i_pure
theorem rise_ends {N:Int} (hN:NetOk N ls) {g:Leg} (hg:LegOk ls g):(zaI n ls g).Ends (rOf ls g):=by
  unfold zaI
  have h1:=hN.rise _ hg.mem
  have h2:=hN.err _ hg.mem
  unfold lnOf at h1 h2
  refine M.i_grd (gA2 hg.1 hg.2) (M.i_if (fun hb=>?_) (fun hb=>?_))
  · unfold rOf; rw [hb]
    exact M.i_grd (gA2 (by omega) (by omega)) M.i_pure
  · unfold rOf; rw [hb]
    exact M.i_grd (gA2 (by omega) (by omega)) M.i_pure
theorem sum2_ends {x y:Int} (h1:-1000000000000000<=x/\x<=1000000000000000) (h2:-1000000000000000<=y/\y<=1000000000000000):(zcF [x,y]).Ends (x+y):=by
  unfold zcF
  refine M.i_bind (a:=x+y) ?_ M.i_pure
  refine M.i_next (s':=(0+x,0+1)) ?_ (M.i_next (s':=(0+x+y,0+1+1)) ?_ (M.i_stop ?_))
  · simp only [za5]
    exact M.i_t (by simp) (M.i_grd (by simp) (M.i_grd (gA2 (by simp; omega) (by simp; omega)) M.i_pure))
  · simp only [za5]
    exact M.i_t (by simp) (M.i_grd (by simp) (M.i_grd (gA2 (by simp; omega) (by simp; omega)) M.i_pure))
  · simp only [za5]
    rw [show x+y=0+x+y by omega]
    exact M.i_f (by simp) M.i_pure
/-- A walk over the legs that begin at a mark. -/
theorem legs_out {S X:Type} {bd:S->Leg->M (S ⊕ X)} {m:Int} (J:Nat->S->Prop) (QX:X->Prop)
    (step:∀ (i:Nat) (k:Bool) (s:S),i<ls.length->sOf ls ⟨i,k⟩=m->J (2*i+k.toNat) s->(bd s ⟨i,k⟩).Out (fun r=>match r with | .inl s'=>J (2*i+k.toNat+1) s' | .inr x=>QX x))
    (skip:∀ (i:Nat) (k:Bool) (s:S),i<ls.length->sOf ls ⟨i,k⟩ ≠ m->J (2*i+k.toNat) s->J (2*i+k.toNat+1) s)
    {s:S} (h:J 0 s):(zai (M.yl bd) (.inl s) n ls m).Out (fun r=>match r with | .inl s'=>J (2*ls.length) s' | .inr x=>QX x):=by
  unfold zai
  refine M.o_bind (P:=fun y=>match y with | .inl t=>∃ x,t = .inr x/\QX x | .inr t=>∃ s,t = .inl s/\J (2*ls.length) s) ?_ ?_
  · refine M.o_for ls.length (fun i st=>st.1=i/\∃ s,st.2 = .inl s/\J (2*i) s) ?_ ?_ ⟨rfl,s,rfl,h⟩
    · rintro i ⟨s2,t⟩ hi ⟨rfl,s,rfl,hJ⟩
      dsimp only at hi hJ
      have one:∀ (k:Bool) (s:S),J (2*s2+k.toNat) s->(M.bind (zaq n ls ⟨s2,k⟩) fun r2=>M.bind (M.opt (r2==m) (M.yl bd (.inl s) ⟨s2,k⟩) (false,.inl s)) fun (go,t) =>
          bif ((r2==m)&&(!go)) then (M.pure (.inr (.inl t))) else (M.pure (.inl (k.toNat+1,t)))).Out
          (fun y:((Nat × (S ⊕ X)) ⊕ ((S ⊕ X) ⊕ (S ⊕ X)))=>match y with | .inl st=>st.1=k.toNat+1/\∃ s,st.2 = .inl s/\J (2*s2+(k.toNat+1)) s | .inr (.inl t)=>∃ x,t = .inr x/\QX x | .inr (.inr _)=>False):=by
        intro k s hJ
        refine M.o_bindE (start_ends ⟨by show (0:Int)<=(s2:Int); omega,by show (s2:Int)<_; omega⟩) ?_
        by_cases hm:sOf ls ⟨s2,k⟩=m
        · have hb:(sOf ls ⟨s2,k⟩==m)=true:=by rw [beq_iff_eq]; exact hm
          rw [hb]
          refine M.o_bind (P:=fun y=>match y.1 with | true=>∃ s,y.2 = .inl s/\J (2*s2+k.toNat+1) s | false=>∃ x,y.2 = .inr x/\QX x) ?_ ?_
          · refine M.o_bind (step s2 k s hi hm hJ) ?_
            rintro (s' | x) hs
            · exact M.o_pure ⟨s',rfl,hs⟩
            · exact M.o_pure ⟨x,rfl,hs⟩
          · rintro ⟨go,t⟩ hy
            cases go with
            | true=>exact M.o_pure ⟨rfl,hy⟩
            | false=>exact M.o_pure hy
        · have hb:(sOf ls ⟨s2,k⟩==m)=false:=by rw [beq_eq_false_iff_ne]; exact hm
          rw [hb]
          refine M.o_bindE (a:=(false,.inl s)) (M.i_opt (fun h=>by cases h) (fun _=>rfl)) ?_
          exact M.o_pure ⟨rfl,s,rfl,skip s2 k s hi hm hJ⟩
      simp only [zbo]
      refine M.o_t (by simpa using hi) ?_
      refine M.o_bind (P:=fun y=>match y with | .inl t=>∃ x,t = .inr x/\QX x | .inr t=>∃ s,t = .inl s/\J (2*(s2+1)) s) ?_ ?_
      · refine M.o_for 2 (fun j st=>st.1=j/\∃ s,st.2 = .inl s/\J (2*s2+j) s) ?_ ?_ ⟨rfl,s,rfl,hJ⟩
        · rintro j ⟨s3,t⟩ hj ⟨rfl,s,rfl,hJ⟩
          dsimp only at hj hJ
          simp only [zbd]
          refine M.o_t (by simp; omega) (M.o_grd (by simp; omega) ?_)
          rcases (show s3=0∨s3=1 by omega) with rfl | rfl
          · exact M.o_mono (one false s hJ) (fun y hy=>by rcases y with st | t | t; exact hy; exact hy; exact hy.elim)
          · exact M.o_mono (one true s hJ) (fun y hy=>by rcases y with st | t | t; exact hy; exact hy; exact hy.elim)
        · rintro ⟨s3,t⟩ ⟨rfl,s,rfl,hJ⟩
          simp only [zbd]
          exact M.o_f (by simp) (M.o_pure ⟨s,rfl,hJ⟩)
      · rintro (t | t) hy
        · exact M.o_pure hy
        · exact M.o_pure ⟨rfl,hy⟩
    · rintro ⟨s2,t⟩ ⟨rfl,s,rfl,hJ⟩
      simp only [zbo]
      exact M.o_f (by simp) (M.o_pure ⟨s,rfl,hJ⟩)
  · rintro (t | t) hy
    · obtain ⟨x,rfl,hx⟩:=hy
      exact M.o_pure hx
    · obtain ⟨s,rfl,hs⟩:=hy
      exact M.o_pure hs
end Go.Proofs.YtfdgkdkfbaghpaaGreat
-- libL/LP2.lean
namespace Go.Proofs.YtfdgkdkfbaghpaaGreat
open Go Go.Nm
variable {ls:List Line} {n a:Int}
theorem ij {i:Nat} {k:Bool} (hi:i<ls.length):LegOk ls ⟨i,k⟩:=⟨by show (0:Int)<=(i:Int); omega,by show (i:Int)<_; omega⟩
/-- One leg. -/
theorem fill_leg (hN:NetOk n ls) (ha:0<=a/\a<n) {can0 can:List Int} {by0 by_:List Leg} {k:Int} {m i:Nat} {b:Bool} (hi:i<ls.length) (hs:sOf ls ⟨i,b⟩=(m:Int)) (hk:0<=k/\k<=100000) (h:FI ls n a can0 by0 k can by_) (hd:rw_ can a m<1099511627776) :
    (zaf n ls a m (can,by_) ⟨i,b⟩).Out (fun r=>match r with | .inl s=>FI ls n a can0 by0 (k+1) s.1 s.2/\(∀ v,0<=v->v<n->rw_ s.1 a v<=rw_ can a v)/\rw_ s.1 a (gOf ls ⟨i,b⟩)<=rw_ can a m+rOf ls ⟨i,b⟩ | .inr _=>False):=by
  have hx:LegOk ls ⟨i,b⟩:=ij hi
  have hr:=hx.ed.rng hN.rng
  have hm:=hN.marks
  have hc:=hN.ed _ _ _ hx.ed
  have hlo:=h.bf.low m (by omega) (by rw [← hs]; exact hr.1.2)
  simp only [zaf]
  refine M.o_bindE (rise_ends hN hx) ?_
  refine M.o_bindE (a:=rw_ can a m+rOf ls ⟨i,b⟩) (sum2_ends (x:=can.getD (Int.toNat a*13+m) 0) (by unfold rw_ at hlo hd; rw [Int.toNat_natCast] at hlo hd; omega) (by omega)) ?_
  refine M.o_bindE (goal_ends hx) ?_
  refine M.o_grd (gA2 (by omega) (by omega)) ?_
  refine M.o_if (fun hb=>?_) (fun hb=>?_)
  · have hb:=of_decide_eq_true hb
    refine M.o_bindE (goal_ends hx) (M.o_bindE (goal_ends hx) (M.o_grd (gA2 (by omega) (by omega)) (M.o_grd (gA2 (by omega) (by omega)) (M.o_pure ?_))))
    have h1:=h.relax hN ha hk.1 hx (by rw [hs]; exact hd) (by rw [hs]; exact hb)
    rw [hs] at h1
    have e1:∀ v,0<=v->v<n->rw_ (can.set (Int.toNat a*13+Int.toNat (gOf ls ⟨i,b⟩)) (rw_ can a m+rOf ls ⟨i,b⟩)) a v=if v=gOf ls ⟨i,b⟩ then rw_ can a m+rOf ls ⟨i,b⟩ else rw_ can a v:=fun v h0 h3=>rw_set h.lc (by omega) (by omega) _ v h0 (by omega)
    refine ⟨h1,fun v h0 h3=>?_,?_⟩
    · dsimp only
      rw [e1 v h0 h3]
      split
      · rename_i e
        rw [e]
        exact Int.le_of_lt hb
      · exact Int.le_refl _
    · dsimp only
      rw [e1 _ hr.2.1 hr.2.2,if_pos rfl]
      exact Int.le_refl _
  · have hb:=of_decide_eq_false hb
    refine M.o_pure ⟨h.mono (by omega),fun v _ _=>Int.le_refl _,?_⟩
    dsimp only
    unfold rw_ at *
    omega
/-- The legs at a mark. -/
theorem fill_mark (hN:NetOk n ls) (ha:0<=a/\a<n) {can0 can:List Int} {by0 by_:List Leg} {k:Int} {m:Nat} (hm:(m:Int)<n) (hk:0<=k/\k<=90000) (h:FI ls n a can0 by0 k can by_) {D0:Int->Int} (hle:∀ v,0<=v->v<n->rw_ can a v<=D0 v) (hR:Rlx ls D0 (rw_ can a) (fun i b=>sOf ls ⟨i,b⟩<(m:Int))) (hd:rw_ can a m<1099511627776) :
    (zai (M.yl (zaf n ls a m)) (.inl (can,by_)) n ls m).Out (fun r=>match r with | .inl s=>FI ls n a can0 by0 (k+60) s.1 s.2/\(∀ v,0<=v->v<n->rw_ s.1 a v<=D0 v)/\Rlx ls D0 (rw_ s.1 a) (fun i b=>sOf ls ⟨i,b⟩<(m:Int)+1) | .inr _=>False):=by
  have hf:=hN.few
  refine M.o_mono (legs_out (m:=(m:Int)) (fun idx s=>FI ls n a can0 by0 (k+idx) s.1 s.2/\(∀ v,0<=v->v<n->rw_ s.1 a v<=D0 v)/\rw_ s.1 a m<1099511627776/\Rlx ls D0 (rw_ s.1 a) (fun i b=>sOf ls ⟨i,b⟩<(m:Int)∨(sOf ls ⟨i,b⟩=(m:Int)/\2*i+b.toNat<idx))) (fun _=>False) ?_ ?_ (s:=(can,by_)) ⟨h.mono (by omega),hle,hd,hR.le hN.rng (fun v _ _=>Int.le_refl _) (fun i b _ hp=>by rcases hp with hp | ⟨_,hp⟩; exact hp; omega)⟩) ?_
  · rintro i b ⟨s,s2⟩ hi hs ⟨hF,hle,hd,hR⟩
    dsimp only at hF hle hd hR
    have hb2:b.toNat<=1:=by cases b <;> decide
    refine M.o_mono (fill_leg hN ha hi hs (by omega) hF hd) ?_
    rintro (⟨t,t2⟩ | x) hy
    · obtain ⟨h1,h2,h3⟩:=hy
      dsimp only at h1 h2 h3 ⊢
      refine ⟨h1.mono (by omega),fun v h0 h4=>Int.le_trans (h2 v h0 h4) (hle v h0 h4),Int.lt_of_le_of_lt (h2 m (by omega) hm) hd,fun i' b' hi' hp hd0=>?_⟩
      have hr':=((ij (k:=b') hi').ed.rng hN.rng).2
      by_cases e:sOf ls ⟨i',b'⟩<(m:Int)∨(sOf ls ⟨i',b'⟩=(m:Int)/\2*i'+b'.toNat<2*i+b.toNat)
      · have:=hR i' b' hi' e hd0
        have:=h2 _ hr'.1 hr'.2
        omega
      · have hb3:b'.toNat<=1:=by cases b' <;> decide
        have e2:i'=i/\b'=b:=by
          have:2*i'+b'.toNat=2*i+b.toNat:=by omega
          refine ⟨by omega,?_⟩
          have:b'.toNat=b.toNat:=by omega
          cases b <;> cases b' <;> simp_all
        obtain ⟨rfl,rfl⟩:=e2
        rw [hs] at hd0 ⊢
        have:=hle m (by omega) hm
        omega
    · exact hy.elim
  · rintro i b ⟨s,s2⟩ hi hs ⟨hF,hle,hd,hR⟩
    refine ⟨hF.mono (by omega),hle,hd,hR.le hN.rng (fun v _ _=>Int.le_refl _) (fun i' b' hi' hp=>?_)⟩
    rcases hp with hp | ⟨hp,hp2⟩
    · exact .inl hp
    · have hb2:b.toNat<=1:=by cases b <;> decide
      have hb3:b'.toNat<=1:=by cases b' <;> decide
      refine .inr ⟨hp,?_⟩
      rcases Nat.lt_or_ge (2*i'+b'.toNat) (2*i+b.toNat) with h | h
      · exact h
      · exfalso
        have:2*i'+b'.toNat=2*i+b.toNat:=by omega
        have e1:i'=i:=by omega
        subst e1
        have e2:b'=b:=by
          have:b'.toNat=b.toNat:=by omega
          cases b <;> cases b' <;> simp_all
        subst e2
        exact hs hp
  · rintro (s | x) hy
    · obtain ⟨h1,h2,h3,h4⟩:=hy
      refine ⟨h1.mono (by omega),h2,h4.le hN.rng (fun v _ _=>Int.le_refl _) (fun i b hi hp=>?_)⟩
      have hb2:b.toNat<=1:=by cases b <;> decide
      by_cases e:sOf ls ⟨i,b⟩<(m:Int)
      · exact .inl e
      · exact .inr ⟨by omega,by omega⟩
    · exact hy.elim
/-- A row. -/
theorem fill_out (hN:NetOk n ls) (ha:0<=a/\a<n) {can:List Int} {by_:List Leg} (lc:can.length=169) (lb:by_.length=169) (h0:∀ v,0<=v->v<n->rw_ can a v=if v=a then 0 else 1099511627776) :
    (zbF n ls can by_ a).Out (fun r=>FI ls n a can by_ 8640 r.1 r.2/\Cov ls a (rw_ r.1 a) (Int.toNat n)):=by
  have hm:=hN.marks
  have hI:FI ls n a can by_ 0 can by_:=⟨lc,lb,fun _ _=>⟨rfl,rfl⟩,(BF.init ls n a).congr ha hN.rng h0,(ByOk.init ls n a (rb_ by_ a)).congr hN h0 (fun _ _ _=>rfl)⟩
  unfold zbF
  refine M.o_grd (gA2 (by omega) (by omega)) ?_
  refine M.o_bind (P:=fun r=>FI ls n a can by_ 8640 r.1 r.2/\Cov ls a (rw_ r.1 a) (Int.toNat n)) ?_ (fun y hy=>M.o_pure hy)
  refine M.o_for (Int.toNat n) (fun r st=>st.2.2=r/\FI ls n a can by_ (720*r) st.1 st.2.1/\Cov ls a (rw_ st.1 a) r) ?_ ?_ (s:=(can,by_,0)) ⟨rfl,hI.mono (by simp),Cov.zero (by rw [h0 a ha.1 ha.2,if_pos rfl]; exact Int.le_refl _)⟩
  · rintro r ⟨c,y,r'⟩ hr ⟨rfl,hF,hC⟩
    dsimp only at hr hF hC
    simp only [zaO]
    refine M.o_t (by simp; omega) ?_
    refine M.o_bind (P:=fun q=>FI ls n a can by_ (720*(r'+1)) q.1 q.2/\Cov ls a (rw_ q.1 a) (r'+1)) ?_ ?_
    · refine M.o_for (Int.toNat n) (fun m st=>st.1=m/\FI ls n a can by_ (720*r'+60*m) st.2.1 st.2.2/\(∀ v,0<=v->v<n->rw_ st.2.1 a v<=rw_ c a v)/\Rlx ls (rw_ c a) (rw_ st.2.1 a) (fun i b=>sOf ls ⟨i,b⟩<(m:Int))) ?_ ?_ (s:=(0,c,y)) ⟨rfl,hF.mono (by simp),fun v _ _=>Int.le_refl _,fun i b hi hp _=>by have:=((ij (k:=b) hi).ed.rng hN.rng).1; omega⟩
      · rintro m ⟨m',s,s2⟩ hmn ⟨rfl,hF,hle,hR⟩
        dsimp only at hmn hF hle hR
        simp only [zaX]
        refine M.o_t (by simp; omega) (M.o_grd (gA2 (by omega) (by omega)) (M.o_if (fun hb=>?_) (fun hb=>?_)))
        · have hb:=beq_iff_eq.1 hb
          refine M.o_grd (gA2 (by omega) (by omega)) (M.o_pure ⟨rfl,hF.mono (by omega),hle,fun i b hi hp hd=>?_⟩)
          by_cases e:sOf ls ⟨i,b⟩<(m':Int)
          · exact hR i b hi e hd
          · exfalso
            have e2:sOf ls ⟨i,b⟩=(m':Int):=by omega
            have:=hle m' (by omega) (by omega)
            rw [e2] at hd
            unfold rw_ at this hd
            rw [Int.toNat_natCast] at this hd
            omega
        · have hb:=beq_eq_false_iff_ne.1 hb
          have htop:=hF.bf.top m' (by omega) (by omega)
          have hd:rw_ s a m'<1099511627776:=by
            unfold rw_ at htop ⊢
            rw [Int.toNat_natCast] at htop ⊢
            omega
          refine M.o_bindE (a:=(m':Int)) M.i_pure ?_
          refine M.o_bind (fill_mark hN ha (m:=m') (by omega) (by omega) hF hle hR hd) ?_
          rintro (⟨t,t2⟩ | x) hy
          · refine M.o_grd (gA2 (by omega) (by omega)) (M.o_pure ⟨rfl,hy.1.mono (by omega),hy.2.1,hy.2.2.le hN.rng (fun v _ _=>Int.le_refl _) (fun i b _ hp=>by omega)⟩)
          · exact hy.elim
      · rintro ⟨m',s,s2⟩ ⟨rfl,hF,hle,hR⟩
        dsimp only at hF hle hR
        simp only [zaX]
        refine M.o_f (by simp; omega) (M.o_pure ⟨hF.mono (by omega),?_⟩)
        refine hC.next hN (by omega) ha hle ?_
        refine Rlx.all (hR.le hN.rng (fun v _ _=>Int.le_refl _) (fun i b hi _=>?_))
        have:=((ij (k:=b) hi).ed.rng hN.rng).1
        omega
    · rintro ⟨q,q2⟩ ⟨h1,h2⟩
      exact M.o_grd (gA2 (by omega) (by omega)) (M.o_pure ⟨rfl,h1.mono (by omega),h2⟩)
  · rintro ⟨c,y,r'⟩ ⟨rfl,hF,hC⟩
    simp only [zaO]
    exact M.o_f (by simp; omega) (M.o_pure ⟨hF.mono (by omega),hC⟩)
end Go.Proofs.YtfdgkdkfbaghpaaGreat
-- libL/LP3.lean
namespace Go.Proofs.YtfdgkdkfbaghpaaGreat
open Go Go.Nm
variable {ls:List Line} {n a:Int}
theorem rw_nat (can:List Int) (i j:Nat):rw_ can i j=can.getD (i*13+j) 0:=by unfold rw_; rw [Int.toNat_natCast,Int.toNat_natCast]
theorem worked_out (hN:NetOk n ls):(zby n ls).Out (fun r=>r.1=n/\Wkd ls n r.2.1 r.2.2):=by
  have hm:=hN.marks
  unfold zby
  refine M.o_bind (P:=fun c=>c.length=169/\∀ i j:Nat,(i:Int)<n->(j:Int)<n->c.getD (i*13+j) 0=if j=i then 0 else 1099511627776) ?_ ?_
  · refine M.o_for (Int.toNat n) (fun i st=>st.2=i/\st.1.length=169/\∀ i' j:Nat,i'<i->(j:Int)<n->st.1.getD (i'*13+j) 0=if j=i' then 0 else 1099511627776) ?_ ?_ (s:=(List.replicate 169 0,0)) ⟨rfl,List.length_replicate,fun i' j h=>by omega⟩
    · rintro i ⟨c,i0⟩ hi ⟨rfl,hl,hc⟩
      dsimp only at hi hl hc
      simp only [zbV]
      refine M.o_t (by simp; omega) ?_
      refine M.o_bind (P:=fun d=>d.length=169/\(∀ i' j:Nat,i'<i0->(j:Int)<n->d.getD (i'*13+j) 0=if j=i' then 0 else 1099511627776)/\∀ j:Nat,(j:Int)<n->d.getD (i0*13+j) 0=1099511627776) ?_ ?_
      · refine M.o_for (Int.toNat n) (fun j st=>st.2=j/\st.1.length=169/\(∀ i' j:Nat,i'<i0->(j:Int)<n->st.1.getD (i'*13+j) 0=if j=i' then 0 else 1099511627776)/\∀ j':Nat,j'<j->st.1.getD (i0*13+j') 0=1099511627776) ?_ ?_ (s:=(c,0)) ⟨rfl,hl,hc,fun j h=>by omega⟩
        · rintro j ⟨d,j0⟩ hj ⟨rfl,hl,hd,he⟩
          dsimp only at hj hl hd he
          simp only [zce]
          refine M.o_t (by simp; omega) (M.o_grd (gA2 (by omega) (by omega)) (M.o_grd (gA2 (by omega) (by omega)) (M.o_grd (gA2 (by omega) (by omega)) (M.o_pure ⟨rfl,by simpa using hl,fun i' j h1 h2=>?_,fun j' h1=>?_⟩))))
          · dsimp only
            rw [gset _ _ _ _ _ (by omega),if_neg (by omega)]
            exact hd i' j h1 h2
          · dsimp only
            rw [gset _ _ _ _ _ (by omega)]
            by_cases e:j'=j0
            · rw [e,if_pos rfl]
            · rw [if_neg (by omega)]; exact he j' (by omega)
        · rintro ⟨d,j0⟩ ⟨rfl,hl,hd,he⟩
          simp only [zce]
          exact M.o_f (by simp; omega) (M.o_pure ⟨hl,hd,fun j h=>he j (by omega)⟩)
      · rintro d ⟨hl,hd,he⟩
        refine M.o_grd (gA2 (by omega) (by omega)) (M.o_grd (gA2 (by omega) (by omega)) (M.o_pure ⟨rfl,by simpa using hl,fun i' j h1 h2=>?_⟩))
        dsimp only
        rw [gset _ _ _ _ _ (by omega)]
        by_cases e:i'=i0
        · subst e
          by_cases e2:j=i'
          · subst e2; rw [if_pos rfl,if_pos rfl]
          · rw [if_neg (by omega),if_neg e2]; exact he j h2
        · rw [if_neg (by omega)]; exact hd i' j (by omega) h2
    · rintro ⟨c,i0⟩ ⟨rfl,hl,hc⟩
      simp only [zbV]
      exact M.o_f (by simp; omega) (M.o_pure ⟨hl,fun i j h1 h2=>hc i j (by omega) h2⟩)
  · rintro c ⟨hl,hc⟩
    refine M.o_bind (P:=fun r=>Wkd ls n r.1 r.2) ?_ (fun r hr=>M.o_pure ⟨rfl,hr⟩)
    refine M.o_for (Int.toNat n) (fun i st=>st.2.2=i/\st.1.length=169/\st.2.1.length=169/\(∀ a:Nat,a<i->Row ls n a (rw_ st.1 a) (rb_ st.2.1 a))/\∀ a j:Nat,i<=a->(a:Int)<n->(j:Int)<n->st.1.getD (a*13+j) 0=if j=a then 0 else 1099511627776) ?_ ?_ (s:=(c,List.replicate 169 default,0)) ⟨rfl,hl,List.length_replicate,fun a h=>by omega,fun a j _ h1 h2=>hc a j h1 h2⟩
    · rintro i ⟨c,y,i0⟩ hi ⟨rfl,hl,hy,hd,hc⟩
      dsimp only at hi hl hy hd hc
      simp only [zbv]
      refine M.o_t (by simp; omega) ?_
      refine M.o_bind (fill_out hN (a:=(i0:Int)) (by omega) hl hy ?_) ?_
      · intro v h0 h1
        have:=hc i0 v.toNat (Nat.le_refl _) (by omega) (by omega)
        unfold rw_
        rw [Int.toNat_natCast,this]
        by_cases e:v=(i0:Int)
        · rw [if_pos e,if_pos (by omega)]
        · rw [if_neg e,if_neg (by omega)]
      · rintro ⟨q,q2⟩ ⟨hF,hC⟩
        refine M.o_grd (gA2 (by omega) (by omega)) (M.o_pure ⟨rfl,hF.lc,hF.lb,fun a h=>?_,fun a j h1 h2 h3=>?_⟩)
        · by_cases e:a=i0
          · subst e; exact ⟨hF.bf,hC,hF.bo⟩
          · refine (hd a (by omega)).congr hN (by omega) (fun v h0 h1=>?_) (fun v h0 h1=>?_)
            · have:=(hF.oth (a*13+v.toNat) (by rw [Int.toNat_natCast]; omega)).1
              unfold rw_; rw [Int.toNat_natCast]; exact this
            · have:=(hF.oth (a*13+v.toNat) (by rw [Int.toNat_natCast]; omega)).2
              unfold rb_; rw [Int.toNat_natCast]; exact this
        · have:=(hF.oth (a*13+j) (by rw [Int.toNat_natCast]; omega)).1
          dsimp only
          rw [this]
          exact hc a j (by omega) h2 h3
    · rintro ⟨c,y,i0⟩ ⟨rfl,hl,hy,hd,hc⟩
      simp only [zbv]
      refine M.o_f (by simp; omega) (M.o_pure ⟨hl,hy,fun a h0 h1=>?_⟩)
      have:=hd a.toNat (by omega)
      rwa [Int.toNat_of_nonneg h0] at this
theorem open_out (hN:NetOk n ls) {can:List Int} {by_:List Leg} (hW:Wkd ls n can by_):(zav n ls can by_).Out (fun b=>b=true↔¬ Agr ls):=by
  have hm:=hN.marks
  have leg:∀ (m i:Nat) (b:Bool),i<ls.length->sOf ls ⟨i,b⟩=(m:Int)->(zaE n ls can m () ⟨i,b⟩).Out (fun r=>match r with | .inl _=>∀ a,0<=a->a<n->¬ Rx ls can a ⟨i,b⟩ | .inr _=>∃ a,(0<=a/\a<n)/\Rx ls can a ⟨i,b⟩):=by
    intro m i b hi hs
    have hx:LegOk ls ⟨i,b⟩:=ij hi
    have hr:=hx.ed.rng hN.rng
    have hc:=hN.ed _ _ _ hx.ed
    simp only [zaE]
    refine M.o_bind (P:=fun y=>match y with | .inl _=>∃ a,(0<=a/\a<n)/\Rx ls can a ⟨i,b⟩ | .inr _=>∀ a,0<=a->a<n->¬ Rx ls can a ⟨i,b⟩) ?_ (fun y hy=>by rcases y with y | y <;> exact M.o_pure hy)
    refine M.o_for (Int.toNat n) (fun k s=>s=k/\∀ a:Nat,a<k->¬ Rx ls can a ⟨i,b⟩) ?_ ?_ (s:=0) ⟨rfl,fun a h=>by omega⟩
    · rintro k s hk ⟨rfl,hJ⟩
      have e0:rw_ can s (sOf ls ⟨i,b⟩)=can.getD (s*13+m) 0:=by rw [hs]; exact rw_nat can s m
      have e1:rw_ can s (gOf ls ⟨i,b⟩)=can.getD (s*13+Int.toNat (gOf ls ⟨i,b⟩)) 0:=by unfold rw_; rw [Int.toNat_natCast]
      have hlo:=(hW.row s (by omega) (by omega)).bf.low (sOf ls ⟨i,b⟩) hr.1.1 hr.1.2
      rw [e0] at hlo
      simp only [zbC]
      refine M.o_t (by simp; omega) (M.o_grd (gA2 (by omega) (by omega)) (M.o_grd (gA2 (by omega) (by omega)) ?_))
      by_cases hd:can.getD (s*13+m) 0<1099511627776
      · have hd':decide (can.getD (s*13+m) 0<1099511627776)=true:=decide_eq_true hd
        rw [hd']
        refine M.o_bindE (a:=rOf ls ⟨i,b⟩) (M.i_opt (fun _=>rise_ends hN hx) (fun h=>by cases h)) (M.o_grd (gOr2 (by omega) (by omega)) (M.o_bindE (a:=gOf ls ⟨i,b⟩) (M.i_opt (fun _=>goal_ends hx) (fun h=>by cases h)) (M.o_grd (gOr2 (by omega) (by omega)) ?_)))
        by_cases h2:can.getD (s*13+m) 0+rOf ls ⟨i,b⟩<can.getD (s*13+Int.toNat (gOf ls ⟨i,b⟩)) 0
        · exact M.o_t (by rw [Bool.true_and]; exact decide_eq_true h2) (M.o_pure ⟨s,by omega,by unfold Rx; rw [e0,e1]; exact ⟨hd,h2⟩⟩)
        · refine M.o_f (by rw [Bool.true_and]; exact decide_eq_false h2) (M.o_grd (gA2 (by omega) (by omega)) (M.o_pure ⟨rfl,fun a h=>?_⟩))
          by_cases e:a=s
          · rw [e]; unfold Rx; rw [e0,e1]; exact fun h=>h2 h.2
          · exact hJ a (by omega)
      · have hd':decide (can.getD (s*13+m) 0<1099511627776)=false:=decide_eq_false hd
        rw [hd']
        refine M.o_bindE (a:=0) (M.i_opt (fun h=>by cases h) (fun _=>rfl)) (M.o_grd (by simp) (M.o_bindE (a:=0) (M.i_opt (fun h=>by cases h) (fun _=>rfl)) (M.o_grd (by simp) ?_)))
        refine M.o_f (by simp) (M.o_grd (gA2 (by omega) (by omega)) (M.o_pure ⟨rfl,fun a h=>?_⟩))
        by_cases e:a=s
        · rw [e]; unfold Rx; rw [e0]; exact fun h=>hd h.1
        · exact hJ a (by omega)
    · rintro s ⟨rfl,hJ⟩
      simp only [zbC]
      refine M.o_f (by simp; omega) (M.o_pure fun a h0 h1=>?_)
      have:=hJ a.toNat (by omega)
      rwa [Int.toNat_of_nonneg h0] at this
  have no_of:(∃ x,LegOk ls x/\∃ a,(0<=a/\a<n)/\Rx ls can a x)->¬ Agr ls:=by
    rintro ⟨x,hx,a,ha,hR⟩ hA
    exact hW.agr_no hN hA ha hx hR
  unfold zav
  refine M.o_bind (P:=fun y=>match y with | .inl _=>¬ Agr ls | .inr _=>Agr ls) ?_ (fun y hy=>by
    rcases y with y | y
    · exact M.o_pure ⟨fun _=>hy,fun _=>rfl⟩
    · exact M.o_pure ⟨fun h=>(by cases h),fun h=>absurd hy h⟩)
  refine M.o_for (Int.toNat n) (fun m s=>s=m/\(∀ i b,i<ls.length->sOf ls ⟨i,b⟩<(m:Int)->∀ a,0<=a->a<n->¬ Rx ls can a ⟨i,b⟩)/\∀ a:Nat,a<m->¬ rw_ can a a<0) ?_ ?_ (s:=0) ⟨rfl,fun i b hi h=>by have:=((ij (k:=b) hi).ed.rng hN.rng).1; omega,fun a h=>by omega⟩
  · rintro m s hmn ⟨rfl,h1,h2⟩
    simp only [zbL]
    refine M.o_t (by simp; omega) (M.o_bindE (a:=(s:Int)) M.i_pure ?_)
    refine M.o_bind (legs_out (m:=(s:Int)) (fun idx _=>∀ i b,i<ls.length->sOf ls ⟨i,b⟩=(s:Int)->2*i+b.toNat<idx->∀ a,0<=a->a<n->¬ Rx ls can a ⟨i,b⟩) (fun _=>¬ Agr ls) ?_ ?_ (s:=()) (fun i b _ _ h=>by omega)) ?_
    · intro i b _ hi hs hJ
      refine M.o_mono (leg s i b hi hs) ?_
      rintro (x | x) hx
      · intro i' b' hi' hs' hlt
        by_cases e:2*i'+b'.toNat<2*i+b.toNat
        · exact hJ i' b' hi' hs' e
        · have hb2:b.toNat<=1:=by cases b <;> decide
          have hb3:b'.toNat<=1:=by cases b' <;> decide
          have e1:i'=i:=by omega
          subst e1
          have e2:b'=b:=by
            have:b'.toNat=b.toNat:=by omega
            cases b <;> cases b' <;> simp_all
          subst e2
          exact hx
      · exact no_of ⟨_,ij hi,hx⟩
    · intro i b _ hi hs hJ i' b' hi' hs' hlt
      refine hJ i' b' hi' hs' ?_
      have hb2:b.toNat<=1:=by cases b <;> decide
      have hb3:b'.toNat<=1:=by cases b' <;> decide
      rcases Nat.lt_or_ge (2*i'+b'.toNat) (2*i+b.toNat) with h | h
      · exact h
      · exfalso
        have e1:i'=i:=by omega
        subst e1
        have e2:b'=b:=by
          have:b'.toNat=b.toNat:=by omega
          cases b <;> cases b' <;> simp_all
        subst e2
        exact hs hs'
    · rintro (x | x) hx
      · refine M.o_grd (gA2 (by omega) (by omega)) ?_
        by_cases hd:rw_ can s s<0
        · refine M.o_t (decide_eq_true (by rw [← rw_nat]; exact hd)) (M.o_pure fun hA=>?_)
          have:=hW.agr_zero hN hA (a:=(s:Int)) (by omega)
          omega
        · refine M.o_f (decide_eq_false (by rw [← rw_nat]; exact hd)) (M.o_grd (gA2 (by omega) (by omega)) (M.o_pure ⟨rfl,fun i b hi h=>?_,fun a h=>?_⟩))
          · by_cases e:sOf ls ⟨i,b⟩<(s:Int)
            · exact h1 i b hi e
            · have hb2:b.toNat<=1:=by cases b <;> decide
              exact hx i b hi (by omega) (by omega)
          · by_cases e:a=s
            · rw [e]; exact hd
            · exact h2 a (by omega)
      · exact M.o_pure hx
  · rintro s ⟨rfl,h1,h2⟩
    simp only [zbL]
    refine M.o_f (by simp; omega) (M.o_pure ?_)
    obtain ⟨f,_,hF⟩:=hW.agr_of hN (fun a h0 h3 x hx=>by
      obtain ⟨l,k⟩:=x
      have hx':=hx
      obtain ⟨l0,l1⟩:=hx
      dsimp only at l0 l1
      have e:l=((l.toNat:Nat):Int):=by omega
      rw [e] at hx' ⊢
      exact h1 l.toNat k (by omega) (by have:=(hx'.ed.rng hN.rng).1; omega) a h0 h3) (fun a h0 h3=>by
      have:=h2 a.toNat (by omega)
      rwa [Int.toNat_of_nonneg h0] at this)
    exact ⟨_,hF⟩
end Go.Proofs.YtfdgkdkfbaghpaaGreat
-- libL/LP4.lean
namespace Go.Nm
/-- A line, as it may be in a net. -/
def okLine (n:Int) (l:Line):Bool:=(((((decide (0<=l.src)&&decide (l.src<=n-1))&&(decide (0<=l.dst)&&decide (l.dst<=n-1)))&&(l.src != l.dst))&&(decide (0<=l.day)&&decide (l.day<=40000)))&&(decide (-1000000<=l.rise)&&decide (l.rise<=1000000)))&&(decide (0<=l.err)&&decide (l.err<=10000))
def chkE (n:Int) (ls:List Line):Int:=bif (!(decide (1<=n)&&decide (n<=12)))||decide (30<(ls.length:Int)) then 3 else bif !(ls.all (okLine n)) then 20 else 0
theorem okLine_iff {n:Int} {l:Line}:okLine n l=true↔((((((0<=l.src/\l.src<=n-1)/\(0<=l.dst/\l.dst<=n-1))/\l.src ≠ l.dst)/\(0<=l.day/\l.day<=40000))/\(-1000000<=l.rise/\l.rise<=1000000))/\(0<=l.err/\l.err<=10000)):=by
  unfold okLine
  simp only [Bool.and_eq_true,decide_eq_true_eq,bne_iff_ne,ne_eq]
theorem chk_ok {n:Int} {ls:List Line}:chkE n ls=0↔NetOk n ls:=by
  unfold chkE
  cases h1:(!(decide (1<=n)&&decide (n<=12)))||decide (30<(ls.length:Int)) with
  | true =>
    simp only [Bool.or_eq_true,Bool.not_eq_true',Bool.and_eq_false_iff,decide_eq_false_iff_not,decide_eq_true_eq] at h1
    refine ⟨fun h=>by simp at h,fun h=>?_⟩
    have:=h.marks
    have:=h.few
    omega
  | false =>
    simp only [Bool.or_eq_false_iff,Bool.not_eq_false',Bool.and_eq_true,decide_eq_false_iff_not,decide_eq_true_eq] at h1
    cases h2:ls.all (okLine n) with
    | true =>
      rw [List.all_eq_true] at h2
      have h3:=fun l hl=>okLine_iff.1 (h2 l hl)
      exact ⟨fun _=>⟨h1.1,by omega,fun l hl=>by have:=h3 l hl; omega,fun l hl=>(h3 l hl).1.1.1.2,fun l hl=>(h3 l hl).1.1.2,fun l hl=>(h3 l hl).1.2,fun l hl=>(h3 l hl).2⟩,fun _=>rfl⟩
    | false =>
      rw [List.all_eq_false] at h2
      obtain ⟨l,hl,h3⟩:=h2
      refine ⟨fun h=>by simp at h,fun h=>absurd (okLine_iff.2 ?_) h3⟩
      have:=h.rng l hl
      exact ⟨⟨⟨⟨⟨⟨this.1.1,by omega⟩,⟨this.2.1,by omega⟩⟩,h.ne l hl⟩,h.day l hl⟩,h.rise l hl⟩,h.err l hl⟩
/-- What is said of two marks. -/
structure Btw (ls:List Line) (a b:Int) (r:Int × Int × Int):Prop where
  no:¬ Agr ls->r=(0,0,7)
  far:Agr ls->¬ Tied ls a b->r=(0,0,5)
  yes:Agr ls->Tied ls a b->r.2.2=0/\IsDist ls a b r.2.1/\IsDist ls b a (-r.1)
end Go.Nm
namespace Go.Proofs.YtfdgkdkfbaghpaaGreat
open Go Go.Nm
variable {ls:List Line} {n a:Int}
theorem in_ends (x lo hi:Int):(zae x lo hi).Ends (decide (lo<=x)&&decide (x<=hi)):=M.i_pure
theorem index_line {f:Line->M Bool} {q:Line->Bool} (h:∀ x,x∈ls->(f x).Ends (q x)):(zcz ls f).Out (fun r=>decide (0<=r)=ls.any q):=by
  unfold zcz
  refine M.o_bind (P:=fun y=>match y with | .inl r=>decide (0<=r)=ls.any q | .inr _=>ls.any q=false) ?_ (fun y hy=>by
    rcases y with y | y
    · exact M.o_pure hy
    · exact M.o_pure (by rw [hy]; rfl))
  refine M.o_for ls.length (fun i s=>s=i/\(ls.take i).any q=false) ?_ ?_ (s:=0) ⟨rfl,by simp⟩
  · rintro i s hi ⟨rfl,hJ⟩
    simp only [zbD]
    refine M.o_t (by simpa using hi) (M.o_grd (by simpa using hi) (M.o_bindE (h (ls.getD s default) (by rw [getD_el ls hi]; exact List.getElem_mem hi)) (M.o_if (fun hb=>?_) (fun hb=>?_))))
    · refine M.o_pure ?_
      dsimp only
      rw [show ls.any q=true from List.any_eq_true.2 ⟨_,by rw [getD_el ls hi]; exact List.getElem_mem hi,hb⟩]
      exact decide_eq_true (by omega)
    · refine M.o_pure ⟨rfl,?_⟩
      rw [← take_succ_D ls s hi default,List.any_append,hJ]
      simp only [List.any_cons,List.any_nil,Bool.or_false,Bool.false_or]
      exact hb
  · rintro s ⟨rfl,hJ⟩
    simp only [zbD]
    rw [List.take_length] at hJ
    exact M.o_f (by simp) (M.o_pure hJ)
theorem every_line {so:Line->M Bool} {p:Line->Bool} (h:∀ x,x∈ls->(so x).Ends (p x)):(zcE ls so).Ends (ls.all p):=by
  unfold zcE zc6
  obtain ⟨r,h1,h2⟩:=index_line (ls:=ls) (f:=fun x=>zcb x so) (q:=fun x=>!(p x)) (fun x hx=>by unfold zcb; exact M.i_bind (h x hx) M.i_pure)
  refine M.i_bind (M.i_bind h1 M.i_pure) ?_
  rw [h2,List.any_eq_not_all_not]
  simp only [Bool.not_not]
  exact M.i_pure
theorem check_ends (n:Int) (ls:List Line):(zak n ls).Ends (chkE n ls):=by
  unfold zak chkE
  refine M.i_bind (in_ends _ _ _) (M.i_if (fun hb=>?_) (fun hb=>?_))
  · rw [hb]; exact M.i_pure
  · rw [hb]
    simp only [Bool.or_eq_false_iff,Bool.not_eq_false',Bool.and_eq_true,decide_eq_false_iff_not,decide_eq_true_eq] at hb
    refine M.i_bind (every_line (p:=okLine n) fun l _=>?_) (M.i_if (fun h2=>by rw [h2]; exact M.i_pure) (fun h2=>by rw [h2]; exact M.i_pure))
    have mk:∀ x:Int,(zb7 x n ls).Ends (decide (0<=x)&&decide (x<=n-1)):=fun x=>by
      unfold zb7
      exact M.i_grd (gA2 (by omega) (by omega)) (M.i_bind (in_ends _ _ _) M.i_pure)
    unfold zcK
    have opt:∀ {c:Bool} {m:M Bool} {b:Bool},m.Ends b->(M.opt c m false).Ends (c&&b):=fun {c m b} h=>M.i_opt (fun e=>by rw [e,Bool.true_and]; exact h) (fun e=>by rw [e]; rfl)
    refine M.i_bind (mk l.src) (M.i_bind (opt (mk l.dst)) (M.i_bind (opt (in_ends _ _ _)) (M.i_bind (opt (in_ends _ _ _)) (M.i_bind (opt (in_ends _ _ _)) ?_))))
    have e:okLine n l=_:=rfl
    unfold okLine
    generalize (decide (0<=l.src)&&decide (l.src<=n-1))=b1
    generalize (decide (0<=l.dst)&&decide (l.dst<=n-1))=b2
    generalize (l.src != l.dst)=b3
    generalize (decide (0<=l.day)&&decide (l.day<=40000))=b4
    generalize (decide (-1000000<=l.rise)&&decide (l.rise<=1000000))=b5
    generalize (decide (0<=l.err)&&decide (l.err<=10000))=b6
    cases b1 <;> cases b2 <;> cases b3 <;> cases b4 <;> cases b5 <;> cases b6 <;> exact M.i_pure
theorem opened_out (hN:NetOk n ls):(zao n ls).Out (fun y=>∃ can by_,y = .inr (n,can,by_,0)/\Wkd ls n can by_):=by
  unfold zao
  refine M.o_bindE (check_ends n ls) ?_
  rw [chk_ok.2 hN]
  refine M.o_f (by decide) (M.o_bind (worked_out hN) ?_)
  rintro ⟨r0,c,b⟩ ⟨rfl,hW⟩
  exact M.o_pure ⟨c,b,rfl,hW⟩
theorem agrees_out (hN:NetOk n ls):(zaY n ls).Out (fun r=>r.2=0/\(r.1=true↔Agr ls)):=by
  unfold zaY
  refine M.o_bind (opened_out hN) ?_
  rintro y ⟨c,b,rfl,hW⟩
  dsimp only
  refine M.o_f (by decide) (M.o_bind (open_out hN hW) ?_)
  intro r hr
  refine M.o_pure ⟨rfl,?_⟩
  dsimp only
  rw [Bool.not_eq_true']
  constructor
  · intro h
    refine Classical.byContradiction fun hc=>?_
    rw [hr.2 hc] at h
    cases h
  · intro h
    cases hc:r with
    | false=>rfl
    | true=>exact absurd h (hr.1 hc)
theorem between_out (hN:NetOk n ls) {f t:Int} (hf:0<=f/\f<n) (ht:0<=t/\t<n):(zaj n ls f t).Out (Btw ls f t):=by
  have hm:=hN.marks
  unfold zaj
  refine M.o_bind (P:=fun y=>∃ can by_ e,y = .inr (n,can,by_,e)/\Wkd ls n can by_/\(¬ Agr ls->e=7)/\(Agr ls->e=if rw_ can f t=1099511627776 then 5 else 0)) ?_ ?_
  · unfold zaD
    refine M.o_bindE (check_ends n ls) ?_
    rw [chk_ok.2 hN]
    refine M.o_f (by decide) (M.o_grd (gA2 (by omega) (by omega)) (M.o_bindE (in_ends _ _ _) ?_))
    rw [show (decide (0<=f)&&decide (f<=n-1))=true from gA2 (by omega) (by omega)]
    refine M.o_bindE (a:=true) (M.i_opt (fun _=>by rw [← show (decide (0<=t)&&decide (t<=n-1))=true from gA2 (by omega) (by omega)]; exact in_ends _ _ _) (fun h=>by cases h)) ?_
    refine M.o_f (by simp) ?_
    refine M.o_bind (P:=fun y=>∃ can by_ e,y = .inr (n,can,by_,e)/\Wkd ls n can by_/\(¬ Agr ls->e=7)/\(Agr ls->e=0)) ?_ ?_
    · unfold zaR
      refine M.o_bind (opened_out hN) ?_
      rintro y ⟨c,b,rfl,hW⟩
      dsimp only
      refine M.o_bind (P:=fun r=>r=true↔¬ Agr ls) (by
        obtain ⟨r,h1,h2⟩:=open_out hN hW
        exact ⟨r,M.i_opt (fun _=>h1) (fun h=>by simp at h),h2⟩) ?_
      intro r hr
      cases r with
      | true=>exact M.o_t rfl (M.o_pure ⟨c,b,7,rfl,hW,fun _=>rfl,fun h=>absurd h (hr.1 rfl)⟩)
      | false=>exact M.o_f rfl (M.o_pure ⟨c,b,0,rfl,hW,fun h=>absurd (hr.2 h) (by decide),fun _=>rfl⟩)
    · rintro y ⟨c,b,e,rfl,hW,h1,h2⟩
      dsimp only
      refine M.o_grd (gOr2 (by omega) (by omega)) (M.o_grd (gOr2 (by omega) (by omega)) ?_)
      by_cases hA:Agr ls
      · have:=h2 hA
        subst this
        by_cases e:rw_ c f t=1099511627776
        · exact M.o_t (by unfold rw_ at e; rw [e]; rfl) (M.o_pure ⟨c,b,5,rfl,hW,fun h=>absurd hA h,fun _=>by rw [if_pos e]⟩)
        · exact M.o_f (by unfold rw_ at e; simpa using e) (M.o_pure ⟨c,b,0,rfl,hW,fun h=>absurd hA h,fun _=>by rw [if_neg e]⟩)
      · have:=h1 hA
        subst this
        exact M.o_f (by simp) (M.o_pure ⟨c,b,7,rfl,hW,fun _=>rfl,fun h=>absurd h hA⟩)
  · rintro y ⟨c,b,e,rfl,hW,h1,h2⟩
    dsimp only
    by_cases hA:Agr ls
    · have hD:=hW.done hN hA hf
      have hD2:=hW.done hN hA ht
      by_cases e5:rw_ c f t=1099511627776
      · have:=h2 hA
        rw [if_pos e5] at this
        subst this
        refine M.o_t (by decide) (M.o_pure ⟨fun h=>absurd hA h,fun _ _=>rfl,fun _ hT=>?_⟩)
        have:=hD.tied t ht.1 ht.2 hT
        omega
      · have:=h2 hA
        rw [if_neg e5] at this
        subst this
        have hlt:=hD.far t ht.1 ht.2 e5
        have d1:=hD.dist t ht.1 ht.2 hlt
        have hlt2:=hD2.tied f hf.1 hf.2 d1.tied.symm
        have d2:=hD2.dist f hf.1 hf.2 hlt2
        have b1:=(hW.row t ht.1 ht.2).bf.low f hf.1 hf.2
        unfold rw_ at hlt2 b1
        refine M.o_f (by decide) (M.o_grd (gA2 (by omega) (by omega)) (M.o_grd (gA2 (by omega) (by omega)) (M.o_grd (gA2 (by omega) (by omega)) (M.o_pure ⟨fun h=>absurd hA h,fun _ h=>absurd d1.tied h,fun _ _=>⟨rfl,d1,?_⟩⟩))))
        dsimp only
        rw [Int.neg_neg]
        exact d2
    · have:=h1 hA
      subst this
      exact M.o_t (by decide) (M.o_pure ⟨fun _=>rfl,fun h=>absurd h hA,fun h=>absurd h hA⟩)
end Go.Proofs.YtfdgkdkfbaghpaaGreat
-- libL/LFW.lean
namespace Go.Nm
variable {ls:List Line} {N:Nat}
/-- Where the rounds stand: all before (a, b) of round k are done. -/
structure Rd3 (N:Nat) (ls:List Line) (T0:Nat->Nat->Int) (k a b:Nat) (l:List (List Int)):Prop where
  sq:Sq N l
  lo:∀ x y,x<N->y<N->-1000000000000<=tb l x y/\tb l x y<=1000000000000
  dg:∀ x,x<N->tb l x x<=0
  sd:∀ h,Feas ls h->∀ x y:Nat,x<N->y<N->tb l x y<1000000000000->h y-h x<=tb l x y
  td:∀ x y:Nat,x<N->y<N->tb l x y<1000000000000->Tied ls x y
  go:(∃ x,x<N/\tb l x x<0)∨∃ T,RT N k T0 T/\(k<N->0<=T k k)/\∀ x y,x<N->y<N->tb l x y=if x<a∨(x=a/\y<b) then FT k T x y else T x y
theorem Rd3.up {T0:Nat->Nat->Int} {k a b:Nat} {l:List (List Int)} (h:Rd3 N ls T0 k a b l) (hN:N<=12) (hk:k<N) (ha:a<N) (hb:b<N):Rd3 N ls T0 k a (b+1) (up k a b l):=by
  have t:=fun i j=>tb_up (k:=k) h.sq ha hb i j
  have b1:=h.lo a b ha hb
  have b2:=h.lo a k ha hk
  have b3:=h.lo k b hk hb
  refine ⟨up_sq h.sq ha,fun x y hx hy=>?_,fun x hx=>?_,fun f hf x y hx hy=>?_,fun x y hx hy=>?_,?_⟩
  · rw [t]
    have:=h.lo x y hx hy
    split <;> omega
  · rw [t]
    have:=h.dg x hx
    split
    · rename_i c
      obtain ⟨rfl,rfl,-⟩:=c
      omega
    · exact this
  · rw [t]
    split
    · rename_i c
      obtain ⟨rfl,rfl,c1,c2⟩:=c
      have e1:=h.sd f hf x k hx hk c1
      have e2:=h.sd f hf k y hk hy c2
      have e3:=h.sd f hf x y hx hy
      intro hlt
      omega
    · exact h.sd f hf x y hx hy
  · rw [t]
    split
    · rename_i c
      obtain ⟨rfl,rfl,c1,c2⟩:=c
      exact fun _=>(h.td x k hx hk c1).trans (h.td k y hk hy c2)
    · exact h.td x y hx hy
  · rcases h.go with ⟨x,hx,hn⟩ | ⟨T,hT,hp,hE⟩
    · refine .inl ⟨x,hx,?_⟩
      rw [t]
      have:=h.lo x x hx hx
      split
      · rename_i c
        obtain ⟨rfl,rfl,-⟩:=c
        omega
      · exact hn
    · have hp:=hp hk
      refine .inr ⟨T,hT,fun _=>hp,fun x y hx hy=>?_⟩
      have e1:tb l a k=T a k:=by
        rw [hE a k ha hk]
        split
        · exact FT_col hp
        · rfl
      have e2:tb l k b=T k b:=by
        rw [hE k b hk hb]
        split
        · exact FT_row hp
        · rfl
      have e3:tb l a b=T a b:=by
        rw [hE a b ha hb,if_neg (by omega)]
      have hn:=(hT.next hk hN hp).lo a b ha hb
      have hbd:=bd_le (k+1) (by omega)
      rw [t,e1,e2,e3]
      by_cases c:x=a/\y=b
      · obtain ⟨rfl,rfl⟩:=c
        rw [if_pos (show x<x∨(x=x/\y<y+1) by omega)]
        by_cases c2:T x k<1000000000000/\T k y<1000000000000
        · rw [if_pos ⟨rfl,rfl,c2⟩]
          unfold FT at hn ⊢
          rw [if_pos c2] at hn ⊢
          omega
        · rw [if_neg (fun h=>c2 h.2.2),e3]
          unfold FT
          rw [if_neg c2]
      · rw [if_neg (fun h=>c ⟨h.1,h.2.1⟩),hE x y hx hy]
        by_cases c3:x<a∨(x=a/\y<b)
        · rw [if_pos c3,if_pos (by omega)]
        · rw [if_neg c3,if_neg (by omega)]
theorem Rd3.row {T0:Nat->Nat->Int} {k a:Nat} {l:List (List Int)} (h:Rd3 N ls T0 k a N l):Rd3 N ls T0 k (a+1) 0 l:=by
  refine ⟨h.sq,h.lo,h.dg,h.sd,h.td,?_⟩
  rcases h.go with g | ⟨T,hT,hp,hE⟩
  · exact .inl g
  · refine .inr ⟨T,hT,hp,fun x y hx hy=>?_⟩
    rw [hE x y hx hy]
    by_cases c:x<a∨(x=a/\y<N)
    · rw [if_pos c,if_pos (by omega)]
    · rw [if_neg c,if_neg (by omega)]
theorem Rd3.rnd {T0:Nat->Nat->Int} {k:Nat} {l:List (List Int)} (h:Rd3 N ls T0 k N 0 l) (hN:N<=12) (hk:k<N):Rd3 N ls T0 (k+1) 0 0 l:=by
  refine ⟨h.sq,h.lo,h.dg,h.sd,h.td,?_⟩
  rcases h.go with g | ⟨T,hT,hp,hE⟩
  · exact .inl g
  · have hE':∀ x y,x<N->y<N->tb l x y=FT k T x y:=fun x y hx hy=>by rw [hE x y hx hy,if_pos (by omega)]
    by_cases c:k+1<N/\FT k T (k+1) (k+1)<0
    · exact .inl ⟨k+1,c.1,by rw [hE' _ _ c.1 c.1]; exact c.2⟩
    · refine .inr ⟨FT k T,hT.next hk hN (hp hk),fun h1=>by omega,fun x y hx hy=>?_⟩
      rw [hE' x y hx hy,if_neg (by omega)]
/-- The table at the start. -/
structure Ini (N:Nat) (ls:List Line) (T:Nat->Nat->Int):Prop where
  le:∀ (a b:Nat) c,a<N->b<N->Ed ls a b c->T a b<=c
  ex:∀ a b:Nat,a<N->b<N->T a b=1000000000000∨(a=b/\T a b=0)∨Ed ls a b (T a b)
  dg:∀ a,a<N->T a a=0
theorem Rd3.start (hN:NetOk N ls) {T:Nat->Nat->Int} (h:Ini N ls T) {l:List (List Int)} (hs:Sq N l) (he:∀ a b,a<N->b<N->tb l a b=T a b):Rd3 N ls T 0 0 0 l:=by
  have rng:∀ a b:Nat,a<N->b<N->-1010000<=T a b/\(T a b=1000000000000∨T a b<=1010000):=fun a b ha hb=>by
    rcases h.ex a b ha hb with h1 | ⟨-,h1⟩ | h1
    · omega
    · omega
    · have:=hN.ed _ _ _ h1; omega
  refine ⟨hs,fun x y hx hy=>?_,fun x hx=>?_,fun f hf x y hx hy hlt=>?_,fun x y hx hy hlt=>?_,.inr ⟨T,⟨fun a b ha hb=>(rng a b ha hb).1,fun a b ha hb=>(rng a b ha hb).2,fun a b j _ _ _ hj=>by omega,fun a b _ _=>Int.le_refl _⟩,fun h0=>?_,fun x y hx hy=>?_⟩⟩
  · rw [he x y hx hy]; have:=rng x y hx hy; omega
  · rw [he x x hx hx,h.dg x hx]; exact Int.le_refl _
  · rw [he x y hx hy] at hlt ⊢
    rcases h.ex x y hx hy with h1 | ⟨rfl,h1⟩ | h1
    · omega
    · omega
    · exact hf.ed h1
  · rw [he x y hx hy] at hlt
    rcases h.ex x y hx hy with h1 | ⟨rfl,h1⟩ | h1
    · omega
    · exact .refl _ _
    · exact .ed h1
  · rw [h.dg 0 h0]; exact Int.le_refl _
  · rw [he x y hx hy,if_neg (by omega)]
end Go.Nm
namespace Go.Proofs.YtfdgkdkfbaghpaaGreat
open Go Go.Nm
variable {ls:List Line} {n:Int} {N:Nat}
theorem ref_check (n:Int) (ls:List Line) (hl:ls.length<=1000000):(zan n ls).Ends (chkE n ls):=by
  have out:∀ x lo hi,(zaa x lo hi).Ends (!(decide (lo<=x)&&decide (x<=hi))):=fun x lo hi=>by
    unfold zaa
    have e:(decide (x<lo)||decide (hi<x)) = !(decide (lo<=x)&&decide (x<=hi)):=by
      by_cases h1:lo<=x <;> by_cases h2:x<=hi <;> simp [h1,h2] <;> omega
    rw [← e]
    exact M.i_pure
  unfold zan chkE
  have e0:((decide (n<1))||(decide (12<n))||(decide (30<(ls.length:Int))))=((!(decide (1<=n)&&decide (n<=12)))||decide (30<(ls.length:Int))):=by
    congr 1
    by_cases h1:1<=n <;> by_cases h2:n<=12 <;> simp [h1,h2] <;> omega
  rw [e0]
  refine M.i_if (fun hb=>by rw [hb]; exact M.i_pure) (fun hb=>?_)
  rw [hb]
  simp only [Bool.or_eq_false_iff,Bool.not_eq_false',Bool.and_eq_true,decide_eq_false_iff_not,decide_eq_true_eq] at hb
  have o:(M.iter (zbr n ls) 0).Out (fun y=>match y with | .inl _=>ls.all (okLine n)=false | .inr _=>ls.all (okLine n)=true):=by
    refine M.o_for ls.length (fun i s=>s=i/\(ls.take i).all (okLine n)=true) ?_ ?_ ⟨rfl,by simp⟩
    · rintro i s hi ⟨rfl,hJ⟩
      simp only [zbr]
      have hm:ls.getD s default∈ls:=by rw [getD_el ls hi]; exact List.getElem_mem hi
      refine M.o_t (by simpa using hi) (M.o_grd (by simpa using hi) (M.o_grd (gA2 (by omega) (by omega)) ?_))
      generalize hl:ls.getD s default=l at *
      have opt:∀ {c:Bool} {x lo hi:Int},(M.opt c (zaa x lo hi) false).Ends (c&&!(decide (lo<=x)&&decide (x<=hi))):=fun {c x lo hi}=>M.i_opt (fun e=>by rw [e,Bool.true_and]; exact out _ _ _) (fun e=>by rw [e]; rfl)
      refine M.o_bindE (out _ _ _) (M.o_bindE opt (M.o_bindE opt (M.o_bindE opt (M.o_bindE opt ?_))))
      have e:okLine n l=((((((decide (0<=l.src)&&decide (l.src<=n-1))&&(decide (0<=l.dst)&&decide (l.dst<=n-1)))&&(!(l.src==l.dst)))&&(decide (0<=l.day)&&decide (l.day<=40000)))&&(decide (-1000000<=l.rise)&&decide (l.rise<=1000000)))&&(decide (0<=l.err)&&decide (l.err<=10000))):=rfl
      generalize (decide (0<=l.src)&&decide (l.src<=n-1))=b1 at *
      generalize (decide (0<=l.dst)&&decide (l.dst<=n-1))=b2 at *
      generalize (l.src==l.dst)=b3 at *
      generalize (decide (0<=l.day)&&decide (l.day<=40000))=b4 at *
      generalize (decide (-1000000<=l.rise)&&decide (l.rise<=1000000))=b5 at *
      generalize (decide (0<=l.err)&&decide (l.err<=10000))=b6 at *
      refine M.o_if (fun hb=>M.o_pure ?_) (fun hb=>M.o_pure ⟨rfl,?_⟩)
      · refine List.all_eq_false.2 ⟨l,hm,?_⟩
        rw [e]
        cases b1 <;> cases b2 <;> cases b3 <;> cases b4 <;> cases b5 <;> cases b6 <;> simp at hb ⊢
      · rw [← take_succ_D ls s hi default,List.all_append,hJ,hl]
        simp only [List.all_cons,List.all_nil,Bool.and_true,Bool.true_and]
        rw [e]
        cases b1 <;> cases b2 <;> cases b3 <;> cases b4 <;> cases b5 <;> cases b6 <;> simp at hb ⊢
    · rintro s ⟨rfl,hJ⟩
      rw [List.take_length] at hJ
      simp only [zbr]
      exact M.o_f (by simp) (M.o_pure hJ)
  obtain ⟨y,h1,h2⟩:=o
  refine M.i_bind h1 ?_
  rcases y with u | u
  · dsimp only at h2 ⊢
    rw [h2]; exact M.i_pure
  · dsimp only at h2 ⊢
    rw [h2]; exact M.i_pure
/-- The least of a start and of all lines between two marks. -/
theorem most_out (hN:NetOk n ls) (a b:Nat) {z:Int} (hz:-1000000000000<=z/\z<=1000000000000) {body:(Int × Nat)->M ((Int × Nat) ⊕ Int)} (hbody:body=zaB ls a b∨body=zbQ ls a b) :
    (M.iter body (z,0)).Out (fun r=>(∀ c,Ed ls a b c->r<=c)/\(r=z∨Ed ls a b r)/\r<=z):=by
  have same:zbQ ls a b=zaB ls a b:=rfl
  have hbody:body=zaB ls a b:=by rcases hbody with h | h; exact h; exact h.trans same
  subst hbody
  refine M.o_for ls.length (fun i st=>st.2=i/\(∀ j:Nat,j<i->∀ c,Ed [ls.getD j default] a b c->st.1<=c)/\(st.1=z∨Ed ls a b st.1)/\st.1<=z) ?_ ?_ (s:=(z,0)) ⟨rfl,fun j hj=>by omega,.inl rfl,Int.le_refl _⟩
  · rintro i ⟨m,s⟩ hi ⟨e,h1,h2,h3⟩
    dsimp only at hi h1 h2 h3 e
    subst e
    have hm:ls.getD s default∈ls:=by rw [getD_el ls hi]; exact List.getElem_mem hi
    have hr:=hN.rise _ hm
    have he:=hN.err _ hm
    have hne:=hN.ne _ hm
    simp only [zaB]
    refine M.o_t (by simpa using hi) (M.o_grd (by simpa using hi) ?_)
    generalize hl:ls.getD s default=l at *
    have fin:∀ m':Int,m'<=m->(∀ c,Ed [l] (a:Int) b c->m'<=c)->(m'=m∨Ed ls a b m')->(∀ j:Nat,j<s+1->∀ c,Ed [ls.getD j default] (a:Int) b c->m'<=c)/\(m'=z∨Ed ls a b m')/\m'<=z:=by
      intro m' g1 g2 g3
      refine ⟨fun j hj c hc=>?_,?_,by omega⟩
      · by_cases e:j=s
        · rw [e,hl] at hc; exact g2 c hc
        · have:=h1 j (by omega) c hc; omega
      · rcases g3 with g3 | g3
        · rw [g3]; exact h2
        · exact .inr g3
    refine M.o_if (fun c1=>?_) (fun c1=>?_)
    · simp only [Bool.and_eq_true,beq_iff_eq] at c1
      refine M.o_grd (gA2 (by omega) (by omega)) (M.o_f ?_ (M.o_pure ⟨rfl,fin _ (by omega) ?_ ?_⟩))
      · rw [Bool.and_eq_false_iff,beq_eq_false_iff_ne,beq_eq_false_iff_ne]
        by_cases e:l.src=(b:Int)
        · exact .inr (fun e2=>hne (by omega))
        · exact .inl e
      · rintro c ⟨l',hl',⟨e1,e2,rfl⟩ | ⟨e1,e2,rfl⟩⟩
        · obtain rfl:l'=l:=by simpa using hl'
          omega
        · obtain rfl:l'=l:=by simpa using hl'
          omega
      · by_cases e:m<=l.rise+l.err
        · exact .inl (by omega)
        · refine .inr ⟨l,hm,.inl ⟨c1.1,c1.2,by omega⟩⟩
    · have c1:¬ (l.src=(a:Int)/\l.dst=(b:Int)):=fun h=>by rw [h.1,h.2] at c1; simp at c1
      refine M.o_if (fun c2=>?_) (fun c2=>?_)
      · simp only [Bool.and_eq_true,beq_iff_eq] at c2
        refine M.o_grd (gA2 (by omega) (by omega)) (M.o_pure ⟨rfl,fin _ (by omega) ?_ ?_⟩)
        · rintro c ⟨l',hl',⟨e1,e2,rfl⟩ | ⟨e1,e2,rfl⟩⟩
          · obtain rfl:l'=l:=by simpa using hl'
            omega
          · obtain rfl:l'=l:=by simpa using hl'
            omega
        · by_cases e:m<=l.err-l.rise
          · exact .inl (by omega)
          · refine .inr ⟨l,hm,.inr ⟨c2.2,c2.1,by omega⟩⟩
      · have c2:¬ (l.src=(b:Int)/\l.dst=(a:Int)):=fun h=>by rw [h.1,h.2] at c2; simp at c2
        refine M.o_pure ⟨rfl,fin _ (Int.le_refl _) ?_ (.inl rfl)⟩
        rintro c ⟨l',hl',⟨e1,e2,rfl⟩ | ⟨e1,e2,rfl⟩⟩
        · obtain rfl:l'=l:=by simpa using hl'
          exact absurd ⟨e1,e2⟩ c1
        · obtain rfl:l'=l:=by simpa using hl'
          exact absurd ⟨e2,e1⟩ c2
  · rintro ⟨m,s⟩ ⟨e,h1,h2,h3⟩
    dsimp only at h1 h2 h3 e
    subst e
    simp only [zaB]
    refine M.o_f (by simp) (M.o_pure ⟨fun c hc=>?_,h2,h3⟩)
    obtain ⟨l,hl,h⟩:=hc
    obtain ⟨j,hj,rfl⟩:=mem_getD hl default
    exact h1 j hj c ⟨_,List.mem_cons_self ..,h⟩
theorem no_self (hN:NetOk n ls) {a:Int} {c:Int} (h:Ed ls a a c):False:=by
  obtain ⟨l,hl,⟨e1,e2,-⟩ | ⟨e1,e2,-⟩⟩:=h
  · exact hN.ne l hl (by omega)
  · exact hN.ne l hl (by omega)
theorem tab0_out (hN:NetOk N ls):(M.iter (zbf N ls) (0,[])).Out (fun y=>Sq N y.2/\Ini N ls (tb y.2)):=by
  have hm:=hN.marks
  have row:∀ a:Nat,a<N->(M.iter (zbq N ls a) (0,[])).Out (fun y=>y.2.length=N/\∀ b:Nat,b<N->(∀ c,Ed ls a b c->y.2.getD b 0<=c)/\(y.2.getD b 0=1000000000000∨(a=b/\y.2.getD b 0=0)∨Ed ls a b (y.2.getD b 0))/\(a=b->y.2.getD b 0=0)):=by
    intro a ha
    refine M.o_for N (fun i st=>st.1=i/\st.2.length=i/\∀ b:Nat,b<i->(∀ c,Ed ls a b c->st.2.getD b 0<=c)/\(st.2.getD b 0=1000000000000∨(a=b/\st.2.getD b 0=0)∨Ed ls a b (st.2.getD b 0))/\(a=b->st.2.getD b 0=0)) ?_ ?_ (s:=(0,[])) ⟨rfl,rfl,fun b hb=>by omega⟩
    · rintro i ⟨s,l⟩ hi ⟨e,hl,hJ⟩
      dsimp only at hi hl hJ e
      subst e
      simp only [zbq]
      have put:∀ x:Int,((∀ c,Ed ls a s c->x<=c)/\(x=1000000000000∨(a=s/\x=0)∨Ed ls a s x)/\(a=s->x=0))->∀ b:Nat,b<s+1->(∀ c,Ed ls a b c->(l++[x]).getD b 0<=c)/\((l++[x]).getD b 0=1000000000000∨(a=b/\(l++[x]).getD b 0=0)∨Ed ls a b ((l++[x]).getD b 0))/\(a=b->(l++[x]).getD b 0=0):=by
        intro x hx b hb
        by_cases e:b=s
        · have:(l++[x]).getD b 0=x:=by rw [e,← hl]; simp [List.getD_eq_getElem?_getD]
          rw [this,e]
          exact hx
        · have:(l++[x]).getD b 0=l.getD b 0:=by rw [List.getD_eq_getElem?_getD,List.getElem?_append_left (by omega),← List.getD_eq_getElem?_getD]
          rw [this]
          exact hJ b (by omega)
      refine M.o_t (decide_eq_true (by omega)) (M.o_if (fun c=>?_) (fun c=>?_))
      · have c:a=s:=by have:=beq_iff_eq.1 c; omega
        refine M.o_bind (most_out hN a s (by omega) (.inr rfl)) ?_
        rintro x ⟨x1,x2,x3⟩
        refine M.o_grdD (by simp only [List.length_cons,List.length_nil]; omega) (M.o_grd (gA2 (by omega) (by omega)) (M.o_pure ⟨rfl,by simp [hl],put x ⟨x1,?_,fun _=>?_⟩⟩))
        · rcases x2 with x2 | x2
          · exact .inr (.inl ⟨c,x2⟩)
          · exact .inr (.inr x2)
        · rcases x2 with x2 | x2
          · exact x2
          · rw [c] at x2; exact (no_self hN x2).elim
      · have c:a ≠ s:=by have:=beq_eq_false_iff_ne.1 c; omega
        refine M.o_bind (most_out hN a s (by omega) (.inl rfl)) ?_
        rintro x ⟨x1,x2,x3⟩
        refine M.o_grdD (by simp only [List.length_cons,List.length_nil]; omega) (M.o_grd (gA2 (by omega) (by omega)) (M.o_pure ⟨rfl,by simp [hl],put x ⟨x1,?_,fun e=>absurd e c⟩⟩))
        rcases x2 with x2 | x2
        · exact .inl x2
        · exact .inr (.inr x2)
    · rintro ⟨s,l⟩ ⟨e,hl,hJ⟩
      dsimp only at hl hJ e
      subst e
      simp only [zbq]
      exact M.o_f (decide_eq_false (by omega)) (M.o_pure ⟨hl,hJ⟩)
  refine M.o_mono (P:=fun y=>y.2.length=N/\∀ a:Nat,a<N->(y.2.getD a []).length=N/\∀ b:Nat,b<N->(∀ c,Ed ls a b c->tb y.2 a b<=c)/\(tb y.2 a b=1000000000000∨(a=b/\tb y.2 a b=0)∨Ed ls a b (tb y.2 a b))/\(a=b->tb y.2 a b=0)) ?_ (fun y hy=>⟨⟨hy.1,fun a ha=>(hy.2 a ha).1⟩,⟨fun a b c ha hb hc=>((hy.2 a ha).2 b hb).1 c hc,fun a b ha hb=>((hy.2 a ha).2 b hb).2.1,fun a ha=>((hy.2 a ha).2 a ha).2.2 rfl⟩⟩)
  refine M.o_for N (fun i st=>st.1=i/\st.2.length=i/\∀ a:Nat,a<i->(st.2.getD a []).length=N/\∀ b:Nat,b<N->(∀ c,Ed ls a b c->tb st.2 a b<=c)/\(tb st.2 a b=1000000000000∨(a=b/\tb st.2 a b=0)∨Ed ls a b (tb st.2 a b))/\(a=b->tb st.2 a b=0)) ?_ ?_ (s:=(0,[])) ⟨rfl,rfl,fun b hb=>by omega⟩
  · rintro i ⟨s,l⟩ hi ⟨e,hl,hJ⟩
    dsimp only at hi hl hJ e
    subst e
    simp only [zbf]
    refine M.o_t (decide_eq_true (by omega)) (M.o_bind (row s hi) ?_)
    rintro ⟨l2,l3⟩ ⟨r1,r2⟩
    dsimp only at r1 r2 ⊢
    refine M.o_grdD (by omega) (M.o_grd (gA2 (by omega) (by omega)) (M.o_pure ⟨rfl,by simp [hl],fun a ha=>?_⟩))
    dsimp only
    unfold tb
    by_cases e:a=s
    · have:(l++[l3]).getD a []=l3:=by rw [e,← hl]; simp [List.getD_eq_getElem?_getD]
      rw [this,e]
      exact ⟨r1,r2⟩
    · have:(l++[l3]).getD a []=l.getD a []:=by rw [List.getD_eq_getElem?_getD,List.getElem?_append_left (by omega),← List.getD_eq_getElem?_getD]
      rw [this]
      exact hJ a (by omega)
  · rintro ⟨s,l⟩ ⟨e,hl,hJ⟩
    dsimp only at hl hJ e
    subst e
    simp only [zbf]
    exact M.o_f (decide_eq_false (by omega)) (M.o_pure ⟨hl,hJ⟩)
theorem tab_out (hN:NetOk N ls):(zbM N ls).Out (fun y=>∃ T0,Ini N ls T0/\Rd3 N ls T0 N 0 0 y):=by
  have hm:=hN.marks
  unfold zbM
  refine M.o_bind (tab0_out hN) ?_
  rintro ⟨l5,l6⟩ ⟨hs,hi⟩
  dsimp only at hs hi ⊢
  refine M.o_bind (P:=fun y=>Rd3 N ls (tb l6) N 0 0 y.2) ?_ (fun y hy=>M.o_pure ⟨_,hi,hy⟩)
  refine M.o_for N (fun i st=>st.2=i/\Rd3 N ls (tb l6) i 0 0 st.1) ?_ ?_ (s:=(l6,0)) ⟨rfl,Rd3.start hN hi hs fun _ _ _ _=>rfl⟩
  · rintro k ⟨l,s⟩ hk ⟨e,hJ⟩
    dsimp only at hk hJ e
    subst e
    simp only [zbH]
    refine M.o_t (decide_eq_true (by omega)) (M.o_bind (P:=fun y=>Rd3 N ls (tb l6) s N 0 y.2) ?_ (fun y hy=>M.o_grd (gA2 (by omega) (by omega)) (M.o_pure ⟨rfl,hy.rnd (by omega) hk⟩)))
    refine M.o_for N (fun i st=>st.2=i/\Rd3 N ls (tb l6) s i 0 st.1) ?_ ?_ (s:=(l,0)) ⟨rfl,hJ⟩
    · rintro a ⟨l,a2⟩ ha ⟨e,hJ⟩
      dsimp only at ha hJ e
      subst e
      simp only [zcm]
      refine M.o_t (decide_eq_true (by omega)) (M.o_bind (P:=fun y=>Rd3 N ls (tb l6) s a2 N y.2) ?_ (fun y hy=>M.o_grd (gA2 (by omega) (by omega)) (M.o_pure ⟨rfl,hy.row⟩)))
      refine M.o_for N (fun i st=>st.2=i/\Rd3 N ls (tb l6) s a2 i st.1) ?_ ?_ (s:=(l,0)) ⟨rfl,hJ⟩
      · rintro b ⟨l,b2⟩ hb ⟨e,hJ⟩
        dsimp only at hb hJ e
        subst e
        have hu:=hJ.up (by omega) hk ha hb
        have q0:=hJ.sq.len
        have q1:=hJ.sq.rows a2 ha
        have q2:=hJ.sq.rows s hk
        have b1:=hJ.lo a2 b2 ha hb
        have b3:=hJ.lo a2 s ha hk
        have b4:=hJ.lo s b2 hk hb
        unfold up at hu
        unfold tb at b1 b3 b4
        simp only [zb8]
        refine M.o_t (decide_eq_true (by omega)) (M.o_grdD (by omega) (M.o_grdD (by omega) (M.o_grd (gOr (by omega)) (M.o_grd (gOr (by omega)) (M.o_if (fun c=>?_) (fun c=>?_))))))
        · rw [Bool.and_eq_true,decide_eq_true_eq,decide_eq_true_eq] at c
          rw [if_pos (show tb l a2 s<1000000000000/\tb l s b2<1000000000000 from c)] at hu
          exact M.o_grdD (by omega) (M.o_grdD (by omega) (M.o_grdD (by omega) (M.o_grd (gA2 (by omega) (by omega)) (M.o_grd (gA2 (by omega) (by omega)) (M.o_pure ⟨rfl,hu⟩)))))
        · rw [if_neg (show ¬ (tb l a2 s<1000000000000/\tb l s b2<1000000000000) from fun h=>by
            have:((decide (((l.getD a2 []).getD s 0)<1000000000000))&&(decide (((l.getD s []).getD b2 0)<1000000000000)))=true:=by rw [Bool.and_eq_true,decide_eq_true_eq,decide_eq_true_eq]; exact h
            rw [this] at c
            cases c)] at hu
          exact M.o_grd (gA2 (by omega) (by omega)) (M.o_pure ⟨rfl,hu⟩)
      · rintro ⟨l,b2⟩ ⟨e,hJ⟩
        dsimp only at hJ e
        subst e
        simp only [zb8]
        exact M.o_f (decide_eq_false (by omega)) (M.o_pure hJ)
    · rintro ⟨l,a2⟩ ⟨e,hJ⟩
      dsimp only at hJ e
      subst e
      simp only [zcm]
      exact M.o_f (decide_eq_false (by omega)) (M.o_pure hJ)
  · rintro ⟨l,s⟩ ⟨e,hJ⟩
    dsimp only at hJ e
    subst e
    simp only [zbH]
    exact M.o_f (decide_eq_false (by omega)) (M.o_pure hJ)
theorem ref_agrees (hN:NetOk n ls):(zaw n ls).Out (fun r=>r=true↔Agr ls):=by
  have hm:=hN.marks
  obtain ⟨N,rfl⟩:∃ N:Nat,n=N:=⟨n.toNat,by omega⟩
  unfold zaw
  refine M.o_bind (tab_out hN) ?_
  rintro t ⟨T0,hI,hR⟩
  refine M.o_bind (P:=fun y=>match y with | .inl _=>∃ x,x<N/\tb t x x<0 | .inr _=>∀ x,x<N->0<=tb t x x) ?_ ?_
  · refine M.o_for N (fun i s=>s=i/\∀ x,x<i->0<=tb t x x) ?_ ?_ (s:=0) ⟨rfl,fun x hx=>by omega⟩
    · rintro i s hi ⟨rfl,hJ⟩
      have q0:=hR.sq.len
      have q1:=hR.sq.rows s hi
      simp only [zbB]
      refine M.o_t (decide_eq_true (by omega)) (M.o_grdD (by omega) (M.o_grdD (by omega) (M.o_if (fun c=>?_) (fun c=>?_))))
      · exact M.o_pure ⟨s,hi,of_decide_eq_true c⟩
      · refine M.o_pure ⟨rfl,fun x hx=>?_⟩
        by_cases e:x=s
        · subst e
          have:=of_decide_eq_false c
          unfold tb
          omega
        · exact hJ x (by omega)
    · rintro s ⟨rfl,hJ⟩
      simp only [zbB]
      exact M.o_f (decide_eq_false (by omega)) (M.o_pure hJ)
  · rintro (u | u) hy
    · dsimp only at hy ⊢
      obtain ⟨x,hx,hn⟩:=hy
      refine M.o_pure ⟨fun h=>(by cases h),?_⟩
      rintro ⟨h,hF⟩
      have:=hR.sd h hF x x hx hx (by omega)
      omega
    · dsimp only at hy ⊢
      refine M.o_pure ⟨fun _=>?_,fun _=>rfl⟩
      rcases hR.go with ⟨x,hx,hn⟩ | ⟨T,hT,hp,hE⟩
      · have:=hy x hx; omega
      · refine hT.feas (by omega) hN.rng (fun a b c he=>?_) (fun a b c he=>(hN.ed a b c he).2) fun a ha=>?_
        · have hr:=he.rng hN.rng
          exact hI.le a b c (by omega) (by omega) he
        · have:=hE a a ha ha
          rw [if_neg (by omega)] at this
          rw [← this]
          exact hR.dg a ha
end Go.Proofs.YtfdgkdkfbaghpaaGreat
-- libL/LS.lean
namespace Go.Nm
structure SOk (c u x:Int):Prop where
  u0:0<=u
  u1:u<=c
  x0:0<=x
  x1:x<251
theorem SOk.mono {c d u x:Int} (h:SOk c u x) (hd:c<=d):SOk d u x:=⟨h.u0,Int.le_trans h.u1 hd,h.x0,h.x1⟩
end Go.Nm
namespace Go.Proofs.YtfdgkdkfbaghpaaGreat
open Go Go.Nm
end Go.Proofs.YtfdgkdkfbaghpaaGreat
-- libL/LM.lean
namespace Go.Nm
def hOf (hs:List Int) (v:Int):Int:=hs.getD (Int.toNat v) 0
structure LnOk (n:Int) (hs:List Int) (l:Line):Prop where
  src:0<=l.src/\l.src<n
  dst:0<=l.dst/\l.dst<n
  ne:l.src ≠ l.dst
  day:0<=l.day/\l.day<30
  err:0<=l.err/\l.err<=8
  lo:l.rise-l.err<=hOf hs l.dst-hOf hs l.src
  hi:hOf hs l.dst-hOf hs l.src<=l.rise+l.err
structure HsOk (n:Int) (hs:List Int):Prop where
  len:(hs.length:Int)=n
  zero:hs.getD 0 0=0
  bnd:∀ v,-300<=hOf hs v/\hOf hs v<=300
/-- What a net of numbers is like. -/
structure MadeN (most n:Int) (ls:List Line) (hs:List Int):Prop where
  two:2<=n/\n<=most
  hh:HsOk n hs
  one:1<=ls.length/\ls.length<=14
  ln:∀ l,l∈ls->LnOk n hs l
theorem LnOk.rise {n:Int} {hs:List Int} {l:Line} (h:LnOk n hs l) (hh:HsOk n hs):-700<=l.rise/\l.rise<=700:=by
  have h1:=hh.bnd l.src
  have h2:=hh.bnd l.dst
  have:=h.err
  have:=h.lo
  have:=h.hi
  omega
theorem net_ok {most n:Int} {ls:List Line} {hs:List Int} (hm:1<=n/\n<=12) (hh:HsOk n hs) (hl:ls.length<=30) (h:∀ l,l∈ls->LnOk n hs l):NetOk n ls :=
  ⟨hm,hl,fun l hl=>⟨(h l hl).src,(h l hl).dst⟩,fun l hl=>(h l hl).ne,fun l hl=>by have:=(h l hl).day; omega,fun l hl=>by have:=(h l hl).rise hh; omega,fun l hl=>by have:=(h l hl).err; omega⟩
theorem feas_ln {n:Int} {ls:List Line} {hs:List Int} (h:∀ l,l∈ls->LnOk n hs l):Feas ls (hOf hs):=fun l hl=>⟨(h l hl).lo,(h l hl).hi⟩
theorem MadeN.ok {most n:Int} {ls:List Line} {hs:List Int} (h:MadeN most n ls hs) (hm:most<=12):NetOk n ls:=net_ok (most:=0) (by have:=h.two; omega) h.hh (by have:=h.one; omega) h.ln
theorem MadeN.agr {most n:Int} {ls:List Line} {hs:List Int} (h:MadeN most n ls hs):Agr ls:=⟨_,feas_ln h.ln⟩
end Go.Nm
namespace Go.Proofs.YtfdgkdkfbaghpaaGreat
open Go Go.Nm
theorem copy_net {ls:List Line} (h:ls.length<=1000000) (n:Int):(za2 n ls).Ends (n,ls):=by
  unfold za2 zc2
  exact M.i_bind (M.i_grd (decide_eq_true (by simp only [List.length_nil]; omega)) M.i_pure) M.i_pure
end Go.Proofs.YtfdgkdkfbaghpaaGreat
-- libL/DC5.lean
namespace Go.Nm
variable {ls ks:List Line} {a b d:Int}
theorem Tied.edge {u v c:Int} (he:Ed ls u v c):Tied ls a u↔Tied ls a v:=⟨fun t=>t.trans (.ed he),fun t=>by obtain ⟨c',hr⟩:=he.rev; exact t.trans (.ed hr)⟩
theorem dist_cert (hA:Agr ls) (hD:IsDist ls a b d):∃ h,Feas ls h/\h b-h a=d:=by
  obtain ⟨h0,hF⟩:=hA
  haveI:=fun v=>Classical.propDecidable (∃ d,IsDist ls a v d)
  refine ⟨fun v=>if t:∃ d,IsDist ls a v d then t.choose else h0 v,feas_of fun u v e he=>?_,?_⟩
  · by_cases t:Tied ls a u
    · have t1:=dist_ex hF t
      have t2:=dist_ex hF ((Tied.edge he).1 t)
      try dsimp only
      rw [dif_pos t1,dif_pos t2]
      have:=t1.choose_spec.step he t2.choose_spec
      omega
    · have t1:¬ ∃ d,IsDist ls a u d:=fun ⟨d,h⟩=>t h.tied
      have t2:¬ ∃ d,IsDist ls a v d:=fun ⟨d,h⟩=>t ((Tied.edge he).2 h.tied)
      try dsimp only
      rw [dif_neg t1,dif_neg t2]
      exact hF.ed he
  · have t1:∃ d,IsDist ls a b d:=⟨d,hD⟩
    have t2:∃ d,IsDist ls a a d:=⟨0,.self hF⟩
    try dsimp only
    rw [dif_pos t1,dif_pos t2,t1.choose_spec.uniq hD,t2.choose_spec.uniq (.self hF)]
    omega
theorem Wk.map {f:Int->Int} (hE:∀ a b c,Ed ks a b c->Ed ls (f a) (f b) c) {vs:List Int} {c:Int} (w:Wk ks a vs c):Wk ls (f a) (vs.map f) c:=by
  induction w with
  | one=>exact .one
  | snoc _ he ih=>exact .snoc ih (hE _ _ _ he)
/-! ### Nets that are joined at one mark -/
section
variable {N M there joint:Int} (hN:Rng N ls) (hM:Rng M ks) (hj:0<=joint/\joint<N) (ht:0<=there/\there<M)
include hN hM hj ht
end
end Go.Nm
-- libL/LHH.lean
namespace Go.Nm
variable {ls ms:List Line} {n:Int}
theorem dist_sizeN {a b d:Int} (hN:NetOk n ls) (hA:Agr ls) (ha:0<=a/\a<n) (h:IsDist ls a b d):-100000000<=d/\d<=100000000:=by
  obtain ⟨hh,hF⟩:=hA
  obtain ⟨vs,w⟩:=h.has
  obtain ⟨vs',c',w',h1,-,h2⟩:=w.few (n:=n.toNat) hF (by rw [Int.toNat_of_nonneg (by omega)]; exact hN.rng) (by omega)
  have h3:=h.le _ _ w'
  have h4:=w'.size hN.ed
  have:=hN.marks
  rw [List.length_cons] at h4
  omega
theorem rowp_at {c:List Int} {n i s:Nat} (hi:i<n) (hs:s<13):rowp s ((rowsOf c n).getD i default)=decide (c.getD (i*13+s) 0<1099511627776):=by
  have e:(rowsOf c n).getD i default=⟨(c.drop (i*13)).take 13⟩:=by
    unfold rowsOf
    rw [List.getD_eq_getElem?_getD,List.getElem?_map,List.getElem?_range hi]
    rfl
  rw [e]
  unfold rowp
  dsimp only
  congr 2
  simp only [List.getD_eq_getElem?_getD]
  rw [List.getElem?_take,if_pos hs,List.getElem?_drop]
theorem first_row {c:List Int} {n s:Nat} (hs:s<13) (h:∃ i,i<n/\c.getD (i*13+s) 0<1099511627776):∃ f:Nat,f<n/\idxP (rowp s) (rowsOf c n)=f/\c.getD (f*13+s) 0<1099511627776/\∀ k,k<f->¬ c.getD (k*13+s) 0<1099511627776:=by
  obtain ⟨f,⟨hf,h1⟩,h2⟩:=least_nat h
  have hlen:(rowsOf c n).length=n:=by simp [rowsOf]
  have no:∀ k,k<f->¬ c.getD (k*13+s) 0<1099511627776:=fun k hk h3=>by
    have:=h2 k ⟨by omega,h3⟩
    omega
  refine ⟨f,hf,(idx_yes (d:=default) (by omega) (by rw [Int.toNat_natCast,rowp_at hf hs]; exact decide_eq_true h1) fun y hy=>?_).symm,h1,no⟩
  obtain ⟨k,hk,rfl⟩:=mem_getD hy default
  have hk2:k<f:=by
    have:=hk
    rw [List.length_take] at this
    omega
  have:(List.take f (rowsOf c n)).getD k default=(rowsOf c n).getD k default:=by
    simp only [List.getD_eq_getElem?_getD]
    rw [List.getElem?_take,if_pos hk2]
  rw [this,rowp_at (by omega) hs]
  exact decide_eq_false (no k hk2)
/-- Heights that are returned. -/
structure HtOk (n:Int) (ls:List Line) (l:List Int):Prop where
  len:(l.length:Int)=n
  feas:Feas ls (hOf l)
  zero:l.getD 0 0=0
  bnd:∀ v,0<=v->v<n->-100000000<=hOf l v/\hOf l v<=100000000
end Go.Nm
namespace Go.Proofs.YtfdgkdkfbaghpaaGreat
open Go Go.Nm
variable {ls ms:List Line} {n:Int}
theorem agreed_out (hN:NetOk n ls):(zaR n ls).Out (fun y=>∃ can by_ e,y = .inr (n,can,by_,e)/\Wkd ls n can by_/\(¬ Agr ls->e=7)/\(Agr ls->e=0)):=by
  unfold zaR
  refine M.o_bind (opened_out hN) ?_
  rintro y ⟨c,b,rfl,hW⟩
  dsimp only
  refine M.o_bind (P:=fun r=>r=true↔¬ Agr ls) (by
    obtain ⟨r,h1,h2⟩:=open_out hN hW
    exact ⟨r,M.i_opt (fun _=>h1) (fun h=>by simp at h),h2⟩) ?_
  intro r hr
  cases r with
  | true=>exact M.o_t rfl (M.o_pure ⟨c,b,7,rfl,hW,fun _=>rfl,fun h=>absurd h (hr.1 rfl)⟩)
  | false=>exact M.o_f rfl (M.o_pure ⟨c,b,0,rfl,hW,fun h=>absurd (hr.2 h) (by decide),fun _=>rfl⟩)
theorem heights_out (hN:NetOk n ls):(zbe n ls).Out (fun y=>(¬ Agr ls->y=([],7))/\(Agr ls->y.2=0/\HtOk n ls y.1)):=by
  have hk:=hN.marks
  unfold zbe
  refine M.o_bind (agreed_out hN) ?_
  rintro y ⟨c,b,e,rfl,hW,h7,h0⟩
  dsimp only
  by_cases hA:Agr ls
  · have:=h0 hA
    subst this
    refine M.o_f rfl ?_
    have rwn:∀ i j:Nat,rw_ c i j=c.getD (i*13+j) 0:=fun i j=>by unfold rw_; rw [Int.toNat_natCast,Int.toNat_natCast]
    have tie:∀ i j:Nat,(i:Int)<n->(j:Int)<n->(c.getD (i*13+j) 0<1099511627776↔Tied ls i j):=fun i j hi hj=>by
      have hD:=hW.done hN hA (a:=(i:Int)) ⟨by omega,hi⟩
      rw [← rwn]
      exact ⟨fun h=>(hD.dist j (by omega) hj h).tied,fun h=>hD.tied j (by omega) hj h⟩
    have dst:∀ i j:Nat,(i:Int)<n->(j:Int)<n->c.getD (i*13+j) 0<1099511627776->IsDist ls i j (c.getD (i*13+j) 0):=fun i j hi hj h=>by
      have hD:=hW.done hN hA (a:=(i:Int)) ⟨by omega,hi⟩
      rw [← rwn] at h ⊢
      exact hD.dist j (by omega) hj h
    have self:∀ i:Nat,(i:Int)<n->c.getD (i*13+i) 0=0:=fun i hi=>by
      rw [← rwn]
      exact hW.agr_zero hN hA ⟨by omega,hi⟩
    refine M.o_bind (P:=fun y=>HtOk n ls y.2) ?_ (fun y hy=>M.o_pure ⟨fun h=>absurd hA h,fun _=>⟨rfl,hy⟩⟩)
    refine M.o_for (Int.toNat n) (fun i st=>st.1=i/\st.2.length=i/\∀ j:Nat,j<i->∃ f:Nat,(f:Int)<n/\st.2.getD j 0=c.getD (f*13+j) 0/\c.getD (f*13+j) 0<1099511627776/\∀ k,k<f->¬ c.getD (k*13+j) 0<1099511627776) ?_ ?_ (s:=(0,[])) ⟨rfl,rfl,fun j hj=>by omega⟩
    · rintro i ⟨s,l⟩ hi ⟨rfl,hl,hJ⟩
      dsimp only at hi hl hJ
      simp only [zcq]
      obtain ⟨f,f1,f2,f3,f4⟩:=first_row (c:=c) (n:=Int.toNat n) (s:=s) (by omega) ⟨s,hi,by rw [self s (by omega)]; decide⟩
      rw [f2,Int.toNat_natCast]
      refine M.o_t (decide_eq_true (by omega)) (M.o_grd (gA2 (by omega) (by omega)) (M.o_grdD (by omega) (M.o_grd (gA2 (by omega) (by omega)) (M.o_grd (gA2 (by omega) (by omega)) (M.o_grdD (by simp only [List.length_cons,List.length_nil]; omega) (M.o_grd (gA2 (by omega) (by omega)) (M.o_pure ⟨rfl,by simp [hl],fun j hj=>?_⟩)))))))
      dsimp only
      by_cases e:j=s
      · subst e
        refine ⟨f,by omega,?_,f3,f4⟩
        rw [← hl]
        simp [List.getD_eq_getElem?_getD]
      · obtain ⟨f',g1,g2,g3⟩:=hJ j (by omega)
        refine ⟨f',g1,?_,g3⟩
        rw [← g2,List.getD_eq_getElem?_getD,List.getElem?_append_left (by omega),← List.getD_eq_getElem?_getD]
    · rintro ⟨s,l⟩ ⟨rfl,hl,hJ⟩
      dsimp only at hl hJ
      simp only [zcq]
      refine M.o_f (decide_eq_false (by omega)) (M.o_pure ?_)
      have at_:∀ v,0<=v->v<n->∃ f:Nat,(f:Int)<n/\hOf l v=c.getD (f*13+v.toNat) 0/\c.getD (f*13+v.toNat) 0<1099511627776/\∀ k,k<f->¬ c.getD (k*13+v.toNat) 0<1099511627776:=fun v h0 h1=>hJ v.toNat (by omega)
      refine ⟨by dsimp only; omega,feas_of fun p q e he=>?_,?_,fun v h0 h1=>?_⟩
      · have hr:=he.rng hN.rng
        obtain ⟨f,a1,a2,a3,a4⟩:=at_ p hr.1.1 hr.1.2
        obtain ⟨g,b1,b2,b3,b4⟩:=at_ q hr.2.1 hr.2.2
        have ep:((p.toNat:Nat):Int)=p:=by omega
        have eq_:((q.toNat:Nat):Int)=q:=by omega
        have hp:((p.toNat:Nat):Int)<n:=by omega
        have hq:((q.toNat:Nat):Int)<n:=by omega
        have t1:=(tie f p.toNat a1 hp).1 a3
        have t2:=(tie g q.toNat b1 hq).1 b3
        rw [ep] at t1
        rw [eq_] at t2
        have c1:=(tie f q.toNat a1 hq).2 (by rw [eq_]; exact t1.trans (.ed he))
        have c2:=(tie g p.toNat b1 hp).2 (by rw [ep]; exact t2.trans (Tied.ed he).symm)
        have fg:f=g:=by
          rcases Nat.lt_trichotomy f g with h | h | h
          · exact absurd c1 (b4 f h)
          · exact h
          · exact absurd c2 (a4 g h)
        subst fg
        have d1:=dst f p.toNat a1 hp a3
        have d2:=dst f q.toNat a1 hq b3
        rw [ep] at d1
        rw [eq_] at d2
        rw [a2,b2]
        have:=d1.step he d2
        omega
      · obtain ⟨f,a1,a2,a3,a4⟩:=hJ 0 (by omega)
        have hz:=self 0 (by omega)
        have:f=0:=by
          rcases Nat.eq_zero_or_pos f with h | h
          · exact h
          · exact absurd (by rw [hz]; decide) (a4 0 h)
        subst this
        rw [a2]
        exact hz
      · obtain ⟨f,a1,a2,a3,a4⟩:=at_ v h0 h1
        have d1:=dst f v.toNat a1 (by omega) a3
        rw [a2]
        exact dist_sizeN hN hA ⟨by omega,a1⟩ d1
  · have:=h7 hA
    subst this
    exact M.o_t rfl (M.o_pure ⟨fun _=>rfl,fun h=>absurd h hA⟩)
end Go.Proofs.YtfdgkdkfbaghpaaGreat
-- libL/LTT.lean
namespace Go.Nm
variable {ls:List Line} {n:Int}
/-- A line agrees with heights. -/
def agL (hs:List Int) (l:Line):Bool:=decide (l.rise-l.err<=hOf hs l.dst-hOf hs l.src)&&decide (hOf hs l.dst-hOf hs l.src<=l.rise+l.err)
def hldE (n:Int) (ls:List Line) (hs:List Int):Int × Int :=
  bif chkE n ls != 0 then (0,chkE n ls) else bif (hs.length:Int) != n then (0,2) else bif !(hs.all fun h=>decide (-1000000000<=h)&&decide (h<=1000000000)) then (0,4) else (idxP (fun l=>!(agL hs l)) ls,0)
end Go.Nm
namespace Go.Proofs.YtfdgkdkfbaghpaaGreat
open Go Go.Nm
variable {ls:List Line} {n:Int}
theorem copy_int {l:List Int} (h:l.length<=1000000):(zcv l).Ends l:=by
  unfold zcv
  exact M.i_grd (decide_eq_true (by simp only [List.length_nil]; omega)) M.i_pure
theorem net_ends (n:Int) (h:ls.length<=1000000):(zad n ls).Ends (n,ls):=by
  have out:(zad n ls).Out (fun r=>r=(n,ls)):=by
    unfold zad
    refine M.o_bind (P:=fun y=>y.2=ls) ?_ (fun y hy=>M.o_pure (by rw [hy]))
    refine M.o_for ls.length (fun i st=>st.1=i/\st.2=ls.take i) ?_ ?_ (s:=(0,[])) ⟨rfl,by simp⟩
    · rintro i ⟨s,l⟩ hi ⟨e1,e2⟩
      dsimp only at hi e1 e2
      subst e1
      subst e2
      simp only [zcd]
      refine M.o_t (by simpa using hi) (M.o_grd (by simpa using hi) (M.o_grdD (by simp [List.length_take]; omega) (M.o_pure ⟨rfl,?_⟩)))
      dsimp only
      rw [take_succ_D ls s hi default]
    · rintro ⟨s,l⟩ ⟨e1,e2⟩
      dsimp only at e1 e2
      subst e1
      subst e2
      simp only [zcd]
      exact M.o_f (by simp) (M.o_pure (List.take_length ..))
  obtain ⟨r,h,rfl⟩:=out
  exact h
theorem same_line (ls:List Line):(zbE ls ls).Ends true:=by
  have out:(zbE ls ls).Out (fun r=>r=true):=by
    unfold zbE
    refine M.o_f (by simp) (M.o_bind (P:=fun y=>y = .inr ()) ?_ (fun y hy=>by subst hy; exact M.o_pure rfl))
    refine M.o_for ls.length (fun i st=>st=i) ?_ ?_ rfl
    · rintro i s hi rfl
      simp only [zbZ]
      exact M.o_t (by simpa using hi) (M.o_grd (by simpa using hi) (M.o_grd (by simpa using hi) (M.o_f (by simp) (M.o_pure rfl))))
    · rintro s rfl
      simp only [zbZ]
      exact M.o_f (by simp) (M.o_pure rfl)
  obtain ⟨r,h,rfl⟩:=out
  exact h
theorem same_int (ls:List Int):(zb3 ls ls).Ends true:=by
  have out:(zb3 ls ls).Out (fun r=>r=true):=by
    unfold zb3
    refine M.o_f (by simp) (M.o_bind (P:=fun y=>y = .inr ()) ?_ (fun y hy=>by subst hy; exact M.o_pure rfl))
    refine M.o_for ls.length (fun i st=>st=i) ?_ ?_ rfl
    · rintro i s hi rfl
      simp only [zbw]
      exact M.o_t (by simpa using hi) (M.o_grd (by simpa using hi) (M.o_grd (by simpa using hi) (M.o_f (by simp) (M.o_pure rfl))))
    · rintro s rfl
      simp only [zbw]
      exact M.o_f (by simp) (M.o_pure rfl)
  obtain ⟨r,h,rfl⟩:=out
  exact h
theorem same_net (n:Int) (ls:List Line):(zaZ n ls n ls).Ends true:=by
  unfold zaZ
  refine M.i_bind (a:=true) (M.i_opt (fun _=>same_line ls) (fun h=>by simp at h)) ?_
  simp only [beq_self_eq_true,Bool.and_self]
  exact M.i_pure
theorem index_int {l:List Int} {f:Int->M Bool} {q:Int->Bool} (h:∀ x,x∈l->(f x).Ends (q x)):(zcN l f).Out (fun r=>decide (0<=r)=l.any q):=by
  unfold zcN
  refine M.o_bind (P:=fun y=>match y with | .inl r=>decide (0<=r)=l.any q | .inr _=>l.any q=false) ?_ (fun y hy=>by
    rcases y with y | y
    · exact M.o_pure hy
    · exact M.o_pure (by rw [hy]; rfl))
  refine M.o_for l.length (fun i s=>s=i/\(l.take i).any q=false) ?_ ?_ (s:=0) ⟨rfl,by simp⟩
  · rintro i s hi ⟨rfl,hJ⟩
    simp only [zbX]
    refine M.o_t (by simpa using hi) (M.o_grd (by simpa using hi) (M.o_bindE (h (l.getD s 0) (by rw [getD_el l hi]; exact List.getElem_mem hi)) (M.o_if (fun hb=>?_) (fun hb=>?_))))
    · refine M.o_pure ?_
      dsimp only
      rw [show l.any q=true from List.any_eq_true.2 ⟨_,by rw [getD_el l hi]; exact List.getElem_mem hi,hb⟩]
      exact decide_eq_true (by omega)
    · refine M.o_pure ⟨rfl,?_⟩
      rw [← take_succ_D l s hi 0,List.any_append,hJ]
      simp only [List.any_cons,List.any_nil,Bool.or_false,Bool.false_or]
      exact hb
  · rintro s ⟨rfl,hJ⟩
    simp only [zbX]
    rw [List.take_length] at hJ
    exact M.o_f (by simp) (M.o_pure hJ)
theorem every_int {l:List Int} {so:Int->M Bool} {p:Int->Bool} (h:∀ x,x∈l->(so x).Ends (p x)):(zcs l so).Ends (l.all p):=by
  unfold zcs zc7
  obtain ⟨r,h1,h2⟩:=index_int (l:=l) (f:=fun x=>zcn x so) (q:=fun x=>!(p x)) (fun x hx=>by unfold zcn; exact M.i_bind (h x hx) M.i_pure)
  refine M.i_bind (M.i_bind h1 M.i_pure) ?_
  rw [h2,List.any_eq_not_all_not]
  simp only [Bool.not_not]
  exact M.i_pure
theorem bnd_of {hs:List Int} (h:(hs.all fun h=>decide (-1000000000<=h)&&decide (h<=1000000000))=true) (i:Nat):-1000000000<=hs.getD i 0/\hs.getD i 0<=1000000000:=by
  by_cases hi:i<hs.length
  · have:=List.all_eq_true.1 h (hs.getD i 0) (by rw [getD_el hs hi]; exact List.getElem_mem hi)
    rw [Bool.and_eq_true,decide_eq_true_eq,decide_eq_true_eq] at this
    exact this
  · rw [List.getD_eq_getElem?_getD,List.getElem?_eq_none (by omega)]
    decide
theorem holds_ends (n:Int) (ls:List Line) (hs:List Int):(zcM n ls hs).Ends (hldE n ls hs):=by
  unfold zcM hldE
  refine M.i_bind (check_ends n ls) (M.i_if (fun hb=>by rw [hb]; exact M.i_pure) (fun hb=>?_))
  rw [hb]
  have hN:NetOk n ls:=chk_ok.1 (by simpa using hb)
  refine M.i_if (fun hb=>by rw [hb]; exact M.i_pure) (fun hb=>?_)
  rw [hb]
  have hlen:(hs.length:Int)=n:=by simpa using hb
  refine M.i_bind (every_int (p:=fun h=>decide (-1000000000<=h)&&decide (h<=1000000000)) fun x _=>by unfold zcR; exact M.i_bind (in_ends _ _ _) M.i_pure) (M.i_if (fun hb=>by rw [hb]; exact M.i_pure) (fun hb=>?_))
  rw [hb]
  have hbd:=bnd_of (hs:=hs) (by simpa using hb)
  have o:(M.iter (zbt ls hs) 0).Out (fun y=>(match y with | .inl s=>(s,(0:Int)) | .inr _=>(-1,0))=(idxP (fun l=>!(agL hs l)) ls,0)):=by
    refine M.o_for ls.length (fun i s=>s=i/\∀ y,y∈ls.take i->(!(agL hs y))=false) ?_ ?_ (s:=0) ⟨rfl,by simp⟩
    · rintro i s hi ⟨rfl,hJ⟩
      simp only [zbt]
      have hm:ls.getD s default∈ls:=by rw [getD_el ls hi]; exact List.getElem_mem hi
      have hr:=hN.rng _ hm
      have hri:=hN.rise _ hm
      have her:=hN.err _ hm
      have b1:=hbd (ls.getD s default).dst.toNat
      have b2:=hbd (ls.getD s default).src.toNat
      refine M.o_t (by simpa using hi) (M.o_grd (by simpa using hi) (M.o_bindE (a:=agL hs (ls.getD s default)) ?_ (M.o_if (fun hb=>?_) (fun hb=>?_))))
      · unfold zcW agL hOf
        exact M.i_grd (gA2 (by omega) (by omega)) (M.i_grd (gA2 (by omega) (by omega)) (M.i_grd (gA2 (by omega) (by omega)) (M.i_grd (gA2 (by omega) (by omega)) (M.i_grd (gA2 (by omega) (by omega)) (M.i_bind (in_ends _ _ _) M.i_pure)))))
      · refine M.o_pure ?_
        dsimp only
        rw [idx_yes (p:=fun l=>!(agL hs l)) (l:=ls) (k:=s) (d:=default) (by omega) (by rw [Int.toNat_natCast]; exact hb) hJ]
      · refine M.o_pure ⟨rfl,idx_step (d:=default) (by omega) hJ (by rw [Int.toNat_natCast]; exact hb)⟩
    · rintro s ⟨rfl,hJ⟩
      simp only [zbt]
      refine M.o_f (by simp) (M.o_pure ?_)
      dsimp only
      rw [← idx_no (p:=fun l=>!(agL hs l)) (l:=ls) (k:=ls.length) (by omega) hJ]
  obtain ⟨y,h1,h2⟩:=o
  refine M.i_bind h1 ?_
  rcases y with s | s
  · dsimp only at h2 ⊢
    rw [h2]
    exact M.i_pure
  · dsimp only at h2 ⊢
    rw [h2]
    exact M.i_pure
theorem ref_holds (n:Int) (ls:List Line) (hs:List Int) (hl:ls.length<=1000000):(zca n ls hs).Ends (hldE n ls hs):=by
  unfold zca hldE
  refine M.i_bind (ref_check n ls hl) (M.i_if (fun hb=>by rw [hb]; exact M.i_pure) (fun hb=>?_))
  rw [hb]
  have hN:NetOk n ls:=chk_ok.1 (by simpa using hb)
  refine M.i_if (fun hb=>by rw [hb]; exact M.i_pure) (fun hb=>?_)
  rw [hb]
  have hlen:(hs.length:Int)=n:=by simpa using hb
  have o1:(M.iter (zbg hs) 0).Out (fun y=>match y with | .inl _=>(hs.all fun h=>decide (-1000000000<=h)&&decide (h<=1000000000))=false | .inr _=>(hs.all fun h=>decide (-1000000000<=h)&&decide (h<=1000000000))=true):=by
    refine M.o_for hs.length (fun i s=>s=i/\((hs.take i).all fun h=>decide (-1000000000<=h)&&decide (h<=1000000000))=true) ?_ ?_ (s:=0) ⟨rfl,by simp⟩
    · rintro i s hi ⟨rfl,hJ⟩
      simp only [zbg]
      have hm:hs.getD s 0∈hs:=by rw [getD_el hs hi]; exact List.getElem_mem hi
      refine M.o_t (by simpa using hi) (M.o_grd (by simpa using hi) ?_)
      unfold zaa
      refine M.o_bindE M.i_pure (M.o_if (fun hb=>M.o_pure ?_) (fun hb=>M.o_pure ⟨rfl,?_⟩))
      · refine List.all_eq_false.2 ⟨_,hm,?_⟩
        simp only [Bool.or_eq_true,decide_eq_true_eq] at hb
        simp only [Bool.and_eq_true,decide_eq_true_eq]
        omega
      · rw [← take_succ_D hs s hi 0,List.all_append,hJ]
        simp only [Bool.or_eq_false_iff,decide_eq_false_iff_not] at hb
        simp only [List.all_cons,List.all_nil,Bool.and_true,Bool.true_and,Bool.and_eq_true,decide_eq_true_eq]
        omega
    · rintro s ⟨rfl,hJ⟩
      rw [List.take_length] at hJ
      simp only [zbg]
      exact M.o_f (by simp) (M.o_pure hJ)
  obtain ⟨y,h1,h2⟩:=o1
  refine M.i_bind h1 ?_
  rcases y with s | s
  · dsimp only at h2 ⊢
    rw [h2]
    exact M.i_pure
  · dsimp only at h2 ⊢
    rw [h2]
    have hbd:=bnd_of h2
    have o:(M.iter (zbn ls hs) 0).Out (fun y=>(match y with | .inl s=>(s,(0:Int)) | .inr _=>(-1,0))=(idxP (fun l=>!(agL hs l)) ls,0)):=by
      refine M.o_for ls.length (fun i s=>s=i/\∀ y,y∈ls.take i->(!(agL hs y))=false) ?_ ?_ (s:=0) ⟨rfl,by simp⟩
      · rintro i s hi ⟨rfl,hJ⟩
        simp only [zbn]
        have hm:ls.getD s default∈ls:=by rw [getD_el ls hi]; exact List.getElem_mem hi
        have hr:=hN.rng _ hm
        have hri:=hN.rise _ hm
        have her:=hN.err _ hm
        have b1:=hbd (ls.getD s default).dst.toNat
        have b2:=hbd (ls.getD s default).src.toNat
        refine M.o_t (by simpa using hi) (M.o_grd (by simpa using hi) (M.o_grd (gA2 (by omega) (by omega)) (M.o_grd (gA2 (by omega) (by omega)) (M.o_grd (gA2 (by omega) (by omega)) (M.o_grd (gA2 (by omega) (by omega)) (M.o_grd (gOr2 (by omega) (by omega)) (M.o_if (fun hb=>?_) (fun hb=>?_))))))))
        · simp only [Bool.or_eq_true,decide_eq_true_eq] at hb
          refine M.o_pure ?_
          dsimp only
          rw [idx_yes (p:=fun l=>!(agL hs l)) (l:=ls) (k:=s) (d:=default) (by omega) (by
            rw [Int.toNat_natCast]
            unfold agL hOf
            rw [Bool.not_eq_true',Bool.and_eq_false_iff,decide_eq_false_iff_not,decide_eq_false_iff_not]
            omega) hJ]
        · simp only [Bool.or_eq_false_iff,decide_eq_false_iff_not] at hb
          refine M.o_pure ⟨rfl,idx_step (d:=default) (by omega) hJ (by
            rw [Int.toNat_natCast]
            unfold agL hOf
            rw [Bool.not_eq_false',Bool.and_eq_true,decide_eq_true_eq,decide_eq_true_eq]
            omega)⟩
      · rintro s ⟨rfl,hJ⟩
        simp only [zbn]
        refine M.o_f (by simp) (M.o_pure ?_)
        dsimp only
        rw [← idx_no (p:=fun l=>!(agL hs l)) (l:=ls) (k:=ls.length) (by omega) hJ]
    obtain ⟨y,h3,h4⟩:=o
    refine M.i_bind h3 ?_
    rcases y with s | s
    · dsimp only at h4 ⊢
      rw [h4]
      exact M.i_pure
    · dsimp only at h4 ⊢
      rw [h4]
      exact M.i_pure
theorem opened_bad (h:chkE n ls ≠ 0):(zao n ls).Ends (.inl (chkE n ls)):=by
  unfold zao
  exact M.i_bind (check_ends n ls) (M.i_t (by rw [bne_iff_ne]; exact h) M.i_pure)
theorem heights_bad (h:chkE n ls ≠ 0):(zbe n ls).Ends ([],chkE n ls):=by
  unfold zbe zaR
  exact M.i_bind (M.i_bind (opened_bad h) (M.i_f (by rw [beq_eq_false_iff_ne]; exact h) M.i_pure)) (M.i_t (by rw [bne_iff_ne]; exact h) M.i_pure)
/-- Both say the same of a net. -/
theorem agrees_both (hl:ls.length<=1000000):∃ b e,(zaY n ls).Ends (b,e)/\(zbj n ls).Ends (b,e)/\(chkE n ls ≠ 0->b=false/\e=chkE n ls)/\(chkE n ls=0->e=0/\(b=true↔Agr ls)):=by
  by_cases h:chkE n ls=0
  · have hN:=chk_ok.1 h
    obtain ⟨⟨b,e⟩,h1,h2,h3⟩:=agrees_out hN
    obtain ⟨b',h4,h5⟩:=ref_agrees hN
    dsimp only at h2 h3
    subst h2
    have:b'=b:=by
      rw [Bool.eq_iff_iff,h5,h3]
    subst this
    refine ⟨b',0,h1,?_,fun h'=>absurd h h',fun _=>⟨rfl,h3⟩⟩
    unfold zbj
    refine M.i_bind (ref_check n ls hl) ?_
    rw [h]
    exact M.i_f rfl (M.i_bind h4 M.i_pure)
  · refine ⟨false,chkE n ls,?_,?_,fun _=>⟨rfl,rfl⟩,fun h'=>absurd h' h⟩
    · unfold zaY
      exact M.i_bind (opened_bad h) (M.i_t (by rw [bne_iff_ne]; exact h) M.i_pure)
    · unfold zbj
      exact M.i_bind (ref_check n ls hl) (M.i_t (by rw [bne_iff_ne]; exact h) M.i_pure)
theorem zcH (n:Int) (ls:List Line) (hs:List Int):(zaP n ls hs).Ends true:=by
  unfold zaP
  refine M.i_if (fun _=>M.i_bind awake_ends M.i_pure) (fun hb=>?_)
  simp only [Bool.or_eq_false_iff,decide_eq_false_iff_not] at hb
  have hl:ls.length<=1000000:=by omega
  have hh:hs.length<=1000000:=by omega
  obtain ⟨b,e,a1,a2,a3,a4⟩:=agrees_both (n:=n) hl
  have j0:(zbk n ls hs n ls hs).Ends true:=by
    unfold zbk
    exact M.i_bind (same_net n ls) (M.i_bind (M.i_opt (fun _=>same_int hs) (fun h=>by cases h)) (M.i_bind (M.i_opt (fun _=>awake_ends) (fun h=>by cases h)) M.i_pure))
  refine M.i_bind (copy_net hl n) (M.i_bind (copy_int hh) (M.i_bind (check_ends n ls) (M.i_bind (net_ends n hl) (M.i_bind (ref_check n ls hl) (M.i_f (by simp) ?_)))))
  refine M.i_bind a1 (M.i_bind (net_ends n hl) (M.i_bind a2 (M.i_f (by simp) ?_)))
  refine M.i_bind (holds_ends n ls hs) (M.i_bind (net_ends n hl) (M.i_bind (ref_holds n ls hs hl) (M.i_f (by simp) ?_)))
  by_cases h:chkE n ls=0
  · obtain ⟨rfl,hA⟩:=a4 h
    have hN:=chk_ok.1 h
    obtain ⟨⟨l,e⟩,h1,h2,h3⟩:=heights_out hN
    by_cases hAg:Agr ls
    · have:=hA.2 hAg
      subst this
      obtain ⟨rfl,ht⟩:=h3 hAg
      dsimp only at ht
      refine M.i_f rfl ?_
      unfold zaW
      have hm:=hN.marks
      have hlen:=ht.len
      refine M.i_bind h1 (M.i_f rfl (M.i_t rfl (M.i_bind (net_ends n hl) (M.i_bind (ref_holds n ls l hl) ?_))))
      have hbd:(l.all fun h=>decide (-1000000000<=h)&&decide (h<=1000000000))=true:=by
        refine List.all_eq_true.2 fun x hx=>?_
        obtain ⟨i,hi,rfl⟩:=mem_getD hx 0
        have:=ht.bnd (i:Int) (by omega) (by omega)
        unfold hOf at this
        rw [Int.toNat_natCast] at this
        exact gA2 (by omega) (by omega)
      have hi:idxP (fun x=>!(agL l x)) ls = -1:=by
        refine (idx_no (k:=ls.length) (by omega) fun y hy=>?_).symm
        rw [List.take_length] at hy
        have:=ht.feas y hy
        unfold agL
        rw [Bool.not_eq_false',Bool.and_eq_true,decide_eq_true_eq,decide_eq_true_eq]
        exact this
      have hv:hldE n ls l=(-1,0):=by
        unfold hldE
        rw [h,hlen,hbd,hi]
        simp
      rw [hv]
      dsimp only
      refine M.i_grd (by rw [decide_eq_true (show 0<(l.length:Int) by omega),Bool.or_true]) (M.i_f ?_ j0)
      rw [ht.zero,beq_eq_false_iff_ne.2 (show (l.length:Int) ≠ 0 by omega)]
      rfl
    · have:b=false:=by
        cases b with
        | false=>rfl
        | true=>exact absurd (hA.1 rfl) hAg
      subst this
      have:=h2 hAg
      simp only [Prod.mk.injEq] at this
      obtain ⟨rfl,rfl⟩:=this
      refine M.i_t rfl ?_
      unfold zaW
      exact M.i_bind h1 (M.i_f (by decide) (M.i_f (by decide) j0))
  · obtain ⟨rfl,rfl⟩:=a3 h
    refine M.i_f (by rw [beq_eq_false_iff_ne.2 h]; rfl) ?_
    unfold zaW
    refine M.i_bind (heights_bad h) (M.i_f (by simp) (M.i_f (by rw [beq_eq_false_iff_ne]; exact h) j0))
end Go.Proofs.YtfdgkdkfbaghpaaGreat
-- libL/DS.lean
namespace Go.Nm
variable {ls:List Line} {n f:Int}
/-- So many last legs back. -/
def bk (ls:List Line) (B:Int->Leg):Nat->Int->Int
  | 0,v=>v
  | k+1,v=>bk ls B k (sOf ls (B v))
def bs (ls:List Line) (B:Int->Leg):Nat->Int->Int
  | 0,_=>0
  | k+1,v=>rOf ls (B v)+bs ls B k (sOf ls (B v))
theorem bk_add (B:Int->Leg):∀ (i k:Nat) (v:Int),bk ls B (i+k) v=bk ls B k (bk ls B i v)
  | 0,k,v=>by rw [Nat.zero_add]; rfl
  | i+1,k,v=>by rw [show i+1+k=(i+k)+1 by omega]; exact bk_add B i k _
theorem bs_add (B:Int->Leg):∀ (i k:Nat) (v:Int),bs ls B (i+k) v=bs ls B i v+bs ls B k (bk ls B i v)
  | 0,k,v=>by rw [Nat.zero_add]; show _=0+bs ls B k v; omega
  | i+1,k,v=>by
    rw [show i+1+k=(i+k)+1 by omega]
    show rOf ls (B v)+bs ls B (i+k) (sOf ls (B v))=(rOf ls (B v)+bs ls B i (sOf ls (B v)))+bs ls B k (bk ls B i (sOf ls (B v)))
    rw [bs_add B i k]
    omega
theorem bk_succ (B:Int->Leg) (i:Nat) (v:Int):bk ls B (i+1) v=sOf ls (B (bk ls B i v)):=by rw [bk_add]; rfl
/-- The state of the rounds: q tells in which round a mark sank last. -/
structure Sk (ls:List Line) (n f:Int) (R:Int->Int) (B:Int->Leg) (H:Int->Prop) (q:Int->Nat):Prop where
  root:H f
  leg:∀ v,0<q v->H v/\LegOk ls (B v)/\gOf ls (B v)=v/\H (sOf ls (B v))/\R (sOf ls (B v))+rOf ls (B v)<=R v/\q v<=q (sOf ls (B v))+1
  un:∀ v,H v->q v=0->v=f
  ring:∀ (k:Nat) (v:Int),0<k->(∀ i,i<k->0<q (bk ls B i v))->bk ls B k v=v->bs ls B k v<0
theorem Sk.path {R:Int->Int} {B:Int->Leg} {H:Int->Prop} {q:Int->Nat} (h:Sk ls n f R B H q):∀ (k:Nat) (v:Int),(∀ i,i<k->0<q (bk ls B i v))->R (bk ls B k v)+bs ls B k v<=R v
  | 0,v,_=>by show R v+0<=R v; omega
  | k+1,v,hq=>by
    have h1:=(h.leg v (hq 0 (by omega))).2.2.2.2.1
    have h2:=h.path k (sOf ls (B v)) fun i hi=>hq (i+1) (by omega)
    show R (bk ls B k (sOf ls (B v)))+(rOf ls (B v)+bs ls B k (sOf ls (B v)))<=R v
    omega
section
variable {R:Int->Int} {B:Int->Leg} {H:Int->Prop} {q:Int->Nat} {g:Leg} {r:Nat}
def upF {α:Type} (F:Int->α) (v:Int) (x:α) (w:Int):α:=if w=v then x else F w
theorem upF_at {α:Type} (F:Int->α) (v:Int) (x:α):upF F v x v=x:=if_pos rfl
theorem upF_no {α:Type} (F:Int->α) {v w:Int} (x:α) (h:w ≠ v):upF F v x w=F w:=if_neg h
/-- As long as the changed mark is not met the way back is the old one. -/
theorem bk_up (v:Int):∀ (k:Nat) (w:Int),(∀ i,i<k->bk ls (upF B v g) i w ≠ v)->bk ls (upF B v g) k w=bk ls B k w/\bs ls (upF B v g) k w=bs ls B k w
  | 0,_,_=>⟨rfl,rfl⟩
  | k+1,w,h=>by
    have e:upF B v g w=B w:=upF_no _ _ (h 0 (by omega))
    obtain ⟨h1,h2⟩:=bk_up v k (sOf ls (B w)) fun i hi=>by
      have:=h (i+1) (by omega)
      show bk ls (upF B v g) i (sOf ls (B w)) ≠ v
      rw [← e]
      exact this
    constructor
    · show bk ls (upF B v g) k (sOf ls (upF B v g w))=bk ls B k (sOf ls (B w))
      rw [e]; exact h1
    · show rOf ls (upF B v g w)+bs ls (upF B v g) k (sOf ls (upF B v g w))=rOf ls (B w)+bs ls B k (sOf ls (B w))
      rw [e,h2]
theorem Sk.sink (h:Sk ls n f R B H q) (hg:LegOk ls g) (hne:sOf ls g ≠ gOf ls g) (hm:H (sOf ls g)) (hlt:¬ H (gOf ls g)∨R (sOf ls g)+rOf ls g<R (gOf ls g)) (hr:1<=r) (hq:r<=q (sOf ls g)+1) (hmax:∀ v,q v<=r) :
    Sk ls n f (upF R (gOf ls g) (R (sOf ls g)+rOf ls g)) (upF B (gOf ls g) g) (fun w=>H w∨w=gOf ls g) (upF q (gOf ls g) r):=by
  generalize hv:gOf ls g=v at *
  generalize hs:sOf ls g=m at *
  have q':∀ w,q w<=upF q v r w:=fun w=>by
    unfold upF
    split
    · rename_i e; rw [e]; exact hmax v
    · exact Nat.le_refl _
  have qpos:∀ w,w ≠ v->0<upF q v r w->0<q w:=fun w hw h=>by rwa [upF_no _ _ hw] at h
  have Rle:H v->∀ w,upF R v (R m+rOf ls g) w<=R w:=fun hv w=>by
    unfold upF
    split
    · rename_i e
      rcases hlt with h | h
      · exact absurd hv h
      · rw [e]; omega
    · exact Int.le_refl _
  refine ⟨.inl h.root,fun w hw=>?_,fun w hw h0=>?_,?_⟩
  · by_cases e:w=v
    · subst e
      rw [upF_at,upF_at,upF_at,hs,upF_no _ _ hne,upF_no _ _ hne]
      exact ⟨.inr rfl,hg,hv,.inl hm,Int.le_refl _,hq⟩
    · obtain ⟨a1,a2,a3,a4,a5,a6⟩:=h.leg w (qpos w e hw)
      rw [upF_no _ _ e,upF_no _ _ e,upF_no _ _ e]
      refine ⟨.inl a1,a2,a3,.inl a4,?_,Nat.le_trans a6 (Nat.succ_le_succ (q' _))⟩
      by_cases e2:sOf ls (B w)=v
      · have:=Rle (e2 ▸ a4) (sOf ls (B w))
        omega
      · rw [upF_no _ _ e2]; exact a5
  · by_cases e:w=v
    · subst e; rw [upF_at] at h0; omega
    · rw [upF_no _ _ e] at h0
      rcases hw with hw | hw
      · exact h.un w hw h0
      · exact absurd hw e
  · -- rings through the mark that sinks
    have thru:∀ (k:Nat),0<k->(∀ i,i<k->0<upF q v r (bk ls (upF B v g) i v))->bk ls (upF B v g) k v=v->bs ls (upF B v g) k v<0:=by
      intro k
      induction k using Nat.strongRecOn with
      | _ k ih =>
        intro hk hqs hb
        have first:∃ j,(0<j/\bk ls (upF B v g) j v=v)/\∀ i,(0<i/\bk ls (upF B v g) i v=v)->j<=i:=least_nat ⟨k,hk,hb⟩
        obtain ⟨j,⟨j0,j1⟩,j2⟩:=first
        have jk:=j2 k ⟨hk,hb⟩
        obtain ⟨i,rfl⟩:∃ i,j=i+1:=⟨j-1,by omega⟩
        have e0:sOf ls (upF B v g v)=m:=by rw [upF_at,hs]
        have e1:bk ls (upF B v g) (i+1) v=bk ls (upF B v g) i m:=by show bk ls (upF B v g) i (sOf ls (upF B v g v))=_; rw [e0]
        have e2:bs ls (upF B v g) (i+1) v=rOf ls g+bs ls (upF B v g) i m:=by show rOf ls (upF B v g v)+bs ls (upF B v g) i (sOf ls (upF B v g v))=_; rw [e0,upF_at]
        have nv:∀ x,x<i->bk ls (upF B v g) x m ≠ v:=fun x hx hx2=>by
          have:bk ls (upF B v g) (x+1) v=v:=by show bk ls (upF B v g) x (sOf ls (upF B v g v))=v; rw [e0]; exact hx2
          have:=j2 (x+1) ⟨by omega,this⟩
          omega
        obtain ⟨b1,b2⟩:=bk_up (ls:=ls) (B:=B) (g:=g) v i m nv
        have old:∀ x,x<i->0<q (bk ls B x m):=fun x hx=>by
          obtain ⟨c1,_⟩:=bk_up (ls:=ls) (B:=B) (g:=g) v x m fun y hy=>nv y (by omega)
          have hp:=hqs (x+1) (by omega)
          have e3:bk ls (upF B v g) (x+1) v=bk ls (upF B v g) x m:=by show bk ls (upF B v g) x (sOf ls (upF B v g v))=_; rw [e0]
          rw [e3,upF_no _ _ (nv x hx),c1] at hp
          exact hp
        have back:bk ls B i m=v:=by rw [← b1,← e1]; exact j1
        have hHv:H v:=by
          cases i with
          | zero=>exact absurd back hne
          | succ i =>
            rw [bk_succ] at back
            rw [← back]
            exact (h.leg _ (old i (by omega))).2.2.2.1
        have hlt':R m+rOf ls g<R v:=by
          rcases hlt with h | h
          · exact absurd hHv h
          · exact h
        have hp:=h.path i m old
        rw [back] at hp
        have neg:bs ls (upF B v g) (i+1) v<0:=by rw [e2,b2]; omega
        by_cases ek:i+1=k
        · rw [← ek]; exact neg
        · obtain ⟨d,rfl⟩:∃ d,k=(i+1)+d:=⟨k-(i+1),by omega⟩
          rw [bs_add,j1]
          rw [bk_add,j1] at hb
          have:=ih d (by omega) (by omega) (fun x hx=>by
            have:=hqs ((i+1)+x) (by omega)
            rwa [bk_add,j1] at this) hb
          omega
    intro k w hk hqs hb
    by_cases c:∃ i,i<k/\bk ls (upF B v g) i w=v
    · obtain ⟨i,hi,e⟩:=c
      obtain ⟨d,rfl⟩:∃ d,k=i+d:=⟨k-i,by omega⟩
      rw [bk_add,e] at hb
      have e1:bs ls (upF B v g) (i+d) w=bs ls (upF B v g) (d+i) v:=by
        rw [bs_add,e,bs_add,hb]
        omega
      rw [e1]
      refine thru (d+i) (by omega) (fun x hx=>?_) ?_
      · by_cases hx2:x<d
        · have:=hqs (i+x) (by omega)
          rwa [bk_add,e] at this
        · obtain ⟨y,rfl⟩:∃ y,x=d+y:=⟨x-d,by omega⟩
          rw [bk_add,hb]
          exact hqs y (by omega)
      · rw [bk_add,hb,e]
    · have nv:∀ i,i<k->bk ls (upF B v g) i w ≠ v:=fun i hi e=>c ⟨i,hi,e⟩
      obtain ⟨b1,b2⟩:=bk_up (ls:=ls) (B:=B) (g:=g) v k w nv
      rw [b2]
      rw [b1] at hb
      refine h.ring k w hk (fun i hi=>?_) hb
      obtain ⟨c1,_⟩:=bk_up (ls:=ls) (B:=B) (g:=g) v i w fun y hy=>nv y (by omega)
      have:=hqs i hi
      rw [upF_no _ _ (nv i hi),c1] at this
      exact this
end
end Go.Nm
-- libL/DS2.lean
namespace Go.Nm
variable {ls:List Line} {n f:Int}
/-- A leg that lets nothing sink. -/
def Fin (ls:List Line) (R:Int->Int) (H:Int->Prop) (g:Leg):Prop:=H (gOf ls g)/\R (gOf ls g)<=R (sOf ls g)+rOf ls g
/-- Round r, in which the marks before c were gone through. -/
structure Rk (ls:List Line) (n f:Int) (r c:Nat) (K:Int) (R:Int->Int) (B:Int->Leg) (H:Int->Prop) (q:Int->Nat) (at_:Int):Prop where
  sk:Sk ls n f R B H q
  dom:∀ v,H v->0<=v/\v<n
  qd:∀ v,0<q v->H v
  qm:∀ v,q v<=r
  old:∀ m,H m->q m+1<r->∀ g,LegOk ls g->sOf ls g=m->Fin ls R H g
  now:∀ m,H m->m<c->q m<r->∀ g,LegOk ls g->sOf ls g=m->Fin ls R H g
  no:at_ = -1->∀ v,q v<r
  yes:at_ ≠ -1->q at_=r
  lo:∀ v,-K<=R v/\R v<=K
theorem Fin.up {R:Int->Int} {H:Int->Prop} {g g':Leg} (h:Fin ls R H g') (hlt:¬ H (gOf ls g)∨R (sOf ls g)+rOf ls g<R (gOf ls g)) (hm:sOf ls g' ≠ gOf ls g) :
    Fin ls (upF R (gOf ls g) (R (sOf ls g)+rOf ls g)) (fun w=>H w∨w=gOf ls g) g':=by
  refine ⟨.inl h.1,?_⟩
  rw [upF_no R _ hm]
  by_cases e:gOf ls g'=gOf ls g
  · rw [e,upF_at]
    have h1:=h.2
    have h2:=h.1
    rw [e] at h1 h2
    rcases hlt with h3 | h3
    · exact absurd h2 h3
    · omega
  · rw [upF_no R _ e]
    exact h.2
theorem Rk.sink {r c:Nat} {K:Int} {R:Int->Int} {B:Int->Leg} {H:Int->Prop} {q:Int->Nat} {at_:Int} (hN:NetOk n ls) (h:Rk ls n f r c K R B H q at_) {g:Leg} (hg:LegOk ls g) (hr:1<=r) (hm:H (sOf ls g)) (hlt:¬ H (gOf ls g)∨R (sOf ls g)+rOf ls g<R (gOf ls g)) :
    Rk ls n f r c (K+1010000) (upF R (gOf ls g) (R (sOf ls g)+rOf ls g)) (upF B (gOf ls g) g) (fun w=>H w∨w=gOf ls g) (upF q (gOf ls g) r) (gOf ls g):=by
  have hrg:=hg.ed.rng hN.rng
  have hne:sOf ls g ≠ gOf ls g:=fun e=>by
    have h1:=hN.ne _ hg.mem
    unfold sOf gOf legEnd at e
    cases hb:g.back <;> rw [hb] at e <;> simp at e <;> omega
  have hq:r<=q (sOf ls g)+1:=Classical.byContradiction fun hc=>by
    have:=h.old _ hm (by omega) g hg rfl
    rcases hlt with h1 | h1
    · exact h1 this.1
    · have:=this.2; omega
  have hb:=hN.ed _ _ _ hg.ed
  have hv0:H (gOf ls g)∨q (gOf ls g)=0:=by
    rcases Nat.eq_zero_or_pos (q (gOf ls g)) with z | z
    · exact .inr z
    · exact .inl (h.qd _ z)
  refine ⟨h.sk.sink hg hne hm hlt hr hq h.qm,fun w hw=>?_,fun w hw=>?_,fun w=>?_,fun m hH hqm g' hg' hs=>?_,fun m hH hc hqm g' hg' hs=>?_,fun e=>?_,fun _=>upF_at _ _ _,fun w=>?_⟩
  · rcases hw with hw | rfl
    · exact h.dom w hw
    · exact hrg.2
  · by_cases e:w=gOf ls g
    · exact .inr e
    · rw [upF_no _ _ e] at hw; exact .inl (h.qd w hw)
  · by_cases e:w=gOf ls g
    · rw [e,upF_at]; exact Nat.le_refl _
    · rw [upF_no _ _ e]; exact h.qm w
  · by_cases e:m=gOf ls g
    · rw [e,upF_at] at hqm; omega
    · rw [upF_no _ _ e] at hqm
      rcases hH with hH | hH
      · exact (h.old m hH hqm g' hg' hs).up hlt (by rw [hs]; exact e)
      · exact absurd hH e
  · by_cases e:m=gOf ls g
    · rw [e,upF_at] at hqm; omega
    · rw [upF_no _ _ e] at hqm
      rcases hH with hH | hH
      · exact (h.now m hH hc hqm g' hg' hs).up hlt (by rw [hs]; exact e)
      · exact absurd hH e
  · omega
  · have h1:=h.lo (sOf ls g)
    have h2:=h.lo w
    by_cases e:w=gOf ls g
    · rw [e,upF_at]; omega
    · rw [upF_no _ _ e]; omega
theorem Rk.keep {r c:Nat} {K K':Int} {R:Int->Int} {B:Int->Leg} {H:Int->Prop} {q:Int->Nat} {at_:Int} (h:Rk ls n f r c K R B H q at_) (hK:K<=K'):Rk ls n f r c K' R B H q at_ :=
  ⟨h.sk,h.dom,h.qd,h.qm,h.old,h.now,h.no,h.yes,fun v=>by have:=h.lo v; omega⟩
/-- A mark was gone through. -/
theorem Rk.mark {r c:Nat} {K:Int} {R:Int->Int} {B:Int->Leg} {H:Int->Prop} {q:Int->Nat} {at_:Int} (h:Rk ls n f r c K R B H q at_) (hl:H c->∀ g,LegOk ls g->sOf ls g=c->Fin ls R H g):Rk ls n f r (c+1) K R B H q at_ :=
  ⟨h.sk,h.dom,h.qd,h.qm,h.old,fun m hm hc hq g hg hs=>by
    by_cases e:m=c
    · rw [e] at hm hs
      exact hl hm g hg hs
    · exact h.now m hm (by omega) hq g hg hs,h.no,h.yes,h.lo⟩
/-- A round is over. -/
theorem Rk.round {r N:Nat} {K:Int} {R:Int->Int} {B:Int->Leg} {H:Int->Prop} {q:Int->Nat} {at_:Int} (e:(N:Int)=n) (h:Rk ls n f r N K R B H q at_):Rk ls n f (r+1) 0 K R B H q (-1) :=
  ⟨h.sk,h.dom,h.qd,fun v=>Nat.le_succ_of_le (h.qm v),fun m hm hq g hg hs=>h.now m hm (by have:=h.dom m hm; omega) (by omega) g hg hs,fun m hm hc=>by have:=h.dom m hm; omega,fun _ v=>Nat.lt_succ_of_le (h.qm v),fun h'=>absurd rfl h',h.lo⟩
theorem Rk.start {n f:Int} (hf:0<=f/\f<n) (B:Int->Leg):Rk ls n f 1 0 0 (fun _=>0) B (fun v=>v=f) (fun _=>0) (-1) where
  sk:=⟨rfl,fun v h=>by omega,fun v h _=>h,fun k v hk h=>by have:=h 0 hk; omega⟩
  dom v h:=by rw [h]; exact hf
  qd v h:=by omega
  qm v:=by omega
  old m _ h:=by omega
  now m h hc:=by omega
  no _ v:=by omega
  yes h:=absurd rfl h
  lo v:=by omega
/-- Behind a round in which nothing sank the rises are heights. -/
theorem Rk.still {r N:Nat} {K:Int} {R:Int->Int} {B:Int->Leg} {H:Int->Prop} {q:Int->Nat} (e:(N:Int)=n) (h:Rk ls n f r N K R B H q (-1)):∀ g,LegOk ls g->H (sOf ls g)->Fin ls R H g :=
  fun g hg hm=>h.now _ hm (by have:=h.dom _ hm; omega) (h.no rfl _) g hg rfl
/-- Behind so many rounds one can go back N legs from a mark that sank in the last one. -/
theorem Rk.back {r N:Nat} {K:Int} {R:Int->Int} {B:Int->Leg} {H:Int->Prop} {q:Int->Nat} {at_:Int} (h:Rk ls n f r N K R B H q at_) (ha:at_ ≠ -1) (hr:N+1<=r):∀ i,i<=N->r<=q (bk ls B i at_)+i:=by
  intro i
  induction i with
  | zero=>intro _; have:=h.yes ha; show r<=q at_+0; omega
  | succ i ih =>
    intro hi
    have h1:=ih (by omega)
    have h2:=(h.sk.leg (bk ls B i at_) (by omega)).2.2.2.2.2
    rw [bk_succ]
    omega
end Go.Nm
-- libL/LFB.lean
namespace Go.Nm
variable {ls:List Line} {N:Nat}
/-- What the table says when all marks were gone through, of a net that agrees. -/
structure TabOk (N:Nat) (ls:List Line) (l:List (List Int)):Prop where
  sq:Sq N l
  far:∀ x y:Nat,x<N->y<N->¬ Tied ls x y->tb l x y=1000000000000
  near:∀ x y:Nat,x<N->y<N->Tied ls x y->tb l x y<1000000000000/\IsDist ls x y (tb l x y)
theorem Rd3.tab {T0:Nat->Nat->Int} {l:List (List Int)} (hN:NetOk N ls) (hI:Ini N ls T0) (h:Rd3 N ls T0 N 0 0 l) (hA:Agr ls):TabOk N ls l:=by
  have hm:=hN.marks
  obtain ⟨f,hF⟩:=hA
  have nn:∀ x,x<N->0<=tb l x x:=fun x hx=>by
    have h1:=h.dg x hx
    have:=h.sd f hF x x hx hx (by omega)
    omega
  rcases h.go with ⟨x,hx,hn⟩ | ⟨T,hT,-,hE⟩
  · have:=nn x hx; omega
  · have hE':∀ x y,x<N->y<N->tb l x y=T x y:=fun x y hx hy=>by rw [hE x y hx hy,if_neg (by omega)]
    have step:∀ x:Nat,x<N->∀ {vs:List Int} {c:Int},Wk ls x vs c->c<=1010000*(vs.length:Int)-1010000/\(vs.length<=1000->∀ y:Nat,vs.head?=some (y:Int)->y<N->T x y<=c):=by
      intro x hx vs c w
      refine ⟨(w.size hN.ed).2,?_⟩
      induction w with
      | one =>
        intro _ y hy _
        simp only [List.head?_cons,Option.some.injEq] at hy
        have:y=x:=by omega
        rw [this,← hE' x x hx hx]
        exact h.dg x hx
      | @snoc m b vs c e w he ih =>
        intro hlen y hy hyN
        simp only [List.head?_cons,Option.some.injEq] at hy
        subst hy
        have hr:=he.rng hN.rng
        obtain ⟨m,rfl⟩:∃ k:Nat,m=k:=⟨m.toNat,by omega⟩
        have hmN:m<N:=by omega
        rw [List.length_cons] at hlen
        have i1:=ih (by omega) m rfl hmN
        have i2:=(w.size hN.ed).2
        have i3:=hT.le m y hmN hyN
        have i4:=hI.le m y e hmN hyN he
        have i5:=hN.ed _ _ _ he
        have:=hT.cl x y m hx hyN hmN hmN (by omega) (by omega)
        omega
    refine ⟨h.sq,fun x y hx hy ht=>?_,fun x y hx hy ht=>?_⟩
    · have:=(h.lo x y hx hy).2
      exact Classical.byContradiction fun hc=>ht (h.td x y hx hy (by omega))
    · obtain ⟨d,hD⟩:=dist_ex hF ht
      obtain ⟨vs,w⟩:=hD.has
      obtain ⟨vs',c',w',h1,-,h2⟩:=w.few (n:=N) hF hN.rng (by omega)
      obtain ⟨s1,s2⟩:=step x hx w'
      have h3:=hD.le _ _ w'
      have h4:=s2 (by rw [List.length_cons]; omega) y rfl hy
      rw [List.length_cons] at s1
      have lt:tb l x y<1000000000000:=by rw [hE' x y hx hy]; omega
      obtain ⟨g,hG,e⟩:=dist_cert ⟨f,hF⟩ hD
      have h5:=h.sd g hG x y hx hy lt
      have:tb l x y=d:=by rw [hE' x y hx hy] at h5 ⊢; omega
      exact ⟨lt,by rw [this]; exact hD⟩
end Go.Nm
-- libL/LWB.lean
namespace Go.Nm
variable {ls:List Line} {n:Int}
/-- Where a walk ends, and what it can rise. -/
def rsW (ls:List Line):Int->Int->List Leg->Option (Int × Int)
  | last,sum,[]=>some (last,sum)
  | last,sum,g :: gs=>if sOf ls g=last then rsW ls (gOf ls g) (sum+rOf ls g) gs else none
theorem rsW_cons (l s:Int) (g:Leg) (gs:List Leg):rsW ls l s (g :: gs)=if sOf ls g=l then rsW ls (gOf ls g) (s+rOf ls g) gs else none:=rfl
def legB (ls:List Line) (g:Leg):Bool:=decide (0<=g.line)&&decide (g.line<=(ls.length:Int)-1)
def rsE (n:Int) (ls:List Line) (walk:List Leg):Int × Int × Int × Int :=
  bif chkE n ls != 0 then (0,0,0,chkE n ls) else bif !(decide (1<=(walk.length:Int))&&decide ((walk.length:Int)<=60)) then (0,0,0,3) else bif !(walk.all (legB ls)) then (0,0,0,2) else
  match rsW ls (sOf ls (walk.getD 0 default)) 0 walk with
  | none=>(0,0,0,9)
  | some (l,s)=>(sOf ls (walk.getD 0 default),l,s,0)
theorem legB_ok {walk:List Leg} (h:walk.all (legB ls)=true) {i:Nat} (hi:i<walk.length):LegOk ls (walk.getD i default):=by
  have:=List.all_eq_true.1 h (walk.getD i default) (by rw [getD_el walk hi]; exact List.getElem_mem hi)
  unfold legB at this
  rw [Bool.and_eq_true,decide_eq_true_eq,decide_eq_true_eq] at this
  exact ⟨this.1,by omega⟩
theorem drop_D {α:Type} (l:List α) {i:Nat} (h:i<l.length) (d:α):l.drop i=l.getD i d :: l.drop (i+1):=by
  rw [List.drop_eq_getElem_cons h,getD_el l h]
end Go.Nm
namespace Go.Proofs.YtfdgkdkfbaghpaaGreat
open Go Go.Nm
variable {ls:List Line} {n:Int}
theorem index_leg {l:List Leg} {f:Leg->M Bool} {q:Leg->Bool} (h:∀ x,x∈l->(f x).Ends (q x)):(zct l f).Out (fun r=>decide (0<=r)=l.any q):=by
  unfold zct
  refine M.o_bind (P:=fun y=>match y with | .inl r=>decide (0<=r)=l.any q | .inr _=>l.any q=false) ?_ (fun y hy=>by
    rcases y with y | y
    · exact M.o_pure hy
    · exact M.o_pure (by rw [hy]; rfl))
  refine M.o_for l.length (fun i s=>s=i/\(l.take i).any q=false) ?_ ?_ (s:=0) ⟨rfl,by simp⟩
  · rintro i s hi ⟨rfl,hJ⟩
    simp only [zbu]
    refine M.o_t (by simpa using hi) (M.o_grd (by simpa using hi) (M.o_bindE (h (l.getD s default) (by rw [getD_el l hi]; exact List.getElem_mem hi)) (M.o_if (fun hb=>?_) (fun hb=>?_))))
    · refine M.o_pure ?_
      dsimp only
      rw [show l.any q=true from List.any_eq_true.2 ⟨_,by rw [getD_el l hi]; exact List.getElem_mem hi,hb⟩]
      exact decide_eq_true (by omega)
    · refine M.o_pure ⟨rfl,?_⟩
      rw [← take_succ_D l s hi default,List.any_append,hJ]
      simp only [List.any_cons,List.any_nil,Bool.or_false,Bool.false_or]
      exact hb
  · rintro s ⟨rfl,hJ⟩
    simp only [zbu]
    rw [List.take_length] at hJ
    exact M.o_f (by simp) (M.o_pure hJ)
theorem every_leg {l:List Leg} {so:Leg->M Bool} {p:Leg->Bool} (h:∀ x,x∈l->(so x).Ends (p x)):(zcG l so).Ends (l.all p):=by
  unfold zcG zc4
  obtain ⟨r,h1,h2⟩:=index_leg (l:=l) (f:=fun x=>zci x so) (q:=fun x=>!(p x)) (fun x hx=>by unfold zci; exact M.i_bind (h x hx) M.i_pure)
  refine M.i_bind (M.i_bind h1 M.i_pure) ?_
  rw [h2,List.any_eq_not_all_not]
  simp only [Bool.not_not]
  exact M.i_pure
theorem rbd (hN:NetOk n ls) {g:Leg} (h:LegOk ls g):-1010000<=rOf ls g/\rOf ls g<=1010000:=hN.ed _ _ _ h.ed
theorem rises_ends (n:Int) (ls:List Line) (walk:List Leg):(zbs n ls walk).Ends (rsE n ls walk):=by
  unfold zbs rsE
  refine M.i_bind (check_ends n ls) (M.i_if (fun hb=>by rw [hb]; exact M.i_pure) (fun hb=>?_))
  rw [hb]
  have hN:NetOk n ls:=chk_ok.1 (by simpa using hb)
  have hfew:=hN.few
  refine M.i_bind (in_ends _ _ _) (M.i_if (fun hb=>by rw [hb]; exact M.i_pure) (fun hb=>?_))
  rw [hb]
  have hlen:1<=(walk.length:Int)/\(walk.length:Int)<=60:=by simpa using hb
  refine M.i_bind (every_leg (p:=legB ls) fun x _=>by unfold zcP; exact M.i_bind (in_ends _ _ _) M.i_pure) (M.i_if (fun hb=>by rw [hb]; exact M.i_pure) (fun hb=>?_))
  rw [hb]
  have hall:walk.all (legB ls)=true:=by simpa using hb
  have ok:=fun i hi=>legB_ok hall (i:=i) hi
  refine M.i_grd (decide_eq_true (by omega)) (M.i_bind (start_ends (ok 0 (by omega))) ?_)
  generalize hs:sOf ls (walk.getD 0 default)=s0
  have o:(M.iter (za1 n ls walk) (s0,0,0)).Out (fun y=>match y with | .inl _=>rsW ls s0 0 walk=none | .inr p=>rsW ls s0 0 walk=some p):=by
    refine M.o_for walk.length (fun i st=>st.2.2=i/\rsW ls st.1 st.2.1 (walk.drop i)=rsW ls s0 0 walk/\-(1010000*(i:Int))<=st.2.1/\st.2.1<=1010000*(i:Int)) ?_ ?_ (s:=(s0,0,0)) ⟨rfl,by simp,by simp,by simp⟩
    · rintro i ⟨s,r,x⟩ hi ⟨e,hJ,b1,b2⟩
      dsimp only at hi hJ b1 b2 e
      subst e
      have hok:=ok x hi
      have hr:=rbd hN hok
      rw [drop_D walk hi default,rsW_cons] at hJ
      simp only [za1]
      refine M.o_t (by simpa using hi) (M.o_grd (by simpa using hi) (M.o_bindE (start_ends hok) (M.o_if (fun c=>?_) (fun c=>?_))))
      · rw [if_neg (bne_iff_ne.1 c)] at hJ
        exact M.o_pure hJ.symm
      · rw [if_pos (by simpa using c)] at hJ
        refine M.o_bindE (goal_ends hok) (M.o_bindE (rise_ends hN hok) (M.o_grd (gA2 (by omega) (by omega)) (M.o_pure ⟨rfl,hJ,by dsimp only; omega,by dsimp only; omega⟩)))
    · rintro ⟨s,r,x⟩ ⟨e,hJ,b1,b2⟩
      dsimp only at hJ e
      subst e
      simp only [za1]
      rw [List.drop_length] at hJ
      exact M.o_f (by simp) (M.o_pure hJ.symm)
  obtain ⟨y,h1,h2⟩:=o
  refine M.i_bind h1 ?_
  rcases y with u | ⟨l,r⟩
  · dsimp only at h2 ⊢
    rw [h2]
    exact M.i_pure
  · dsimp only at h2 ⊢
    rw [h2]
    exact M.i_pure
theorem ref_rises (n:Int) (ls:List Line) (walk:List Leg) (hl:ls.length<=1000000) (hw:walk.length<=1000000):(za7 n ls walk).Ends (rsE n ls walk):=by
  have out:∀ x lo hi,(zaa x lo hi).Ends (!(decide (lo<=x)&&decide (x<=hi))):=fun x lo hi=>by
    unfold zaa
    have e:(decide (x<lo)||decide (hi<x)) = !(decide (lo<=x)&&decide (x<=hi)):=by
      by_cases h1:lo<=x <;> by_cases h2:x<=hi <;> simp [h1,h2] <;> omega
    rw [← e]
    exact M.i_pure
  unfold za7 rsE
  refine M.i_bind (ref_check n ls hl) (M.i_if (fun hb=>by rw [hb]; exact M.i_pure) (fun hb=>?_))
  rw [hb]
  have hN:NetOk n ls:=chk_ok.1 (by simpa using hb)
  have hfew:=hN.few
  have e0:((decide ((walk.length:Int)<1))||(decide (60<(walk.length:Int)))) = !(decide (1<=(walk.length:Int))&&decide ((walk.length:Int)<=60)):=by
    by_cases h1:1<=(walk.length:Int) <;> by_cases h2:(walk.length:Int)<=60 <;> simp [h1,h2] <;> omega
  rw [e0]
  refine M.i_if (fun hb=>by rw [hb]; exact M.i_pure) (fun hb=>?_)
  rw [hb]
  have hlen:1<=(walk.length:Int)/\(walk.length:Int)<=60:=by simpa using hb
  have o1:(M.iter (za6 ls walk) 0).Out (fun y=>match y with | .inl _=>walk.all (legB ls)=false | .inr _=>walk.all (legB ls)=true):=by
    refine M.o_for walk.length (fun i s=>s=i/\(walk.take i).all (legB ls)=true) ?_ ?_ (s:=0) ⟨rfl,by simp⟩
    · rintro i s hi ⟨rfl,hJ⟩
      simp only [za6]
      have hm:walk.getD s default∈walk:=by rw [getD_el walk hi]; exact List.getElem_mem hi
      refine M.o_t (by simpa using hi) (M.o_grd (by simpa using hi) (M.o_bindE (out _ _ _) (M.o_if (fun hb=>M.o_pure ?_) (fun hb=>M.o_pure ⟨rfl,?_⟩))))
      · refine List.all_eq_false.2 ⟨_,hm,?_⟩
        unfold legB
        rw [Bool.not_eq_true'] at hb
        rw [hb]
        simp
      · rw [← take_succ_D walk s hi default,List.all_append,hJ]
        simp only [List.all_cons,List.all_nil,Bool.and_true,Bool.true_and]
        unfold legB
        simpa using hb
    · rintro s ⟨rfl,hJ⟩
      rw [List.take_length] at hJ
      simp only [za6]
      exact M.o_f (by simp) (M.o_pure hJ)
  obtain ⟨y,h1,h2⟩:=o1
  refine M.i_bind h1 ?_
  rcases y with u | u
  · dsimp only at h2 ⊢
    rw [h2]
    exact M.i_pure
  dsimp only at h2 ⊢
  rw [h2]
  have ok:=fun i hi=>legB_ok h2 (i:=i) hi
  generalize hs:sOf ls (walk.getD 0 default)=s0
  have o:(M.iter (za4 ls walk) (0,0,0,0)).Out (fun y=>match y with | .inl _=>rsW ls s0 0 walk=none | .inr p=>p.1=s0/\rsW ls s0 0 walk=some p.2):=by
    refine M.o_for walk.length (fun i st=>st.2.2.2=i/\(i=0->st.2.2.1=0)/\(0<i->st.1=s0/\rsW ls st.2.1 st.2.2.1 (walk.drop i)=rsW ls s0 0 walk)/\-(1010000*(i:Int))<=st.2.2.1/\st.2.2.1<=1010000*(i:Int)) ?_ ?_ (s:=(0,0,0,0)) ⟨rfl,fun _=>rfl,fun h=>by omega,by simp,by simp⟩
    · rintro i ⟨f,l,r,x⟩ hi ⟨e,h0,hJ,b1,b2⟩
      dsimp only at hi h0 hJ b1 b2 e
      subst e
      have hok:=ok x hi
      have hr:=hN.rise _ hok.mem
      have he:=hN.err _ hok.mem
      have q1:=hok.1
      have q2:=hok.2
      have dr:=drop_D walk hi default
      -- what the leg is
      have leg:∀ (st:Int),(x=0->st=s0)->(0<x->st=f)->(x=0∨sOf ls (walk.getD x default)=l)->∀ r',r'=r+rOf ls (walk.getD x default) →
          st=s0/\rsW ls (gOf ls (walk.getD x default)) r' (walk.drop (x+1))=rsW ls s0 0 walk:=by
        intro st g1 g2 g3 r' hr'
        rcases Nat.eq_zero_or_pos x with z | z
        · refine ⟨g1 z,?_⟩
          have e1:rsW ls s0 0 walk=rsW ls s0 0 (walk.drop 0):=rfl
          rw [e1,drop_D walk (i:=0) (by omega) default,rsW_cons]
          subst z
          rw [if_pos hs,hr',h0 rfl]
        · obtain ⟨j1,j2⟩:=hJ z
          refine ⟨(g2 z).trans j1,?_⟩
          rw [dr,rsW_cons] at j2
          rw [if_pos (by rcases g3 with g3 | g3; omega; exact g3)] at j2
          rw [hr']
          exact j2
      have bad:0<x->sOf ls (walk.getD x default) ≠ l->rsW ls s0 0 walk=none:=fun z hne=>by
        obtain ⟨j1,j2⟩:=hJ z
        rw [dr,rsW_cons,if_neg hne] at j2
        exact j2.symm
      have hsx:x=0->sOf ls (walk.getD x default)=s0:=fun z=>by subst z; exact hs
      generalize hg:walk.getD x default=g at *
      unfold lnOf at hr he
      simp only [za4,hg]
      refine M.o_t (by simpa using hi) (M.o_grd (by simpa using hi) (M.o_grd (gA2 (by omega) (by omega)) (M.o_if (fun hb=>?_) (fun hb=>?_))))
      · have es:sOf ls g=(ls.getD g.line.toNat default).dst:=by unfold sOf legEnd lnOf; rw [hb]; rfl
        have eg:gOf ls g=(ls.getD g.line.toNat default).src:=by unfold gOf legEnd lnOf; rw [hb]; rfl
        have er:rOf ls g=(ls.getD g.line.toNat default).err-(ls.getD g.line.toNat default).rise:=by unfold rOf lnOf; rw [hb]; rfl
        rw [es] at leg bad hsx
        rw [eg,er] at leg
        refine M.o_grd (gA2 (by omega) (by omega)) (M.o_if (fun z=>?_) (fun z=>?_))
        · have z:x=0:=by have:=beq_iff_eq.1 z; omega
          exact M.o_grd (gA2 (by omega) (by omega)) (M.o_grd (gA2 (by omega) (by omega)) (M.o_pure ⟨rfl,fun h=>by omega,fun _=>leg _ hsx (fun h=>by omega) (.inl z) _ (by dsimp only; omega),by dsimp only; omega,by dsimp only; omega⟩))
        · have z:0<x:=by have:=beq_eq_false_iff_ne.1 z; omega
          refine M.o_if (fun c=>?_) (fun c=>?_)
          · exact M.o_pure (bad z (bne_iff_ne.1 c))
          · exact M.o_grd (gA2 (by omega) (by omega)) (M.o_grd (gA2 (by omega) (by omega)) (M.o_pure ⟨rfl,fun h=>by omega,fun _=>leg f (fun h=>by omega) (fun _=>rfl) (.inr (by simpa using c)) _ (by dsimp only; omega),by dsimp only; omega,by dsimp only; omega⟩))
      · have es:sOf ls g=(ls.getD g.line.toNat default).src:=by unfold sOf legEnd lnOf; rw [hb]; rfl
        have eg:gOf ls g=(ls.getD g.line.toNat default).dst:=by unfold gOf legEnd lnOf; rw [hb]; rfl
        have er:rOf ls g=(ls.getD g.line.toNat default).err+(ls.getD g.line.toNat default).rise:=by unfold rOf lnOf; rw [hb]; rfl
        rw [es] at leg bad hsx
        rw [eg,er] at leg
        refine M.o_if (fun z=>?_) (fun z=>?_)
        · have z:x=0:=by have:=beq_iff_eq.1 z; omega
          exact M.o_grd (gA2 (by omega) (by omega)) (M.o_grd (gA2 (by omega) (by omega)) (M.o_pure ⟨rfl,fun h=>by omega,fun _=>leg _ hsx (fun h=>by omega) (.inl z) _ (by dsimp only; omega),by dsimp only; omega,by dsimp only; omega⟩))
        · have z:0<x:=by have:=beq_eq_false_iff_ne.1 z; omega
          refine M.o_if (fun c=>?_) (fun c=>?_)
          · exact M.o_pure (bad z (bne_iff_ne.1 c))
          · exact M.o_grd (gA2 (by omega) (by omega)) (M.o_grd (gA2 (by omega) (by omega)) (M.o_pure ⟨rfl,fun h=>by omega,fun _=>leg f (fun h=>by omega) (fun _=>rfl) (.inr (by simpa using c)) _ (by dsimp only; omega),by dsimp only; omega,by dsimp only; omega⟩))
    · rintro ⟨f,l,r,x⟩ ⟨e,h0,hJ,b1,b2⟩
      dsimp only at hJ e
      subst e
      simp only [za4]
      obtain ⟨j1,j2⟩:=hJ (by omega)
      rw [List.drop_length] at j2
      exact M.o_f (by simp) (M.o_pure ⟨j1,j2.symm⟩)
  obtain ⟨y,h3,h4⟩:=o
  refine M.i_bind h3 ?_
  rcases y with u | ⟨f,l,r⟩
  · dsimp only at h4 ⊢
    rw [h4]
    exact M.i_pure
  · dsimp only at h4 ⊢
    rw [h4.2,h4.1]
    exact M.i_pure
/-- Both tell the same difference. -/
theorem between_both (hl:ls.length<=1000000) (f t:Int):∃ y,(zaj n ls f t).Ends y/\(zaF n ls f t).Ends y/\(chkE n ls ≠ 0->y=(0,0,chkE n ls))/\(chkE n ls=0->¬ ((0<=f/\f<n)/\(0<=t/\t<n))->y=(0,0,2))/\(chkE n ls=0->(0<=f/\f<n)->(0<=t/\t<n)->Btw ls f t y):=by
  have out:∀ x lo hi,(zaa x lo hi).Ends (!(decide (lo<=x)&&decide (x<=hi))):=fun x lo hi=>by
    unfold zaa
    have e:(decide (x<lo)||decide (hi<x)) = !(decide (lo<=x)&&decide (x<=hi)):=by
      by_cases h1:lo<=x <;> by_cases h2:x<=hi <;> simp [h1,h2] <;> omega
    rw [← e]
    exact M.i_pure
  by_cases h:chkE n ls=0
  · have hN := chk_ok.1 h
    have hk:=hN.marks
    have c1:(chkE n ls != 0)=false:=by rw [h]; rfl
    by_cases hf:0<=f/\f<n
    · by_cases ht:0<=t/\t<n
      · obtain ⟨y,h1,h2⟩:=between_out hN hf ht
        refine ⟨y,h1,?_,fun h'=>absurd h h',fun _ h'=>absurd ⟨hf,ht⟩ h',fun _ _ _=>h2⟩
        have o:(zaF n ls f t).Out (Btw ls f t):=by
          unfold zaF
          refine M.o_bindE (ref_check n ls hl) (M.o_f c1 (M.o_grd (gA2 (by omega) (by omega)) ?_))
          refine M.o_bindE (out _ _ _) (M.o_bindE (a:=false) (M.i_opt (fun _=>by have:=out t 0 (n-1); rwa [gA2 (p:=0<=t) ht.1 (by omega)] at this) (fun _=>rfl)) ?_)
          rw [gA2 (p:=0<=f) hf.1 (by omega)]
          refine M.o_f rfl (M.o_bind (ref_agrees hN) ?_)
          intro r hr
          cases r with
          | false=>exact M.o_t rfl (M.o_pure ⟨fun _=>rfl,fun hA=>(by have:=hr.2 hA; cases this),fun hA=>(by have:=hr.2 hA; cases this)⟩)
          | true =>
            have hA:=hr.1 rfl
            obtain ⟨N,rfl⟩:∃ N:Nat,n=N:=⟨n.toNat,by omega⟩
            obtain ⟨f,rfl⟩:∃ k:Nat,f=k:=⟨f.toNat,by omega⟩
            obtain ⟨t,rfl⟩:∃ k:Nat,t=k:=⟨t.toNat,by omega⟩
            refine M.o_f rfl (M.o_bind (tab_out hN) ?_)
            rintro T ⟨T0,hI,hR⟩
            have hT:=hR.tab hN hI hA
            have q0:=hT.sq.len
            have q1:=hT.sq.rows f (by omega)
            have q2:=hT.sq.rows t (by omega)
            have b1:=hR.lo t f (by omega) (by omega)
            have ef:Int.toNat (f:Int)=f:=Int.toNat_natCast f
            have et:Int.toNat (t:Int)=t:=Int.toNat_natCast t
            rw [ef,et]
            unfold tb at b1
            refine M.o_grd (gA2 (by omega) (by omega)) (M.o_grd (gA2 (by omega) (by omega)) (M.o_if (fun c=>?_) (fun c=>?_)))
            · have c:=beq_iff_eq.1 c
              have nt:¬ Tied ls f t:=fun h=>by
                have:=(hT.near f t (by omega) (by omega) h).1
                unfold tb at this
                omega
              exact M.o_pure ⟨fun h=>absurd hA h,fun _ _=>rfl,fun _ h=>absurd h nt⟩
            · have c:=beq_eq_false_iff_ne.1 c
              have tt:Tied ls f t:=Classical.byContradiction fun h=>c (hT.far f t (by omega) (by omega) h)
              have d1:=(hT.near f t (by omega) (by omega) tt).2
              have d2:=(hT.near t f (by omega) (by omega) tt.symm).2
              refine M.o_grd (gA2 (by omega) (by omega)) (M.o_grd (gA2 (by omega) (by omega)) (M.o_grd (gA2 (by omega) (by omega)) (M.o_pure ⟨fun h=>absurd hA h,fun _ h=>absurd tt h,fun _ _=>⟨rfl,d1,?_⟩⟩)))
              dsimp only
              rw [Int.neg_neg]
              exact d2
        obtain ⟨z,h3,h4⟩:=o
        have:y=z:=by
          by_cases hA:Agr ls
          · by_cases tt:Tied ls f t
            · obtain ⟨e1,d1,d2⟩:=h2.yes hA tt
              obtain ⟨e2,d3,d4⟩:=h4.yes hA tt
              have u1:=d1.uniq d3
              have u2:=d2.uniq d4
              obtain ⟨y1,y2,y3⟩:=y
              obtain ⟨z1,z2,z3⟩:=z
              dsimp only at *
              rw [e1,e2,u1,show y1=z1 by omega]
            · rw [h2.far hA tt,h4.far hA tt]
          · rw [h2.no hA,h4.no hA]
        rw [this]
        exact h3
      · have g1:(decide (0<=f)&&decide (f<=n-1))=true:=gA2 hf.1 (by omega)
        have g2:(decide (0<=t)&&decide (t<=n-1))=false:=by
          cases hb:(decide (0<=t)&&decide (t<=n-1)) with
          | false=>rfl
          | true =>
            rw [Bool.and_eq_true,decide_eq_true_eq,decide_eq_true_eq] at hb
            exact absurd ⟨hb.1,by omega⟩ ht
        refine ⟨(0,0,2),?_,?_,fun h'=>absurd h h',fun _ _=>rfl,fun _ _ h'=>absurd h' ht⟩
        · unfold zaj zaD
          refine M.i_bind (M.i_bind (check_ends n ls) (M.i_f c1 (M.i_grd (gA2 (by omega) (by omega)) (M.i_bind (in_ends _ _ _) (M.i_bind (a:=false) (M.i_opt (fun _=>by have:=in_ends t 0 (n-1); rwa [g2] at this) (fun _=>rfl)) (M.i_t (by rw [g1]; rfl) M.i_pure)))))) (M.i_t rfl M.i_pure)
        · unfold zaF
          refine M.i_bind (ref_check n ls hl) (M.i_f c1 (M.i_grd (gA2 (by omega) (by omega)) (M.i_bind (out _ _ _) (M.i_bind (a:=true) (M.i_opt (fun _=>by have:=out t 0 (n-1); rwa [g2] at this) (fun h=>by rw [g1] at h; simp at h)) (M.i_t (by simp) M.i_pure)))))
    · have g1:(decide (0<=f)&&decide (f<=n-1))=false:=by
        cases hb:(decide (0<=f)&&decide (f<=n-1)) with
        | false=>rfl
        | true =>
          rw [Bool.and_eq_true,decide_eq_true_eq,decide_eq_true_eq] at hb
          exact absurd ⟨hb.1,by omega⟩ hf
      refine ⟨(0,0,2),?_,?_,fun h'=>absurd h h',fun _ _=>rfl,fun _ h'=>absurd h' hf⟩
      · unfold zaj zaD
        refine M.i_bind (M.i_bind (check_ends n ls) (M.i_f c1 (M.i_grd (gA2 (by omega) (by omega)) (M.i_bind (in_ends _ _ _) (M.i_bind (a:=false) (M.i_opt (fun h=>by rw [g1] at h; simp at h) (fun _=>rfl)) (M.i_t (by rw [g1]; rfl) M.i_pure)))))) (M.i_t rfl M.i_pure)
      · unfold zaF
        refine M.i_bind (ref_check n ls hl) (M.i_f c1 (M.i_grd (gA2 (by omega) (by omega)) (M.i_bind (out _ _ _) (M.i_bind (a:=false) (M.i_opt (fun h=>by rw [g1] at h; simp at h) (fun _=>rfl)) (M.i_t (by rw [g1]; rfl) M.i_pure)))))
  · have c1:(chkE n ls != 0)=true:=by rw [bne_iff_ne]; exact h
    refine ⟨(0,0,chkE n ls),?_,?_,fun _=>rfl,fun h'=>absurd h' h,fun h'=>absurd h' h⟩
    · unfold zaj zaD
      exact M.i_bind (M.i_bind (check_ends n ls) (M.i_t c1 M.i_pure)) (M.i_t c1 M.i_pure)
    · unfold zaF
      exact M.i_bind (ref_check n ls hl) (M.i_t c1 M.i_pure)
end Go.Proofs.YtfdgkdkfbaghpaaGreat
-- libL/LHI.lean
namespace Go.Nm
variable {ls:List Line} {n a:Int} {by_:Int->Leg}
/-- So many last legs lead back. -/
inductive ChN (ls:List Line) (a:Int) (by_:Int->Leg):Nat->Int->Prop
  | root:ChN ls a by_ 0 a
  | up {k:Nat} {v:Int} (hv:v ≠ a) (h:ChN ls a by_ k (sOf ls (by_ v))):ChN ls a by_ (k+1) v
theorem Ch.num {v:Int} (h:Ch ls a by_ v):∃ k,ChN ls a by_ k v:=by
  induction h with
  | root=>exact ⟨0,.root⟩
  | up hv _ ih =>
    obtain ⟨k,hk⟩:=ih
    exact ⟨k+1,.up hv hk⟩
theorem ChN.uniq {k:Nat} {v:Int} (h:ChN ls a by_ k v):∀ {k'},ChN ls a by_ k' v->k=k':=by
  induction h with
  | root =>
    intro k' h'
    cases h' with
    | root=>rfl
    | up hv _=>exact absurd rfl hv
  | up hv _ ih =>
    intro k' h'
    cases h' with
    | root=>exact absurd rfl hv
    | up _ h2=>rw [ih h2]
theorem rsW_snoc (g:Leg):∀ (l:List Leg) (x s y r:Int),rsW ls x s l=some (y,r)->sOf ls g=y->rsW ls x s (l++[g])=some (gOf ls g,r+rOf ls g)
  | [],x,s,y,r,h,hg=>by
    unfold rsW at h
    simp only [Option.some.injEq,Prod.mk.injEq] at h
    obtain ⟨rfl,rfl⟩:=h
    rw [List.nil_append,rsW_cons,if_pos hg]
    rfl
  | g' :: l,x,s,y,r,h,hg=>by
    rw [rsW_cons] at h
    rw [List.cons_append,rsW_cons]
    split at h
    · rename_i c
      rw [if_pos c]
      exact rsW_snoc g l _ _ _ _ h hg
    · cases h
end Go.Nm
namespace Go.Proofs.YtfdgkdkfbaghpaaGreat
open Go Go.Nm
variable {ls:List Line} {n:Int}
theorem starts_few (hN:NetOk n ls) {f:Int} {by_:Int->Leg} {l:List Leg} (h:∀ i:Nat,i<l.length->LegOk ls (l.getD i default)/\ChN ls f by_ i (sOf ls (l.getD i default))):l.length<=12:=by
  have hm:=hN.marks
  have:=nodup_bound (Int.toNat n) (l.map (sOf ls)) ?_ ?_
  · rw [List.length_map] at this
    omega
  · unfold List.Nodup
    rw [List.pairwise_iff_getElem]
    intro i j hi hj hlt e
    rw [List.length_map] at hi hj
    rw [List.getElem_map,List.getElem_map] at e
    have h1:=(h i hi).2
    have h2:=(h j hj).2
    rw [getD_el l hi] at h1
    rw [getD_el l hj,← e] at h2
    have:=h1.uniq h2
    omega
  · intro x hx
    obtain ⟨g,hg,rfl⟩:=List.mem_map.1 hx
    obtain ⟨i,hi,rfl⟩:=mem_getD hg default
    have:=(h i hi).1.ed.rng hN.rng
    omega
theorem highest_1 (hN:NetOk n ls) {can:List Int} {by_:List Leg} (hW:Wkd ls n can by_) (hA:Agr ls) {f:Int} (hf:0<=f/\f<n):∀ (k:Nat) (t:Int),0<=t->t<n->rw_ can f t<1099511627776->ChN ls f (rb_ by_ f) k t →
    ∃ l,(zbI t f n ls can by_).Ends l/\l.length=k/\rsW ls f 0 l=some (t,rw_ can f t)/\∀ i:Nat,i<k->LegOk ls (l.getD i default)/\ChN ls f (rb_ by_ f) i (sOf ls (l.getD i default)):=by
  have hm:=hN.marks
  have hD:=hW.done hN hA hf
  intro k
  induction k with
  | zero =>
    intro t h0 h1 hlt hc
    cases hc
    refine ⟨[],?_,rfl,?_,fun i hi=>by omega⟩
    · unfold zbI
      refine M.i_fix ?_
      unfold zbb
      exact M.i_t (by simp) M.i_pure
    · rw [hW.agr_zero hN hA hf]
      rfl
  | succ k ih =>
    intro t h0 h1 hlt hc
    cases hc with
    | up hv hc2 =>
      obtain ⟨b1,b2,b3,b4⟩:=(hW.row f hf.1 hf.2).bo.leg t h0 h1 hv hlt
      have hr:=b1.ed.rng hN.rng
      obtain ⟨l,l1,l2,l3,l4⟩:=ih _ hr.1.1 hr.1.2 b4 hc2
      have hfew:=starts_few hN (f:=f) (by_:=rb_ by_ f) (l:=l) (fun i hi=>l4 i (by omega))
      have d1:=hD.dist _ hr.1.1 hr.1.2 b4
      have d2:=hD.dist t h0 h1 hlt
      have ed:=b1.ed
      rw [b2] at ed
      have h5:=d1.step ed d2
      refine ⟨l++[rb_ by_ f t],?_,by simp [l2],?_,fun i hi=>?_⟩
      · unfold zbI at l1 ⊢
        refine M.i_fix ?_
        unfold zbb
        unfold rb_ at l1 b1
        refine M.i_f (by rw [beq_eq_false_iff_ne]; exact hv) (M.i_grd (gA2 (by omega) (by omega)) (M.i_grd (gA2 (by omega) (by omega)) (M.i_bind (start_ends b1) (M.i_bind l1 (M.i_grd (decide_eq_true (by simp only [List.length_cons,List.length_nil]; omega)) M.i_pure)))))
      · have:=rsW_snoc (rb_ by_ f t) l _ _ _ _ l3 rfl
        rw [this,b2]
        congr 2
        omega
      · by_cases e:i=k
        · have:(l++[rb_ by_ f t]).getD i default=rb_ by_ f t:=by rw [e,← l2]; simp [List.getD_eq_getElem?_getD]
          rw [this,e]
          exact ⟨b1,hc2⟩
        · have:(l++[rb_ by_ f t]).getD i default=l.getD i default:=by rw [List.getD_eq_getElem?_getD,List.getElem?_append_left (by omega),← List.getD_eq_getElem?_getD]
          rw [this]
          exact l4 i (by omega)
end Go.Proofs.YtfdgkdkfbaghpaaGreat
-- libL/DS3.lean
namespace Go.Nm
variable {ls:List Line} {n f:Int}
theorem pigeon (N:Nat) (F:Nat->Int) (hb:∀ i,i<=N->0<=F i/\F i<N):∃ i j,i<j/\j<=N/\F i=F j:=by
  refine Classical.byContradiction fun hc=>?_
  have hn:((List.range (N+1)).map F).Nodup:=by
    refine List.pairwise_iff_getElem.mpr fun i j hi hj hij=>?_
    simp only [List.length_map,List.length_range] at hi hj
    simp only [List.getElem_map,List.getElem_range]
    exact fun e=>hc ⟨i,j,hij,by omega,e⟩
  have:=nodup_bound N _ hn fun x hx=>by
    obtain ⟨i,hi,rfl⟩:=List.mem_map.mp hx
    exact hb i (by have:=List.mem_range.mp hi; omega)
  simp at this
  omega
/-- The legs of a ring in the order in which they are gone back. -/
def rgL (ls:List Line) (B:Int->Leg) (y:Int) (k:Nat):List Leg:=(List.range k).map fun i=>B (bk ls B i y)
theorem rgL_succ (B:Int->Leg) (y:Int) (k:Nat):rgL ls B y (k+1)=rgL ls B y k++[B (bk ls B k y)]:=by
  unfold rgL
  rw [List.range_succ,List.map_append]
  rfl
theorem rgL_length (B:Int->Leg) (y:Int) (k:Nat):(rgL ls B y k).length=k:=by simp [rgL]
theorem rgL_walk (B:Int->Leg) (y:Int):∀ (k:Nat),(∀ i,i<k->gOf ls (B (bk ls B i y))=bk ls B i y)->∀ s:Int,rsW ls (bk ls B k y) s (rgL ls B y k).reverse=some (y,s+bs ls B k y)
  | 0,_,s=>by
    show some (y,s)=some (y,s+0)
    rw [Int.add_zero]
  | k+1,hg,s=>by
    have e:(rgL ls B y (k+1)).reverse=B (bk ls B k y) :: (rgL ls B y k).reverse:=by rw [rgL_succ]; simp
    rw [e,rsW_cons,if_pos (bk_succ B k y).symm,hg k (by omega),rgL_walk B y k (fun i hi=>hg i (by omega)),bs_add (ls:=ls) B k 1 y]
    show some (y,_)=some (y,s+(bs ls B k y+(rOf ls (B (bk ls B k y))+0)))
    have:s+rOf ls (B (bk ls B k y))+bs ls B k y=s+(bs ls B k y+(rOf ls (B (bk ls B k y))+0)):=by omega
    rw [this]
/-- What lies behind N + 1 rounds of which the last still let a mark sink. -/
theorem Rk.ringed {r N:Nat} {K:Int} {R:Int->Int} {B:Int->Leg} {H:Int->Prop} {q:Int->Nat} {at_:Int} (e:(N:Int)=n) (h:Rk ls n f r N K R B H q at_) (ha:at_ ≠ -1) (hr:N+1<=r) :
    (∀ m,0<q (bk ls B m at_))/\∃ k,0<k/\k<=N/\bk ls B k (bk ls B N at_)=bk ls B N at_/\(∀ i,0<i->i<k->bk ls B i (bk ls B N at_) ≠ bk ls B N at_)/\bs ls B k (bk ls B N at_)<0:=by
  have hq:∀ i,i<=N->0<q (bk ls B i at_):=fun i hi=>by
    have:=h.back ha hr i hi
    omega
  obtain ⟨i,j,hij,hj,hx⟩:=pigeon N (fun i=>bk ls B i at_) fun i hi=>by
    have:=h.dom _ (h.qd _ (hq i hi))
    omega
  have hx:bk ls B i at_=bk ls B j at_:=hx
  have all:∀ m,∃ m',m'<=N/\bk ls B m at_=bk ls B m' at_:=by
    intro m
    induction m using Nat.strongRecOn with
    | _ m ih =>
      by_cases hm:m<=N
      · exact ⟨m,hm,rfl⟩
      · obtain ⟨d,rfl⟩:∃ d,m=j+d:=⟨m-j,by omega⟩
        obtain ⟨m',h1,h2⟩:=ih (i+d) (by omega)
        refine ⟨m',h1,?_⟩
        rw [← h2,bk_add,bk_add,hx]
  have pos:∀ m,0<q (bk ls B m at_):=fun m=>by
    obtain ⟨m',h1,h2⟩:=all m
    rw [h2]
    exact hq m' h1
  have ring:bk ls B (j-i) (bk ls B N at_)=bk ls B N at_:=by
    rw [← bk_add,show N+(j-i)=j+(N-i) by omega,bk_add,← hx,← bk_add,show i+(N-i)=N by omega]
  obtain ⟨k,⟨k0,k1⟩,k2⟩:=least_nat (p:=fun k=>0<k/\bk ls B k (bk ls B N at_)=bk ls B N at_) ⟨j-i,by omega,ring⟩
  refine ⟨pos,k,k0,?_,k1,fun x hx0 hxk hxe=>?_,?_⟩
  · have:=k2 (j-i) ⟨by omega,ring⟩
    omega
  · have:=k2 x ⟨hx0,hxe⟩
    omega
  · refine h.sk.ring k _ k0 (fun x _=>?_) k1
    rw [← bk_add]
    exact pos _
/-- The marks of a ring are distinct. -/
theorem ring_nodup {B:Int->Leg} {y:Int} {k:Nat} (h1:bk ls B k y=y) (h2:∀ i,0<i->i<k->bk ls B i y ≠ y):∀ i j,i<j->j<k->bk ls B i y ≠ bk ls B j y:=by
  intro i j hij hj e
  have:bk ls B (k-j+i) y=y:=by
    rw [Nat.add_comm,bk_add,e,← bk_add,show j+(k-j)=k by omega,h1]
  exact h2 (k-j+i) (by omega) (by omega) this
end Go.Nm
-- libL/LRV.lean
namespace Go.Proofs.YtfdgkdkfbaghpaaGreat
open Go Go.Nm
theorem reverse_ends {l:List Leg} (hl:l.length<=1000000):(zb0 l).Ends l.reverse:=by
  have out:(zb0 l).Out (fun r=>r=l.reverse):=by
    unfold zb0
    refine M.o_bind (P:=fun y=>y=l.reverse) ?_ (fun y hy=>M.o_pure hy)
    refine M.o_for (l.length / 2) (fun i st=>st.2.1=i/\st.2.2=(l.length:Int)-1-i/\st.1.length=l.length/\∀ x,x<l.length->st.1.getD x default=if x<i∨l.length-1-x<i then l.getD (l.length-1-x) default else l.getD x default) ?_ ?_ (s:=(l,0,(l.length:Int)-1)) ⟨rfl,by simp,rfl,fun x hx=>by rw [if_neg (by omega)]⟩
    · rintro i ⟨a,s,j⟩ hi ⟨e1,e2,e3,e4⟩
      dsimp only at e1 e2 e3 e4
      subst e1
      have ej:j.toNat=l.length-1-s:=by omega
      simp only [zcj]
      refine M.o_t (decide_eq_true (by omega)) (M.o_grd (gA2 (by omega) (by omega)) (M.o_grd (decide_eq_true (by omega)) (M.o_grd (gA2 (by omega) (by rw [List.length_set]; omega)) (M.o_grd (gA2 (by omega) (by omega)) (M.o_grd (gA2 (by omega) (by omega)) (M.o_pure ⟨rfl,by dsimp only; omega,by dsimp only; rw [List.length_set,List.length_set]; exact e3,fun x hx=>?_⟩))))))
      dsimp only
      have g1:a.getD (l.length-1-s) default=l.getD (l.length-1-s) default:=by rw [e4 _ (by omega),if_neg (by omega)]
      have g2:a.getD s default=l.getD s default:=by rw [e4 _ (by omega),if_neg (by omega)]
      rw [ej,g1,g2,gset _ _ _ _ _ (by rw [List.length_set]; omega),gset _ _ _ _ _ (by omega),e4 _ hx]
      by_cases c1:x=l.length-1-s
      · rw [if_pos c1,if_pos (by omega),c1,show l.length-1-(l.length-1-s)=s by omega]
      · rw [if_neg c1]
        by_cases c2:x=s
        · rw [if_pos c2,if_pos (by omega),c2]
        · rw [if_neg c2]
          by_cases c3:x<s∨l.length-1-x<s
          · rw [if_pos c3,if_pos (by omega)]
          · rw [if_neg c3,if_neg (by omega)]
    · rintro ⟨a,s,j⟩ ⟨e1,e2,e3,e4⟩
      dsimp only at e1 e2 e3 e4
      simp only [zcj]
      refine M.o_f (decide_eq_false (by omega)) (M.o_pure ?_)
      show a=l.reverse
      refine List.ext_getElem (by simp [e3]) fun x h1 h2=>?_
      have hx:x<l.length:=by omega
      have:=e4 x hx
      rw [getD_el a h1] at this
      rw [this,List.getElem_reverse,← getD_el l (by omega) default]
      by_cases c:x<l.length / 2∨l.length-1-x<l.length / 2
      · rw [if_pos c]
      · rw [if_neg c,show l.length-1-x=x by omega]
  obtain ⟨r,h,rfl⟩:=out
  exact h
end Go.Proofs.YtfdgkdkfbaghpaaGreat
-- libL/LSK.lean
namespace Go.Nm
/-- Functions of marks that say what three rows hold. -/
structure Ag (R:Int->Int) (B:Int->Leg) (H:Int->Prop) (a:List Int) (b:List Leg) (d:List Bool):Prop where
  la:a.length=13
  lb:b.length=13
  ld:d.length=13
  ra:∀ v:Nat,v<13->a.getD v 0=R v
  rb:∀ v:Nat,v<13->b.getD v default=B v
  rd:∀ v:Nat,v<13->(d.getD v false=true↔H v)
theorem Ag.up {R:Int->Int} {B:Int->Leg} {H:Int->Prop} {a:List Int} {b:List Leg} {d:List Bool} (h:Ag R B H a b d) {v x:Int} {g:Leg} (h0:0<=v) (h1:v<13):Ag (upF R v x) (upF B v g) (fun w=>H w∨w=v) (a.set v.toNat x) (b.set v.toNat g) (d.set v.toNat true):=by
  have hl:v.toNat<13:=by omega
  refine ⟨by rw [List.length_set]; exact h.la,by rw [List.length_set]; exact h.lb,by rw [List.length_set]; exact h.ld,fun w hw=>?_,fun w hw=>?_,fun w hw=>?_⟩
  · rw [gset _ _ _ _ _ (by rw [h.la]; exact hl)]
    by_cases e:w=v.toNat
    · rw [if_pos e,show (w:Int)=v by omega,upF_at]
    · rw [if_neg e,upF_no _ _ (by omega)]; exact h.ra w hw
  · rw [gset _ _ _ _ _ (by rw [h.lb]; exact hl)]
    by_cases e:w=v.toNat
    · rw [if_pos e,show (w:Int)=v by omega,upF_at]
    · rw [if_neg e,upF_no _ _ (by omega)]; exact h.rb w hw
  · rw [gset _ _ _ _ _ (by rw [h.ld]; exact hl)]
    by_cases e:w=v.toNat
    · rw [if_pos e]; exact ⟨fun _=>.inr (by omega),fun _=>rfl⟩
    · rw [if_neg e]
      exact ⟨fun hh=>.inl ((h.rd w hw).1 hh),fun hh=>hh.elim (h.rd w hw).2 (fun hh=>absurd hh (by omega))⟩
theorem leg_ne {ls:List Line} {n:Int} (hN:NetOk n ls) {g:Leg} (hg:LegOk ls g):sOf ls g ≠ gOf ls g:=fun e=>by
  have h1:=hN.ne _ hg.mem
  unfold sOf gOf legEnd at e
  cases hb:g.back <;> rw [hb] at e <;> simp at e <;> omega
end Go.Nm
namespace Go.Proofs.YtfdgkdkfbaghpaaGreat
open Go Go.Nm
variable {ls:List Line} {n f:Int}
theorem sink_step (hN:NetOk n ls) {r c:Nat} {K:Int} {R:Int->Int} {B:Int->Leg} {H:Int->Prop} {q:Int->Nat} {at_:Int} {a:List Int} {b:List Leg} {d:List Bool} (hr:1<=r) (hc:(c:Int)<n) (hK:K<=1000000000000000) (h:Rk ls n f r c K R B H q at_) (hA:Ag R B H a b d) (hH:H c) {g:Leg} (hg:LegOk ls g) (hs:sOf ls g=c) :
    (zas n ls c (at_,a,b,d) g).Out (fun y=>match y with
      | .inl (at',a',b',d')=>∃ R' B' H' q',Rk ls n f r c (K+1010000) R' B' H' q' at'/\Ag R' B' H' a' b' d'/\H' c/\Fin ls R' H' g/\∀ g',sOf ls g'=c->Fin ls R H g'->Fin ls R' H' g'
      | .inr _=>False):=by
  have hm:=hN.marks
  have hrg:=(hg.ed.rng hN.rng).2
  have hb:=hN.ed _ _ _ hg.ed
  have hl:=h.lo c
  have hne:=leg_ne hN hg
  have e1:R (gOf ls g)=a.getD (gOf ls g).toNat 0:=by rw [hA.ra _ (by omega),Int.toNat_of_nonneg hrg.1]
  have e2:d.getD (gOf ls g).toNat false=true↔H (gOf ls g):=by
    have:=hA.rd (gOf ls g).toNat (by omega)
    rwa [Int.toNat_of_nonneg hrg.1] at this
  simp only [zas]
  rw [hA.ra c (by omega)]
  refine M.o_bindE (goal_ends hg) (M.o_bindE (rise_ends hN hg) (M.o_grd (gA2 (by omega) (by omega)) (M.o_grd (gA2 (by omega) (by omega)) (M.o_if (fun hb=>?_) (fun hb=>?_)))))
  · have hlt:¬ H (gOf ls g)∨R (sOf ls g)+rOf ls g<R (gOf ls g):=by
      rw [hs]
      by_cases hh:H (gOf ls g)
      · have:=e2.2 hh
        rw [this] at hb
        right
        rw [e1]
        simpa using hb
      · exact .inl hh
    have hu:=h.sink hN hg hr (by rw [hs]; exact hH) hlt
    have ha:=hA.up (x:=R (sOf ls g)+rOf ls g) (g:=g) hrg.1 (show gOf ls g<13 by omega)
    rw [hs] at ha hu
    refine M.o_pure ⟨_,_,_,_,hu,ha,.inl hH,⟨.inr rfl,?_⟩,fun g' hg' hf=>?_⟩
    · rw [upF_at,upF_no _ _ hne,hs]
      exact Int.le_refl _
    · have:=hf.up hlt (by rw [hg',← hs]; exact hne)
      rwa [hs] at this
  · rw [Bool.or_eq_false_iff] at hb
    have hh:d.getD (gOf ls g).toNat false=true:=by simpa using hb.1
    refine M.o_pure ⟨R,B,H,q,h.keep (by omega),hA,hH,⟨e2.1 hh,?_⟩,fun _ _ hf=>hf⟩
    have:=of_decide_eq_false hb.2
    rw [hs,e1]
    omega
end Go.Proofs.YtfdgkdkfbaghpaaGreat
-- libL/LSK2.lean
namespace Go.Proofs.YtfdgkdkfbaghpaaGreat
open Go Go.Nm
variable {ls:List Line} {n f:Int}
theorem sink_mark (hN:NetOk n ls) {r c:Nat} {K:Int} {R:Int->Int} {B:Int->Leg} {H:Int->Prop} {q:Int->Nat} {at_:Int} {a:List Int} {b:List Leg} {d:List Bool} (hr:1<=r) (hc:(c:Int)<n) (hK:K<=900000000000000) (h:Rk ls n f r c K R B H q at_) (hA:Ag R B H a b d) (hH:H c) :
    (zai (M.yl (zas n ls c)) (.inl (at_,a,b,d)) n ls c).Out (fun y=>match y with
      | .inl (at',a',b',d')=>∃ R' B' H' q',Rk ls n f r (c+1) (K+60600000) R' B' H' q' at'/\Ag R' B' H' a' b' d'
      | .inr _=>False):=by
  have hf:=hN.few
  refine M.o_mono (legs_out (ls:=ls) (n:=n) (m:=(c:Int)) (fun k s=>∃ R B H q,Rk ls n f r c (K+k*1010000) R B H q s.1/\Ag R B H s.2.1 s.2.2.1 s.2.2.2/\H c/\∀ (i:Nat) (k':Bool),i<ls.length->2*i+k'.toNat<k->sOf ls ⟨i,k'⟩=c->Fin ls R H ⟨i,k'⟩) (fun _=>False) ?_ ?_ (s:=(at_,a,b,d)) ⟨R,B,H,q,h.keep (by omega),hA,hH,fun i k' _ h=>by omega⟩) ?_
  · rintro i k ⟨at_,a,b,d⟩ hi hs ⟨R,B,H,q,h,hA,hH,hF⟩
    dsimp only at h hA
    have hb2:k.toNat<=1:=by cases k <;> decide
    refine M.o_mono (sink_step hN hr hc (by omega) h hA hH (g:=⟨i,k⟩) (ij hi) hs) ?_
    rintro (⟨at',a',b',d'⟩ | x) hy
    · obtain ⟨R',B',H',q',h1,h2,h3,h4,h5⟩:=hy
      refine ⟨R',B',H',q',h1.keep (by omega),h2,h3,fun i' k' hi' hk' hs'=>?_⟩
      by_cases e:2*i'+k'.toNat<2*i+k.toNat
      · exact h5 _ hs' (hF i' k' hi' e hs')
      · have hb3:k'.toNat<=1:=by cases k' <;> decide
        have e1:i'=i:=by omega
        subst e1
        have e2:k'=k:=by
          have:k'.toNat=k.toNat:=by omega
          cases k <;> cases k' <;> simp at this <;> rfl
        rw [e2]
        exact h4
    · exact hy
  · rintro i k ⟨at_,a,b,d⟩ hi hs ⟨R,B,H,q,h,hA,hH,hF⟩
    dsimp only at h hA
    refine ⟨R,B,H,q,h.keep (by omega),hA,hH,fun i' k' hi' hk' hs'=>?_⟩
    by_cases e:2*i'+k'.toNat<2*i+k.toNat
    · exact hF i' k' hi' e hs'
    · have hb2:k.toNat<=1:=by cases k <;> decide
      have hb3:k'.toNat<=1:=by cases k' <;> decide
      have e1:i'=i:=by omega
      subst e1
      have e2:k'=k:=by
        have:k'.toNat=k.toNat:=by omega
        cases k <;> cases k' <;> simp at this <;> rfl
      rw [e2] at hs'
      exact absurd hs' hs
  · rintro (⟨at',a',b',d'⟩ | x) hy
    · obtain ⟨R',B',H',q',h1,h2,h3,h4⟩:=hy
      refine ⟨R',B',H',q',(h1.mark fun _ g hg hs=>?_).keep (by omega),h2⟩
      obtain ⟨i,k⟩:=g
      obtain ⟨g0,g1⟩:=hg
      dsimp only at g0 g1
      obtain ⟨j,rfl⟩:∃ j:Nat,i=(j:Int):=⟨i.toNat,by omega⟩
      have hb2:k.toNat<=1:=by cases k <;> decide
      exact h4 j k (by omega) (by omega) hs
    · exact hy
theorem sink_marks (hN:NetOk n ls) {r N:Nat} (e:(N:Int)=n) {K:Int} {R:Int->Int} {B:Int->Leg} {H:Int->Prop} {q:Int->Nat} {a:List Int} {b:List Leg} {d:List Bool} (hr:1<=r) (hK:K<=800000000000000) (h:Rk ls n f r 0 K R B H q (-1)) (hA:Ag R B H a b d) :
    (M.iter (zbl n ls) (0,a,b,d,-1)).Out (fun y=>∃ R' B' H' q',Rk ls n f r N (K+727200000) R' B' H' q' y.2.2.2/\Ag R' B' H' y.1 y.2.1 y.2.2.1):=by
  have hm:=hN.marks
  refine M.o_for N (fun c s=>s.1=c/\∃ R B H q,Rk ls n f r c (K+c*60600000) R B H q s.2.2.2.2/\Ag R B H s.2.1 s.2.2.1 s.2.2.2.1) ?_ ?_ (s:=(0,a,b,d,-1)) ⟨rfl,R,B,H,q,h.keep (by omega),hA⟩
  · rintro c ⟨s,a,b,d,at_⟩ hc ⟨e1,R,B,H,q,h,hA⟩
    dsimp only at e1 h hA
    subst e1
    simp only [zbl]
    have hd:=hA.rd s (by omega)
    refine M.o_t (decide_eq_true (by omega)) (M.o_grd (gA2 (by omega) (by omega)) (M.o_if (fun hb=>?_) (fun hb=>?_)))
    · refine M.o_grd (gA2 (by omega) (by omega)) (M.o_pure ⟨rfl,R,B,H,q,(h.mark fun hh=>?_).keep (by omega),hA⟩)
      rw [hd.2 hh] at hb
      cases hb
    · have hh:H s:=hd.1 (by simpa using hb)
      refine M.o_bindE (a:=(s:Int)) (by unfold zaN; exact M.i_pure) (M.o_bind (sink_mark hN hr (by omega) (by omega) h hA hh) ?_)
      rintro (⟨at',a',b',d'⟩ | x) hy
      · obtain ⟨R',B',H',q',h1,h2⟩:=hy
        exact M.o_grd (gA2 (by omega) (by omega)) (M.o_pure ⟨rfl,R',B',H',q',h1.keep (by omega),h2⟩)
      · exact hy.elim
  · rintro ⟨s,a,b,d,at_⟩ ⟨e1,R,B,H,q,h,hA⟩
    dsimp only at e1 h hA
    subst e1
    simp only [zbl]
    exact M.o_f (decide_eq_false (by omega)) (M.o_pure ⟨R,B,H,q,h.keep (by omega),hA⟩)
theorem sink_rounds (hN:NetOk n ls) {N:Nat} (e:(N:Int)=n) {B:Int->Leg} {a:List Int} {b:List Leg} {d:List Bool} (hf:0<=f/\f<n) (hA:Ag (fun _=>0) B (fun v=>v=f) a b d) :
    (M.iter (zbc n ls) (a,b,d,-1,0)).Out (fun y=>∃ K R' B' H' q',Rk ls n f (N+1) N K R' B' H' q' y.2.2.2/\Ag R' B' H' y.1 y.2.1 y.2.2.1):=by
  have hm:=hN.marks
  refine M.o_for (N+1) (fun p s=>s.2.2.2.2=p/\∃ R B H q,Ag R B H s.1 s.2.1 s.2.2.1/\Rk ls n f (p+1) 0 (p*727200000) R B H q (-1)/\(0<p->Rk ls n f p N (p*727200000) R B H q s.2.2.2.1)) ?_ ?_ (s:=(a,b,d,-1,0)) ⟨rfl,fun _=>0,B,fun v=>v=f,fun _=>0,hA,(Rk.start hf B).keep (by omega),fun h=>by omega⟩
  · rintro p ⟨a,b,d,at_,s⟩ hp ⟨e1,R,B,H,q,hA,h,_⟩
    dsimp only at e1 h hA
    subst e1
    simp only [zbc]
    refine M.o_t (decide_eq_true (by omega)) (M.o_bind (sink_marks hN e (by omega) (by omega) h hA) ?_)
    rintro ⟨a',b',d',at'⟩ ⟨R',B',H',q',h1,h2⟩
    dsimp only at h1 h2
    have h3:=h1.keep (K':=((s+1:Nat):Int)*727200000) (by omega)
    exact M.o_grd (gA2 (by omega) (by omega)) (M.o_pure ⟨rfl,R',B',H',q',h2,h3.round e,fun _=>h3⟩)
  · rintro ⟨a,b,d,at_,s⟩ ⟨e1,R,B,H,q,hA,_,h⟩
    dsimp only at e1 h hA
    subst e1
    simp only [zbc]
    exact M.o_f (decide_eq_false (by omega)) (M.o_pure ⟨_,R,B,H,q,h (by omega),hA⟩)
end Go.Proofs.YtfdgkdkfbaghpaaGreat
-- libL/LHJ.lean
namespace Go.Nm
/-- The marks that are met on a walk. -/
def metL (ls:List Line) (l:List Leg) (e:Bool):List Int:=l.map (sOf ls)++(if e=true/\l ≠ [] then [gOf ls (l.getD (l.length-1) default)] else [])
end Go.Nm
namespace Go.Proofs.YtfdgkdkfbaghpaaGreat
open Go Go.Nm
variable {ls:List Line} {n:Int}
theorem twice_no {l:List Leg} {e:Bool} (hok:∀ i:Nat,i<l.length->LegOk ls (l.getD i default)) (hlen:l.length<=1000000) (hn:(metL ls l e).Nodup):(zbi n ls l e).Ends false:=by
  have out:(zbi n ls l e).Out (fun r=>r=false):=by
    unfold zbi
    refine M.o_bind (P:=fun y=>match y with | .inl _=>False | .inr p=>p.2=metL ls l e) ?_ ?_
    · refine M.o_for l.length (fun i st=>st.1=i/\st.2=if i=l.length then metL ls l e else (l.take i).map (sOf ls)) ?_ ?_ (s:=(0,[])) ⟨rfl,by
        split
        · rename_i h
          have:l=[]:=List.eq_nil_of_length_eq_zero h.symm
          subst this
          unfold metL
          simp
        · simp⟩
      · rintro i ⟨s,m⟩ hi ⟨e1,e2⟩
        dsimp only at hi e1 e2
        subst e1
        rw [if_neg (by omega)] at e2
        subst e2
        have hk:=hok s hi
        have q1:=hk.1
        have q2:=hk.2
        have tk:=take_succ_D l s hi default
        have lm:((l.take s).map (sOf ls)).length=s:=by rw [List.length_map,List.length_take]; omega
        -- behind the leg
        have tk2:(l.take (s+1)).map (sOf ls)=(l.take s).map (sOf ls)++[sOf ls (l.getD s default)]:=by rw [← tk,List.map_append]; rfl
        have fin:∀ m',m'=((l.take s).map (sOf ls)++[sOf ls (l.getD s default)])++(if (s:Int)=(l.length:Int)-1/\e=true then [gOf ls (l.getD s default)] else [])->m'=if s+1=l.length then metL ls l e else (l.take (s+1)).map (sOf ls):=by
          intro m' hm
          rw [hm,← tk2]
          by_cases h:s+1=l.length
          · rw [if_pos h]
            unfold metL
            have e3:l.take (s+1)=l:=by rw [h]; exact List.take_length ..
            have e4:l.length-1=s:=by omega
            have e5:l ≠ []:=fun h=>by rw [h] at hi; simp at hi
            rw [e3,e4]
            congr 1
            by_cases h2:e=true
            · rw [if_pos ⟨by omega,h2⟩,if_pos ⟨h2,e5⟩]
            · rw [if_neg (fun h=>h2 h.2),if_neg (fun h=>h2 h.1)]
          · rw [if_neg h,if_neg (fun h2=>h (by omega)),List.append_nil]
        simp only [zb4]
        refine M.o_t (by simpa using hi) (M.o_grd (by simpa using hi) (M.o_f (by rw [decide_eq_false (by omega),decide_eq_false (by omega)]; rfl) (M.o_grd (gA2 (by omega) (by omega)) (M.o_if (fun hb=>?_) (fun hb=>?_)))))
        · have es:sOf ls (l.getD s default)=(ls.getD (l.getD s default).line.toNat default).dst:=by unfold sOf legEnd lnOf; rw [hb]; rfl
          have eg:gOf ls (l.getD s default)=(ls.getD (l.getD s default).line.toNat default).src:=by unfold gOf legEnd lnOf; rw [hb]; rfl
          rw [es,eg] at fin
          refine M.o_grdD (by rw [lm]; simp only [List.length_cons,List.length_nil]; omega) (M.o_if (fun c=>?_) (fun c=>?_))
          · rw [Bool.and_eq_true,beq_iff_eq] at c
            refine M.o_grdD (by rw [List.length_append,lm]; simp only [List.length_cons,List.length_nil]; omega) (M.o_pure ⟨rfl,fin _ (by rw [if_pos c])⟩)
          · refine M.o_pure ⟨rfl,fin _ ?_⟩
            rw [if_neg (fun h=>by rw [h.2,beq_iff_eq.2 h.1] at c; simp at c),List.append_nil]
        · have es:sOf ls (l.getD s default)=(ls.getD (l.getD s default).line.toNat default).src:=by unfold sOf legEnd lnOf; rw [hb]; rfl
          have eg:gOf ls (l.getD s default)=(ls.getD (l.getD s default).line.toNat default).dst:=by unfold gOf legEnd lnOf; rw [hb]; rfl
          rw [es,eg] at fin
          refine M.o_grdD (by rw [lm]; simp only [List.length_cons,List.length_nil]; omega) (M.o_if (fun c=>?_) (fun c=>?_))
          · rw [Bool.and_eq_true,beq_iff_eq] at c
            refine M.o_grdD (by rw [List.length_append,lm]; simp only [List.length_cons,List.length_nil]; omega) (M.o_pure ⟨rfl,fin _ (by rw [if_pos c])⟩)
          · refine M.o_pure ⟨rfl,fin _ ?_⟩
            rw [if_neg (fun h=>by rw [h.2,beq_iff_eq.2 h.1] at c; simp at c),List.append_nil]
      · rintro ⟨s,m⟩ ⟨e1,e2⟩
        dsimp only at e1 e2
        subst e1
        rw [if_pos rfl] at e2
        simp only [zb4]
        exact M.o_f (by simp) (M.o_pure e2)
    · rintro (y | ⟨l4,l5⟩) hy
      · exact hy.elim
      · dsimp only at hy ⊢
        subst hy
        refine M.o_bind (P:=fun y=>y = .inr ()) ?_ (fun y hy=>by subst hy; exact M.o_pure rfl)
        refine M.o_for (metL ls l e).length (fun i st=>st=i) ?_ ?_ rfl
        · rintro i s hi rfl
          simp only [zcc]
          refine M.o_t (by simpa using hi) (M.o_bind (P:=fun y=>y = .inr ()) ?_ (fun y hy=>by subst hy; exact M.o_pure rfl))
          refine M.o_for s (fun i st=>st=i) ?_ ?_ rfl
          · rintro i k hk rfl
            simp only [zck]
            refine M.o_t (decide_eq_true (by omega)) (M.o_grd (by simpa using hi) (M.o_grdD (by omega) (M.o_f ?_ (M.o_pure rfl))))
            rw [beq_eq_false_iff_ne,getD_el _ hi,getD_el _ (show k<(metL ls l e).length by omega)]
            exact fun h=>(List.pairwise_iff_getElem.1 hn k s (by omega) hi hk) h.symm
          · rintro k rfl
            simp only [zck]
            exact M.o_f (decide_eq_false (by omega)) (M.o_pure rfl)
        · rintro s rfl
          simp only [zcc]
          exact M.o_f (by simp) (M.o_pure rfl)
  obtain ⟨r,h,rfl⟩:=out
  exact h
end Go.Proofs.YtfdgkdkfbaghpaaGreat
-- libL/LHK.lean
namespace Go.Nm
/-- A walk that proves a greatest difference. -/
structure HiOk (ls:List Line) (f t:Int) (l:List Leg):Prop where
  pos:0<l.length
  few:l.length<=12
  ok:∀ i:Nat,i<l.length->LegOk ls (l.getD i default)
  first:sOf ls (l.getD 0 default)=f
  once:(metL ls l true).Nodup
  rise:∃ d,IsDist ls f t d/\rsW ls f 0 l=some (t,d)
/-- What is said of Highest. -/
structure HiE (n:Int) (ls:List Line) (f t:Int) (l:List Leg) (e:Int):Prop where
  err:e ≠ 0->l=[]
  chk:chkE n ls ≠ 0->e=chkE n ls
  arg:chkE n ls=0->¬ ((0<=f/\f<n)/\(0<=t/\t<n))∨f=t->e=2
  no:chkE n ls=0->(0<=f/\f<n)->(0<=t/\t<n)->f ≠ t->¬ Agr ls->e=7
  far:chkE n ls=0->(0<=f/\f<n)->(0<=t/\t<n)->f ≠ t->Agr ls->¬ Tied ls f t->e=5
  yes:chkE n ls=0->(0<=f/\f<n)->(0<=t/\t<n)->f ≠ t->Agr ls->Tied ls f t->e=0/\HiOk ls f t l
end Go.Nm
namespace Go.Proofs.YtfdgkdkfbaghpaaGreat
open Go Go.Nm
variable {ls:List Line} {n:Int}
theorem highest_all (f t:Int):(zcQ n ls f t).Out (fun y=>HiE n ls f t y.1 y.2):=by
  unfold zcQ zaD
  by_cases h:chkE n ls=0
  · have hN := chk_ok.1 h
    have hk:=hN.marks
    have c1:(chkE n ls != 0)=false:=by rw [h]; rfl
    by_cases hr:((0<=f/\f<n)/\(0<=t/\t<n))/\f ≠ t
    · obtain ⟨⟨hf, ht⟩, hne⟩ := hr
      refine M.o_bind (P:=fun y=>∃ can by_ e,y = .inr (n,can,by_,e)/\Wkd ls n can by_/\(¬ Agr ls->e=7)/\(Agr ls->e=if rw_ can f t=1099511627776 then 5 else 0)) ?_ ?_
      · refine M.o_bindE (check_ends n ls) (M.o_f c1 (M.o_grd (gA2 (by omega) (by omega)) (M.o_bindE (in_ends _ _ _) ?_)))
        rw [show (decide (0<=f)&&decide (f<=n-1))=true from gA2 (by omega) (by omega)]
        refine M.o_bindE (a:=true) (M.i_opt (fun _=>by rw [← show (decide (0<=t)&&decide (t<=n-1))=true from gA2 (by omega) (by omega)]; exact in_ends _ _ _) (fun h=>by cases h)) ?_
        refine M.o_f (by rw [beq_eq_false_iff_ne.2 hne]; rfl) (M.o_bind (agreed_out hN) ?_)
        rintro y ⟨c,b,e,rfl,hW,h1,h2⟩
        dsimp only
        refine M.o_grd (gOr2 (by omega) (by omega)) (M.o_grd (gOr2 (by omega) (by omega)) ?_)
        by_cases hA:Agr ls
        · have:=h2 hA
          subst this
          by_cases e:rw_ c f t=1099511627776
          · exact M.o_t (by unfold rw_ at e; rw [e]; rfl) (M.o_pure ⟨c,b,5,rfl,hW,fun h=>absurd hA h,fun _=>by rw [if_pos e]⟩)
          · exact M.o_f (by unfold rw_ at e; simpa using e) (M.o_pure ⟨c,b,0,rfl,hW,fun h=>absurd hA h,fun _=>by rw [if_neg e]⟩)
        · have:=h1 hA
          subst this
          exact M.o_f (by simp) (M.o_pure ⟨c,b,7,rfl,hW,fun _=>rfl,fun h=>absurd h hA⟩)
      · rintro y ⟨c, b, e, rfl, hW, h1, h2⟩
        dsimp only
        have no2:¬ (((0<=f/\f<n)/\(0<=t/\t<n))->f=t):=fun h=>hne (h ⟨hf,ht⟩)
        by_cases hA:Agr ls
        · have hD := hW.done hN hA hf
          by_cases e5:rw_ c f t=1099511627776
          · have:=h2 hA
            rw [if_pos e5] at this
            subst this
            refine M.o_t (by decide) (M.o_pure ⟨fun _=>rfl,fun h'=>absurd h h',fun _ h'=>?_,fun _ _ _ _ h'=>absurd hA h',fun _ _ _ _ _ _=>rfl,fun _ _ _ _ _ hT=>?_⟩)
            · rcases h' with h' | h'
              · exact absurd ⟨hf,ht⟩ h'
              · exact absurd h' hne
            · have:=hD.tied t ht.1 ht.2 hT
              omega
          · have := h2 hA
            rw [if_neg e5] at this
            subst this
            have hlt:=hD.far t ht.1 ht.2 e5
            have d1:=hD.dist t ht.1 ht.2 hlt
            obtain ⟨h',hF⟩:=hA
            obtain ⟨k,hch⟩:=((hW.row f hf.1 hf.2).bo.chn h' hF t ht.1 ht.2 hlt).num
            obtain ⟨l,l1,l2,l3,l4⟩:=highest_1 hN hW ⟨h',hF⟩ hf k t ht.1 ht.2 hlt hch
            have hkp:0<k:=by
              cases hch with
              | root=>exact absurd rfl hne
              | up=>omega
            have few:=starts_few hN (f:=f) (by_:=rb_ b f) (l:=l) (fun i hi=>l4 i (by omega))
            have ho : HiOk ls f t l := by
              refine ⟨by omega,few,fun i hi=>(l4 i (by omega)).1,?_,?_,_,d1,l3⟩
              · have h0:=(l4 0 hkp).2
                generalize sOf ls (l.getD 0 default)=x at h0
                cases h0
                rfl
              · -- no mark twice: each has its own number of legs back
                have hlast:gOf ls (l.getD (l.length-1) default)=t:=by
                  have g:∀ (l:List Leg) (x s y r:Int),l ≠ []->rsW ls x s l=some (y,r)->gOf ls (l.getD (l.length-1) default)=y:=by
                    intro l
                    induction l with
                    | nil=>intro x s y r h; exact absurd rfl h
                    | cons g l ih =>
                      intro x s y r _ hr
                      rw [rsW_cons] at hr
                      split at hr
                      · cases l with
                        | nil =>
                          unfold rsW at hr
                          simp only [Option.some.injEq,Prod.mk.injEq] at hr
                          exact hr.1
                        | cons g2 l2 =>
                          have:=ih _ _ _ _ (by simp) hr
                          simpa using this
                      · cases hr
                  exact g l _ _ _ _ (fun e=>by rw [e] at l2; simp at l2; omega) l3
                unfold metL
                rw [if_pos ⟨rfl,fun e=>by rw [e] at l2; simp at l2; omega⟩,hlast,List.nodup_append]
                refine ⟨?_,by simp,fun a ha b' hb' e=>?_⟩
                · unfold List.Nodup
                  rw [List.pairwise_iff_getElem]
                  intro i j hi hj hlt' e
                  rw [List.length_map] at hi hj
                  rw [List.getElem_map,List.getElem_map] at e
                  have h1:=(l4 i (by omega)).2
                  have h2:=(l4 j (by omega)).2
                  rw [getD_el l hi] at h1
                  rw [getD_el l hj,← e] at h2
                  have:=h1.uniq h2
                  omega
                · obtain ⟨g,hg,rfl⟩:=List.mem_map.1 ha
                  obtain ⟨i,hi,rfl⟩:=mem_getD hg default
                  obtain rfl:b'=t:=by simpa using hb'
                  have h1:=(l4 i (by omega)).2
                  rw [e] at h1
                  have:=h1.uniq hch
                  omega
            refine M.o_f (by decide) (M.o_bindE l1 (M.o_pure ⟨fun h=>absurd rfl h,fun h'=>absurd h h',fun _ h'=>?_,fun _ _ _ _ h'=>absurd ⟨_,hF⟩ h',fun _ _ _ _ _ h'=>absurd d1.tied h',fun _ _ _ _ _ _=>⟨rfl,ho⟩⟩))
            rcases h' with h' | h'
            · exact absurd ⟨hf,ht⟩ h'
            · exact absurd h' hne
        · have:=h1 hA
          subst this
          refine M.o_t (by decide) (M.o_pure ⟨fun _=>rfl,fun h'=>absurd h h',fun _ h'=>?_,fun _ _ _ _ _=>rfl,fun _ _ _ _ h'=>absurd h' hA,fun _ _ _ _ h'=>absurd h' hA⟩)
          rcases h' with h' | h'
          · exact absurd ⟨hf,ht⟩ h'
          · exact absurd h' hne
    · have two:∀ y:(List Leg) × Int,y=([],2)->HiE n ls f t y.1 y.2:=by
        rintro _ rfl
        exact ⟨fun _=>rfl,fun h'=>absurd h h',fun _ _=>rfl,fun _ a b c=>absurd ⟨⟨a,b⟩,c⟩ hr,fun _ a b c=>absurd ⟨⟨a,b⟩,c⟩ hr,fun _ a b c=>absurd ⟨⟨a,b⟩,c⟩ hr⟩
      refine M.o_bindE (a:=.inl 2) ?_ (by dsimp only; exact M.o_t rfl (M.o_pure (two ([],2) rfl)))
      refine M.i_bind (check_ends n ls) (M.i_f c1 (M.i_grd (gA2 (by omega) (by omega)) (M.i_bind (in_ends _ _ _) ?_)))
      have opt:(M.opt (!(!(decide (0<=f)&&decide (f<=n-1)))) (zae t 0 (n-1)) false).Ends ((decide (0<=f)&&decide (f<=n-1))&&(decide (0<=t)&&decide (t<=n-1))):=M.i_opt (fun e=>by rw [Bool.not_not] at e; rw [e,Bool.true_and]; exact in_ends _ _ _) (fun e=>by rw [Bool.not_not] at e; rw [e]; rfl)
      refine M.i_bind opt (M.i_t ?_ M.i_pure)
      by_cases a1:0<=f/\f<n
      · by_cases a2:0<=t/\t<n
        · have a3:f=t:=Classical.byContradiction fun h=>hr ⟨⟨a1,a2⟩,h⟩
          rw [a3]
          simp
        · have:(decide (0<=t)&&decide (t<=n-1))=false:=by
            cases hb:(decide (0<=t)&&decide (t<=n-1)) with
            | false=>rfl
            | true =>
              rw [Bool.and_eq_true,decide_eq_true_eq,decide_eq_true_eq] at hb
              exact absurd ⟨hb.1,by omega⟩ a2
          rw [this]
          simp
      · have:(decide (0<=f)&&decide (f<=n-1))=false:=by
          cases hb:(decide (0<=f)&&decide (f<=n-1)) with
          | false=>rfl
          | true =>
            rw [Bool.and_eq_true,decide_eq_true_eq,decide_eq_true_eq] at hb
            exact absurd ⟨hb.1,by omega⟩ a1
        rw [this]
        rfl
  · have c1:(chkE n ls != 0)=true:=by rw [bne_iff_ne]; exact h
    refine M.o_bindE (M.i_bind (check_ends n ls) (M.i_t c1 M.i_pure)) (M.o_t c1 (M.o_pure ⟨fun _=>rfl,fun _=>rfl,fun h'=>absurd h' h,fun h'=>absurd h' h,fun h'=>absurd h' h,fun h'=>absurd h' h⟩))
end Go.Proofs.YtfdgkdkfbaghpaaGreat
-- libL/LSK3.lean
namespace Go.Nm
/-- A closed walk that proves that the lines disagree. -/
structure LpOk (ls:List Line) (l:List Leg):Prop where
  pos:0<l.length
  few:l.length<=12
  ok:∀ i:Nat,i<l.length->LegOk ls (l.getD i default)
  once:(metL ls l false).Nodup
  ring:∃ d,d<0/\rsW ls (sOf ls (l.getD 0 default)) 0 l=some (sOf ls (l.getD 0 default),d)
theorem lp_of {ls:List Line} {B:Int->Leg} {y:Int} {k:Nat} (k0:0<k) (k12:k<=12) (hl:∀ i,LegOk ls (B (bk ls B i y))/\gOf ls (B (bk ls B i y))=bk ls B i y) (h1:bk ls B k y=y) (h2:∀ i,0<i->i<k->bk ls B i y ≠ y) (h3:bs ls B k y<0):LpOk ls (rgL ls B y k).reverse:=by
  have len:(rgL ls B y k).reverse.length=k:=by rw [List.length_reverse,rgL_length]
  refine ⟨by omega,by omega,fun i hi=>?_,?_,?_⟩
  · have hm:(rgL ls B y k).reverse.getD i default∈(rgL ls B y k).reverse:=by
      rw [getD_el _ hi]
      exact List.getElem_mem hi
    obtain ⟨x,_,e⟩:=List.mem_map.1 (List.mem_reverse.1 hm)
    rw [← e]
    exact (hl x).1
  · unfold metL
    rw [if_neg (fun h=>by cases h.1),List.append_nil,List.map_reverse]
    unfold rgL
    rw [List.map_map]
    refine List.pairwise_reverse.mpr (List.pairwise_iff_getElem.mpr fun i j hi hj hij=>Ne.symm ?_)
    simp only [List.length_map,List.length_range] at hi hj
    simp only [List.getElem_map,List.getElem_range,Function.comp]
    rw [← bk_succ,← bk_succ]
    by_cases c:j+1=k
    · rw [c,h1]
      exact h2 (i+1) (by omega) (by omega)
    · exact ring_nodup h1 h2 (i+1) (j+1) (by omega) (by omega)
  · have hw:=rgL_walk (ls:=ls) B y k (fun i _=>(hl i).2) 0
    obtain ⟨k',rfl⟩:∃ k',k=k'+1:=⟨k-1,by omega⟩
    have e:(rgL ls B y (k'+1)).reverse=B (bk ls B k' y) :: (rgL ls B y k').reverse:=by rw [rgL_succ]; simp
    have e2:sOf ls ((rgL ls B y (k'+1)).reverse.getD 0 default)=y:=by
      rw [e]
      show sOf ls (B (bk ls B k' y))=y
      rw [← bk_succ,h1]
    rw [h1] at hw
    exact ⟨_,h3,by rw [e2,hw,Int.zero_add]⟩
end Go.Nm
namespace Go.Proofs.YtfdgkdkfbaghpaaGreat
open Go Go.Nm
variable {ls:List Line} {n f:Int}
theorem sinking_all (hN:NetOk n ls) (hf:0<=f/\f<n):(zb5 n ls f).Out (fun y=>(y=[]/\∃ (R:Int->Int) (H:Int->Prop),H f/\∀ g,LegOk ls g->H (sOf ls g)->Fin ls R H g)∨LpOk ls y):=by
  have hm:=hN.marks
  obtain ⟨N,e⟩:∃ N:Nat,(N:Int)=n:=⟨n.toNat,by omega⟩
  have hA:Ag (fun _=>0) (fun _=>default) (fun v=>v=f) (List.replicate 13 0) (List.replicate 13 default) ((List.replicate 13 false).set f.toNat true):=by
    refine ⟨by simp,by simp,by simp,fun v hv=>?_,fun v hv=>?_,fun v hv=>?_⟩
    · rw [getD_el _ (by simpa using hv),List.getElem_replicate]
    · rw [getD_el _ (by simpa using hv),List.getElem_replicate]
    · rw [gset _ _ _ _ _ (by simp; omega)]
      by_cases c:v=f.toNat
      · rw [if_pos c]; exact ⟨fun _=>by omega,fun _=>rfl⟩
      · rw [if_neg c,getD_el _ (by simpa using hv),List.getElem_replicate]; exact ⟨fun h=>(by cases h),fun h=>by omega⟩
  unfold zb5
  refine M.o_grd (gA2 (by omega) (by omega)) (M.o_grd (gA2 (by omega) (by omega)) (M.o_bind (sink_rounds hN e hf hA) ?_))
  rintro ⟨a,b,d,at_⟩ ⟨K,R,B,H,q,h,hA⟩
  dsimp only at h hA ⊢
  by_cases c:at_ = -1
  · subst c
    exact M.o_t rfl (M.o_pure (.inl ⟨rfl,R,H,h.sk.root,h.still e⟩))
  · obtain ⟨pos,k,k0,kN,k1,k2,k3⟩:=h.ringed e c (Nat.le_refl _)
    have leg:∀ i,LegOk ls (B (bk ls B i at_))/\gOf ls (B (bk ls B i at_))=bk ls B i at_:=fun i=>by
      have:=h.sk.leg _ (pos i)
      exact ⟨this.2.1,this.2.2.1⟩
    have rng:∀ i,0<=bk ls B i at_/\bk ls B i at_<n:=fun i=>h.dom _ (h.qd _ (pos i))
    have row:∀ i,b.getD (bk ls B i at_).toNat default=B (bk ls B i at_):=fun i=>by
      have h1:=rng i
      rw [hA.rb _ (by omega),Int.toNat_of_nonneg h1.1]
    have sh:∀ i,bk ls B i (bk ls B N at_)=bk ls B (N+i) at_:=fun i=>(bk_add B N i at_).symm
    refine M.o_f (beq_eq_false_iff_ne.2 c) (M.o_bind (P:=fun z=>z=bk ls B N at_) ?_ ?_)
    · refine M.o_for N (fun i s=>s.1=bk ls B i at_/\s.2=i) ?_ ?_ (s:=(at_,0)) ⟨rfl,rfl⟩
      · rintro i ⟨x,s⟩ hi ⟨e1,e2⟩
        dsimp only at e1 e2
        subst e2
        subst e1
        have h1:=rng s
        simp only [zbO]
        rw [row]
        exact M.o_t (decide_eq_true (by omega)) (M.o_grd (gA2 (by omega) (by omega)) (M.o_bindE (start_ends (leg s).1) (M.o_grd (gA2 (by omega) (by omega)) (M.o_pure ⟨(bk_succ B s at_).symm,rfl⟩))))
      · rintro ⟨x,s⟩ ⟨e1,e2⟩
        dsimp only at e1 e2
        subst e2
        simp only [zbO]
        exact M.o_f (decide_eq_false (by omega)) (M.o_pure e1)
    · rintro _ rfl
      refine M.o_bind (P:=fun z=>z.2=rgL ls B (bk ls B N at_) k) ?_ ?_
      · refine M.o_for k (fun i s=>s.1=bk ls B i (bk ls B N at_)/\s.2=rgL ls B (bk ls B N at_) i) ?_ ?_ (s:=(bk ls B N at_,[])) ⟨rfl,rfl⟩
        · rintro i ⟨x,l⟩ hi ⟨e1,e2⟩
          dsimp only at e1 e2
          subst e1
          subst e2
          have h1:=rng (N+i)
          simp only [zbA]
          rw [rgL_length]
          have hc:(((i:Int)==0)||(bk ls B i (bk ls B N at_) != bk ls B N at_))=true:=by
            by_cases z:i=0
            · rw [z]; rfl
            · rw [show (bk ls B i (bk ls B N at_) != bk ls B N at_)=true from bne_iff_ne.2 (k2 i (by omega) hi),Bool.or_true]
          have hrow:b.getD (bk ls B i (bk ls B N at_)).toNat default=B (bk ls B i (bk ls B N at_)):=by rw [sh]; exact row _
          have hleg:LegOk ls (B (bk ls B i (bk ls B N at_))):=by rw [sh]; exact (leg _).1
          rw [hrow]
          refine M.o_t hc (M.o_grd (gA2 (by rw [sh]; omega) (by rw [sh]; omega)) (M.o_grd (decide_eq_true (by simp only [List.length_cons,List.length_nil]; omega)) (M.o_bindE (start_ends hleg) (M.o_pure ⟨(bk_succ B i _).symm,(rgL_succ B _ i).symm⟩))))
        · rintro ⟨x,l⟩ ⟨e1,e2⟩
          dsimp only at e1 e2
          subst e1
          subst e2
          simp only [zbA]
          rw [rgL_length,k1]
          have hc:(((k:Int)==0)||(bk ls B N at_ != bk ls B N at_))=false:=by
            rw [show ((k:Int)==0)=false from beq_eq_false_iff_ne.2 (by omega),bne_self_eq_false]
            rfl
          exact M.o_f hc (M.o_pure rfl)
      · rintro ⟨l8,l9⟩ hl
        dsimp only at hl ⊢
        subst hl
        have hlp:=lp_of k0 (show k<=12 by omega) (fun i=>by rw [sh]; exact leg _) k1 k2 k3
        exact M.o_bindE (reverse_ends (by rw [rgL_length]; omega)) (M.o_grd (decide_eq_true hlp.pos) (M.o_pure (.inr hlp)))
end Go.Proofs.YtfdgkdkfbaghpaaGreat
-- libL/DS4.lean
namespace Go.Nm
variable {ls:List Line} {n:Int}
theorem ed_leg {a b c:Int} (e:Ed ls a b c):∃ g,LegOk ls g/\sOf ls g=a/\gOf ls g=b/\rOf ls g=c:=by
  obtain ⟨l,hl,h⟩:=e
  obtain ⟨i,hi,rfl⟩:=mem_getD hl default
  rcases h with ⟨h1,h2,h3⟩ | ⟨h1,h2,h3⟩
  · exact ⟨⟨i,false⟩,⟨by show (0:Int)<=(i:Int); omega,by show (i:Int)<_; omega⟩,h1,h2,h3.symm⟩
  · exact ⟨⟨i,true⟩,⟨by show (0:Int)<=(i:Int); omega,by show (i:Int)<_; omega⟩,h1,h2,h3.symm⟩
theorem agr_of_parts (hR:Rng n ls) (hh:∀ f:Nat,(f:Int)<n->∃ (R:Int->Int) (H:Int->Prop),H f/\∀ g,LegOk ls g->H (sOf ls g)->Fin ls R H g):Agr ls:=by
  have h1:∀ f:Nat,∃ p:(Int->Int) × (Int->Prop),(f:Int)<n->p.2 f/\∀ g,LegOk ls g->p.2 (sOf ls g)->Fin ls p.1 p.2 g:=fun f=>by
    by_cases c:(f:Int)<n
    · obtain ⟨R,H,h⟩:=hh f c
      exact ⟨(R,H),fun _=>h⟩
    · exact ⟨(fun _=>0,fun _=>False),fun h=>absurd h c⟩
  obtain ⟨P,hP⟩:=Classical.axiomOfChoice h1
  have h2:∀ v:Int,∃ f:Nat,(0<=v/\v<n)->((f:Int)<n/\(P f).2 v)/\∀ u:Nat,((u:Int)<n/\(P u).2 v)->f<=u:=fun v=>by
    by_cases c:0<=v/\v<n
    · obtain ⟨f,a1,a2⟩:=least_nat (p:=fun u:Nat=>(u:Int)<n/\(P u).2 v) ⟨v.toNat,by omega,by
        have:=(hP v.toNat (by omega)).1
        rwa [Int.toNat_of_nonneg c.1] at this⟩
      exact ⟨f,fun _=>⟨a1,a2⟩⟩
    · exact ⟨0,fun h=>absurd h c⟩
  obtain ⟨F,hF⟩:=Classical.axiomOfChoice h2
  -- an edge does not lead to a part that is met later
  have go:∀ a b c,Ed ls a b c->F b<=F a/\(P (F a)).1 b<=(P (F a)).1 a+c:=fun a b c e=>by
    have hr:=e.rng hR
    obtain ⟨g,g1,g2,g3,g4⟩:=ed_leg e
    have ha:=(hF a hr.1).1
    have fin:=(hP (F a) ha.1).2 g g1 (by rw [g2]; exact ha.2)
    unfold Fin at fin
    rw [g2,g3,g4] at fin
    exact ⟨(hF b hr.2).2 _ ⟨ha.1,fin.1⟩,fin.2⟩
  refine ⟨fun v=>(P (F v)).1 v,feas_of fun a b c e=>?_⟩
  obtain ⟨c',e'⟩:=e.rev
  have k1:=go a b c e
  have k2:=go b a c' e'
  have k3:F b=F a:=by omega
  show (P (F b)).1 b-(P (F a)).1 a<=c
  rw [k3]
  omega
end Go.Nm
-- libL/LLP.lean
namespace Go.Nm
/-- What is said of Loop. -/
structure LoE (n:Int) (ls:List Line) (l:List Leg) (e:Int):Prop where
  err:e ≠ 0->l=[]
  chk:chkE n ls ≠ 0->e=chkE n ls
  agr:chkE n ls=0->Agr ls->e=5
  no:chkE n ls=0->¬ Agr ls->e=0/\LpOk ls l
end Go.Nm
namespace Go.Proofs.YtfdgkdkfbaghpaaGreat
open Go Go.Nm
variable {ls:List Line} {n:Int}
theorem loop_all:(zcw n ls).Out (fun y=>LoE n ls y.1 y.2):=by
  unfold zcw
  by_cases h:chkE n ls=0
  · have hN:=chk_ok.1 h
    have hm:=hN.marks
    refine M.o_bind (opened_out hN) ?_
    rintro y ⟨c,b,rfl,hW⟩
    dsimp only
    refine M.o_f rfl (M.o_bind (open_out hN hW) ?_)
    intro r hr
    cases r with
    | false =>
      have hA:Agr ls:=Classical.byContradiction fun h=>by have:=hr.2 h; cases this
      exact M.o_t rfl (M.o_pure ⟨fun _=>rfl,fun h'=>absurd h h',fun _ _=>rfl,fun _ h'=>absurd hA h'⟩)
    | true =>
      have hA:¬ Agr ls:=hr.1 rfl
      refine M.o_f rfl (M.o_bind (P:=fun y=>LpOk ls y.1) ?_ ?_)
      · obtain ⟨N,e⟩:∃ N:Nat,(N:Int)=n:=⟨n.toNat,by omega⟩
        refine M.o_for N (fun i s=>s.1=i/\∀ f:Nat,f<i->∃ (R:Int->Int) (H:Int->Prop),H f/\∀ g,LegOk ls g->H (sOf ls g)->Fin ls R H g) ?_ ?_ (s:=(0,[])) ⟨rfl,fun f h=>by omega⟩
        · rintro i ⟨s,l⟩ hi ⟨e1,hp⟩
          dsimp only at e1
          subst e1
          simp only [zcx]
          refine M.o_t (decide_eq_true (by omega)) (M.o_bind (sinking_all hN (f:=(s:Int)) ⟨by omega,by omega⟩) ?_)
          rintro r (⟨rfl,hR⟩ | hl)
          · refine M.o_f rfl (M.o_grd (gA2 (by omega) (by omega)) (M.o_pure ⟨rfl,fun f hf=>?_⟩))
            by_cases e2:f=s
            · rw [e2]; exact hR
            · exact hp f (by omega)
          · have hne:(!r.isEmpty)=true:=by
              have:=hl.pos
              cases r with
              | nil=>simp at this
              | cons x xs=>rfl
            exact M.o_t hne (M.o_pure hl)
        · rintro ⟨s,l⟩ ⟨e1,hp⟩
          exact absurd (agr_of_parts hN.rng fun f hf=>hp f (by omega)) hA
      · rintro ⟨l2,l3⟩ hl
        exact M.o_pure ⟨fun h=>absurd rfl h,fun h'=>absurd h h',fun _ h'=>absurd h' hA,fun _ _=>⟨rfl,hl⟩⟩
  · have hc:(chkE n ls != 0)=true:=bne_iff_ne.2 h
    unfold zao
    refine M.o_bind (P:=fun y=>y = .inl (chkE n ls)) (M.o_bindE (check_ends n ls) (M.o_t hc (M.o_pure rfl))) ?_
    rintro _ rfl
    dsimp only
    exact M.o_t hc (M.o_pure ⟨fun _=>rfl,fun _=>rfl,fun h'=>absurd h' h,fun h'=>absurd h' h⟩)
end Go.Proofs.YtfdgkdkfbaghpaaGreat
-- libL/LLQ.lean
namespace Go.Proofs.YtfdgkdkfbaghpaaGreat
open Go Go.Nm
theorem copy_leg {l:List Leg} (h:l.length<=1000000):(zcO l).Ends l:=by
  unfold zcO
  exact M.i_grd (decide_eq_true (by simp only [List.length_nil]; omega)) M.i_pure
theorem walk_leg {l:List Leg} (h:l.length<=1000000):(zaT l).Ends l:=by
  have out:(zaT l).Out (fun r=>r=l):=by
    unfold zaT
    refine M.o_bind (P:=fun p=>p.2=l) ?_ ?_
    · refine M.o_for l.length (fun i st=>st.1=i/\st.2=l.take i) ?_ ?_ (s:=(0,[])) ⟨rfl,rfl⟩
      · rintro i ⟨s,m⟩ hi ⟨e1,e2⟩
        dsimp only at e1 e2
        subst e1
        subst e2
        simp only [zbT]
        exact M.o_t (decide_eq_true (by omega)) (M.o_grd (decide_eq_true (by omega)) (M.o_grd (decide_eq_true (by rw [List.length_take]; simp only [List.length_cons,List.length_nil]; omega)) (M.o_pure ⟨rfl,take_succ_D l s hi default⟩)))
      · rintro ⟨s,m⟩ ⟨e1,e2⟩
        dsimp only at e1 e2
        subst e1
        simp only [zbT]
        refine M.o_f (decide_eq_false (by omega)) (M.o_pure ?_)
        show m=l
        rw [e2,List.take_length]
    · rintro ⟨a,b⟩ h
      exact M.o_pure h
  obtain ⟨r,h,rfl⟩:=out
  exact h
theorem same_leg (ls:List Leg):(zbU ls ls).Ends true:=by
  have out:(zbU ls ls).Out (fun r=>r=true):=by
    unfold zbU
    refine M.o_f (by simp) (M.o_bind (P:=fun y=>y = .inr ()) ?_ (fun y hy=>by subst hy; exact M.o_pure rfl))
    refine M.o_for ls.length (fun i st=>st=i) ?_ ?_ rfl
    · rintro i s hi rfl
      simp only [zb6]
      exact M.o_t (by simpa using hi) (M.o_grd (by simpa using hi) (M.o_grd (by simpa using hi) (M.o_f (by simp) (M.o_pure rfl))))
    · rintro s rfl
      simp only [zb6]
      exact M.o_f (by simp) (M.o_pure rfl)
  obtain ⟨r,h,rfl⟩:=out
  exact h
end Go.Proofs.YtfdgkdkfbaghpaaGreat
-- libL/LWM.lean
namespace Go.Proofs.YtfdgkdkfbaghpaaGreat
open Go Go.Nm
variable {ls:List Line} {n:Int}
theorem walks_j0 (legs:List Leg):(za0 n ls legs n ls legs).Ends true:=by
  unfold za0
  exact M.i_bind (same_net n ls) (M.i_bind (a:=true) (M.i_opt (fun _=>same_leg legs) (fun h=>by cases h)) (M.i_bind (a:=true) (M.i_opt (fun _=>awake_ends) (fun h=>by cases h)) M.i_pure))
theorem rsE_ok (h:chkE n ls=0) {l:List Leg} (h1:0<l.length) (h2:l.length<=12) (hk:∀ i:Nat,i<l.length->LegOk ls (l.getD i default)) {y d:Int} (hr:rsW ls (sOf ls (l.getD 0 default)) 0 l=some (y,d)):rsE n ls l=(sOf ls (l.getD 0 default),y,d,0):=by
  have hall:l.all (legB ls)=true:=List.all_eq_true.2 fun g hg=>by
    obtain ⟨i,hi,rfl⟩:=mem_getD hg default
    have:=hk i hi
    exact gA2 this.1 (by have:=this.2; omega)
  unfold rsE
  rw [h,hall,hr,show (decide (1<=(l.length:Int))&&decide ((l.length:Int)<=60))=true from gA2 (by omega) (by omega)]
  rfl
theorem walks_j1 (hl:ls.length<=1000000) (legs:List Leg) {s2:Int} (hs:∀ l e,LoE n ls l e->e=s2):(zbp n ls legs n ls legs s2).Out (fun r=>r=true):=by
  unfold zbp
  refine M.o_bind loop_all ?_
  rintro ⟨l,e⟩ hL
  have es:=hs l e hL
  dsimp only at hL ⊢
  subst es
  by_cases e0:e=0
  · subst e0
    have hc:chkE n ls=0:=Classical.byContradiction fun h=>h (hL.chk h).symm
    have hA:¬ Agr ls:=fun h=>by have:=hL.agr hc h; omega
    have hp:=(hL.no hc hA).2
    obtain ⟨d,d1,d2⟩:=hp.ring
    have hr:=rsE_ok hc hp.pos hp.few hp.ok d2
    have q:=hp.few
    have rr:=ref_rises n ls l hl (by omega)
    rw [hr] at rr
    refine M.o_f (by simp) (M.o_t rfl (M.o_bindE (net_ends n hl) (M.o_bindE (walk_leg (by omega)) (M.o_bindE rr ?_))))
    dsimp only
    have c1:(((0:Int) != 0)||(sOf ls (l.getD 0 default) != sOf ls (l.getD 0 default))||decide (0<=d))=false:=by simp; omega
    rw [c1]
    exact M.o_bindE (a:=false) (M.i_opt (fun _=>twice_no hp.ok (by omega) hp.once) (fun h=>by cases h)) (M.o_f rfl ⟨_,walks_j0 legs,rfl⟩)
  · have:=hL.err e0
    subst this
    exact M.o_f (by simp) (M.o_f (beq_eq_false_iff_ne.2 e0) ⟨_,walks_j0 legs,rfl⟩)
theorem walks_j2 (hl:ls.length<=1000000) (legs:List Leg):(zbm n ls legs n ls legs).Out (fun r=>r=true):=by
  unfold zbm
  obtain ⟨b,e,_,a2,a3,a4⟩:=agrees_both (n:=n) hl
  refine M.o_bindE (net_ends n hl) (M.o_bindE a2 ?_)
  dsimp only
  by_cases h:chkE n ls=0
  · obtain ⟨k1,k2⟩:=a4 h
    cases b with
    | true=>exact M.o_t rfl (walks_j1 hl legs fun l e hL=>hL.agr h (k2.1 rfl))
    | false=>exact M.o_f rfl (walks_j1 hl legs fun l e' hL=>by rw [k1]; exact (hL.no h fun hA=>by have:=k2.2 hA; cases this).1)
  · obtain ⟨rfl,rfl⟩:=a3 h
    exact M.o_f rfl (walks_j1 hl legs fun l e' hL=>hL.chk h)
end Go.Proofs.YtfdgkdkfbaghpaaGreat
-- libL/LWL.lean
namespace Go.Proofs.YtfdgkdkfbaghpaaGreat
open Go Go.Nm
variable {ls:List Line} {n:Int}
theorem chk_ne7 (n:Int) (ls:List Line):chkE n ls ≠ 7:=by
  unfold chkE
  cases ((!(decide (1<=n)&&decide (n<=12)))||decide (30<(ls.length:Int))) <;> cases (!(ls.all (okLine n))) <;> simp
theorem walks_j3 (hl:ls.length<=1000000) (legs:List Leg) {f t d s:Int} (hs:∀ l e,HiE n ls f t l e->e=s/\(e=0->chkE n ls=0/\HiOk ls f t l/\IsDist ls f t d)):(zbh n ls f t legs n ls legs d s).Out (fun r=>r=true):=by
  unfold zbh
  refine M.o_bind (highest_all f t) ?_
  rintro ⟨l,e⟩ hL
  obtain ⟨es,hy⟩:=hs l e hL
  dsimp only at hL ⊢
  subst es
  by_cases e0:e=0
  · obtain ⟨hc,hp,hD⟩:=hy e0
    subst e0
    obtain ⟨d',d1,d2⟩:=hp.rise
    have e3:=d1.uniq hD
    subst e3
    rw [← hp.first] at d2
    have hr:=rsE_ok hc hp.pos hp.few hp.ok d2
    have q:=hp.few
    have rr:=ref_rises n ls l hl (by omega)
    rw [hr,hp.first] at rr
    refine M.o_f (by simp) (M.o_t rfl (M.o_bindE (net_ends n hl) (M.o_bindE (walk_leg (by omega)) (M.o_bindE rr ?_))))
    dsimp only
    have c1:((((0:Int) != 0)||(f != f))||(t != t)||(d' != d'))=false:=by simp
    rw [c1]
    exact M.o_bindE (a:=false) (M.i_opt (fun _=>twice_no hp.ok (by omega) hp.once) (fun h=>by cases h)) (M.o_f rfl (walks_j2 hl legs))
  · have:=hL.err e0
    subst this
    exact M.o_f (by simp) (M.o_f (beq_eq_false_iff_ne.2 e0) (walks_j2 hl legs))
theorem zcy (n:Int) (ls:List Line) (f t:Int) (legs:List Leg):(zaG n ls f t legs).Ends true:=by
  have out : (zaG n ls f t legs).Out (fun r => r = true) := by
    unfold zaG
    refine M.o_if (fun hb=>M.o_bindE awake_ends (M.o_pure rfl)) (fun hb=>?_)
    rw [Bool.or_eq_false_iff] at hb
    have q1:=of_decide_eq_false hb.1
    have q2:=of_decide_eq_false hb.2
    have hl:ls.length<=1000000:=by omega
    obtain ⟨⟨y1,y2,y3⟩,b1,b2,b3,b4,b5⟩:=between_both (n:=n) hl f t
    refine M.o_bindE (copy_net hl n) (M.o_bindE (copy_leg (by omega)) (M.o_bindE b1 (M.o_bindE (net_ends n hl) (M.o_bindE b2 ?_))))
    dsimp only
    refine M.o_f (by simp) (M.o_bindE (rises_ends n ls legs) (M.o_bindE (net_ends n hl) (M.o_bindE (walk_leg (by omega)) (M.o_bindE (ref_rises n ls legs hl (by omega)) ?_))))
    refine M.o_f (by simp) ?_
    by_cases hc:chkE n ls=0
    · by_cases hr:(0<=f/\f<n)/\(0<=t/\t<n)
      · have hB:=b5 hc hr.1 hr.2
        by_cases e:f=t
        · subst e
          have h3:y3=0∨y3=7:=by
            by_cases hA:Agr ls
            · exact .inl (hB.yes hA ⟨[],0,.one⟩).1
            · have:=hB.no hA
              simp only [Prod.mk.injEq] at this
              exact .inr this.2.2
          refine M.o_t (by rcases h3 with rfl | rfl <;> simp) (walks_j3 hl legs fun l e hL=>?_)
          have:=hL.arg hc (.inr rfl)
          exact ⟨this,fun h=>by omega⟩
        · refine M.o_f (by rw [beq_eq_false_iff_ne.2 e]; rfl) (walks_j3 hl legs fun l e' hL=>?_)
          by_cases hA:Agr ls
          · by_cases hT:Tied ls f t
            · obtain ⟨k1,k2,_⟩:=hB.yes hA hT
              obtain ⟨k3,k4⟩:=hL.yes hc hr.1 hr.2 e hA hT
              dsimp only at k1 k2
              exact ⟨by rw [k1,k3],fun _=>⟨hc,k4,k2⟩⟩
            · have k1:=hB.far hA hT
              simp only [Prod.mk.injEq] at k1
              have:=hL.far hc hr.1 hr.2 e hA hT
              exact ⟨by rw [this,k1.2.2],fun h=>by omega⟩
          · have k1:=hB.no hA
            simp only [Prod.mk.injEq] at k1
            have:=hL.no hc hr.1 hr.2 e hA
            exact ⟨by rw [this,k1.2.2],fun h=>by omega⟩
      · have k:=b4 hc hr
        simp only [Prod.mk.injEq] at k
        obtain ⟨rfl,rfl,rfl⟩:=k
        refine M.o_f (by simp) (walks_j3 hl legs fun l e' hL=>?_)
        have:=hL.arg hc (.inl hr)
        exact ⟨this,fun h=>by omega⟩
    · have k:=b3 hc
      simp only [Prod.mk.injEq] at k
      obtain ⟨rfl,rfl,rfl⟩:=k
      have h7:=chk_ne7 n ls
      refine M.o_f (by rw [beq_eq_false_iff_ne.2 hc,beq_eq_false_iff_ne.2 h7]; simp) (walks_j3 hl legs fun l e' hL=>?_)
      have:=hL.chk hc
      exact ⟨this,fun h=>absurd (this ▸ h) hc⟩
  obtain ⟨r,h,rfl⟩:=out
  exact h
end Go.Proofs.YtfdgkdkfbaghpaaGreat
-- libL/LPV.lean
namespace Go.Nm
variable {ls:List Line} {n:Int}
/-- A line, of whose mark from a day on is another one. -/
def pt1 (n mk d:Int) (l:Line):Line:=if l.day<d then l else { l with src:=if l.src=mk then n else l.src,dst:=if l.dst=mk then n else l.dst }
def ptL (n:Int) (m:Mv) (ls:List Line):List Line:=ls.map (pt1 n m.mark m.day)
theorem pt1_day (n mk d:Int) (l:Line):(pt1 n mk d l).day=l.day/\(pt1 n mk d l).rise=l.rise/\(pt1 n mk d l).err=l.err:=by
  unfold pt1
  split <;> exact ⟨rfl,rfl,rfl⟩
theorem pt1_ends (n mk d:Int) (l:Line):(pt1 n mk d l).src=(if l.day<d then l.src else if l.src=mk then n else l.src)/\(pt1 n mk d l).dst=(if l.day<d then l.dst else if l.dst=mk then n else l.dst):=by
  unfold pt1
  split <;> exact ⟨rfl,rfl⟩
theorem ptL_ok {m:Mv} (hN:NetOk n ls) (h:n<12) (hm:0<=m.mark/\m.mark<n):NetOk (n+1) (ptL n m ls):=by
  have hk:=hN.marks
  have mem:∀ l,l∈ptL n m ls->∃ k,k∈ls/\l=pt1 n m.mark m.day k:=fun l hl=>by
    obtain ⟨k,hk,e⟩:=List.mem_map.1 hl
    exact ⟨k,hk,e.symm⟩
  refine ⟨by omega,by unfold ptL; rw [List.length_map]; exact hN.few,fun l hl=>?_,fun l hl=>?_,fun l hl=>?_,fun l hl=>?_,fun l hl=>?_⟩ <;> obtain ⟨k,hk,rfl⟩:=mem l hl
  · have:=hN.rng k hk
    obtain ⟨e1,e2⟩:=pt1_ends n m.mark m.day k
    rw [e1,e2]
    constructor <;> split <;> (try split) <;> omega
  · have h1:=hN.rng k hk
    have h2:=hN.ne k hk
    obtain ⟨e1,e2⟩:=pt1_ends n m.mark m.day k
    rw [e1,e2]
    split
    · exact h2
    · split <;> split <;> omega
  · rw [(pt1_day n m.mark m.day k).1]; exact hN.day k hk
  · rw [(pt1_day n m.mark m.day k).2.1]; exact hN.rise k hk
  · rw [(pt1_day n m.mark m.day k).2.2]; exact hN.err k hk
/-- Lines that are changed one by one. -/
structure Don (f:Line->Line) (ls:List Line) (i:Nat) (l:List Line):Prop where
  len:l.length=ls.length
  el:∀ j,j<ls.length->l.getD j default=if j<i then f (ls.getD j default) else ls.getD j default
theorem Don.zero (f:Line->Line) (ls:List Line):Don f ls 0 ls:=⟨rfl,fun j _=>by rw [if_neg (by omega)]⟩
theorem Don.here {f:Line->Line} {i:Nat} {l:List Line} (h:Don f ls i l) (hi:i<ls.length):l.getD i default=ls.getD i default:=by rw [h.el i hi,if_neg (by omega)]
theorem Don.set {f:Line->Line} {i:Nat} {l:List Line} {x:Line} (h:Don f ls i l) (hi:i<ls.length) (hx:x=f (ls.getD i default)):Don f ls (i+1) (l.set i x):=by
  refine ⟨by rw [List.length_set]; exact h.len,fun j hj=>?_⟩
  rw [gset _ _ _ _ _ (by rw [h.len]; exact hi)]
  by_cases e:j=i
  · subst e
    rw [if_pos rfl,if_pos (by omega),hx]
  · rw [if_neg e,h.el j hj]
    by_cases e2:j<i
    · rw [if_pos e2,if_pos (by omega)]
    · rw [if_neg e2,if_neg (by omega)]
theorem Don.same {f:Line->Line} {i:Nat} {l:List Line} (h:Don f ls i l) (hi:i<ls.length) (hx:f (ls.getD i default)=ls.getD i default):Don f ls (i+1) l:=by
  refine ⟨h.len,fun j hj=>?_⟩
  rw [h.el j hj]
  by_cases e:j=i
  · subst e
    rw [if_neg (by omega),if_pos (by omega),hx]
  · by_cases e2:j<i
    · rw [if_pos e2,if_pos (by omega)]
    · rw [if_neg e2,if_neg (by omega)]
theorem Don.fin {f:Line->Line} {i:Nat} {l:List Line} (h:Don f ls i l) (hi:i=ls.length):l=ls.map f:=by
  subst hi
  refine List.ext_getElem (by rw [List.length_map]; exact h.len) fun j h1 h2=>?_
  have h3:j<ls.length:=by rw [List.length_map] at h2; exact h2
  have:=h.el j h3
  rw [if_pos h3,getD_el l h1,getD_el ls h3] at this
  rw [this,List.getElem_map]
/-- Days from which on a mark can have moved. -/
def Dy (ls:List Line) (mk d:Int):Prop:=(d=1∨∃ l,l∈ls/\(l.src=mk∨l.dst=mk)/\d=l.day+1)/\d ≠ 40001
theorem mem_insK {l:List Int} {k x:Int}:x∈insK l k↔x∈l∨x=k:=by
  unfold insK
  cases hc:l.contains k with
  | true =>
    have hc:k∈l:=by simpa using hc
    exact ⟨fun h=>.inl h,fun h=>by rcases h with h | rfl; exact h; exact hc⟩
  | false=>simp
theorem len_insK (l:List Int) (k:Int):(insK l k).length<=l.length+1:=by
  unfold insK
  cases l.contains k with
  | true=>exact Nat.le_succ _
  | false=>simp
/-- The moves that are found: one for each mark that can have moved, with the first day. -/
structure MvOk (n:Int) (ls:List Line) (i:Int) (l:List Mv):Prop where
  len:(l.length:Int)<=i
  each:∀ m,m∈l->(0<=m.mark/\m.mark<i)/\Dy ls m.mark m.day/\Agr (ptL n m ls)
  asc:l.Pairwise (fun a b=>a.mark<b.mark)
  all:∀ mk d,0<=mk->mk<i->Dy ls mk d->Agr (ptL n ⟨mk,d⟩ ls)->∃ m,m∈l/\m.mark=mk/\m.day<=d
theorem Dy.rng {mk d:Int} (hN:NetOk n ls) (h:Dy ls mk d):1<=d/\d<=40000:=by
  obtain ⟨rfl | ⟨l,hl,_,rfl⟩,h2⟩:=h
  · omega
  · have:=hN.day l hl
    omega
end Go.Nm
namespace Go.Proofs.YtfdgkdkfbaghpaaGreat
open Go Go.Nm
variable {ls:List Line} {n:Int}
theorem parted_any (hn:0<=n/\n<=12) (h2:ls.length<=30) (m:Mv):(zaK n ls m).Ends (n+1,ptL n m ls):=by
  have out:(zaK n ls m).Out (fun r=>r=(n+1,ptL n m ls)):=by
    unfold zaK
    refine M.o_grd (gA2 (by omega) (by omega)) (M.o_grdD (by omega) ?_)
    refine M.o_bind (P:=fun y=>y.2=ptL n m ls) ?_ (fun y hy=>M.o_pure (by rw [hy]))
    refine M.o_for ls.length (fun i st=>st.1=i/\Don (pt1 n m.mark m.day) ls i st.2) ?_ ?_ ⟨rfl,Don.zero _ _⟩
    · rintro i ⟨s,l⟩ hi ⟨rfl,hD⟩
      dsimp only at hi hD
      simp only [zaS]
      have g:∀ x,(l.set s x).getD s default=x:=fun x=>by rw [gset _ _ _ _ _ (by rw [hD.len]; exact hi),if_pos rfl]
      simp only [g,List.set_set,hD.here hi]
      have hl:=hD.len
      refine M.o_t (by simpa using hi) (M.o_grdD (by omega) (M.o_if (fun hb=>?_) (fun hb=>?_)))
      · refine M.o_pure ⟨rfl,hD.same hi ?_⟩
        have hb:=of_decide_eq_true hb
        unfold pt1
        rw [if_pos hb]
      · have hb:=of_decide_eq_false hb
        refine M.o_if (fun h1=>?_) (fun h1=>?_)
        · have h1:=beq_iff_eq.1 h1
          refine M.o_if (fun h2=>?_) (fun h2=>?_)
          · have h2:=beq_iff_eq.1 h2
            refine M.o_pure ⟨rfl,hD.set hi ?_⟩
            unfold pt1
            rw [if_neg hb,if_pos h1,if_pos h2]
          · have h2:=beq_eq_false_iff_ne.1 h2
            refine M.o_pure ⟨rfl,hD.set hi ?_⟩
            unfold pt1
            rw [if_neg hb,if_pos h1,if_neg h2]
        · have h1:=beq_eq_false_iff_ne.1 h1
          refine M.o_if (fun h2=>?_) (fun h2=>?_)
          · have h2:=beq_iff_eq.1 h2
            refine M.o_pure ⟨rfl,hD.set hi ?_⟩
            unfold pt1
            rw [if_neg hb,if_neg h1,if_pos h2]
          · have h2:=beq_eq_false_iff_ne.1 h2
            refine M.o_pure ⟨rfl,hD.same hi ?_⟩
            unfold pt1
            rw [if_neg hb,if_neg h1,if_neg h2]
    · rintro ⟨s,l⟩ ⟨rfl,hD⟩
      simp only [zaS]
      exact M.o_f (by simp) (M.o_pure (hD.fin rfl))
  obtain ⟨r,h,rfl⟩:=out
  exact h
theorem parted_ends (hn:0<=n/\n<=12) (h:0<ls.length) (h2:ls.length<=30) (m:Mv):(zaK n ls m).Ends (n+1,ptL n m ls):=parted_any hn h2 m
theorem days_out (hN:NetOk n ls) (N mk:Int):(zcp N ls mk).Out (fun r=>r.Pairwise (·<=·)/\∀ d,d∈r↔Dy ls mk d):=by
  have few:=hN.few
  unfold zcp
  refine M.o_bindE (a:=mk) (by unfold zaN; exact M.i_pure) ?_
  refine M.o_bind (P:=fun y=>match y with | .inl mp=>mp.Nodup/\mp.length<=1+2*ls.length/\∀ d,d∈mp↔(d=1∨∃ l,l∈ls/\(l.src=mk∨l.dst=mk)/\d=l.day+1) | .inr _=>False) ?_ ?_
  · refine M.o_mono (legs_out (ls:=ls) (n:=N) (m:=mk) (fun c mp=>mp.Nodup/\mp.length<=1+c/\1∈mp/\(∀ d,d∈mp->(d=1∨∃ l,l∈ls/\(l.src=mk∨l.dst=mk)/\d=l.day+1))/\∀ (i:Nat) (k:Bool),2*i+k.toNat<c->i<ls.length->sOf ls ⟨i,k⟩=mk->(ls.getD i default).day+1∈mp) (fun _=>False) ?_ ?_ ?_) ?_
    · rintro i k s hi hs ⟨j1,j2,j3,j4,j5⟩
      unfold zaL
      have hl:ls.getD i default∈ls:=by rw [getD_el ls hi]; exact List.getElem_mem hi
      have hd:=hN.day _ hl
      have e0:Int.toNat (i:Int)=i:=Int.toNat_natCast i
      refine M.o_grd (gA2 (by show (0:Int)<=(i:Int); omega) (by show (i:Int)<_; omega)) ?_
      dsimp only
      rw [e0]
      refine M.o_grd (gA2 (by omega) (by omega)) (M.o_pure ⟨insK_once j1 _,?_,mem_insK.2 (.inl j3),fun d hd=>?_,fun i' k' hlt hi' hs'=>?_⟩)
      · have:=len_insK s ((ls.getD i default).day+1)
        omega
      · rcases mem_insK.1 hd with hd | rfl
        · exact j4 d hd
        · refine .inr ⟨_,hl,?_,rfl⟩
          unfold sOf legEnd lnOf at hs
          dsimp only at hs
          rw [e0] at hs
          cases k with
          | true=>exact .inr hs
          | false=>exact .inl hs
      · by_cases e:2*i'+k'.toNat<2*i+k.toNat
        · exact mem_insK.2 (.inl (j5 i' k' e hi' hs'))
        · have b1:=Bool.toNat_le k
          have b2:=Bool.toNat_le k'
          obtain rfl:i'=i:=by omega
          exact mem_insK.2 (.inr rfl)
    · rintro i k s hi hs ⟨j1,j2,j3,j4,j5⟩
      refine ⟨j1,by omega,j3,j4,fun i' k' hlt hi' hs'=>?_⟩
      by_cases e:2*i'+k'.toNat<2*i+k.toNat
      · exact j5 i' k' e hi' hs'
      · have b1:=Bool.toNat_le k
        have b2:=Bool.toNat_le k'
        obtain rfl:i'=i:=by omega
        have:k'=k:=by cases k <;> cases k' <;> simp at * <;> omega
        subst this
        exact absurd hs' hs
    · refine ⟨by decide,by decide,by decide,fun d hd=>.inl ?_,fun i k h=>by omega⟩
      simpa [insK] using hd
    · rintro (mp | x) hy
      · obtain ⟨j1,j2,j3,j4,j5⟩:=hy
        refine ⟨j1,by omega,fun d=>⟨j4 d,?_⟩⟩
        rintro (rfl | ⟨l,hl,hm,rfl⟩)
        · exact j3
        · obtain ⟨i,hi,rfl⟩:=mem_getD hl default
          have e0:Int.toNat (i:Int)=i:=Int.toNat_natCast i
          rcases hm with hm | hm
          · exact j5 i false (by simp; omega) hi (by unfold sOf legEnd lnOf; dsimp only; rw [e0]; exact hm)
          · exact j5 i true (by simp; omega) hi (by unfold sOf legEnd lnOf; dsimp only; rw [e0]; exact hm)
      · exact hy
  · rintro (mp | x) hy
    · obtain ⟨h1,h2,h3⟩:=hy
      have hE:∀ d,d∈mp.erase 40001↔Dy ls mk d:=fun d=>by
        rw [h1.mem_erase_iff,h3 d]
        exact ⟨fun h=>⟨h.2,h.1⟩,fun h=>⟨h.2,h.1⟩⟩
      refine M.o_grd (gA2 (fun d hd=>?_) ?_) (M.o_pure ⟨isort_asc _,fun d=>?_⟩)
      · have:=((hE d).1 hd).rng hN
        omega
      · have:=List.length_erase_le (a:=(40001:Int)) (l:=mp)
        omega
      · rw [(isort_perm _).mem_iff]
        exact hE d
    · exact hy.elim
theorem moves_in (hN:NetOk n ls) (hn:n<12) (h:0<ls.length) {mk:Nat} (hm:(mk:Int)<n) {bs:List Mv} {ds:List Int} (hb:bs.length<=12) (hbs:∀ m,m∈bs->m.mark<(mk:Int)) :
    (M.iter (za3 n ls mk ds) (0,bs)).Out (fun y=>(y.2=bs/\∀ j,j<ds.length->¬ Agr (ptL n ⟨mk,ds.getD j 0⟩ ls))∨∃ k,k<ds.length/\y.2=bs++[⟨mk,ds.getD k 0⟩]/\Agr (ptL n ⟨mk,ds.getD k 0⟩ ls)/\∀ j,j<k->¬ Agr (ptL n ⟨mk,ds.getD j 0⟩ ls)):=by
  have hk:=hN.marks
  refine M.o_for ds.length (fun i st=>st.1=i/\((st.2=bs/\∀ j,j<i->¬ Agr (ptL n ⟨mk,ds.getD j 0⟩ ls))∨∃ k,k<i/\st.2=bs++[⟨mk,ds.getD k 0⟩]/\Agr (ptL n ⟨mk,ds.getD k 0⟩ ls)/\∀ j,j<k->¬ Agr (ptL n ⟨mk,ds.getD j 0⟩ ls))) ?_ ?_ ⟨rfl,.inl ⟨rfl,fun j hj=>by omega⟩⟩
  · rintro i ⟨s,l⟩ hi ⟨rfl,hJ⟩
    dsimp only at hi hJ
    have hll:l.length<=13:=by
      rcases hJ with ⟨rfl,_⟩ | ⟨k,_,rfl,_⟩
      · omega
      · simp; omega
    simp only [za3]
    refine M.o_t (by simpa using hi) (M.o_grd (by simpa using hi) (M.o_grd (gA2 (by omega) (by omega)) (M.o_grd ?_ ?_)))
    · by_cases e:0<=(l.length:Int)-1
      · exact gOr2 e (by omega)
      · rw [decide_eq_false e]; rfl
    · rcases hJ with ⟨rfl,hJ⟩ | ⟨k,hks,rfl,hA,hJ⟩
      · refine M.o_f ?_ ?_
        · by_cases e:0<=(l.length:Int)-1
          · have hne:l.getD (Int.toNat ((l.length:Int)-1)) default∈l:=by
              have:Int.toNat ((l.length:Int)-1)<l.length:=by omega
              rw [getD_el l this]
              exact List.getElem_mem this
            have:=hbs _ hne
            rw [Bool.and_eq_false_iff]
            refine .inr (decide_eq_false fun e2=>?_)
            rw [e2] at this
            dsimp only at this
            omega
          · rw [decide_eq_false e]; rfl
        · refine M.o_bindE (parted_ends (by omega) h hN.few _) ?_
          dsimp only
          have hN2:=ptL_ok (m:=⟨(mk:Int),ds.getD s 0⟩) hN hn ⟨by dsimp only; omega,hm⟩
          refine M.o_bind (worked_out hN2) ?_
          rintro ⟨r0,c,b⟩ ⟨rfl,hW⟩
          refine M.o_bind (open_out hN2 hW) ?_
          intro r hr
          refine M.o_if (fun hb=>?_) (fun hb=>?_)
          · refine M.o_grdD (by simp only [List.length_cons,List.length_nil]; omega) (M.o_pure ⟨rfl,.inr ⟨s,by omega,rfl,?_,hJ⟩⟩)
            refine Classical.byContradiction fun hc=>?_
            rw [hr.2 hc] at hb
            cases hb
          · refine M.o_pure ⟨rfl,.inl ⟨rfl,fun j hj=>?_⟩⟩
            by_cases e:j=s
            · subst e
              exact hr.1 (by simpa using hb)
            · exact hJ j (by omega)
      · refine M.o_t ?_ (M.o_pure ⟨rfl,.inr ⟨k,by omega,rfl,hA,hJ⟩⟩)
        have e:Int.toNat (((bs++[(⟨mk,ds.getD k 0⟩:Mv)]).length:Int)-1)=bs.length:=by simp
        have e2:∀ x:Mv,(bs++[x]).getD bs.length default=x:=fun x=>by simp [List.getD_eq_getElem?_getD]
        rw [e,e2]
        exact gA2 (by simp) rfl
  · rintro ⟨s,l⟩ ⟨rfl,hJ⟩
    simp only [za3]
    exact M.o_f (by simp) (M.o_pure hJ)
theorem moves_out (hN:NetOk n ls):(zaz n ls).Out (fun y=>(Agr ls->y=([],8))/\(¬ Agr ls->n=12->y=([],3))/\(¬ Agr ls->n<12->y.2=0/\MvOk n ls n y.1)):=by
  have hk:=hN.marks
  unfold zaz
  refine M.o_bind (opened_out hN) ?_
  rintro y ⟨c,b,rfl,hW⟩
  dsimp only
  refine M.o_f (by decide) (M.o_bind (open_out hN hW) ?_)
  intro r hr
  cases r with
  | false =>
    have hA:Agr ls:=Classical.byContradiction fun h=>by have:=hr.2 h; cases this
    exact M.o_t rfl (M.o_pure ⟨fun _=>rfl,fun h=>absurd hA h,fun h=>absurd hA h⟩)
  | true =>
    have hA:=hr.1 rfl
    refine M.o_f rfl (M.o_if (fun hb=>?_) (fun hb=>?_))
    · have hb:=beq_iff_eq.1 hb
      exact M.o_pure ⟨fun h=>absurd h hA,fun _ _=>rfl,fun _ h=>by omega⟩
    · have hb := beq_eq_false_iff_ne.1 hb
      have hl:0<ls.length:=by
        cases ls with
        | nil=>exact absurd ⟨fun _=>0,fun l hl=>by cases hl⟩ hA
        | cons=>simp
      refine M.o_bind (P:=fun y=>MvOk n ls n y.2) ?_ (fun y hy=>M.o_pure ⟨fun h=>absurd h hA,fun _ h=>by omega,fun _ _=>⟨rfl,hy⟩⟩)
      refine M.o_for (Int.toNat n) (fun i st=>st.1=i/\MvOk n ls i st.2) ?_ ?_ ⟨rfl,⟨by simp,by simp,.nil,fun mk d h1 h2=>by omega⟩⟩
      · rintro i ⟨s,l⟩ hi ⟨rfl,hJ⟩
        dsimp only at hi hJ
        simp only [zbN]
        refine M.o_t (decide_eq_true (by omega)) (M.o_bind (days_out hN n s) ?_)
        rintro ds ⟨hasc,hds⟩
        have hlen:=hJ.len
        refine M.o_bind (moves_in hN (by omega) hl (mk:=s) (ds:=ds) (by omega) (by omega) (fun m hm=>(hJ.each m hm).1.2)) ?_
        rintro ⟨l2,l5⟩ hy
        dsimp only at hy ⊢
        refine M.o_grd (gA2 (by omega) (by omega)) (M.o_pure ⟨rfl,?_⟩)
        dsimp only
        have at_:∀ d,Dy ls (s:Int) d->∃ j,j<ds.length/\ds.getD j 0=d:=fun d hd=>mem_getD ((hds d).2 hd) 0
        rcases hy with ⟨rfl,hno⟩ | ⟨k,hks,rfl,hAk,hno⟩
        · refine ⟨by omega,fun m hm=>?_,hJ.asc,fun mk d h0 h1 hd hag=>?_⟩
          · have:=hJ.each m hm
            exact ⟨by omega,this.2⟩
          · by_cases e:mk=s
            · subst e
              obtain ⟨j,hj,rfl⟩:=at_ d hd
              exact absurd hag (hno j hj)
            · exact hJ.all mk d h0 (by omega) hd hag
        · have hkd:Dy ls (s:Int) (ds.getD k 0):=(hds _).1 (by rw [getD_el ds hks]; exact List.getElem_mem hks)
          refine ⟨by simp; omega,fun m hm=>?_,?_,fun mk d h0 h1 hd hag=>?_⟩
          · rcases List.mem_append.1 hm with hm | hm
            · have:=hJ.each m hm
              exact ⟨by omega,this.2⟩
            · obtain rfl:m=⟨(s:Int),ds.getD k 0⟩:=by simpa using hm
              exact ⟨⟨by dsimp only; omega,by dsimp only; omega⟩,hkd,hAk⟩
          · rw [List.pairwise_append]
            refine ⟨hJ.asc,by simp,fun a ha b hb=>?_⟩
            obtain rfl:b=⟨(s:Int),ds.getD k 0⟩:=by simpa using hb
            exact (hJ.each a ha).1.2
          · by_cases e:mk=s
            · subst e
              obtain ⟨j,hj,rfl⟩:=at_ d hd
              refine ⟨_,List.mem_append_right _ (List.mem_cons_self ..),rfl,?_⟩
              dsimp only
              by_cases e2:j<k
              · exact absurd hag (hno j e2)
              · rcases Nat.lt_or_eq_of_le (Nat.le_of_not_lt e2) with e3 | rfl
                · have:=List.pairwise_iff_getElem.1 hasc k j hks hj e3
                  rw [getD_el ds hks,getD_el ds hj]
                  exact this
                · exact Int.le_refl _
            · obtain ⟨m,hm,h2⟩:=hJ.all mk d h0 (by omega) hd hag
              exact ⟨m,List.mem_append_left _ hm,h2⟩
      · rintro ⟨s,l⟩ ⟨rfl,hJ⟩
        dsimp only at hJ
        rw [Int.toNat_of_nonneg (by omega)] at hJ
        simp only [zbN]
        exact M.o_f (decide_eq_false (by omega)) (M.o_pure hJ)
end Go.Proofs.YtfdgkdkfbaghpaaGreat
-- libL/LMM.lean
namespace Go.Nm
variable {ls:List Line} {n:Int}
/-- Days that are tried. -/
def Dq (ls:List Line) (d:Int):Prop:=(d=1∨∃ l,l∈ls/\d=l.day+1)/\d<=40000
theorem Dy.dq (hN:NetOk n ls) {mk d:Int} (h:Dy ls mk d):Dq ls d:=by
  refine ⟨?_,(h.rng hN).2⟩
  rcases h.1 with rfl | ⟨l,hl,_,rfl⟩
  · exact .inl rfl
  · exact .inr ⟨l,hl,rfl⟩
theorem day_least (w:Int) (k:Nat):1+(k:Int)<=40000->∃ d,d<=1+(k:Int)/\Dy ls w d/\ptL n ⟨w,d⟩ ls=ptL n ⟨w,1+k⟩ ls:=by
  induction k with
  | zero=>exact fun _=>⟨1,by omega,⟨.inl rfl,by omega⟩,rfl⟩
  | succ k ih =>
    intro hk
    obtain ⟨d,h1,h2,h3⟩:=ih (by omega)
    by_cases e:∃ l,l∈ls/\(l.src=w∨l.dst=w)/\l.day=1+k
    · obtain ⟨l,hl,hw,hd⟩:=e
      exact ⟨1+(k+1:Nat),Int.le_refl _,⟨.inr ⟨l,hl,hw,by omega⟩,by omega⟩,rfl⟩
    · refine ⟨d,by omega,h2,h3.trans ?_⟩
      unfold ptL
      refine List.map_congr_left fun l hl=>?_
      dsimp only
      unfold pt1
      by_cases c:l.day<1+(k:Int)
      · rw [if_pos c,if_pos (by omega)]
      · rw [if_neg c]
        by_cases c2:l.day<1+((k+1:Nat):Int)
        · have e1:l.day=1+k:=by omega
          have e2:l.src ≠ w:=fun h=>e ⟨l,hl,.inl h,e1⟩
          have e3:l.dst ≠ w:=fun h=>e ⟨l,hl,.inr h,e1⟩
          rw [if_pos c2,if_neg e2,if_neg e3]
        · rw [if_neg c2]
/-- What was tried so far. -/
def TrD (ls:List Line) (i:Nat) (d:Int):Prop:=(1<=i/\d=1)∨∃ j:Nat,j+1<i/\d=(ls.getD j default).day+1/\d<=40000
/-- The first day that is found among all is one of the mark's own. -/
structure Best (n:Int) (ls:List Line) (mk best:Int):Prop where
  none:best=0->∀ d,Dq ls d->¬ Agr (ptL n ⟨mk,d⟩ ls)
  some:best ≠ 0->Dq ls best/\1<=best/\Agr (ptL n ⟨mk,best⟩ ls)/\∀ d,Dq ls d->Agr (ptL n ⟨mk,d⟩ ls)->best<=d
theorem Best.own {mk best:Int} (hN:NetOk n ls) (h:Best n ls mk best) (hb:best ≠ 0):Dy ls mk best:=by
  obtain ⟨h1,h2,h3,h4⟩:=h.some hb
  obtain ⟨k,hk⟩:∃ k:Nat,best=1+k:=⟨(best-1).toNat,by omega⟩
  obtain ⟨d,d1,d2,d3⟩:=day_least (ls:=ls) (n:=n) mk k (by have:=h1.2; omega)
  rw [← hk] at d1 d3
  have:=h4 d (d2.dq hN) (by rw [d3]; exact h3)
  have:d=best:=by omega
  rw [← this]
  exact d2
theorem asc_mem_eq:∀ {l m:List Mv},l.Pairwise (fun a b=>a.mark<b.mark)->m.Pairwise (fun a b=>a.mark<b.mark)->(∀ x,x∈l↔x∈m)->l=m
  | [],[],_,_,_=>rfl
  | [],y :: m,_,_,h=>by have:=(h y).2 (List.mem_cons_self ..); cases this
  | x :: l,[],_,_,h=>by have:=(h x).1 (List.mem_cons_self ..); cases this
  | x :: l,y :: m,h1,h2,h=>by
    rw [List.pairwise_cons] at h1 h2
    have e:x=y:=by
      rcases List.mem_cons.1 ((h x).1 (List.mem_cons_self ..)) with e | e
      · exact e
      · rcases List.mem_cons.1 ((h y).2 (List.mem_cons_self ..)) with e2 | e2
        · exact e2.symm
        · have:=h2.1 x e
          have:=h1.1 y e2
          omega
    subst e
    refine congrArg _ (asc_mem_eq h1.2 h2.2 fun z=>⟨fun hz=>?_,fun hz=>?_⟩)
    · rcases List.mem_cons.1 ((h z).1 (List.mem_cons_of_mem _ hz)) with e | e
      · have:=h1.1 z hz; rw [e] at this; omega
      · exact e
    · rcases List.mem_cons.1 ((h z).2 (List.mem_cons_of_mem _ hz)) with e | e
      · have:=h2.1 z hz; rw [e] at this; omega
      · exact e
theorem asc_same {l:List Mv} (h:l.Pairwise (fun a b=>a.mark<b.mark)) {x y:Mv} (hx:x∈l) (hy:y∈l) (e:x.mark=y.mark):x=y:=by
  induction l with
  | nil=>cases hx
  | cons a l ih =>
    rw [List.pairwise_cons] at h
    rcases List.mem_cons.1 hx with e1 | hx2 <;> rcases List.mem_cons.1 hy with e2 | hy2
    · rw [e1,e2]
    · have:=h.1 y hy2; rw [e1] at e; omega
    · have:=h.1 x hx2; rw [e2] at e; omega
    · exact ih h.2 hx2 hy2
theorem MvOk.sub {la lb:List Mv} (hA:MvOk n ls n la) (hB:MvOk n ls n lb) {x:Mv} (hx:x∈la):x∈lb:=by
  obtain ⟨h1,h2,h3⟩:=hA.each x hx
  obtain ⟨y,hy,e1,e2⟩:=hB.all x.mark x.day h1.1 h1.2 h2 h3
  obtain ⟨g1,g2,g3⟩:=hB.each y hy
  obtain ⟨z,hz,e3,e4⟩:=hA.all y.mark y.day g1.1 g1.2 g2 g3
  obtain rfl:=asc_same hA.asc hz hx (by omega)
  obtain ⟨a,b⟩:=z
  obtain ⟨c,d⟩:=y
  dsimp only at *
  obtain rfl:c=a:=by omega
  obtain rfl:d=b:=by omega
  exact hy
theorem MvOk.uniq {la lb:List Mv} (hA:MvOk n ls n la) (hB:MvOk n ls n lb):la=lb:=asc_mem_eq hA.asc hB.asc fun _=>⟨hA.sub hB,hB.sub hA⟩
end Go.Nm
namespace Go.Proofs.YtfdgkdkfbaghpaaGreat
open Go Go.Nm
variable {ls:List Line} {n:Int}
theorem ref_parted (hn:0<=n/\n<=12) (h2:ls.length<=30) (m:Mv):(zaV n ls m).Ends (n+1,ptL n m ls):=by
  have out:(zaV n ls m).Out (fun r=>r=(n+1,ptL n m ls)):=by
    unfold zaV
    refine M.o_grd (gA2 (by omega) (by omega)) (M.o_grdD (by simp only [List.length_nil]; omega) ?_)
    refine M.o_bind (P:=fun y=>y.2=ptL n m ls) ?_ (fun y hy=>M.o_pure (by rw [hy]))
    refine M.o_for ls.length (fun i st=>st.2=i/\Don (pt1 n m.mark m.day) ls i st.1) ?_ ?_ (s:=(ls,0)) ⟨rfl,Don.zero _ _⟩
    · rintro i ⟨l,s⟩ hi ⟨e,hD⟩
      dsimp only at hi hD e
      subst e
      simp only [zal]
      have g:∀ x,(l.set s x).getD s default=x:=fun x=>by rw [gset _ _ _ _ _ (by rw [hD.len]; exact hi),if_pos rfl]
      simp only [g,List.set_set,hD.here hi]
      have hl:=hD.len
      refine M.o_t (decide_eq_true (by omega)) (M.o_grdD (by omega) (M.o_if (fun h1=>?_) (fun h1=>?_)))
      · simp only [Bool.and_eq_true,decide_eq_true_eq,beq_iff_eq] at h1
        refine M.o_grdD (by simp only [List.length_set]; omega) (M.o_if (fun h2=>?_) (fun h2=>?_))
        · simp only [Bool.and_eq_true,decide_eq_true_eq,beq_iff_eq] at h2
          refine M.o_pure ⟨rfl,hD.set hi ?_⟩
          unfold pt1
          rw [if_neg (by omega),if_pos h1.2,if_pos h2.2]
        · have h2:(ls.getD s default).dst ≠ m.mark:=fun e=>by rw [decide_eq_true h1.1,e] at h2; simp at h2
          refine M.o_pure ⟨rfl,hD.set hi ?_⟩
          unfold pt1
          rw [if_neg (by omega),if_pos h1.2,if_neg h2]
      · refine M.o_grdD (by omega) (M.o_if (fun h2=>?_) (fun h2=>?_))
        · simp only [Bool.and_eq_true,decide_eq_true_eq,beq_iff_eq] at h2
          have h1:(ls.getD s default).src ≠ m.mark:=fun e=>by rw [decide_eq_true h2.1,e] at h1; simp at h1
          refine M.o_pure ⟨rfl,hD.set hi ?_⟩
          unfold pt1
          rw [if_neg (by omega),if_neg h1,if_pos h2.2]
        · refine M.o_pure ⟨rfl,hD.same hi ?_⟩
          unfold pt1
          by_cases c:m.day<=(ls.getD s default).day
          · have h1:(ls.getD s default).src ≠ m.mark:=fun e=>by rw [decide_eq_true c,e] at h1; simp at h1
            have h2:(ls.getD s default).dst ≠ m.mark:=fun e=>by rw [decide_eq_true c,e] at h2; simp at h2
            rw [if_neg (by omega),if_neg h1,if_neg h2]
          · rw [if_pos (by omega)]
    · rintro ⟨l,s⟩ ⟨e,hD⟩
      dsimp only at hD e
      subst e
      simp only [zal]
      exact M.o_f (decide_eq_false (by have:=hD.len; omega)) (M.o_pure (hD.fin rfl))
  obtain ⟨r,h,rfl⟩:=out
  exact h
theorem best_out (hN:NetOk n ls) (hn:n<12) {mk:Nat} (hm:(mk:Int)<n):(M.iter (za9 n ls mk) (0,-1)).Out (Best n ls mk):=by
  have hk:=hN.marks
  have hfew:=hN.few
  have tryD:∀ (d:Int),(1<=d/\d<=40000)->∃ r,(zaw (n+1) (ptL n ⟨mk,d⟩ ls)).Ends r/\(r=true↔Agr (ptL n ⟨mk,d⟩ ls)):=fun d hd=>ref_agrees (ptL_ok hN hn ⟨by dsimp only; omega,hm⟩)
  refine M.o_for (ls.length+1) (fun i st=>st.2=(i:Int)-1/\(st.1=0->∀ d,TrD ls i d->¬ Agr (ptL n ⟨mk,d⟩ ls))/\(st.1 ≠ 0->TrD ls i st.1/\(1<=st.1/\st.1<=40000)/\Agr (ptL n ⟨mk,st.1⟩ ls)/\∀ d,TrD ls i d->Agr (ptL n ⟨mk,d⟩ ls)->st.1<=d)) ?_ ?_ (s:=(0,-1)) ⟨rfl,fun _ d hd=>by rcases hd with h | ⟨j,h,_⟩ <;> omega,fun h=>absurd rfl h⟩
  · rintro i ⟨best,x⟩ hi ⟨e,h0,h1⟩
    dsimp only at hi e h0 h1
    subst e
    simp only [za9]
    have mono:∀ d,TrD ls i d->TrD ls (i+1) d:=fun d hd=>by
      rcases hd with ⟨h,hd⟩ | ⟨j,h,hd⟩
      · exact .inl ⟨by omega,hd⟩
      · exact .inr ⟨j,by omega,hd⟩
    -- one day more
    have step:∀ (D:Int),(∀ d,TrD ls (i+1) d->TrD ls i d∨(d=D/\D<=40000))->(D<=40000->TrD ls (i+1) D)->1<=D->∀ r:Bool,(r=true↔Agr (ptL n ⟨mk,D⟩ ls))->D<=40000->(best=0∨D<best) →
        ((if r then D else best)=0->∀ d,TrD ls (i+1) d->¬ Agr (ptL n ⟨mk,d⟩ ls))/\((if r then D else best) ≠ 0->TrD ls (i+1) (if r then D else best)/\(1<=(if r then D else best)/\(if r then D else best)<=40000)/\Agr (ptL n ⟨mk,(if r then D else best)⟩ ls)/\∀ d,TrD ls (i+1) d->Agr (ptL n ⟨mk,d⟩ ls)->(if r then D else best)<=d):=by
      intro D hD hD2 hD1 r hr hD3 hlt
      cases r with
      | true =>
        simp only [if_true]
        refine ⟨fun h=>by omega,fun _=>⟨hD2 hD3,⟨hD1,hD3⟩,hr.1 rfl,fun d hd ha=>?_⟩⟩
        rcases hD d hd with h | ⟨rfl,_⟩
        · by_cases hb:best=0
          · exact absurd ha (h0 hb d h)
          · have:=(h1 hb).2.2.2 d h ha
            omega
        · exact Int.le_refl _
      | false =>
        have no:¬ Agr (ptL n ⟨mk,D⟩ ls):=fun h=>by have:=hr.2 h; cases this
        simp only [Bool.false_eq_true,if_false]
        refine ⟨fun hb d hd ha=>?_,fun hb=>?_⟩
        · rcases hD d hd with h | ⟨rfl,_⟩
          · exact h0 hb d h ha
          · exact no ha
        · obtain ⟨a1,a2,a3,a4⟩:=h1 hb
          refine ⟨mono _ a1,a2,a3,fun d hd ha=>?_⟩
          rcases hD d hd with h | ⟨rfl,_⟩
          · exact a4 d h ha
          · exact absurd ha no
    have skip:∀ (D:Int),(∀ d,TrD ls (i+1) d->TrD ls i d∨(d=D/\D<=40000))->(40000<D∨(best ≠ 0/\best<=D)) →
        (best=0->∀ d,TrD ls (i+1) d->¬ Agr (ptL n ⟨mk,d⟩ ls))/\(best ≠ 0->TrD ls (i+1) best/\(1<=best/\best<=40000)/\Agr (ptL n ⟨mk,best⟩ ls)/\∀ d,TrD ls (i+1) d->Agr (ptL n ⟨mk,d⟩ ls)->best<=d):=by
      intro D hD hlt
      refine ⟨fun hb d hd ha=>?_,fun hb=>?_⟩
      · rcases hD d hd with h | ⟨rfl,h⟩
        · exact h0 hb d h ha
        · omega
      · obtain ⟨a1,a2,a3,a4⟩:=h1 hb
        refine ⟨mono _ a1,a2,a3,fun d hd ha=>?_⟩
        rcases hD d hd with h | ⟨rfl,h⟩
        · exact a4 d h ha
        · omega
    have nx:(i:Int)-1+1=((i+1:Nat):Int)-1:=by omega
    refine M.o_t (decide_eq_true (by omega)) (M.o_if (fun c=>?_) (fun c=>?_))
    · have c:=of_decide_eq_true c
      have ej:Int.toNat ((i:Int)-1)=i-1:=by omega
      have hj:i-1<ls.length:=by omega
      rw [ej]
      have hd:=hN.day (ls.getD (i-1) default) (by rw [getD_el ls hj]; exact List.getElem_mem hj)
      generalize hD:(ls.getD (i-1) default).day=dd at *
      have hTr:∀ d,TrD ls (i+1) d->TrD ls i d∨(d=dd+1/\dd+1<=40000):=fun d h=>by
        rcases h with ⟨_,h⟩ | ⟨j,h,h2,h3⟩
        · exact .inl (.inl ⟨by omega,h⟩)
        · by_cases e:j=i-1
          · rw [e,hD] at h2; exact .inr ⟨h2,by omega⟩
          · exact .inl (.inr ⟨j,by omega,h2,h3⟩)
      refine M.o_grd (gA2 (by omega) (by omega)) (M.o_grd (gA2 (by omega) (by omega)) (M.o_if (fun c2=>?_) (fun c2=>?_)))
      · simp only [Bool.and_eq_true,decide_eq_true_eq,Bool.or_eq_true,beq_iff_eq] at c2
        obtain ⟨r,r1,r2⟩:=tryD (dd+1) (by omega)
        have hs:=step (dd+1) hTr (fun h=>.inr ⟨i-1,by omega,by rw [hD],h⟩) (by omega) r r2 c2.1 c2.2
        have cc:((decide ((dd+1)<=40000))&&((best==0)||(decide ((dd+1)<best))))=true:=by
          simp only [Bool.and_eq_true,decide_eq_true_eq,Bool.or_eq_true,beq_iff_eq]
          exact c2
        rw [cc]
        refine M.o_bindE (ref_parted (by omega) hfew _) (M.o_bindE (M.i_opt (fun _=>r1) (fun h=>by cases h)) ?_)
        cases r with
        | true=>exact M.o_t rfl (M.o_grd (gA2 (by omega) (by omega)) (M.o_pure ⟨nx,hs⟩))
        | false=>exact M.o_f rfl (M.o_grd (gA2 (by omega) (by omega)) (M.o_pure ⟨nx,hs⟩))
      · refine M.o_grd (gA2 (by omega) (by omega)) (M.o_pure ⟨nx,skip (dd+1) hTr ?_⟩)
        by_cases e:dd+1<=40000
        · rw [decide_eq_true e] at c2
          simp only [Bool.true_and,Bool.or_eq_false_iff,beq_eq_false_iff_ne,decide_eq_false_iff_not] at c2
          exact .inr ⟨c2.1,by omega⟩
        · exact .inl (by omega)
    · have c:=of_decide_eq_false c
      obtain rfl:i=0:=by omega
      have hTr:∀ d,TrD ls (0+1) d->TrD ls 0 d∨(d=1/\(1:Int)<=40000):=fun d h=>by
        rcases h with ⟨_,h⟩ | ⟨j,h,_⟩
        · exact .inr ⟨h,by decide⟩
        · omega
      have hb:best=0:=Classical.byContradiction fun hb=>by
        rcases (h1 hb).1 with ⟨h,_⟩ | ⟨j,h,_⟩ <;> omega
      subst hb
      obtain ⟨r,r1,r2⟩:=tryD 1 (by decide)
      have hs:=step 1 hTr (fun _=>.inl ⟨by omega,rfl⟩) (by decide) r r2 (by decide) (.inl rfl)
      refine M.o_t rfl (M.o_bindE (ref_parted (by omega) hfew _) (M.o_bindE (M.i_opt (fun _=>r1) (fun h=>by cases h)) ?_))
      cases r with
      | true=>exact M.o_t rfl (M.o_grd (gA2 (by omega) (by omega)) (M.o_pure ⟨nx,hs⟩))
      | false=>exact M.o_f rfl (M.o_grd (gA2 (by omega) (by omega)) (M.o_pure ⟨nx,hs⟩))
  · rintro ⟨best,x⟩ ⟨e,h0,h1⟩
    dsimp only at e h0 h1
    subst e
    have all:∀ d,Dq ls d->TrD ls (ls.length+1) d:=fun d hd=>by
      rcases hd.1 with h | ⟨l,hl,h⟩
      · exact .inl ⟨by omega,h⟩
      · obtain ⟨j,hj,rfl⟩:=mem_getD hl default
        exact .inr ⟨j,by omega,h,hd.2⟩
    have back:∀ d,d<=40000->TrD ls (ls.length+1) d->Dq ls d:=fun d h4 hd=>by
      rcases hd with ⟨_,h⟩ | ⟨j,h,h2,h3⟩
      · exact ⟨.inl h,h4⟩
      · have hj:j<ls.length:=by omega
        exact ⟨.inr ⟨ls.getD j default,by rw [getD_el ls hj]; exact List.getElem_mem hj,h2⟩,h4⟩
    simp only [za9]
    refine M.o_f (decide_eq_false (by omega)) (M.o_pure ⟨fun hb d hd=>h0 hb d (all d hd),fun hb=>?_⟩)
    obtain ⟨a1,a2,a3,a4⟩:=h1 hb
    exact ⟨back _ a2.2 a1,a2.1,a3,fun d hd ha=>a4 d (all d hd) ha⟩
theorem ref_moves (hN:NetOk n ls):(zaM n ls).Out (fun y=>(Agr ls->y=([],8))/\(¬ Agr ls->n=12->y=([],3))/\(¬ Agr ls->n<12->y.2=0/\MvOk n ls n y.1)):=by
  have hk:=hN.marks
  have hfew:=hN.few
  unfold zaM
  refine M.o_bindE (ref_check n ls (by omega)) ?_
  rw [chk_ok.2 hN]
  refine M.o_f rfl (M.o_bind (ref_agrees hN) ?_)
  intro r hr
  cases r with
  | true =>
    have hA:=hr.1 rfl
    exact M.o_t rfl (M.o_pure ⟨fun _=>rfl,fun h=>absurd hA h,fun h=>absurd hA h⟩)
  | false =>
    have hA:¬ Agr ls:=fun h=>by have:=hr.2 h; cases this
    refine M.o_f rfl (M.o_if (fun hb=>?_) (fun hb=>?_))
    · have hb:=of_decide_eq_true hb
      exact M.o_pure ⟨fun h=>absurd h hA,fun _ _=>rfl,fun _ h=>by omega⟩
    · have hb:=of_decide_eq_false hb
      refine M.o_bind (P:=fun y=>MvOk n ls n y.2) ?_ (fun y hy=>M.o_pure ⟨fun h=>absurd h hA,fun _ h=>by omega,fun _ _=>⟨rfl,hy⟩⟩)
      refine M.o_for (Int.toNat n) (fun i st=>st.1=i/\MvOk n ls i st.2) ?_ ?_ (s:=(0,[])) ⟨rfl,⟨by simp,by simp,.nil,fun mk d h1 h2=>by omega⟩⟩
      · rintro i ⟨s,l⟩ hi ⟨e,hJ⟩
        dsimp only at hi hJ e
        subst e
        simp only [zcf]
        have hlen:=hJ.len
        refine M.o_t (decide_eq_true (by omega)) (M.o_bind (best_out hN (by omega) (mk:=s) (by omega)) ?_)
        intro best hB
        refine M.o_if (fun c=>?_) (fun c=>?_)
        · have c:=of_decide_eq_true c
          obtain ⟨b1,b2,b3,b4⟩:=hB.some (by omega)
          have own:=hB.own hN (by omega)
          refine M.o_grdD (by simp only [List.length_cons,List.length_nil]; omega) (M.o_grd (gA2 (by omega) (by omega)) (M.o_pure ⟨rfl,⟨by simp; omega,fun m hm=>?_,?_,fun mk d h0 h1 hd hag=>?_⟩⟩))
          · rcases List.mem_append.1 hm with hm | hm
            · have:=hJ.each m hm
              exact ⟨by omega,this.2⟩
            · obtain rfl:m=⟨(s:Int),best⟩:=by simpa using hm
              exact ⟨⟨by dsimp only; omega,by dsimp only; omega⟩,own,b3⟩
          · rw [List.pairwise_append]
            refine ⟨hJ.asc,by simp,fun a ha b hb=>?_⟩
            obtain rfl:b=⟨(s:Int),best⟩:=by simpa using hb
            exact (hJ.each a ha).1.2
          · by_cases e:mk=s
            · subst e
              exact ⟨_,List.mem_append_right _ (List.mem_cons_self ..),rfl,b4 d (hd.dq hN) hag⟩
            · obtain ⟨m,hm,h2⟩:=hJ.all mk d h0 (by omega) hd hag
              exact ⟨m,List.mem_append_left _ hm,h2⟩
        · have c:=of_decide_eq_false c
          have hz:best=0:=Classical.byContradiction fun h=>by have:=(hB.some h).2.1; omega
          refine M.o_grd (gA2 (by omega) (by omega)) (M.o_pure ⟨rfl,⟨by dsimp only; omega,fun m hm=>?_,hJ.asc,fun mk d h0 h1 hd hag=>?_⟩⟩)
          · have:=hJ.each m hm
            exact ⟨by omega,this.2⟩
          · by_cases e:mk=s
            · subst e
              exact absurd hag (hB.none hz d (hd.dq hN))
            · exact hJ.all mk d h0 (by omega) hd hag
      · rintro ⟨s,l⟩ ⟨e,hJ⟩
        dsimp only at hJ e
        subst e
        rw [Int.toNat_of_nonneg (by omega)] at hJ
        simp only [zcf]
        exact M.o_f (decide_eq_false (by omega)) (M.o_pure hJ)
/-- Both find the same. -/
theorem moves_both (hl:ls.length<=1000000):∃ l e,(zaz n ls).Ends (l,e)/\(zaM n ls).Ends (l,e):=by
  by_cases h:chkE n ls=0
  · have hN:=chk_ok.1 h
    have hk:=hN.marks
    obtain ⟨⟨la,ea⟩,p1,a1,a2,a3⟩:=moves_out hN
    obtain ⟨⟨lb,eb⟩,p2,b1,b2,b3⟩:=ref_moves hN
    refine ⟨la,ea,p1,?_⟩
    have:(la,ea)=(lb,eb):=by
      by_cases hA:Agr ls
      · rw [a1 hA,b1 hA]
      · by_cases h12:n=12
        · rw [a2 hA h12,b2 hA h12]
        · obtain ⟨q1,q2⟩:=a3 hA (by omega)
          obtain ⟨q3,q4⟩:=b3 hA (by omega)
          dsimp only at q1 q2 q3 q4
          rw [q1,q3,q2.uniq q4]
    rw [this]
    exact p2
  · refine ⟨[],chkE n ls,?_,?_⟩
    · unfold zaz
      exact M.i_bind (opened_bad h) (M.i_t (by rw [bne_iff_ne]; exact h) M.i_pure)
    · unfold zaM
      exact M.i_bind (ref_check n ls hl) (M.i_t (by rw [bne_iff_ne]; exact h) M.i_pure)
theorem convict_both (hl:ls.length<=1000000):∃ y,(zaU n ls).Ends y/\(zbW n ls).Ends y:=by
  obtain ⟨l,e,h1,h2⟩:=moves_both (n:=n) hl
  by_cases he:e=0
  · subst he
    unfold zaU zbW
    cases l with
    | nil=>exact ⟨_,M.i_bind h1 (M.i_f rfl (M.i_t rfl M.i_pure)),M.i_bind h2 (M.i_f rfl (M.i_t rfl M.i_pure))⟩
    | cons a l =>
      by_cases hb:1<(((a :: l).length:Nat):Int)
      · have z:((((a :: l).length:Nat):Int)==0)=false:=by simp; omega
        exact ⟨_,M.i_bind h1 (M.i_f rfl (M.i_f z (M.i_t (decide_eq_true hb) M.i_pure))),M.i_bind h2 (M.i_f rfl (M.i_f z (M.i_t (decide_eq_true hb) M.i_pure)))⟩
      · have z:((((a :: l).length:Nat):Int)==0)=false:=by simp; omega
        exact ⟨_,M.i_bind h1 (M.i_f rfl (M.i_f z (M.i_f (decide_eq_false hb) (M.i_grd (by simp) M.i_pure)))),M.i_bind h2 (M.i_f rfl (M.i_f z (M.i_f (decide_eq_false hb) (M.i_grd (by simp) M.i_pure))))⟩
  · unfold zaU zbW
    exact ⟨_,M.i_bind h1 (M.i_t (by rw [bne_iff_ne]; exact he) M.i_pure),M.i_bind h2 (M.i_t (by rw [bne_iff_ne]; exact he) M.i_pure)⟩
theorem part_both (hl:ls.length<=1000000) (m:Mv):∃ k ks e,(zba n ls m).Ends (k,ks,e)/\(zcu n ls m).Ends (k,ks,e)/\ks.length<=1000000:=by
  have out:∀ x lo hi,(zaa x lo hi).Ends (!(decide (lo<=x)&&decide (x<=hi))):=fun x lo hi=>by
    unfold zaa
    have e:(decide (x<lo)||decide (hi<x)) = !(decide (lo<=x)&&decide (x<=hi)):=by
      by_cases h1:lo<=x <;> by_cases h2:x<=hi <;> simp [h1,h2] <;> omega
    rw [← e]
    exact M.i_pure
  unfold zba zcu
  by_cases h:chkE n ls=0
  · have hN:=chk_ok.1 h
    have hk:=hN.marks
    have hfew:=hN.few
    have c1:(chkE n ls != 0)=false:=by rw [h]; rfl
    by_cases g1:(decide (0<=m.mark)&&decide (m.mark<=n-1))=true
    · by_cases g2:(decide (1<=m.day)&&decide (m.day<=40000))=true
      · by_cases g3:n=12
        · refine ⟨0,[],3,M.i_bind (check_ends n ls) (M.i_f c1 (M.i_grd (gA2 (by omega) (by omega)) (M.i_bind (in_ends _ _ _) (M.i_f (by rw [g1]; rfl) (M.i_bind (in_ends _ _ _) (M.i_f (by rw [g2]; rfl) (M.i_t (by rw [beq_iff_eq]; exact g3) M.i_pure))))))),M.i_bind (ref_check n ls hl) (M.i_f c1 (M.i_grd (gA2 (by omega) (by omega)) (M.i_bind (out _ _ _) (M.i_f (by rw [g1]; rfl) (M.i_bind (out _ _ _) (M.i_f (by rw [g2]; rfl) (M.i_t (decide_eq_true (by omega)) M.i_pure))))))),by simp⟩
        · refine ⟨n+1,ptL n m ls,0,M.i_bind (check_ends n ls) (M.i_f c1 (M.i_grd (gA2 (by omega) (by omega)) (M.i_bind (in_ends _ _ _) (M.i_f (by rw [g1]; rfl) (M.i_bind (in_ends _ _ _) (M.i_f (by rw [g2]; rfl) (M.i_f (by rw [beq_eq_false_iff_ne]; exact g3) (M.i_bind (parted_any (by omega) hfew m) M.i_pure)))))))),M.i_bind (ref_check n ls hl) (M.i_f c1 (M.i_grd (gA2 (by omega) (by omega)) (M.i_bind (out _ _ _) (M.i_f (by rw [g1]; rfl) (M.i_bind (out _ _ _) (M.i_f (by rw [g2]; rfl) (M.i_f (decide_eq_false (by omega)) (M.i_bind (ref_parted (by omega) hfew m) M.i_pure)))))))),by unfold ptL; rw [List.length_map]; exact hl⟩
      · have g2:(decide (1<=m.day)&&decide (m.day<=40000))=false:=by simpa using g2
        refine ⟨0,[],4,M.i_bind (check_ends n ls) (M.i_f c1 (M.i_grd (gA2 (by omega) (by omega)) (M.i_bind (in_ends _ _ _) (M.i_f (by rw [g1]; rfl) (M.i_bind (in_ends _ _ _) (M.i_t (by rw [g2]; rfl) M.i_pure)))))),M.i_bind (ref_check n ls hl) (M.i_f c1 (M.i_grd (gA2 (by omega) (by omega)) (M.i_bind (out _ _ _) (M.i_f (by rw [g1]; rfl) (M.i_bind (out _ _ _) (M.i_t (by rw [g2]; rfl) M.i_pure)))))),by simp⟩
    · have g1:(decide (0<=m.mark)&&decide (m.mark<=n-1))=false:=by simpa using g1
      refine ⟨0,[],2,M.i_bind (check_ends n ls) (M.i_f c1 (M.i_grd (gA2 (by omega) (by omega)) (M.i_bind (in_ends _ _ _) (M.i_t (by rw [g1]; rfl) M.i_pure)))),M.i_bind (ref_check n ls hl) (M.i_f c1 (M.i_grd (gA2 (by omega) (by omega)) (M.i_bind (out _ _ _) (M.i_t (by rw [g1]; rfl) M.i_pure)))),by simp⟩
  · have c1:(chkE n ls != 0)=true:=by rw [bne_iff_ne]; exact h
    exact ⟨0,[],chkE n ls,M.i_bind (check_ends n ls) (M.i_t c1 M.i_pure),M.i_bind (ref_check n ls hl) (M.i_t c1 M.i_pure),by simp⟩
theorem plain_ends (n:Int) (h:ls.length<=1000000):(zch n ls).Ends (n,ls):=by
  have out:(zch n ls).Out (fun r=>r=(n,ls)):=by
    unfold zch
    refine M.o_bind (P:=fun y=>y.2=ls) ?_ (fun y hy=>M.o_pure (by rw [hy]))
    refine M.o_for ls.length (fun i st=>st.1=i/\st.2=ls.take i) ?_ ?_ (s:=(0,[])) ⟨rfl,by simp⟩
    · rintro i ⟨s,l⟩ hi ⟨e1,e2⟩
      dsimp only at hi e1 e2
      subst e1
      subst e2
      simp only [zcg]
      refine M.o_t (by simpa using hi) (M.o_grd (by simpa using hi) (M.o_grdD (by simp [List.length_take]; omega) (M.o_pure ⟨rfl,?_⟩)))
      dsimp only
      rw [take_succ_D ls s hi default]
    · rintro ⟨s,l⟩ ⟨e1,e2⟩
      dsimp only at e1 e2
      subst e1
      subst e2
      simp only [zcg]
      exact M.o_f (by simp) (M.o_pure (List.take_length ..))
  obtain ⟨r,h,rfl⟩:=out
  exact h
theorem zcB (n:Int) (ls:List Line) (m:Mv):(zaQ n ls m).Ends true:=by
  unfold zaQ
  refine M.i_if (fun _=>M.i_bind awake_ends M.i_pure) (fun hb=>?_)
  have hb:=of_decide_eq_false hb
  have hl:ls.length<=1000000:=by omega
  obtain ⟨k,ks,e,p1,p2,p3⟩:=part_both (n:=n) hl m
  obtain ⟨l,f,q1,q2⟩:=moves_both (n:=n) hl
  obtain ⟨⟨y1,y2⟩,z1,z2⟩:=convict_both (n:=n) hl
  refine M.i_bind (copy_net hl n) (M.i_bind p1 (M.i_bind (net_ends n hl) (M.i_bind p2 (M.i_bind (plain_ends k p3) (M.i_bind (same_net k ks) (M.i_f (by simp) ?_))))))
  refine M.i_bind q1 (M.i_bind (net_ends n hl) (M.i_bind q2 (M.i_f (by simp) ?_)))
  have lp:(M.iter (zap l l) 0).Out (fun y=>y = .inr ()):=by
    refine M.o_for l.length (fun i st=>st=i) ?_ ?_ rfl
    · rintro i s hi rfl
      simp only [zap]
      exact M.o_t (by simpa using hi) (M.o_grd (by simpa using hi) (M.o_grd (by simpa using hi) (M.o_f (by simp) (M.o_pure rfl))))
    · rintro s rfl
      simp only [zap]
      exact M.o_f (by simp) (M.o_pure rfl)
  obtain ⟨u,h,rfl⟩:=lp
  refine M.i_bind h (M.i_bind z1 (M.i_bind (net_ends n hl) (M.i_bind z2 ?_)))
  simp only [beq_self_eq_true,Bool.and_self]
  exact M.i_bind (M.i_opt (fun _=>same_net n ls) (fun h=>by cases h)) (M.i_bind (M.i_opt (fun _=>awake_ends) (fun h=>by cases h)) M.i_pure)
end Go.Proofs.YtfdgkdkfbaghpaaGreat
namespace Go.Nm
open Go
/-- A value that takes one cell. -/
def PtV (p:Value):Prop:=p.cells=[p].toArray/\p.oneCell'=true
theorem ptB (a:Addr):PtV (.pointer (some a)):=⟨rfl,rfl⟩
theorem ptE {p:Value} (h:∃ b o,p = .pointer (some ⟨b,o,none⟩)):PtV p:=by
  obtain ⟨b,o,rfl⟩:=h
  exact ptB _
theorem ptF {p:Value} {off:Nat} (h:∃ b o,p = .pointer (some ⟨b,o,none⟩)):PtV (fat p off):=by
  obtain ⟨b,o,rfl⟩:=h
  exact ptB _
theorem ptr_fat {p:Value} {off:Nat} (h:∃ b o,p = .pointer (some ⟨b,o,none⟩)):∃ b o,fat p off = .pointer (some ⟨b,o,none⟩):=by
  obtain ⟨b,o,rfl⟩:=h
  exact ⟨b,o+off,by simp [fat,add_lit]⟩
def rawV (p:Value) (h:PtV p):Raw 0:=⟨[p],rfl,fun v hv=>by rw [List.mem_singleton.1 hv]; exact h.2⟩
theorem raw_at {C:Cells} {v p:Value} {l:List (Raw 0)} {i:Int} {k:Nat} (h:Sl C v l) (hi:i=k) (hk:(l[k]?).map Raw.cs=some [p]):At C (vat v 1 i.toNat) [p]:=by
  subst hi
  obtain ⟨r,h1,h2⟩:=Option.map_eq_some_iff.1 hk
  obtain ⟨cs,ha,hr⟩:=h.at h1
  rw [show cs=r.cs from hr,h2] at ha
  exact ha
theorem W.byc {r:Option Nat} {P:Program} {n:Nat} {Q:Post} {σ:Env} {w:World} {c:Code} (b:Bool) (ht:b=true->WR r P n c Q σ w) (hf:b=false->WR r P n c Q σ w):WR r P n c Q σ w:=by
  cases b with
  | true=>exact ht rfl
  | false=>exact hf rfl
end Go.Nm
