/- Part 5 of the texts on which the proof rests. Conditions: none. -/
import Derived.Test.YtaolcidinlnklaaGreatZA4
set_option linter.unusedVariables false
set_option linter.unusedSimpArgs false
set_option linter.unusedSectionVars false
namespace Go.Nm
open Go
theorem fm_take {α:Type} [Flat α]:∀ (l:List α) (n:Nat),(l.flatMap Flat.enc:List Value).take (n*Elt.sz α)=(l.take n).flatMap Flat.enc
  | [],n=>by simp
  | x :: l,0=>by simp
  | x :: l,n+1=>by
    have hx:(Flat.enc x:List Value).length=Elt.sz α:=Flat.enc_len x;rw [List.flatMap_cons,List.take_append,List.take_of_length_le (by rw [hx,Nat.succ_mul]; omega),hx,show (n+1)*Elt.sz α-Elt.sz α=n*Elt.sz α by rw [Nat.succ_mul]; omega,fm_take l n];rfl
theorem fm_drop {α:Type} [Flat α]:∀ (l:List α) (n:Nat),(l.flatMap Flat.enc:List Value).drop (n*Elt.sz α)=(l.drop n).flatMap Flat.enc
  | [],n=>by simp
  | x :: l,0=>by simp
  | x :: l,n+1=>by
    have hx:(Flat.enc x:List Value).length=Elt.sz α:=Flat.enc_len x;rw [List.flatMap_cons,List.drop_append,List.drop_eq_nil_of_le (by rw [hx,Nat.succ_mul]; omega),hx,show (n+1)*Elt.sz α-Elt.sz α=n*Elt.sz α by rw [Nat.succ_mul]; omega,fm_drop l n];rfl
theorem run_copy_rowS {P:Program} (w:World) (dT sT ty elem:TypeId) (g o dLen dCap:Nat) (a:Addr) (sLen sCap:Nat) (cur:Array Value) (t:TypeId) (cs:List Value) (s:Nat)
    (hu:P.underlying dT=some (.slice elem)) (hs:(P.info? elem).map (·.size)=some s)
    (hg:w.heap[g]?=some (.cells cur t (0,0))) (hn:cs.length=Nat.min sLen dLen*s)
    (hsrc:∀ j v,cs[j]?=some v->w.cell? (a.add j)=some v) (hfit:o+cs.length<=cur.size) (h1:∀ v∈cs,v.oneCell'=true) :
    (Builtin.copy_ #[dT,sT] ty #[.slice (some ⟨g,o,none⟩) dLen dCap,.slice (some a) sLen sCap]).run P w =
      .ok (goInt (Nat.min sLen dLen)) (w.setRow g (cur.toList.take o++cs++cur.toList.drop (o+cs.length)).toArray):=by
  have hl:=run_loadCells_list (P:=P) w a cs hsrc;have hst:=run_storeCells_at P g o t cs 0 cur w hg (by simpa using hfit) h1;cases hq:P.info? elem with
  | none=>simp [hq] at hs
  | some i =>
    have hi:i.size=s:=by simpa [hq] using hs
    subst hi;rw [hn] at hl;simp [Builtin.copy_,run_underlying hu,Builtin.lenOf,Builtin.firstCells,sizeOf,typeInfo,hq,hl,hst]
section
variable {P:Program} {w:World} {α:Type} [Flat α]
theorem run_copyF {t ty e by':Nat} {z:Value} (T:SlT P t e (Elt.sz α) by' z) {B:Nat} {v vy:Value} {l l2:List α} (ho:OwnF B e w v l) {o:Nat} (h1:o<l.length) {C:Cells} (hs:Sl C vy l2) (hle:C.Le w.cell?) (h2:0<l2.length) :
    ∃ w',(Builtin.copy_ #[t,t] ty #[sufV (Elt.sz α) v o,vy]).run P w = .ok (I (min l2.length (l.length-o):Nat)) w'/\OwnF B e w' v (l.take o++l2.take (l.length-o)++l.drop (o+min l2.length (l.length-o)))/\Grow B v w w':=by
  obtain ⟨a,c,hvy,hc2,hm2,hh⟩:=hs.ex;obtain ⟨b,o2,cs0,ha,_,_⟩:=hh 0 l2[0] (by simp);subst ha;have ho':=ho;unfold OwnF World.ownsRow at ho;rcases ho.2 with ⟨_,hn⟩ | ⟨g,cap,cur,hv,hb,hg,hc,hm,hcs,htake⟩
  · omega
  · have hsz:(P.info? e).map (·.size)=some (Elt.sz α):=T.size;have hd:sufV (Elt.sz α) v o = .slice (some ⟨g,o*Elt.sz α,none⟩) (l.length-o) (cap-o):=by
      rw [hv];simp only [sufV];rw [if_neg (by omega)];simp [add_lit]
    have hlen2:((l2.take (l.length-o)).flatMap Flat.enc:List Value).length=Nat.min l2.length (l.length-o)*Elt.sz α:=by
      rw [flat_len,List.length_take,Nat.min_comm]
    have hcur:cur.toList.length=cap*Elt.sz α:=by rw [Array.length_toList,hcs]
    have hmin:Nat.min l2.length (l.length-o)<=l.length-o:=Nat.min_le_right _ _;have hAB:o*Elt.sz α+Nat.min l2.length (l.length-o)*Elt.sz α<=l.length*Elt.sz α:=by rw [← Nat.add_mul]; exact Nat.mul_le_mul_right _ (by omega)
    have hNc:l.length*Elt.sz α<=cap*Elt.sz α:=Nat.mul_le_mul_right _ hc;have hr:=run_copy_rowS (P:=P) w t t ty e g (o*Elt.sz α) (l.length-o) (cap-o) ⟨b,o2,none⟩ l2.length c cur e ((l2.take (l.length-o)).flatMap Flat.enc) (Elt.sz α) T.und hsz hg hlen2 (by
        intro j u hj;obtain ⟨k,x,j',hk,hj',rfl⟩:=flat_inv _ _ _ hj;rw [List.getElem?_take] at hk;split at hk
        · obtain ⟨b',o',cs,hab,hrep,hy⟩:=hh k x hk;simp only [Option.some.injEq,Addr.mk.injEq,and_true] at hab;obtain ⟨rfl,rfl⟩:=hab;have hcs:=Flat.rep_iff.1 hrep;subst hcs;rw [add_lit,← Nat.add_assoc];exact hle _ _ (hy j' u hj')
        · cases hk) (by rw [hlen2,← Array.length_toList,hcur]; omega) (flat_one _)
    rw [← hvy,← hd] at hr;refine ⟨_,hr,?_,?_⟩
    · have hlen:(l.take o++l2.take (l.length-o)++l.drop (o+min l2.length (l.length-o))).length=l.length:=by simp; omega
      unfold OwnF World.ownsRow;rw [hlen];have e1:cur.toList.take (o*Elt.sz α)=(l.take o).flatMap Flat.enc:=by
        rw [← fm_take,← htake,List.take_take,Nat.min_eq_left (by omega)]
      have e2:(cur.toList.drop (o*Elt.sz α+Nat.min l2.length (l.length-o)*Elt.sz α)).take (l.length*Elt.sz α-(o*Elt.sz α+Nat.min l2.length (l.length-o)*Elt.sz α))=(l.drop (o+min l2.length (l.length-o))).flatMap Flat.enc:=by
        rw [← List.drop_take,htake,← Nat.add_mul,fm_drop]
      refine ⟨by rw [flat_len,hlen],.inr ⟨g,cap,_,hv,hb,setRow_heap w g cur _ e (0,0) hg,hc,hm,?_,?_⟩⟩
      · simp only [List.size_toArray,List.length_append,List.length_take,List.length_drop,hlen2,hcur];omega
      · rw [List.flatMap_append,List.flatMap_append,← e1,← e2,hlen2];show List.take (l.length*Elt.sz α) (_++_++_)=_;rw [List.append_assoc,List.take_append,List.take_append,List.length_take,hcur,hlen2];rw [Nat.min_eq_left (show o*Elt.sz α<=cap*Elt.sz α by omega)];rw [List.take_take,Nat.min_eq_right (show o*Elt.sz α<=l.length*Elt.sz α by omega)];rw [List.take_of_length_le (l:=(l2.take (l.length-o)).flatMap Flat.enc) (by rw [hlen2]; omega)];rw [Nat.sub_sub,List.append_assoc]
    · refine ⟨rfl,rfl,by simp,fun k _ hk=>?_,fun g' hg'=>(ho'.lt g' hg').1,frozen_setRow _ _ _⟩;apply setRow_other;intro e';apply hk;rw [hv,e'];rfl
variable {all rest:List Oper} {Q:Post} {σ:Env} {d:Nat} {ty:TypeId} {pos:String} {af:Array Edge} {g:Option (Nat × Bool)}
theorem s_copyF {t e by':Nat} {z:Value} {x y:Operand} (T:SlT P t e (Elt.sz α) by' z) {B:Nat} {v vy:Value} {l l2:List α} {o:Nat} {C:Cells} (hx:ev σ x=sufV (Elt.sz α) v o) (hy:ev σ y=vy)
    (ho:OwnF B e w v l) (h1:o<l.length) (hs:Sl C vy l2) (hle:C.Le w.cell?) (h2:0<l2.length)
    (k:∀ w',OwnF B e w' v (l.take o++l2.take (l.length-o)++l.drop (o+min l2.length (l.length-o)))->Grow B v w w'->SL P all Q rest (upd σ d (I (min l2.length (l.length-o):Nat))) w') :
    SL P all Q (⟨some d,.call ⟨.builtin .copy,#[x,y],#[t,t]⟩,ty,pos,af,none⟩ :: rest) σ w:=by
  obtain ⟨w',hr,ho',hg⟩:=run_copyF (ty:=ty) T ho h1 hs hle h2;refine s_any (v:=I (min l2.length (l.length-o):Nat)) (w':=w') ?_ (k w' ho' hg);simp [execOp,resolve,invoke,builtin,hx,hy,hr]
end
end Go.Nm
namespace Go.Nm
open Go
theorem repS_step {l:List Span} {x:Span} {k z:Nat} (h:∀ y∈l.take k,y=x) (hk:k<=l.length) :
    ∀ y∈(l.take (Int.toNat k)++(l.take k).take (l.length-Int.toNat k)++l.drop z).take (k+min (l.take k).length (l.length-Int.toNat k)),y=x:=by
  intro y hy;rw [List.take_append_of_le_length (by simp; omega)] at hy;have hy:=List.mem_of_mem_take hy;rw [show Int.toNat (k:Int)=k from by omega] at hy;rcases List.mem_append.1 hy with h1 | h1
  · exact h y h1
  · exact h y (List.mem_of_mem_take h1)
theorem repS_done {l:List Span} {x:Span} {n k:Nat} (hl:l.length=n) (h:∀ y∈l.take k,y=x) (hk:n<=k):l=List.replicate n x:=by
  rw [List.take_of_length_le (by omega)] at h;exact List.eq_replicate_iff.2 ⟨hl,h⟩
theorem repS_init {n:Nat} (x:Span) (h:1<=n):(List.replicate n (⟨0,0⟩:Span)).take 0++[x].take ((List.replicate n (⟨0,0⟩:Span)).length-0)++(List.replicate n (⟨0,0⟩:Span)).drop (0+min [x].length ((List.replicate n (⟨0,0⟩:Span)).length-0))=[x]++List.replicate (n-1) (⟨0,0⟩:Span):=by
  obtain ⟨m,rfl⟩:∃ m,n=m+1:=⟨n-1,by omega⟩
  simp [show min 1 (m+1)=1 from by omega]
end Go.Nm
namespace Go.Proofs.YtaolcidinlnklaaGreat
open Go Go.Nm
theorem cf253:CF Tryz.prog 253:=⟨_,Tryz.func253,rfl,by decide +kernel⟩
theorem cf232:CF Tryz.prog 232:=⟨_,Tryz.func232,rfl,by decide +kernel⟩
set_option maxRecDepth 100000 in
theorem repeat_span {vx:Value} {x:Span} {n:Int} (w:World) (hx:Sl w.cell? vx [x]) (h1:1<=n) (h2:n<=1000):Ret Tryz.prog 232 #[vx,I n] w fun v w'=>OwnF w.heap.size 42 w' v (List.replicate (Int.toNat n) x)/\Ext w w':=by
 refine ret_of_W Tryz.func232 rfl rfl rfl ?_;have E:=Ext.refl w;have K1:=KF.refl 0 w;have hl_hx:=hx.len_le;have hx:=hx.par;refine W.seq ?_;refine W.region rfl ?_;refine s_val (x_as (v:=.slice none 0 0) rfl) ?_;refine s_nil ?_;refine W.seq ?_;refine W.seq ?_;refine W.region rfl ?_;refine s_val (x_mv (v:=I n) rfl) ?_;refine s_val (x_cmp (kd:=.i64) (a:=n) (b:=0) (r:=decide ((n:Int)<0)) rfl rfl rfl) ?_;refine s_nil ?_;refine W.cond (decide ((n:Int)<0)) rfl (fun c2=>?_) (fun c2=>?_)
 ·simp only [decide_eq_true_eq,decide_eq_false_iff_not,beq_iff_eq,bne_iff_ne,beq_eq_false_iff_ne,bne_eq_false_iff_eq,ne_eq,Decidable.not_not] at c2;exfalso; omega
 ·simp only [decide_eq_true_eq,decide_eq_false_iff_not,beq_iff_eq,bne_iff_ne,beq_eq_false_iff_ne,bne_eq_false_iff_eq,ne_eq,Decidable.not_not] at c2;refine W.skip ?_;refine W.seq ?_;refine W.region rfl ?_;refine s_val (x_mv (v:=vx) rfl) ?_;refine s_val (x_lenS T88.h.und rfl (hx.to K1)) ?_;refine s_val (x_convU (kd:=.i64) (a:=([x]).length) Tryz.underlying3 Tryz.underlying204 rfl (by omega)) ?_;refine s_val (x_mv (v:=I n) rfl) ?_;refine s_val (x_convU (kd:=.i64) (a:=n) Tryz.underlying3 Tryz.underlying204 rfl (by omega)) ?_;refine s_call cf253 [.int .u64 (([x]).length),.int .u64 n] rfl (mul_any (by omega) (by omega) _) ?_;rintro _ w3 ⟨rfl,x4⟩;replace E:=E.trans x4;replace K1:=K1.ext x4;clear x4;refine s_val (x_mv (v:=.tuple #[.int .u64 0,.int .u64 n]) rfl) ?_;refine s_val (x_ext (vs:=[.int .u64 0,.int .u64 n]) (v:=.int .u64 0) rfl rfl) ?_;refine s_val (x_ext (vs:=[.int .u64 0,.int .u64 n]) (v:=.int .u64 n) rfl rfl) ?_;refine s_val (x_as (v:=.int .u64 0) rfl) ?_;refine s_val (x_as (v:=.int .u64 n) rfl) ?_;refine s_nil ?_;refine W.seq ?_;refine W.seq ?_;refine W.region rfl ?_;refine s_val (x_mv (v:=.int .u64 0) rfl) ?_;refine s_val (x_cmp (kd:=.u64) (a:=0) (b:=0) (r:=decide ((0:Int)<0)) rfl rfl rfl) ?_;refine s_val (x_mv (v:=B (decide ((0:Int)<0))) rfl) ?_;refine g_val (!(decide ((0:Int)<0))) (gy_f rfl) (fun hg=>x_mv (v:=.int .u64 n) rfl) ?_;refine g_val (!(decide ((0:Int)<0))) (gy_f rfl) (fun hg=>x_cmp (kd:=.u64) (a:=n) (b:=9223372036854775807) (r:=decide ((9223372036854775807:Int)<n)) (gd_of (c:=!(decide ((0:Int)<0))) hg (.int .u64 n)) rfl rfl) ?_;refine s_val (x_por (b:=decide ((0:Int)<0)) (r:=decide ((9223372036854775807:Int)<n)) rfl rfl (fun hb=>gd_of (c:=!(decide ((0:Int)<0))) (by simp_all) (B (decide ((9223372036854775807:Int)<n))))) ?_;refine s_nil ?_;refine W.cond (((decide ((0:Int)<0))||(decide ((9223372036854775807:Int)<n)))) rfl (fun c5=>?_) (fun c5=>?_)
  ·skip
   exfalso; simp at c5; omega
  ·skip
   refine W.skip ?_;refine W.seq ?_;refine W.region rfl ?_;refine s_val (x_mv (v:=.int .u64 n) rfl) ?_;refine s_val (x_conv64 (kd:=.u64) (a:=n) Tryz.underlying204 Tryz.underlying3 rfl (by omega)) ?_;refine s_mk (α:=Span) T88.h ⟨0,0⟩ rfl (n:=n) rfl rfl (by omega) (by omega) (by omega) ?_;intro v6 w7 ho8 x9;have z10:=Nat.le_refl w3.heap.size;have B_v6:=E.size;have B_v6_K1:=K1.size;replace E:=E.trans x9;replace z10:=Nat.le_trans z10 x9.size;replace K1:=K1.ext x9;refine s_val (x_as (v:=v6) rfl) ?_;refine s_nil ?_;refine W.seq ?_;refine W.region rfl ?_;refine s_val (x_mv (v:=v6) rfl) ?_;refine s_val (x_mv (v:=vx) rfl) ?_;refine s_copyF (v:=v6) (l:=List.replicate (Int.toNat n) (⟨0,0⟩:Span)) (l2:=[x]) (o:=0) (vy:=vx) T88.h ((sufV_zero ho8 2).symm) rfl ho8 (by first | omega | (simp; done) | (simp; omega)) (hx.to K1) (Cells.Le.refl _) (by first | omega | (simp; done) | (simp; omega)) ?_;intro w11 ho13 g12;replace E:=E.grow g12 (by omega);replace z10:=Nat.le_trans z10 g12.size;replace K1:=K1.grow g12 (by omega);replace ho8:=ho13;clear g12;refine s_val (x_as (v:=I ((min ([x]).length ((List.replicate (Int.toNat n) (⟨0,0⟩:Span)).length-0):Nat))) rfl) ?_;refine s_nil ?_;refine W.seq ?_;refine W.block ?_;refine W.loop (fun m σ W=>∃ (k:Nat) (l:List Span) (vo:Value) (ρ:Env),σ=upds ρ [(7,vo),(8,I k)]/\m=Int.toNat n-k/\Ext w W/\w3.heap.size<=W.heap.size/\OwnF w3.heap.size 42 W vo l/\l.length=Int.toNat n/\1<=k/\k<=Int.toNat n/\(∀ y∈l.take k,y=x)) ?_ ?_
   ·exact ⟨_,1,([x]++List.replicate (Int.toNat n-1) (⟨0,0⟩:Span)),v6,_,upds_of _ _ ⟨rfl,(eqI (by simp; omega)),trivial⟩,rfl,E,z10,(by have hq:=ho8; rw [repS_init (n:=Int.toNat n) x (by omega)] at hq; exact hq),(by simp; omega),(Nat.le_refl _),(by omega),(by simp)⟩
   ·rintro m σ w14 ⟨k,l,vo,ρ,rfl,rfl,E,z10,ho_vo,iv0_0,iv0_1,iv0_2,iv0_3⟩;refine W.seq ?_;refine W.seq ?_;refine W.region rfl ?_;refine s_val (x_mv (v:=I k) rfl) ?_;refine s_val (x_mv (v:=vo) rfl) ?_;refine s_val (x_lenS T88.h.und rfl (ho_vo.sl.mono (frm_le _ _))) ?_;refine s_val (x_cmp (kd:=.i64) (a:=k) (b:=l.length) (r:=decide ((k:Int)<l.length)) rfl rfl rfl) ?_;refine s_nil ?_;refine W.cond (decide ((k:Int)<l.length)) rfl (fun c15=>?_) (fun c15=>?_)
    ·simp only [decide_eq_true_eq,decide_eq_false_iff_not,beq_iff_eq,bne_iff_ne,beq_eq_false_iff_ne,bne_eq_false_iff_eq,ne_eq,Decidable.not_not] at c15;refine W.skip ?_;refine W.block ?_;refine W.draw (fun W=>Ext w W) [(0,true),(1,true),(2,true),(3,true),(4,true),(5,true),(6,true),(7,false),(8,true),(9,true)] mixed (by decide +kernel) rfl ?_;intro w16 x17;replace E:=E.trans x17;replace z10:=Nat.le_trans z10 x17.size;replace ho_vo:=ho_vo.ext x17;clear x17;refine ⟨E,?_⟩;refine d_q rfl (fun w' hC=>by have E:=hC; exact x_mv (v:=I k) rfl) ?_;refine d_q rfl (fun w' hC=>by have E:=hC; exact x_mv (v:=vo) rfl) ?_;refine d_q rfl (fun w' hC=>by have E:=hC; exact x_mv (v:=I k) rfl) ?_;refine d_q rfl (fun w' hC=>by have E:=hC; exact x_sl (v:=vo) (u:=sufV 2 vo (Int.toNat k)) (lo':=some (I k)) (hi':=none) (mx':=none) rfl rfl rfl rfl (OwnF.suf (i:=k) T88.h.und T88.h.size ho_vo (by omega) (by omega) _)) ?_;refine d_q rfl (fun w' hC=>by have E:=hC; exact x_mv (v:=vo) rfl) ?_;refine d_q rfl (fun w' hC=>by have E:=hC; exact x_mv (v:=I k) rfl) ?_;obtain ⟨u18,hr_u18,hs19⟩:=sl_hi T88.h.und T88.h.size ho_vo.sl (j:=k) (by omega) (by omega);replace hs19:=hs19.mono (frm_le _ _);replace hs19:Sl _ u18 (l.take k):=hs19;refine d_q rfl (fun w' hC=>by have E:=hC; exact x_sl (v:=vo) (u:=u18) (lo':=none) (hi':=some (I k)) (mx':=none) rfl rfl rfl rfl (hr_u18 _)) ?_;refine d_l rfl ?_;refine s_copyF (v:=vo) (l:=l) (l2:=l.take k) (o:=(Int.toNat k)) (vy:=u18) T88.h rfl rfl ho_vo (by first | omega | (simp; done) | (simp; omega)) hs19 (Cells.Le.refl _) (by first | omega | (simp; done) | (simp; omega)) ?_;intro w20 ho22 g21;replace E:=E.grow g21 (by omega);replace z10:=Nat.le_trans z10 g21.size;replace ho_vo:=ho22;clear g21;refine s_nil ⟨E,?_⟩;refine d_q rfl (fun w' hC=>by have E:=hC; exact x_ari (a:=k) (b:=(min (l.take k).length ((l).length-(Int.toNat k)):Nat)) (r:=k+((min (l.take k).length ((l).length-(Int.toNat k)):Nat))) rfl rfl rfl (by omega)) ?_;refine d_q rfl (fun w' hC=>by have E:=hC; exact x_as (v:=I (k+((min (l.take k).length ((l).length-(Int.toNat k)):Nat)))) rfl) ?_;refine d_nil ?_;have hmk:(l.take k).length=k:=by simp; omega
     exact ⟨_,(by omega),(k+min (l.take k).length (l.length-Int.toNat k)),_,vo,_,upds_of _ _ ⟨rfl,(eqI (by omega)),trivial⟩,rfl,E,z10,(by first | exact ho_vo | simpa using ho_vo),(by simp only [List.length_append,List.length_take,List.length_drop]; omega),(by omega),(by omega),(repS_step iv0_3 (by omega))⟩
    ·simp only [decide_eq_true_eq,decide_eq_false_iff_not,beq_iff_eq,bne_iff_ne,beq_eq_false_iff_ne,bne_eq_false_iff_eq,ne_eq,Decidable.not_not] at c15;refine W.exit ?_;refine W.seq ?_;refine W.region rfl ?_;refine s_val (x_mv (v:=vo) rfl) ?_;refine s_val (x_as (v:=vo) rfl) ?_;refine s_nil ?_;refine W.ret ?_;exact ⟨_,resE_tmp rfl,((repS_done iv0_0 iv0_3 (by omega)) ▸ ho_vo.dn (by omega)),E⟩

end Go.Proofs.YtaolcidinlnklaaGreat
namespace Go.Nm
open Go
/-- The times that a note tells. -/
def CNt.time (n:CNt):Span:=⟨n.tlo,n.thi⟩
/-- The times of all marks, by notes. -/
def notedE (k:Nat) (m:List (Int × CNt)):List Span:=(List.range k).map fun i:Nat=>match lookM m (i:Int) with
  | some n=>n.time
  | none=>⟨-100000000,100000000⟩
theorem lookM_at {κ ν:Type} [DecidableEq κ]:∀ {m:List (κ × ν)} {q:Nat} {k:κ} {v:ν},(m.map Prod.fst).Nodup->m[q]?=some (k,v)->lookM m k=some v
  | [],q,k,v,_,h=>by simp at h
  | p :: m,q,k,v,hn,h=>by
    rw [List.map_cons,List.nodup_cons] at hn;unfold lookM;cases q with
    | zero =>
      simp only [List.getElem?_cons_zero,Option.some.injEq] at h;rw [if_pos (by rw [h]),h]
    | succ q =>
      simp only [List.getElem?_cons_succ] at h;rw [if_neg (fun e=>hn.1 (by rw [e]; exact List.mem_map.2 ⟨_,List.mem_of_getElem? h,rfl⟩))];exact lookM_at hn.2 h
theorem lookM_of {κ ν:Type} [DecidableEq κ]:∀ {m:List (κ × ν)} {k:κ} {v:ν},lookM m k=some v->∃ q:Nat,m[q]?=some (k,v)
  | [],k,v,h=>by simp [lookM] at h
  | p :: m,k,v,h=>by
    unfold lookM at h;split at h
    · rename_i e
      injection h with h
      exact ⟨0,by rw [← e,← h]; rfl⟩
    · obtain ⟨q,hq⟩:=lookM_of h;exact ⟨q+1,by simpa using hq⟩
/-- What has been told so far. -/
structure NtI (k:Nat) (m:List (Int × CNt)) (left:List Bool) (l:List Span):Prop where
  len:l.length=k
  lf:left.length=m.length
  told:∀ (q:Nat) key v,m[q]?=some (key,v)->left.getD q false=false->l.getD (Int.toNat key) default=v.time
  rest:∀ i,i<k->(∀ (q:Nat) v,m[q]?=some ((i:Int),v)->left.getD q false=true)->l.getD i default=⟨-100000000,100000000⟩
theorem NtI.zero (k:Nat) (m:List (Int × CNt)):NtI k m (List.replicate m.length true) (List.replicate k ⟨-100000000,100000000⟩):=by
  refine ⟨by simp,by simp,fun q key v hq hf=>?_,fun i hi _=>?_⟩
  · have hl:q<m.length:=(List.getElem?_eq_some_iff.1 hq).1;rw [List.getD_eq_getElem?_getD,List.getElem?_replicate,if_pos hl] at hf;simp at hf
  · rw [List.getD_eq_getElem?_getD,List.getElem?_replicate,if_pos hi];rfl
theorem NtI.step {k:Nat} {m:List (Int × CNt)} {left:List Bool} {l:List Span} (h:NtI k m left l) (hn:(m.map Prod.fst).Nodup) {j:Nat} {key:Int} {v:CNt} (hj:m[j]?=some (key,v)) (hr:∀ (q:Nat) key v,m[q]?=some (key,v)->0<=key/\key<(k:Int)) :
    NtI k m (left.set j false) (l.set (Int.toNat key) v.time):=by
  have hlen:=h.len;have hlf:=h.lf;have hjl:j<m.length:=(List.getElem?_eq_some_iff.1 hj).1;have rj:=hr _ _ _ hj;refine ⟨by simp [hlen],by simp [hlf],fun q key' v' hq hf=>?_,fun i hi hall=>?_⟩
  · by_cases e:j=q
    · subst e;rw [hj] at hq;injection hq with hq
      injection hq with e1 e2
      subst e1 e2;rw [List.getD_eq_getElem?_getD,List.getElem?_set_self (by omega)];rfl
    · rw [List.getD_eq_getElem?_getD,List.getElem?_set_ne e,← List.getD_eq_getElem?_getD] at hf;have hk:key ≠ key':=fun e2=>by
        subst e2;have a1:=idxM_at hn hj;have a2:=idxM_at hn hq;rw [a1] at a2;injection a2 with a2
        exact e a2
      have:=h.told q key' v' hq hf;have r1:=hr _ _ _ hj;have r2:=hr _ _ _ hq;have e3:Int.toNat key ≠ Int.toNat key':=fun e3=>hk (by omega);rw [List.getD_eq_getElem?_getD,List.getElem?_set_ne e3,← List.getD_eq_getElem?_getD];exact this
  · have r1:=hr _ _ _ hj;have hne:Int.toNat key ≠ i:=fun e=>by
      have:=hall j v (by rw [hj,show ((i:Nat):Int)=key by omega]);rw [List.getD_eq_getElem?_getD,List.getElem?_set_self (by omega)] at this;simp at this
    rw [List.getD_eq_getElem?_getD,List.getElem?_set_ne hne,← List.getD_eq_getElem?_getD];refine h.rest i hi fun q v' hq=>?_;have:=hall q v' hq;by_cases e:j=q
    · subst e;rw [List.getD_eq_getElem?_getD,List.getElem?_set_self (by omega)] at this;simp at this
    · rw [List.getD_eq_getElem?_getD,List.getElem?_set_ne e,← List.getD_eq_getElem?_getD] at this;exact this
theorem NtI.done {k:Nat} {m:List (Int × CNt)} {left:List Bool} {l:List Span} (h:NtI k m left l) (hn:(m.map Prod.fst).Nodup) (h0:∀ j,left.getD j false=false):l=notedE k m:=by
  apply List.ext_getElem?;intro i;by_cases hi:i<k
  · have hl:l[i]?=some (l.getD i default):=by rw [List.getD_eq_getElem?_getD,List.getElem?_eq_getElem (by rw [h.len]; exact hi)]; rfl
    rw [hl];unfold notedE;rw [List.getElem?_map,List.getElem?_range hi];simp only [Option.map_some]
    congr 1
    cases hm:lookM m (i:Int) with
    | none =>
      refine h.rest i hi fun q v hq=>?_;rw [lookM_at hn hq] at hm;cases hm
    | some v =>
      obtain ⟨q,hq⟩:=lookM_of hm;have:=h.told q i v hq (h0 q)
      simpa using this
  · rw [List.getElem?_eq_none (by rw [h.len]; omega),List.getElem?_eq_none (by unfold notedE; simp; omega)]
end Go.Nm
namespace Go.Nm
theorem cnt_set:∀ (l:List Bool) (j:Nat),l.getD j false=true->(l.set j false).countP id<l.countP id
  | [],j,h=>by simp at h
  | b :: l,0,h=>by
    have h:b=true:=by simpa using h
    subst h;simp
  | b :: l,j+1,h=>by
    have:=cnt_set l j (by simpa using h);simp only [List.set_cons_succ,List.countP_cons];omega
end Go.Nm
namespace Go.Proofs.YtaolcidinlnklaaGreat
open Go Go.Nm
def zfE (w__Chart_Pace_Lo:Int) (w__Chart_Pace_Hi:Int) (w__Chart_Base:Int) (w__Chart_Scale:Int) (w__Chart_Off:Int) (w__Chart_Marks:List CMk) (w__Chart_Notes:List CNt) (w__notes:List (Int × CNt)):M (List Span) :=
  M.grd (decide (1<=(w__Chart_Marks.length:Int))&&decide ((w__Chart_Marks.length:Int)<=1000)) <|
  M.grd (w__notes.all fun p=>decide (0<=p.1)&&decide (p.1<(w__Chart_Marks.length:Int))) <|
  M.pure (notedE w__Chart_Marks.length w__notes)
set_option maxRecDepth 100000 in
theorem zhf {R b_w_ C_w__Chart_Marks v_w__Chart_Marks C_w__Chart_Notes v_w__Chart_Notes b_w__notes}(w__Chart_Pace_Lo w__Chart_Pace_Hi w__Chart_Base w__Chart_Scale w__Chart_Off w__Chart_Marks w__Chart_Notes w__notes)(hC_w__Chart_Marks:Reads R C_w__Chart_Marks)(hs_w__Chart_Marks:Sl C_w__Chart_Marks v_w__Chart_Marks w__Chart_Marks)(hC_w__Chart_Notes:Reads R C_w__Chart_Notes)(hs_w__Chart_Notes:Sl C_w__Chart_Notes v_w__Chart_Notes w__Chart_Notes)(h_b_w__notes:Has R (cMl I encCN b_w__notes w__notes))(h_b_w_:Fld R b_w_ [I w__Chart_Pace_Lo,I w__Chart_Pace_Hi,I w__Chart_Base,I w__Chart_Scale,I w__Chart_Off,v_w__Chart_Marks,v_w__Chart_Notes,.map (some b_w__notes)]){r}(hM:(zfE w__Chart_Pace_Lo w__Chart_Pace_Hi w__Chart_Base w__Chart_Scale w__Chart_Off w__Chart_Marks w__Chart_Notes w__notes).Ends r)(w)(H:St w w [] R):Ret Tryz.prog 187 #[.pointer (some ⟨b_w_,0,none⟩)] w fun v w'=>∃ y0 u0,y0=r/\v=u0/\St w w' [cOwn (α:=Span) 42 u0 y0] R:=by
 obtain ⟨sd1,hM⟩:=M.e_grd hM;obtain ⟨sd2,hM⟩:=M.e_grd hM;have hr_:=M.e_pure hM;simp only [Bool.and_eq_true,decide_eq_true_eq] at sd1;have hkr:∀ (q:Nat) key v,w__notes[q]?=some (key,v)->0<=key/\key<(w__Chart_Marks.length:Int):=fun q key v hq=>by
  have:=List.all_eq_true.1 sd2 _ (List.mem_of_getElem? hq)
  simpa using this
 obtain ⟨es,n,hmp,hnd,hE⟩:=h_b_w__notes.map H.sep;replace H:=H.pin;have hf:=h_b_w_.pin (w:=w);refine Ret.mono (R:=fun v w'=>∃ (y0:List Span) (u0:Value),y0=r/\v=u0/\St w w' [cOwn (α:=Span) 42 u0 y0] (R.map (pin w))) ?_ (fun v w' ⟨y,u,h1,h2,h3⟩=>⟨y,u,h1,h2,h3.unpin⟩);refine ret_of_W Tryz.func187 rfl rfl rfl ?_;refine W.seq ?_;refine W.region rfl ?_;refine s_val (x_as (v:=.slice none 0 0) rfl) ?_;refine s_nil ?_;refine W.seq ?_;refine W.region rfl ?_;refine s_val (x_bld (ps:=[(0,I (-100000000)),(1,I 100000000)]) (zs:=[I 0,I 0]) (L':=[I (-100000000),I 100000000]) rfl Tryz.underlying42 Al42.h rfl (Bd42 Tryz.underlying42) (.cons (cs:=[I (-100000000)]) rfl rfl rfl rfl rfl<|.cons (cs:=[I 100000000]) rfl rfl rfl rfl rfl<|.nil)) ?_;refine t_bs (α:=Span) T88.h [.agg #[I (-100000000),I 100000000]] [(⟨-100000000,100000000⟩:Span)] H rfl (.cons rfl (Flat.rep_enc _ (⟨-100000000,100000000⟩:Span))<|.nil) rfl rfl rfl ?_;intro v1 w1 H;refine s_val (x_mv (v:=.pointer (some ⟨b_w_,0,none⟩)) rfl) ?_;refine s_val (x_nc (a:=⟨b_w_,0,none⟩) rfl) ?_;refine s_val (x_fa (a:=.pointer (some ⟨b_w_,0,none⟩)) (v:=.pointer (some ⟨b_w_,0,none⟩)) rfl (fa_blk (o:=0) Fd257_0.h Sz123.h)) ?_;refine s_val (x_fa (a:=.pointer (some ⟨b_w_,0,none⟩)) (v:=.pointer (some ⟨b_w_,5,none⟩)) rfl (fa_blk (o:=0) Fd123_4.h Sz120.h)) ?_;refine s_val (x_ld (p:=.pointer (some ⟨b_w_,5,none⟩)) (v:=v_w__Chart_Marks) rfl (fld_sc (pre:=[I w__Chart_Pace_Lo,I w__Chart_Pace_Hi,I w__Chart_Base,I w__Chart_Scale,I w__Chart_Off,v_w__Chart_Marks,v_w__Chart_Notes,.map (some b_w__notes)]) (i:=5) Sc120.h (hf.at H) rfl)) ?_;refine s_val (x_lenS T120.h.und rfl hs_w__Chart_Marks) ?_;refine s_call cf232 [v1,I (w__Chart_Marks.length:Int)] rfl (repeat_span _ ((ownSl (H.get (k:=0) rfl)).mono (ownLe _ (H.get (k:=0) rfl))) (by omega) (by omega)) ?_;rintro v2 w2 ⟨ho_,hx_⟩;replace H:St w w2 [cOwn (α:=Span) 42 v2 (List.replicate (Int.toNat (w__Chart_Marks.length:Int)) (⟨-100000000,100000000⟩:Span)),cOwn (α:=Span) 42 v1 [(⟨-100000000,100000000⟩:Span)]] (R.map (pin w)):=H.ownOf hx_ ho_;rw [Int.toNat_natCast] at H;clear ho_ hx_;refine s_val (x_as (v:=v2) rfl) ?_;refine s_nil ?_;refine W.seq ?_;refine W.seq ?_;refine W.region rfl ?_;refine s_val (x_mv (v:=.pointer (some ⟨b_w_,0,none⟩)) rfl) ?_;refine s_val (x_nc (a:=⟨b_w_,0,none⟩) rfl) ?_;refine s_val (x_fa (a:=.pointer (some ⟨b_w_,0,none⟩)) (v:=.pointer (some ⟨b_w_,7,none⟩)) rfl (fa_blk (o:=0) Fd257_1.h Sz254.h)) ?_;refine s_val (x_ld (p:=.pointer (some ⟨b_w_,7,none⟩)) (v:=.map (some b_w__notes)) rfl (fld_sc (pre:=[I w__Chart_Pace_Lo,I w__Chart_Pace_Hi,I w__Chart_Base,I w__Chart_Scale,I w__Chart_Off,v_w__Chart_Marks,v_w__Chart_Notes,.map (some b_w__notes)]) (i:=7) Sc254.h (hf.at H) rfl)) ?_;refine t_rangeR (kt:=3) (et:=191) Tryz.underlying254 H (hE.at H) hmp rfl ?_;intro rq w3 H;refine s_nil ?_;refine W.block ?_;refine W.loop (fun m σ W=>∃ (left:List Bool) (last:Option Nat) (l:List Span) (ρ:Env),σ=upds ρ [(3,v2),(19,.pointer (some ⟨rq,0,none⟩))]/\m=left.countP id/\NtI w__Chart_Marks.length w__notes left l/\St w W [cIr b_w__notes rq es n left last,cOwn (α:=Span) 42 v2 l,cOwn (α:=Span) 42 v1 [(⟨-100000000,100000000⟩:Span)]] (R.map (pin w))) ?_ ?_
 ·exact ⟨_,_,_,_,_,upds_of _ _ ⟨rfl,rfl,trivial⟩,rfl,NtI.zero _ _,H⟩
 ·rintro m σ w4 ⟨left,last,l,ρ,rfl,rfl,hI,H⟩;refine W.seq ?_;refine W.region rfl ?_;refine t_nextR (i:=0) H (hE.at H) hmp rfl rfl ?_ ?_
  ·intro hall;refine s_val (x_ext (vs:=[.bool false]) (v:=B false) rfl rfl) ?_;refine s_nil ?_;refine W.seq ?_;refine W.cond false rfl (fun c=>absurd c (by decide)) (fun _=>?_);refine W.exit ?_;refine W.seq ?_;refine W.region rfl ?_;refine s_val (x_mv (v:=v2) rfl) ?_;refine s_val (x_as (v:=v2) rfl) ?_;refine s_nil ?_;refine W.ret ?_;exact ⟨_,resE_tmp rfl,⟨l,v2,(hI.done hnd hall).trans hr_,rfl,(H.pick [1] (by decide) rfl)⟩⟩
  ·intro j key v w5 hlj hmj H;have hkk:=hkr _ _ _ hmj;have hll:=hI.len;refine s_val (x_ext (vs:=[.bool true,I key,encCN v]) (v:=B true) rfl rfl) ?_;refine s_nil ?_;refine W.seq ?_;refine W.cond true rfl (fun _=>?_) (fun c=>absurd c (by decide));refine W.skip ?_;refine W.block ?_;refine W.seq ?_;refine W.region rfl ?_;refine s_val (x_entryR (H.get (k:=0) rfl) (hE.at H) hmp hmj rfl) ?_;refine s_val (x_ext (vs:=[I key,encCN v]) (v:=I key) rfl rfl) ?_;refine s_val (x_ext (vs:=[I key,encCN v]) (v:=encCN v) rfl rfl) ?_;refine t_alloc (cs:=[I 0,I 0,I 0,I 0,I 0]) H Al191.h rfl ?_;intro b5 w6 H;refine s_val (x_as (v:=I key) rfl) ?_;refine t_st (k:=0) (b:=b5) (off:=0) (cs:=[I 0,I 0,I 0,I 0,I 0]) (vs:=[I v.mark,I v.tlo,I v.thi,I v.slo,I v.shi]) (cs':=[I v.mark,I v.tlo,I v.thi,I v.slo,I v.shi]) (v:=encCN v) (L':=[cBlk b5 [I v.mark,I v.tlo,I v.thi,I v.slo,I v.shi] 191,cIr b_w__notes rq es n (left.set j false) (some j),cOwn (α:=Span) 42 v2 l,cOwn (α:=Span) 42 v1 [(⟨-100000000,100000000⟩:Span)]]) H rfl rfl rfl Sz191.h rfl rfl rfl rfl rfl rfl ?_;intro w7 H;refine s_nil ?_;refine W.region rfl ?_;refine s_val (x_mv (v:=v2) rfl) ?_;refine s_val (x_mv (v:=I key) rfl) ?_;refine s_val (x_fa (a:=.pointer (some ⟨b5,0,none⟩)) (v:=.pointer (some ⟨b5,1,none⟩)) rfl (fa_blk (o:=0) Fd191_1.h Sz42.h)) ?_;refine s_val (x_ld (p:=.pointer (some ⟨b5,1,none⟩)) (v:=.agg #[I v.tlo,I v.thi]) rfl (ldb_ag (ds:=[I v.tlo,I v.thi]) Ag42.h Sz42.h (H.blk (k:=0) rfl) rfl rfl)) ?_;refine s_val (x_ix (a:=v2) (b:=I key) (v:=vat v2 2 (Int.toNat key)) rfl rfl (Sl.ix (α:=Span) T88.h.und T88.h.size (ownSl (H.get (k:=2) rfl)) (by omega) (by omega))) ?_;refine t_ost (k:=2) (i:=key) (l:=l) (l':=l.set (Int.toNat key) v.time) (val:=.agg #[I v.tlo,I v.thi]) (L':=[cBlk b5 [I v.mark,I v.tlo,I v.thi,I v.slo,I v.shi] 191,cIr b_w__notes rq es n (left.set j false) (some j),cOwn (α:=Span) 42 v2 (l.set (Int.toNat key) v.time),cOwn (α:=Span) 42 v1 [(⟨-100000000,100000000⟩:Span)]]) H rfl Sz42.h (by omega) (by omega) v.time rfl rfl rfl rfl rfl ?_;intro w8 H;refine s_nil ?_;exact ⟨_,cnt_set left j hlj,left.set j false,some j,l.set (Int.toNat key) v.time,_,upds_of _ _ ⟨rfl,rfl,trivial⟩,rfl,hI.step hnd hmj hkr,(H.pick [1,2,3] (by decide) rfl)⟩
end Go.Proofs.YtaolcidinlnklaaGreat
section
set_option maxRecDepth 100000
set_option maxHeartbeats 16000000
namespace Go.Proofs.YtaolcidinlnklaaGreat
open Go Go.Nm
attribute [local irreducible] gd execOp SL SLD SLT WR
def zal (n aa greatest:Int):M Bool :=
  M.pure ((decide (aa<=n))&&(decide (n<=greatest)))
theorem zam {R}(n aa greatest){r}(hM:(zal n aa greatest).Ends r)(w)(H:St w w [] R):Ret Tryz.prog 63 #[I n,I aa,I greatest] w fun v w'=>∃ y0,y0=r/\v=B y0/\St w w' [] R:=by
 refine ret_of_W Tryz.func63 rfl rfl rfl ?_;refine kg 16 ?_;exact rt

def zdu (s:Span) (aa greatest:Int):M Bool :=
  M.bind (zal s.lo aa greatest) fun r2 =>
  M.bind (M.opt r2 (zal s.hi s.lo greatest) false) fun r3 =>
  M.pure (r2&&r3)
theorem zd5 {R}(s aa greatest){r}(hM:(zdu s aa greatest).Ends r)(w)(H:St w w [] R):Ret Tryz.prog 247 #[.agg #[I s.lo,I s.hi],I aa,I greatest] w fun v w'=>∃ y0,y0=r/\v=B y0/\St w w' [] R:=by
 refine ret_of_W Tryz.func247 rfl rfl rfl ?_;refine kB 2 ?_;intro ah ai H;refine kC 8 @zam ?_;intro aj r2 hM H;refine kg 6 ?_;obtain ⟨r3,ac,hM⟩:=M.e_bind hM;refine t_gcall r2 (gy_t rfl) cq (B r3) (fun _=>[I s.hi,I s.lo,I greatest]) (fun hg=>lst3 (gd_of hg (I s.hi)) (gd_of hg (I s.lo)) (gd_of hg (I greatest))) H (fun hg=>(zam s.hi s.lo greatest (M.e_opt ac hg) _ (H.give (A:=[]) rfl)).mono fun v_ w_ ⟨y_,ae,ag,H_⟩=>by subst ae; exact ⟨ag,H.via H_⟩) ?_;intro al H;refine kg 3 ?_;exact rt

def zfQ (s:List CNt) (f:CNt->M Bool):Nat->M (Nat ⊕ Unit):=fun s2 =>
  bif decide ((s2:Int)<(s.length:Int)) then (
  M.grd (decide ((s2:Int)<(s.length:Int))) <|
  M.bind (f (s.getD s2 default)) fun r2 =>
  bif r2 then (
  M.fail)
  else (
  M.pure (.inl (s2+1))))
  else (
  M.pure (.inr ()))
def zfq (s:List CNt) (f:CNt->M Bool):M Int :=
  M.bind (M.iter (zfQ s f) 0) fun (_:Unit) =>
  M.pure (-1)
theorem zhT {R ae aa ac}(s f)(av:Reads R ae)(ah:Sl ae aa s)(ai:FnM Tryz.prog R ac f){r}(hM:(zfq s f).Ends r)(w)(H:St w w [] R):Ret Tryz.prog 256 #[aa,ac] w fun v w'=>∃ y0,y0=r/\v=I y0/\St w w' [] R:=by
 refine ret_of_W Tryz.func256 rfl rfl rfl ?_;have aw:=(ah).len_le;refine kg 12 ?_;obtain ⟨aj,ag,al⟩:=M.e_bind hM;obtain ⟨ax,ag⟩:=M.e_iter ag;refine W.loop (fun m σ W=>∃ (s2:Nat) (ρ:Env),σ=upds ρ [(0,aa),(1,ac),(7,I (s.length:Int)),(8,I (s2:Int))]/\M.iterN (zfQ s f) m s2=some aj/\St w W [] R) ?_ ?_
 ·exact kY
 rintro ay σ aA ⟨s2,ρ,rfl,am,H⟩;obtain ⟨aB,aC,aD,hM,ao⟩:=M.e_iterN am;refine kI 5 ?_ ?_
 ·intro ap hM;obtain ⟨aE,hM⟩:=M.e_gq hM;refine kg 15 ?_;obtain ⟨r2,aq,hM⟩:=M.e_bind hM;refine t_callM H ai rfl rfl (s.getD s2 default) Reads.none ⟨_,rfl,rfl⟩ aq ?_;intro aF H;refine kI 1 ?_ ?_
  ·intro au hM;exact (M.e_fail hM).elim
  intro au hM;exact kX 5
 intro ap hM;refine W.exit ?_;obtain rfl:=M.e_inr hM ao;replace hM:=al;refine kg 4 ?_;exact rt

def zed (s:List CNt) (f:CNt->M Bool):M Bool :=
  M.bind (zfq s f) fun r2 =>
  M.pure (decide (0<=r2))
theorem zfF {R aa ac ae}(s f)(ag:Reads R aa)(ah:Sl aa ac s)(ai:FnM Tryz.prog R ae f){r}(hM:(zed s f).Ends r)(w)(H:St w w [] R):Ret Tryz.prog 251 #[ac,ae] w fun v w'=>∃ y0,y0=r/\v=B y0/\St w w' [] R:=by
 refine ret_of_W Tryz.func251 rfl rfl rfl ?_;refine kC 8 @zhT ?_;intro aj r2 hM H;refine kg 3 ?_;exact rt

def zeb (x:CNt) (aa:CNt->M Bool):M Bool :=
  M.bind (aa x) fun r2 =>
  M.pure (!r2)
theorem zf4 {R aa ac}(x ae)(ag:FnM Tryz.prog R ac ae)(ai:Has R (cBlk aa [ac] 363)){r}(hM:(zeb x ae).Ends r)(w)(H:St w w [] R):Ret Tryz.prog 255 #[.agg #[I x.mark,I x.tlo,I x.thi,I x.slo,I x.shi],Pq aa] w fun v w'=>∃ y0,y0=r/\v=B y0/\St w w' [] R:=by
 refine ret_of_W Tryz.func255 rfl rfl rfl ?_;refine kB 2 ?_;intro aj al H;refine kg 6 ?_;obtain ⟨r2,ah,hM⟩:=M.e_bind hM;refine t_callM H ag rfl rfl x Reads.none ⟨_,rfl,rfl⟩ ah ?_;intro am H;refine kg 3 ?_;exact rt

def zeO (l:List CNt) (so:CNt->M Bool):M Bool :=
  M.bind (zed l (fun aa=>zeb aa so)) fun r2 =>
  M.pure (!r2)
theorem zgy {R ag aa ah}(l so)(aj:Reads R ag)(al:Sl ag aa l)(am:FnM Tryz.prog R ah so){r}(hM:(zeO l so).Ends r)(w)(H:St w w [] R):Ret Tryz.prog 248 #[aa,ah] w fun v w'=>∃ y0,y0=r/\v=B y0/\St w w' [] R:=by
 refine ret_of_W Tryz.func248 rfl rfl rfl ?_;refine kB 2 ?_;intro ac aB H;refine kg 5 ?_;refine s_val (x_mf (fs:=[]) (cs:=[Pq ac]) rfl rfl) ?_;obtain ⟨aC,ao,hM⟩:=M.e_bind hM;refine s_call cq [aa,.func (.func 255) #[] #[Pq ac]] rfl (zfF l (fun ae=>zeb ae so) (aj.app _) al ⟨255,[Pq ac],rfl,cq,fun ai aD aE ap ae aF aq aG au av=>by obtain rfl:=CNt_arg au; exact (zf4 ae so (FnM.app (am.app _) _) (Has.app (Has.here (k:=0) rfl) _) av ai (St.refl aq)).mono fun ap ai ⟨aH,aw,ax,ay⟩=>by subst aw; exact ⟨ax,ay⟩⟩ ao _ (H.gt 1)) ?_;rintro _ aI ⟨r2,rfl,rfl,aA⟩;replace H:=H.bk aA;refine kg 3 ?_;exact rt

def zfo (n:CNt) (marks:Int):M Bool :=
  M.gi (marks-1) <|
  M.bind (zal n.mark 0 (marks-1)) fun r2 =>
  M.bind (M.opt r2 (zdu (⟨(n.tlo:Int),(n.thi:Int)⟩:Span) 0 10000000) false) fun r3 =>
  M.bind (M.opt (r2&&r3) (zdu (⟨(n.slo:Int),(n.shi:Int)⟩:Span) (-3000000) 3000000) false) fun r4 =>
  M.pure ((r2&&r3)&&r4)
theorem zhp {R}(n marks){r}(hM:(zfo n marks).Ends r)(w)(H:St w w [] R):Ret Tryz.prog 250 #[.agg #[I n.mark,I n.tlo,I n.thi,I n.slo,I n.shi],I marks] w fun v w'=>∃ y0,y0=r/\v=B y0/\St w w' [] R:=by
 refine ret_of_W Tryz.func250 rfl rfl rfl ?_;refine kB 2 ?_;intro ah ai H;obtain ⟨aj,hM⟩:=M.e_gq hM;refine kC 8 @zam ?_;intro al r2 hM H;refine kg 3 ?_;obtain ⟨r3,ae,hM⟩:=M.e_bind hM;refine t_gcall r2 (gy_t rfl) cq (B r3) (fun _=>[.agg #[I n.tlo,I n.thi],I 0,I 10000000]) (fun hg=>lst3 (gd_of hg (.agg #[I n.tlo,I n.thi])) rfl rfl) H (fun hg=>(zd5 (⟨(n.tlo:Int),(n.thi:Int)⟩:Span) 0 10000000 (M.e_opt ae hg) _ (H.give (A:=[]) rfl)).mono fun v_ w_ ⟨y_,aa,ac,H_⟩=>by subst aa; exact ⟨ac,H.via H_⟩) ?_;intro am H;refine kg 4 ?_;obtain ⟨r4,ag,hM⟩:=M.e_bind hM;refine t_gcall (r2&&r3) (gy_t rfl) cq (B r4) (fun _=>[.agg #[I n.slo,I n.shi],I (-3000000),I 3000000]) (fun hg=>lst3 (gd_of hg (.agg #[I n.slo,I n.shi])) rfl rfl) H (fun hg=>(zd5 (⟨(n.slo:Int),(n.shi:Int)⟩:Span) (-3000000) 3000000 (M.e_opt ag hg) _ (H.give (A:=[]) rfl)).mono fun v_ w_ ⟨y_,aa,ac,H_⟩=>by subst aa; exact ⟨ac,H.via H_⟩) ?_;intro ao H;refine kg 3 ?_;exact rt

def zek (n:CNt) (ac ae ag ah ai:Int) (aa:List CMk) (aj:List CNt):M Bool :=
  M.bind (zfo n (aa.length:Int)) fun r2 =>
  M.pure r2
theorem zhF {R aa ac ae ag ah}(n ai aj al am ao ap aq)(av:Reads R ac)(au:Sl ac ae ap)(aw:Reads R ag)(ax:Sl ag ah aq)(ay:Has R (cBlk aa [I ai,I aj,I al,I am,I ao,ae,ah] 123)){r}(hM:(zek n ai aj al am ao ap aq).Ends r)(w)(H:St w w [] R):Ret Tryz.prog 249 #[.agg #[I n.mark,I n.tlo,I n.thi,I n.slo,I n.shi],Pq aa] w fun v w'=>∃ y0,y0=r/\v=B y0/\St w w' [] R:=by
 refine ret_of_W Tryz.func249 rfl rfl rfl ?_;refine kB 2 ?_;intro aA aB H;have aC:=(au).len_le;refine kC 8 @zhp ?_;intro aD r2 hM H;refine kg 2 ?_;exact rt

def zdD (o:CNt) (aa ac ae ag ah:Int):M Bool :=
  M.pure (o.mark==aa)
theorem zgQ {R aa}(o ac ae ag ah ai)(aj:Has R (cBlk aa [I ac,I ae,I ag,I ah,I ai] 191)){r}(hM:(zdD o ac ae ag ah ai).Ends r)(w)(H:St w w [] R):Ret Tryz.prog 252 #[.agg #[I o.mark,I o.tlo,I o.thi,I o.slo,I o.shi],Pq aa] w fun v w'=>∃ y0,y0=r/\v=B y0/\St w w' [] R:=by
 refine ret_of_W Tryz.func252 rfl rfl rfl ?_;refine kB 2 ?_;intro al am H;refine kg 11 ?_;exact rt

def zfw (c_Marks:List CMk):(Int × Nat)->M ((Int × Nat) ⊕ Unit):=fun (last,s) =>
  bif decide ((s:Int)<(c_Marks.length:Int)) then (
  M.grd (decide ((s:Int)<(c_Marks.length:Int))) <|
  M.bind (zal ((c_Marks.getD s default).place) 0 10000) fun r7 =>
  M.bind (M.opt (!(!r7)) (zal ((c_Marks.getD s default).height) 0 1000) false) fun r8 =>
  bif ((!r7)||(!r8)) then (
  M.fail)
  else (
  bif decide (((c_Marks.getD s default).place)<=last) then (
  M.fail)
  else (
  M.pure (.inl ((c_Marks.getD s default).place,s+1)))))
  else (
  M.pure (.inr ()))
def ze1 (c_Notes:List CNt):Nat->M (Nat ⊕ Unit):=fun s2 =>
  bif decide ((s2:Int)<(c_Notes.length:Int)) then (
  M.grd (decide ((s2:Int)<(c_Notes.length:Int))) <|
  M.bind (zed (c_Notes.take s2) (fun aa=>zdD aa ((c_Notes.getD s2 default).mark) ((c_Notes.getD s2 default).tlo) ((c_Notes.getD s2 default).thi) ((c_Notes.getD s2 default).slo) ((c_Notes.getD s2 default).shi))) fun ac =>
  bif ac then (
  M.fail)
  else (
  M.pure (.inl (s2+1))))
  else (
  M.pure (.inr ()))
def zfc (c_Pace_Lo c_Pace_Hi c_Base c_Scale c_Off:Int) (c_Marks:List CMk) (c_Notes:List CNt):M Int :=
  M.bind (zal (c_Marks.length:Int) 1 40) fun r2 =>
  bif ((!r2)||(decide (20<(c_Notes.length:Int)))) then (
  M.fail)
  else (
  M.bind (zdu (⟨(c_Pace_Lo:Int),(c_Pace_Hi:Int)⟩:Span) 1 600) fun r3 =>
  M.bind (M.opt (!(!r3)) (zal c_Base (-1000000) 1000000) false) fun r4 =>
  M.bind (M.opt (!((!r3)||(!r4))) (zal c_Scale 0 1000) false) fun r5 =>
  M.bind (M.opt (!(((!r3)||(!r4))||(!r5))) (zal c_Off 0 1000) false) fun r6 =>
  bif ((((!r3)||(!r4))||(!r5))||(!r6)) then (
  M.fail)
  else (
  M.bind (M.iter (zfw c_Marks) (-1,0)) fun (_:Unit) =>
  M.bind (zeO c_Notes (fun aa=>zek aa c_Pace_Lo c_Pace_Hi c_Base c_Scale c_Off c_Marks c_Notes)) fun r9 =>
  bif !r9 then (
  M.fail)
  else (
  M.bind (M.iter (ze1 c_Notes) 0) fun (_:Unit) =>
  M.pure 0)))
theorem zgF {R aE ai aF aa}(c_Pace_Lo c_Pace_Hi c_Base c_Scale c_Off c_Marks c_Notes)(aI:Reads R aE)(am:Sl aE ai c_Marks)(ao:Reads R aF)(aj:Sl aF aa c_Notes){r}(hM:(zfc c_Pace_Lo c_Pace_Hi c_Base c_Scale c_Off c_Marks c_Notes).Ends r)(w)(H:St w w [] R):Ret Tryz.prog 231 #[.agg #[I c_Pace_Lo,I c_Pace_Hi,I c_Base,I c_Scale,I c_Off,ai,aa]] w fun v w'=>∃ y0,y0=r/\v=I y0/\St w w' [] R:=by
 refine ret_of_W Tryz.func231 rfl rfl rfl ?_;refine kB 2 ?_;intro ac bu H;have bv:=(am).len_le;refine kC 9 @zam ?_;intro bw r2 hM H;have bx:=(aj).len_le;refine kI 9 ?_ ?_
 ·intro aJ hM;exact (M.e_fail hM).elim
 intro aJ hM;refine kC 4 @zd5 ?_;intro bz r3 hM H;refine kg 4 ?_;obtain ⟨r4,aK,hM⟩:=M.e_bind hM;refine t_gcall (!(!r3)) (gy_f rfl) cq (B r4) (fun _=>[I c_Base,I (-1000000),I 1000000]) (fun hg=>lst3 (gd_of hg (I c_Base)) rfl rfl) H (fun hg=>(zam c_Base (-1000000) 1000000 (M.e_opt aK hg) _ (H.give (A:=[]) rfl)).mono fun v_ w_ ⟨y_,ae,ag,H_⟩=>by subst ae; exact ⟨ag,H.via H_⟩) ?_;intro bA H;refine kg 5 ?_;obtain ⟨r5,aL,hM⟩:=M.e_bind hM;refine t_gcall (!((!r3)||(!r4))) (gy_f rfl) cq (B r5) (fun _=>[I c_Scale,I 0,I 1000]) (fun hg=>lst3 (gd_of hg (I c_Scale)) rfl rfl) H (fun hg=>(zam c_Scale 0 1000 (M.e_opt aL hg) _ (H.give (A:=[]) rfl)).mono fun v_ w_ ⟨y_,ae,ag,H_⟩=>by subst ae; exact ⟨ag,H.via H_⟩) ?_;intro bB H;refine kg 5 ?_;obtain ⟨r6,aM,hM⟩:=M.e_bind hM;refine t_gcall (!(((!r3)||(!r4))||(!r5))) (gy_f rfl) cq (B r6) (fun _=>[I c_Off,I 0,I 1000]) (fun hg=>lst3 (gd_of hg (I c_Off)) rfl rfl) H (fun hg=>(zam c_Off 0 1000 (M.e_opt aM hg) _ (H.give (A:=[]) rfl)).mono fun v_ w_ ⟨y_,ae,ag,H_⟩=>by subst ae; exact ⟨ag,H.via H_⟩) ?_;intro bC H;refine kI 4 ?_ ?_
 ·intro aN hM;exact (M.e_fail hM).elim
 intro aN hM;have bD:=(am).len_le;refine kg 14 ?_;obtain ⟨aO,aG,aP⟩:=M.e_bind hM;obtain ⟨aQ,aG⟩:=M.e_iter aG;refine W.loop (fun m σ W=>∃ (last:Int) (s:Nat) (ρ:Env),σ=upds ρ [(1,Pq ac),(3,I last),(44,ai),(45,I (c_Marks.length:Int)),(46,I (s:Int))]/\M.iterN (zfw c_Marks) m (last,s)=some aO/\St w W [cBlk ac [I c_Pace_Lo,I c_Pace_Hi,I c_Base,I c_Scale,I c_Off,ai,aa] 123] R) ?_ ?_
 ·exact kY
 rintro bE σ bF ⟨last,s,ρ,rfl,aR,H⟩;obtain ⟨bG,bH,bI,hM,aS⟩:=M.e_iterN aR;refine kI 5 ?_ ?_
 ·intro aT hM;obtain ⟨bJ,hM⟩:=M.e_gq hM;refine kA 7 ?_;intro bK bL H;refine ksw ?_;intro bN H;refine kC 7 @zam ?_;intro bO r7 hM H;refine kg 4 ?_;obtain ⟨r8,aU,hM⟩:=M.e_bind hM;refine t_gcall (!(!r7)) (gy_f rfl) cq (B r8) (fun _=>[I ((c_Marks.getD s default).height),I 0,I 1000]) (fun hg=>lst3 (gd_of hg (I ((c_Marks.getD s default).height))) rfl rfl) H (fun hg=>(zam ((c_Marks.getD s default).height) 0 1000 (M.e_opt aU hg) _ (H.give (A:=[]) rfl)).mono fun v_ w_ ⟨y_,ae,ag,H_⟩=>by subst ae; exact ⟨ag,H.via H_⟩) ?_;intro bP H;refine kI 4 ?_ ?_
  ·intro aV hM;exact (M.e_fail hM).elim
  intro aV hM;refine kI 8 ?_ ?_
  ·intro aW hM;exact (M.e_fail hM).elim
  intro aW hM;exact kXp 10 [1]
 intro aT hM;refine W.exit ?_;obtain rfl:=M.e_inr hM aS;replace hM:=aP;refine kg 5 ?_;refine s_val (x_mf (fs:=[]) (cs:=[Pq ac]) rfl rfl) ?_;obtain ⟨bQ,aX,hM⟩:=M.e_bind hM;refine s_call cq [aa,.func (.func 249) #[] #[Pq ac]] rfl (zgy c_Notes (fun ah=>zek ah c_Pace_Lo c_Pace_Hi c_Base c_Scale c_Off c_Marks c_Notes) (ao.app _) aj ⟨249,[Pq ac],rfl,cq,fun al aY aZ ap ah a7 aq a8 au av=>by obtain rfl:=CNt_arg au; exact (zhF ah c_Pace_Lo c_Pace_Hi c_Base c_Scale c_Off c_Marks c_Notes (Reads.app (aI.app _) _) am (Reads.app (ao.app _) _) aj (Has.app (Has.here (k:=0) rfl) _) av al (St.refl aq)).mono fun ap al ⟨ba,aw,ax,ay⟩=>by subst aw; exact ⟨ax,ay⟩⟩ aX _ (H.gt 1)) ?_;rintro _ bR ⟨r9,rfl,rfl,aA⟩;replace H:=H.bk aA;refine kI 2 ?_ ?_
 ·intro bc hM;exact (M.e_fail hM).elim
 intro bc hM;have bS:=(aj).len_le;refine kg 10 ?_;obtain ⟨bg,aH,bi⟩:=M.e_bind hM;obtain ⟨aQ,aH⟩:=M.e_iter aH;refine W.loop (fun m σ W=>∃ (s2:Nat) (ρ:Env),σ=upds ρ [(1,Pq ac),(75,aa),(76,I (c_Notes.length:Int)),(77,I (s2:Int))]/\M.iterN (ze1 c_Notes) m s2=some bg/\St w W [cBlk ac [I c_Pace_Lo,I c_Pace_Hi,I c_Base,I c_Scale,I c_Off,ai,aa] 123] R) ?_ ?_
 ·exact kY
 rintro bT σ bU ⟨s2,ρ,rfl,bj,H⟩;obtain ⟨bV,bW,bX,hM,bm⟩:=M.e_iterN bj;refine kI 5 ?_ ?_
 ·intro bn hM;obtain ⟨bY,hM⟩:=M.e_gq hM;refine kA 8 ?_;intro aB bZ H;refine kS 1 ?_;intro b7 H;refine kg 6 ?_;obtain ⟨aC,bp,aD⟩:=sl_hi T121.h.und T121.h.size aj (j:=(s2:Int)) (by omega) (by omega);replace aD:Sl _ aC (c_Notes.take s2):=aD;refine s_val (x_sl (v:=aa) (u:=aC) (lo':=none) (hi':=some (I (s2:Int))) (mx':=none) rfl rfl rfl rfl (bp _))<|s_val (x_mf (fs:=[]) (cs:=[Pq aB]) rfl rfl) ?_;obtain ⟨b8,br,hM⟩:=M.e_bind hM;refine s_call cq [aC,.func (.func 252) #[] #[Pq aB]] rfl (zfF (c_Notes.take s2) (fun ah=>zdD ah ((c_Notes.getD s2 default).mark) ((c_Notes.getD s2 default).tlo) ((c_Notes.getD s2 default).thi) ((c_Notes.getD s2 default).slo) ((c_Notes.getD s2 default).shi)) (ao.app _) aD ⟨252,[Pq aB],rfl,cq,fun al aY aZ ap ah a7 aq a8 au av=>by obtain rfl:=CNt_arg au; exact (zgQ ah ((c_Notes.getD s2 default).mark) ((c_Notes.getD s2 default).tlo) ((c_Notes.getD s2 default).thi) ((c_Notes.getD s2 default).slo) ((c_Notes.getD s2 default).shi) (Has.app (Has.here (k:=0) rfl) _) av al (St.refl aq)).mono fun ap al ⟨ba,aw,ax,ay⟩=>by subst aw; exact ⟨ax,ay⟩⟩ br _ (H.gt 2)) ?_
  rintro _ b9 ⟨cb,rfl,rfl,aA⟩;replace H:=H.bk aA;refine kI 1 ?_ ?_
  ·intro bt hM;exact (M.e_fail hM).elim
  intro bt hM;exact kXp 5 [1]
 intro bn hM;refine W.exit ?_;obtain rfl:=M.e_inr hM bm;replace hM:=bi;refine kg 4 ?_;exact rt

def zfe (c_Notes:List CNt):((List (Int × CNt)) × Nat)->M (((List (Int × CNt)) × Nat) ⊕ (List (Int × CNt))):=fun (mp,s) =>
  bif decide ((s:Int)<(c_Notes.length:Int)) then (
  M.grd (decide ((s:Int)<(c_Notes.length:Int))) <|
  M.pure (.inl (setM mp ((c_Notes.getD s default).mark:Int) (c_Notes.getD s default),s+1)))
  else (
  M.pure (.inr mp))
def zeM (c_Pace_Lo c_Pace_Hi c_Base c_Scale c_Off:Int) (c_Marks:List CMk) (c_Notes:List CNt):M (Int × Int × Int × Int × Int × (List (Int × CNt)) × (List Bool) × Int) :=
  M.bind (zfc c_Pace_Lo c_Pace_Hi c_Base c_Scale c_Off c_Marks c_Notes) fun r2 =>
  bif r2 != 0 then (
  M.fail)
  else (
  M.bind (M.iter (zfe c_Notes) (([]:List (Int × CNt)),0)) fun aa =>
  M.pure (c_Pace_Lo,c_Pace_Hi,c_Base,c_Scale,c_Off,aa,(List.replicate 40 false),0))
theorem zgi {R ah ac ai aa}(c_Pace_Lo c_Pace_Hi c_Base c_Scale c_Off c_Marks c_Notes)(aB:Reads R ah)(aC:Sl ah ac c_Marks)(aD:Reads R ai)(ap:Sl ai aa c_Notes){r}(hM:(zeM c_Pace_Lo c_Pace_Hi c_Base c_Scale c_Off c_Marks c_Notes).Ends r)(w)(H:St w w [] R):Ret Tryz.prog 185 #[.agg #[I c_Pace_Lo,I c_Pace_Hi,I c_Base,I c_Scale,I c_Off,ac,aa]] w fun v w'=>∃ y0 y1 y2 y3 y4 y5 y6 y7 aj al,(y0,y1,y2,y3,y4,y5,y6,y7)=r/\v = .tuple #[Pq aj,I y7]/\St w w' [cBlk aj (List.flatten [[I y0,I y1,I y2,I y3,I y4,ac,aa,.map (some al)],encF (α:=Bool) y6]) 257,cMl I encCN al y5] R/\y6.length=40:=by
 refine ret_of_W Tryz.func185 rfl rfl rfl ?_;refine kB 2 ?_;intro am aE H;refine kC 7 @zgF ?_;intro aF r2 hM H;refine kI 7 ?_ ?_
 ·intro aq hM;exact (M.e_fail hM).elim
 intro aq hM;refine kg 4 ?_;refine t_mkMl (κ:=Int) (ν:=CNt) I encCN H ?_;intro ae aG H;refine s_val (x_bld (ps:=[(0,.agg #[I c_Pace_Lo,I c_Pace_Hi,I c_Base,I c_Scale,I c_Off,ac,aa]),(1,.map (some ae))]) (zs:=(List.flatten [[I 0,I 0,I 0,I 0,I 0,.slice none 0 0,.slice none 0 0,.map none],encF (α:=Bool) (List.replicate 40 false)])) (L':=(List.flatten [[I c_Pace_Lo,I c_Pace_Hi,I c_Base,I c_Scale,I c_Off,ac,aa,.map (some ae)],encF (α:=Bool) (List.replicate 40 false)])) rfl Tryz.underlying257 Al257.h rfl (Bd257 Tryz.underlying257) (.cons (cs:=[I c_Pace_Lo,I c_Pace_Hi,I c_Base,I c_Scale,I c_Off,ac,aa]) rfl rfl rfl (by kernel_rfl) rfl<|.cons (cs:=[.map (some ae)]) rfl rfl rfl (by kernel_rfl) rfl<|.nil)) ?_;refine kB 0 ?_;intro ag aH H;have aI:=(ap).len_le;refine kg 11 ?_;obtain ⟨au,ao,av⟩:=M.e_bind hM;obtain ⟨aJ,ao⟩:=M.e_iter ao;refine W.loop (fun m σ W=>∃ (mp:List (Int × CNt)) (s:Nat) (ρ:Env),σ=upds ρ [(5,Pq ag),(18,aa),(19,I (c_Notes.length:Int)),(20,I (s:Int))]/\M.iterN (zfe c_Notes) m (mp,s)=some au/\St w W [cBlk ag (List.flatten [[I c_Pace_Lo,I c_Pace_Hi,I c_Base,I c_Scale,I c_Off,ac,aa,.map (some ae)],encF (α:=Bool) (List.replicate 40 false)]) 257,cMl I encCN ae mp,cBlk am [I c_Pace_Lo,I c_Pace_Hi,I c_Base,I c_Scale,I c_Off,ac,aa] 123] R) ?_ ?_
 ·exact kY
 rintro aK σ aL ⟨mp,s,ρ,rfl,aw,H⟩;obtain ⟨aM,aN,aO,hM,ax⟩:=M.e_iterN aw;refine kI 5 ?_ ?_
 ·intro ay hM;obtain ⟨aP,hM⟩:=M.e_gq hM;refine kA 7 ?_;intro aA aQ H;refine ksw ?_;intro aR H;refine kD 1 [0,1,3] [7] ?_;intro aS H;refine kG 8 ?_;refine t_putMl (i:=2) (kenc:=I) (venc:=encCN) (m:=mp) (k:=((c_Notes.getD s default).mark:Int)) (v:=(c_Notes.getD s default)) (L':=[cBlk aA [I ((c_Notes.getD s default).mark),I ((c_Notes.getD s default).tlo),I ((c_Notes.getD s default).thi),I ((c_Notes.getD s default).slo),I ((c_Notes.getD s default).shi)] 191,cBlk ag (List.flatten [[I c_Pace_Lo,I c_Pace_Hi,I c_Base,I c_Scale,I c_Off,ac,aa,.map (some ae)],encF (α:=Bool) (List.replicate 40 false)]) 257,cMl I encCN ae (setM mp ((c_Notes.getD s default).mark:Int) (c_Notes.getD s default)),cBlk am [I c_Pace_Lo,I c_Pace_Hi,I c_Base,I c_Scale,I c_Off,ac,aa] 123]) keyIntCN Tryz.underlying254 H rfl rfl rfl rfl rfl ?_;intro aT H;refine kN ?_;exact kXp 5 [1,2,3]
 intro ay hM;refine W.exit ?_;obtain rfl:=M.e_inr hM ax;replace hM:=av;exact kR 6 [0,1]

def zfr (stops:List Int):Unit->M (Unit ⊕ Unit):=fun (_:Unit) =>
  bif decide (0<(stops.length:Int)) then (
  M.fail)
  else (
  M.pure (.inr ()))
def ze2 (aa ac ae ag ah:Int) (ai:List CMk) (aj:List CNt) (al:List (Int × CNt)) (stops:List Int):M Bool :=
  M.bind (M.iter (zfr stops) ()) fun (_:Unit) =>
  M.pure true
theorem zg0 {R aa ae ag ah ai aj al ac}(am ao ap aq au av aw ax stops)(aG:Reads R ae)(aH:Sl ae ag av)(aI:Reads R ah)(aJ:Sl ah ai aw)(aK:Has R (cMl I encCN aj ax))(aL:Fld R aa [I am,I ao,I ap,I aq,I au,ag,ai,.map (some aj)])(aM:Reads R al)(aA:Sl al ac stops){r}(hM:(ze2 am ao ap aq au av aw ax stops).Ends r)(w)(H:St w w [] R):Ret Tryz.prog 186 #[Pq aa,ac] w fun v w'=>∃ y0,y0=r/\v=B y0/\St w w' [] R:=by
 refine ret_of_W Tryz.func186 rfl rfl rfl ?_;have aN:=(aA).len_le;refine kg 16 ?_;obtain ⟨aB,ay,aC⟩:=M.e_bind hM;obtain ⟨aO,ay⟩:=M.e_iter ay;refine W.loop (fun m σ W=>∃ (ρ:Env),σ=upds ρ [(0,Pq aa),(5,I (-1)),(8,ac),(9,I (stops.length:Int)),(10,I 0)]/\M.iterN (zfr stops) m ()=some aB/\St w W [] R) ?_ ?_
 ·exact kY
 rintro aP σ aQ ⟨ρ,rfl,aD,H⟩;obtain ⟨aR,aS,aT,hM,aE⟩:=M.e_iterN aD;refine kI 5 ?_ ?_
 ·intro aF hM;exact (M.e_fail hM).elim
 intro aF hM;refine W.exit ?_;obtain rfl:=M.e_inr hM aE;replace hM:=aC;refine kg 4 ?_;exact rt

def zfH (c_Pace_Lo c_Pace_Hi c_Base c_Scale c_Off:Int) (c_Marks:List CMk) (c_Notes:List CNt) (stops:List Int):M (Int × Int × Int × Int × Int × (List (Int × CNt)) × (List Bool) × Int) :=
  M.bind (zeM c_Pace_Lo c_Pace_Hi c_Base c_Scale c_Off c_Marks c_Notes) fun (aa,ac,ae,ag,ah,ai,aj,r1) =>
  M.bind (M.opt (r1==0) (ze2 aa ac ae ag ah c_Marks c_Notes ai stops) false) fun r2 =>
  bif ((r1==0)&&(!r2)) then (
  M.fail)
  else (
  M.pure (aa,ac,ae,ag,ah,ai,aj,r1))
theorem zg6 {R ag ac ah ae ai aa}(c_Pace_Lo c_Pace_Hi c_Base c_Scale c_Off c_Marks c_Notes stops)(ao:Reads R ag)(ap:Sl ag ac c_Marks)(aq:Reads R ah)(au:Sl ah ae c_Notes)(av:Reads R ai)(aw:Sl ai aa stops){r}(hM:(zfH c_Pace_Lo c_Pace_Hi c_Base c_Scale c_Off c_Marks c_Notes stops).Ends r)(w)(H:St w w [] R):Ret Tryz.prog 112 #[.agg #[I c_Pace_Lo,I c_Pace_Hi,I c_Base,I c_Scale,I c_Off,ac,ae],aa] w fun v w'=>∃ y0 y1 y2 y3 y4 y5 y6 y7 aj al,(y0,y1,y2,y3,y4,y5,y6,y7)=r/\v = .tuple #[Pq aj,I y7]/\St w w' [cBlk aj (List.flatten [[I y0,I y1,I y2,I y3,I y4,ac,ae,.map (some al)],encF (α:=Bool) y6]) 257,cMl I encCN al y5] R/\y6.length=40:=by
 refine ret_of_W Tryz.func112 rfl rfl rfl ?_;refine kB 2 ?_;intro aI aJ H;refine kC 6 @zgi ?_;intro aK ax ay aA aB aC aD aL r1 am aM aN hM H;refine kg 14 ?_;obtain ⟨r2,aE,hM⟩:=M.e_bind hM;refine t_gcall (r1==0) (gy_t rfl) cq (B r2) (fun _=>[Pq am,aa]) (fun hg=>lst2 (gd_of hg (Pq am)) (gd_of hg (aa))) H (fun hg=>(zg0 ax ay aA aB aC c_Marks c_Notes aD stops (ao.app _) ap (aq.app _) au (Has.here (k:=1) rfl) (Fld.here (k:=0) rfl rfl) (av.app _) aw (M.e_opt aE hg) _ (H.give (A:=[]) rfl)).mono fun v_ w_ ⟨y_,aF,aG,H_⟩=>by subst aF; exact ⟨aG,H.via H_⟩) ?_;intro aO H;refine kI 3 ?_ ?_
 ·intro aH hM;exact (M.e_fail hM).elim
 intro aH hM;exact kR 8 [0,1]

def zdE (aa ac ae ag ah:Int) (ai:List CMk) (aj:List CNt) (al:List (Int × CNt)):M Unit :=
  M.pure ()
theorem zft {R aa ac ae ag ah ai}(aj al am ao ap aq au av)(ay:Reads R ac)(aA:Sl ac ae aq)(aB:Reads R ag)(aC:Sl ag ah au)(aD:Has R (cMl I encCN ai av))(aE:Fld R aa [I aj,I al,I am,I ao,I ap,ae,ah,.map (some ai)]){r}(hM:(zdE aj al am ao ap aq au av).Ends r)(w)(H:St w w [] R):Ret Tryz.prog 64 #[Pq aa] w fun v w'=>∃ aw,()=r/\v = .func (.func 115) #[] #[Pq aw]/\St w w' [cBlk aw [Pq aa] 175] R:=by
 refine ret_of_W Tryz.func64 rfl rfl rfl ?_;refine kB 2 ?_;intro ax aF H;refine kg 4 ?_;refine s_val (x_mf (fs:=[]) (cs:=[Pq ax]) rfl rfl) ?_;refine kg 2 ?_;exact rt

def zfO {T_:Type} (ag:T_->(Int × Span)->M (Bool × T_)) (ac ae:Int) (aa:List CMk) (ah:List Bool):(Nat × T_)->M ((Nat × T_) ⊕ T_):=fun (s,t2) =>
  bif decide ((s:Int)<((aa.length:Int)-1)) then (
  M.gi ((s:Int)+1) <|
  M.grd (decide ((0:Int)<=((s:Int)+1))&&decide (((s:Int)+1)<(aa.length:Int))) <|
  M.grd (decide ((s:Int)<(aa.length:Int))) <|
  M.gi (((aa.getD (Int.toNat ((s:Int)+1)) default).place)-((aa.getD s default).place)) <|
  M.gi (ac*(((aa.getD (Int.toNat ((s:Int)+1)) default).place)-((aa.getD s default).place))) <|
  M.gi (ae*(((aa.getD (Int.toNat ((s:Int)+1)) default).place)-((aa.getD s default).place))) <|
  M.grd (decide ((0:Int)<=(s:Int))&&decide ((s:Int)<(40:Int))) <|
  bif ah.getD s false then (
  M.fail)
  else (
  M.bind (ag t2 ((s:Int),(⟨(ac*(((aa.getD (Int.toNat ((s:Int)+1)) default).place)-((aa.getD s default).place)):Int),(ae*(((aa.getD (Int.toNat ((s:Int)+1)) default).place)-((aa.getD s default).place)):Int)⟩:Span))) fun (go,t) =>
  bif !go then (
  M.fail)
  else (
  M.pure (.inl (s+1,t)))))
  else (
  M.pure (.inr t2))
def zdJ {T_:Type} (aa:T_->(Int × Span)->M (Bool × T_)) (t_:T_) (ac ae ai aj al:Int) (ag:List CMk) (am:List CNt) (ao:List (Int × CNt)) (ah:List Bool):M T_ :=
  M.bind (M.iter (zfO aa ac ae ag ah) (0,t_)) fun t3 =>
  M.pure t3
theorem zfA {R:List Chunk} {T_:Type} {Y_:T_->List Chunk->Prop} {ah:Value} {ai:List Chunk} {aj:Nat} {al:Nat} {ap:Cells} {aq:Value} {au:Cells} {av:Value} {aw:Nat} (am:T_->(Int × Span)->M (Bool × T_)) (t_:T_) (ac:Int) (ae:Int) (ax:Int) (ay:Int) (aA:Int) (aa:List CMk) (aB:List CNt) (aC:List (Int × CNt)) (ag:List Bool) (aE:YieldC Tryz.prog R arISpan Y_ ah am) (aF:Y_ t_ ai) (aW:Reads R ap) (aG:Sl ap aq aa) (aX:Reads R au) (aY:Sl au av aB) (aZ:Has R (cMl I encCN aw aC)) (aH:ag.length=40) (aI:Has R (cBlk al (List.flatten [[I ac,I ae,I ax,I ay,I aA,aq,av,.map (some aw)],encF (α:=Bool) ag]) 257)) (a7:Has R (cBlk aj [Pq al] 175)) {r:T_} (hM:(zdJ am t_ ac ae ax ay aA aa aB aC ag).Ends r) (w:World) (H:St w w [cAll ai] R):Ret Tryz.prog 115 #[ah,Pq aj] w fun v w'=>∃ (y0:T_) (Ls0:List Chunk),y0=r/\v = .tuple #[]/\St w w' [cAll Ls0] R/\Y_ y0 Ls0:=by
 refine ret_of_W Tryz.func115 rfl rfl rfl ?_;have a8:=(aG).len_le;refine kg 12 ?_;obtain ⟨aJ,ao,aK⟩:=M.e_bind hM;obtain ⟨ba,ao⟩:=M.e_iter ao;refine W.loop (fun m σ W=>∃ (s:Nat) (t2:T_) (Ls_t2:List Chunk) (ρ:Env),σ=upds ρ [(0,ah),(1,Pq aj),(12,I ((aa.length:Int)-1)),(13,I (s:Int))]/\M.iterN (zfO am ac ae aa ag) m (s,t2)=some aJ/\St w W [cAll Ls_t2] R/\Y_ t2 Ls_t2) ?_ ?_
 ·exact ⟨_,0,t_,ai,_,jQ,ao,H,aF⟩
 rintro bc σ bg ⟨s,t2,Ls_t2,ρ,rfl,aL,H,hY_t2⟩;obtain ⟨aM,aN,bi,hM,aD⟩:=M.e_iterN aL;refine kI 5 ?_ ?_
 ·intro aO hM;refine kD 9 [0] [] ?_;intro bj H;obtain ⟨bm,hM⟩:=M.e_gq hM;obtain ⟨bn,hM⟩:=M.e_gq hM;obtain ⟨bp,hM⟩:=M.e_gq hM;obtain ⟨br,hM⟩:=M.e_gq hM;refine kD 23 [0] [17,18] ?_;intro bt H;obtain ⟨bu,hM⟩:=M.e_gq hM;obtain ⟨bv,hM⟩:=M.e_gq hM;refine kA 18 ?_;intro aP bw H;refine kN ?_;refine kS 1 ?_;intro bx H;refine kN ?_;obtain ⟨bz,hM⟩:=M.e_gq hM;refine kg 8 ?_;refine s_val (x_ix (v:=.pointer (some ⟨al,8+Int.toNat (s:Int)*1,none⟩)) rfl rfl (run_indexS Tryz.underlying255 Sz4.h (by omega) (by omega)))<|s_val (x_ld (v:=B (ag.getD s false)) rfl (ldS (α:=Bool) (k:=1) (off:=8) (i:=s) (f:=0) (sz:=1) false Sc4.h (aI.blk H) rfl (sgo1 rfl) rfl (by decide) (by have bA:=aH; omega) (by omega) rfl)) ?_;refine kI 1 ?_ ?_
  ·intro aQ hM;exact (M.e_fail hM).elim
  intro aQ hM;refine kg 6 ?_;obtain ⟨⟨go,t⟩,aR,hM⟩:=M.e_bind hM;refine t_yield (L:=[cBlk aP [I (ac*(((aa.getD (Int.toNat ((s:Int)+1)) default).place)-((aa.getD s default).place))),I (ae*(((aa.getD (Int.toNat ((s:Int)+1)) default).place)-((aa.getD s default).place)))] 42]) (H.pk [1,0]) aE hY_t2 rfl [I (s:Int),.agg #[I (ac*(((aa.getD (Int.toNat ((s:Int)+1)) default).place)-((aa.getD s default).place))),I (ae*(((aa.getD (Int.toNat ((s:Int)+1)) default).place)-((aa.getD s default).place)))]] rfl ((s:Int),(⟨(ac*(((aa.getD (Int.toNat ((s:Int)+1)) default).place)-((aa.getD s default).place)):Int),(ae*(((aa.getD (Int.toNat ((s:Int)+1)) default).place)-((aa.getD s default).place)):Int)⟩:Span)) Reads.none rfl aR ?_;intro aS bB aT H;replace H:=H.nf;refine kI 2 ?_ ?_
  ·intro aU hM;exact (M.e_fail hM).elim
  intro aU hM;refine kg 5 ?_;exact ⟨aM,aN,s+1,t,aS,_,jQ,M.e_inl hM aD,(H.pk [0]),aT⟩
 intro aO hM;refine W.exit ?_;obtain rfl:=M.e_inr hM aD;replace hM:=aK;have aV:=M.e_pure hM;exact ⟨_,resE_tmp0 rfl,⟨t2,Ls_t2,aV,rfl,H,hY_t2⟩⟩
def zdA (mark:Int) (s:Span) (aa:List Span):M (List Span) :=
  M.grd (decide ((0:Int)<=mark)&&decide (mark<(aa.length:Int))) <|
  M.bind (zdP (aa.getD (Int.toNat mark) default) ([s])) fun (r0,r1) =>
  M.pure (aa.set (Int.toNat mark) (⟨(r0:Int),(r1:Int)⟩:Span))
theorem zeH {R ag aa}(mark s ac){r}(hM:(zdA mark s ac).Ends r)(w)(H:St w w [cOwn (α:=Span) 42 aa ac,cBlk ag [aa] 88] R):Ret Tryz.prog 116 #[I mark,.agg #[I s.lo,I s.hi],Pq ag] w fun v w'=>∃ y0 u0,y0=r/\v = .tuple #[]/\St w w' [cOwn (α:=Span) 42 u0 y0,cBlk ag [u0] 88] R:=by
 refine ret_of_W Tryz.func116 rfl rfl rfl ?_;refine kB 2 ?_;intro ah ai H;refine kDT 1 [0,2] (.q 0 (.q 1 (.q 2 (.q 3 (.q 6 (.l2 4 (.l2 5 (.l 7 (.l 8 (.l 9 (.l 10 .nil)))) 7 (.l 5 (.l 8 (.l 9 (.l 10 .nil))))) 7 (.l 4 (.l 5 (.l 8 (.l 9 (.l 10 .nil))))))))))) ?_;intro aj H;refine kg 5 ?_;refine t_l2 rfl rfl ?_ ?_
 ·obtain ⟨al,hM⟩:=M.e_gq hM;refine kG 1 ?_;refine kN ?_;refine t_l2 rfl rfl ?_ ?_
  ·refine kG 1 ?_;refine kN ?_;refine kL 1 (α:=Span) [s] ?_;intro am ao H;refine kN ?_;refine kC 1 @zcP ?_;intro ap r0 r1 hM H;refine kN ?_;refine kG 2 ?_;refine kN ?_;refine kO 1 (⟨(r0:Int),(r1:Int)⟩:Span) ?_;intro aq H;refine kN ?_;refine t_nil ?_;have ae:=M.e_pure hM;exact ⟨_,resE_tmp0 rfl,⟨(ac.set (Int.toNat mark) (⟨(r0:Int),(r1:Int)⟩:Span)),aa,ae,rfl,(H.pk [2,3])⟩⟩
  refine kL 0 (α:=Span) [s] ?_;intro au av H;refine kN ?_;refine kG 2 ?_;refine kN ?_;refine kC 1 @zcP ?_;intro aw r0 r1 hM H;refine kN ?_;refine kG 2 ?_;refine kN ?_;refine kO 1 (⟨(r0:Int),(r1:Int)⟩:Span) ?_;intro ax H;refine kN ?_;refine t_nil ?_;have ae:=M.e_pure hM;exact ⟨_,resE_tmp0 rfl,⟨(ac.set (Int.toNat mark) (⟨(r0:Int),(r1:Int)⟩:Span)),aa,ae,rfl,(H.pk [2,3])⟩⟩
 refine kL 0 (α:=Span) [s] ?_;intro ay aA H;refine kN ?_;refine t_l rfl ?_;obtain ⟨aB,hM⟩:=M.e_gq hM;refine kG 1 ?_;refine kN ?_;refine kG 2 ?_;refine kN ?_;refine kC 1 @zcP ?_;intro aC r0 r1 hM H;refine kN ?_;refine kG 2 ?_;refine kN ?_;refine kO 1 (⟨(r0:Int),(r1:Int)⟩:Span) ?_;intro aD H;refine kN ?_;refine t_nil ?_;have ae:=M.e_pure hM;exact ⟨_,resE_tmp0 rfl,⟨(ac.set (Int.toNat mark) (⟨(r0:Int),(r1:Int)⟩:Span)),aa,ae,rfl,(H.pk [2,3])⟩⟩

def zd7 (s:Span):M Bool :=
  M.pure (decide (s.lo<=s.hi))
theorem zf5 {R}(s){r}(hM:(zd7 s).Ends r)(w)(H:St w w [] R):Ret Tryz.prog 119 #[.agg #[I s.lo,I s.hi]] w fun v w'=>∃ y0,y0=r/\v=B y0/\St w w' [] R:=by
 refine ret_of_W Tryz.func119 rfl rfl rfl ?_;refine kB 2 ?_;intro aa ac H;refine kg 11 ?_;exact rt

def zaG  : (List Span)->(Int × Span)->M ((List Span) ⊕ Unit):=fun l (x,x2) =>
  M.grd (decide ((l.length+([x2]).length)*16<=140737488355328)) <|
  M.pure (.inl (l++([x2])))
def zfb (l:List Span):((List Span) × Nat)->M (((List Span) × Nat) ⊕ ((List Span) × (List Span))):=fun (l2,s) =>
  bif decide ((s:Int)<(l.length:Int)) then (
  M.grd (decide ((s:Int)<(l.length:Int))) <|
  M.grd (decide ((s:Int)<(l2.length:Int))) <|
  M.gi (((l2.getD s default).lo)+((l.getD s default).lo)) <|
  M.gi (((l2.getD s default).hi)+((l.getD s default).hi)) <|
  M.bind (zdA ((s:Int)+1) (⟨(((l2.getD s default).lo)+((l.getD s default).lo):Int),(((l2.getD s default).hi)+((l.getD s default).hi):Int)⟩:Span) l2) fun l_k02 =>
  M.pure (.inl (l_k02,s+1)))
  else (
  M.pure (.inr (l2,l2)))
def zfy (l:List Span):((List Span) × Int)->M (((List Span) × Int) ⊕ ((List Span) × (List Span))):=fun (l5,g) =>
  bif decide (0<=g) then (
  M.gi (g+1) <|
  M.grd (decide ((0:Int)<=(g+1))&&decide ((g+1)<(l5.length:Int))) <|
  M.grd (decide ((0:Int)<=g)&&decide (g<(l.length:Int))) <|
  M.gi (((l5.getD (Int.toNat (g+1)) default).lo)-((l.getD (Int.toNat g) default).hi)) <|
  M.gi (((l5.getD (Int.toNat (g+1)) default).hi)-((l.getD (Int.toNat g) default).lo)) <|
  M.bind (zdA g (⟨(((l5.getD (Int.toNat (g+1)) default).lo)-((l.getD (Int.toNat g) default).hi):Int),(((l5.getD (Int.toNat (g+1)) default).hi)-((l.getD (Int.toNat g) default).lo):Int)⟩:Span) l5) fun l_k022 =>
  M.gi (g-1) <|
  M.pure (.inl (l_k022,g-1)))
  else (
  M.pure (.inr (l5,l5)))
def zbY (aa ac ae ag ah:Int) (ai:List CMk) (aj:List CNt) (al:List (Int × CNt)) (am:List Bool) (times:List Span):M ((List Span) × Bool) :=
  M.bind (zbz times) fun r2 =>
  M.bind (zdE aa ac ae ag ah ai aj al) fun (_:Unit) =>
  M.bind (zdJ (M.yl zaG) (.inl ([])) aa ac ae ag ah ai aj al am) fun x_=>match x_ with
  | .inl l=>(
  M.bind (M.iter (zfb l) (r2,0)) fun (l3,l4) =>
  M.bind (M.iter (zfy l) (l4,(l.length:Int)-1)) fun (l6,l7) =>
  M.bind (zdN l7 (fun ao=>zd7 ao)) fun r3 =>
  M.pure (l7,r3))
  | .inr _=>M.fail
theorem zfa {R ag aR aS aT aU aV aW aX}(aq au av aw ax ay aA aB aC times)(aD:Reads R aR)(aJ:Sl aR aS ay)(aE:Reads R aT)(aK:Sl aT aU aA)(aF:Has R (cMl I encCN aV aB))(bi:aC.length=40)(aG:Has R (cBlk ag (List.flatten [[I aq,I au,I av,I aw,I ax,aS,aU,.map (some aV)],encF (α:=Bool) aC]) 257))(aY:Reads R aW)(bj:Sl aW aX times){r}(hM:(zbY aq au av aw ax ay aA aB aC times).Ends r)(w)(H:St w w [] R):Ret Tryz.prog 65 #[Pq ag,aX] w fun v w'=>∃ y0 y1 u0,(y0,y1)=r/\v = .tuple #[u0,B y1]/\St w w' [cOwn (α:=Span) 42 u0 y0] R:=by
 refine ret_of_WD Tryz.func65 rfl rfl rfl ?_;replace H:St w w [cMk ([])] R:=H.mk0;have bT:=aJ.len_le;have bU:=aK.len_le;have bV:=bj.len_le;unfold zbY at hM;refine WD.seq<|WD.of ?_;refine kg 4 ?_;refine WD.seq<|WD.of ?_;refine kC 2 @zdz ?_;intro bW r2 ah hM H;refine kal ?_;intro ac bX H;refine kS 0 ?_;intro bY H;refine s_nil<|WD.seq<|WD.of ?_;refine kA 1 ?_;intro ae bZ H;refine s_nil<|WD.seq<|WD.seq<|WD.of ?_;refine kg 2 ?_;obtain ⟨b7,bm,hM⟩:=M.e_bind hM;refine s_call cq [Pq ag] rfl (zft aq au av aw ax ay aA aB (aD.app _) aJ (aE.app _) aK (aF.app _) (Fld.of (aG.app _) rfl) bm _ (H.gt 4)) ?_
 rintro _ b8 ⟨aj,rfl,rfl,ai⟩;replace H:=H.bk ai;refine s_nil<|WD.block ?_
 replace H:=H.nilOwn (α:=Span) 42;obtain ⟨b9,bn,hM⟩:=M.e_bind hM;refine WD.range (L:=[cOwn (α:=Span) 42 (.slice none 0 0) ([]),cBlk ae [(.slice none 0 0)] 88,cBlk aj [Pq ag] 175,cBlk ac [ah] 88,cOwn (α:=Span) 42 ah r2]) [Pq aj] (H.pk [5,0,2,1,3,4]) rfl cq ?_;intro aH aL aM bp aN H;have hYC:YieldC Tryz.prog ([cMk (aL :: ([])),cBlk aj [Pq ag] 175,cBlk ac [ah] 88,cOwn (α:=Span) 42 ah r2]++R) arISpan (yJ aH aM (fun l aI=>∃ (aa:Value),aI=[cOwn (α:=Span) 42 aa l,cBlk ae [aa] 88]) (fun (_:Unit) _=>False) (fun _=>.ret)) (.func (.yield aH) #[] #[]) (M.yl zaG):=by
  refine YieldC.mk2 aN (fun l aI=>∃ (aa:Value),aI=[cOwn (α:=Span) 42 aa l,cBlk ae [aa] 88]) (fun (_:Unit) _=>False) (fun _=>.ret) zaG (by rintro l _ h_; obtain ⟨_,rfl⟩:=h_; rfl) (fun _ _ h_=>h_.elim) rfl (arISpan_len rfl) ?_;intro C_ cb x_ br;obtain ⟨x,x2⟩:=x_;obtain rfl:=br;intro w R al aI s_ r bt hM H
  skip
  obtain ⟨l,bu⟩:∃ y_,y_=s_:=⟨_,rfl⟩
  subst bu;obtain ⟨aa,rfl⟩:=bt;replace H:=H.nf;refine kA 1 ?_;intro bv cc H;refine ksw ?_;intro ce H;refine s_nil ?_;refine ⟨rfl,[cBlk bv [I x2.lo,I x2.hi] 42],H.pick [0,1,2,3,4,5,6] (by decide) rfl,?_⟩;clear H al;intro w R al H;replace aD:=aD.sub al;replace aE:=aE.sub al;replace aF:=aF.sub al;replace aG:=aG.sub al;replace aY:=aY.sub al;replace hM:(zaG l (x,x2)).Ends r:=hM;simp only [zaG] at hM;replace H:=H.nf;refine kL 4 (α:=Span) [x2] ?_;intro cf cg H;obtain ⟨ch,hM⟩:=M.e_gq hM;refine kP 0 ?_;intro aO cj H;refine kS 0 ?_;intro ck H;refine s_nil ?_;exact ⟨l++([x2]),[cOwn (α:=Span) 42 aO (l++([x2])),cBlk ae [aO] 88],(M.e_pure hM).symm,⟨aO,rfl⟩,H.pick [2,3,4,5,6,7] (by decide) rfl⟩
 replace H:St w bp (cAll (cObj aH (.loop aM) :: [cOwn (α:=Span) 42 (.slice none 0 0) ([]),cBlk ae [(.slice none 0 0)] 88]) :: [cMk (aL :: ([])),cBlk aj [Pq ag] 175,cBlk ac [ah] 88,cOwn (α:=Span) 42 ah r2]) R:=St.bundleB (A:=cObj aH (.loop aM) :: [cOwn (α:=Span) 42 (.slice none 0 0) ([]),cBlk ae [(.slice none 0 0)] 88]) (T:=[cMk (aL :: ([])),cBlk aj [Pq ag] 175,cBlk ac [ah] 88,cOwn (α:=Span) 42 ah r2]) rfl (H.pk [0,2,3,1,4,5,6]);refine (zfA (M.yl zaG) (.inl ([])) aq au av aw ax ay aA aB aC hYC ⟨_,rfl,⟨(.slice none 0 0),rfl⟩⟩ (aD.app _) aJ (aE.app _) aK (aF.app _) bi (aG.app _) (Has.here (k:=1) rfl) bn _ (H.gt 4)).mono ?_;rintro vq cn ⟨bw,cp,rfl,hvq,ai,aZ⟩;replace H:=H.back ai rfl;clear ai hYC;rcases bw with l | _
 ·obtain ⟨_,rfl,aa,rfl⟩:=aZ;refine ⟨_,[cOwn (α:=Span) 42 aa l,cBlk ae [aa] 88,cBlk aj [Pq ag] 175,cBlk ac [ah] 88,cOwn (α:=Span) 42 ah r2],H.unbundle.pick [0,3,1,2,4,5,6] (by decide) rfl,aN.nb,?_⟩;intro cr H;rw [aN.pd];replace H:=H.nf
  try simp only []
  refine WD.seq<|WD.of<|W.region rfl<|s_val (x_mf (fs:=[]) (cs:=[Pq ac]) rfl rfl) ?_;refine kg 2 ?_;refine WD.seq<|WD.seq<|WD.of ?_
  have ct:=((H.os 1)).len_le;refine kg 5 ?_;refine WD.block ?_;obtain ⟨bx,a7,bz⟩:=M.e_bind hM;obtain ⟨bA,a7⟩:=M.e_iter a7;refine WD.loop (fun m a8 σ W=>∃ (l2:List Span) (s:Nat) (aP:Value) (ρ:Env),σ=upds ρ [(6,Pq ac),(7,Pq ae),(10,.func (.func 116) #[] #[Pq ac]),(25,aa),(26,I (l.length:Int)),(27,I (s:Int))]/\M.iterN (zfb l) m (l2,s)=some bx/\St w W [cMk a8,cOwn (α:=Span) 42 aa l,cBlk ae [aa] 88,cBlk aj [Pq ag] 175,cBlk ac [aP] 88,cOwn (α:=Span) 42 aP l2] R) ?_ ?_
  ·exact kY
  rintro cv a8 σ cw ⟨l2,s,aP,ρ,rfl,bB,H⟩;obtain ⟨cA,cB,cC,hM,bC⟩:=M.e_iterN bB;refine WD.seq<|WD.of ?_;refine kg 3 ?_;refine WD.seq ?_
  refine WD.cond (decide ((s:Int)<(l.length:Int))) rfl (fun am=>?_) (fun am=>?_)
  ·replace hM:=M.e_t hM am;replace am:=dI am;refine WD.of<|W.skip<|WD.seq<|WD.block<|WD.seq<|WD.of ?_;obtain ⟨cD,hM⟩:=M.e_gq hM;refine kA 4 ?_;intro cE cF H;refine kS 1 ?_;intro cG H;refine s_nil<|WD.of ?_;refine kDS 0 [0,1,2,3,4,5,6] (.q 0 (.q 1 (.q 2 (.q 3 (.q 4 (.q 5 (.q 6 (.q 7 (.q 8 (.q 9 (.q 10 (.q 11 (.q 12 (.q 13 (.q 14 (.q 15 (.q 16 (.q 17 (.q 18 (.q 19 .nil)))))))))))))))))))) 20 [20] ?_;intro cH H;obtain ⟨cI,hM⟩:=M.e_gq hM;obtain ⟨cJ,hM⟩:=M.e_gq hM;obtain ⟨cK,hM⟩:=M.e_gq hM;refine kG 22 ?_;obtain ⟨cL,bD,hM⟩:=M.e_bind hM;refine s_callv (f:=116) rfl cq [I ((s:Int)+1),.agg #[I (((l2.getD s default).lo)+((l.getD s default).lo)),I (((l2.getD s default).hi)+((l.getD s default).hi))]] rfl (zeH ((s:Int)+1) (⟨(((l2.getD s default).lo)+((l.getD s default).lo):Int),(((l2.getD s default).hi)+((l.getD s default).hi):Int)⟩:Span) l2 bD _ ((H.pk [6,5,0,1,2,3,4]).gt 5)) ?_
   rintro _ cM ⟨l_k02,cN,rfl,rfl,ai⟩;replace H:=H.pk [6,5,0,1,2,3,4] |>.bk ai
   refine s_nil ⟨trivial,?_⟩;refine sr_nil<|WD.of ?_
   exact kXp 4 [3,4,5,6,1,0]
  replace hM:=M.e_f hM am;replace am:=dI am;refine WD.of ?_;refine W.exit ?_;obtain rfl:=M.e_inr hM bC;replace hM:=bz;refine WD.seq<|WD.seq<|WD.of ?_
  have cO:=((H.os 1)).len_le;refine kg 6 ?_;refine WD.block ?_;obtain ⟨bE,ba,bF⟩:=M.e_bind hM;obtain ⟨bA,ba⟩:=M.e_iter ba;refine WD.loop (fun m bc σ W=>∃ (l5:List Span) (g:Int) (ap:Value) (ρ:Env),σ=upds ρ [(6,Pq ac),(7,Pq ae),(10,.func (.func 116) #[] #[Pq ac]),(13,I g)]/\M.iterN (zfy l) m (l5,g)=some bE/\St w W [cMk bc,cOwn (α:=Span) 42 aa l,cBlk ae [aa] 88,cBlk aj [Pq ag] 175,cBlk ac [ap] 88,cOwn (α:=Span) 42 ap l5] R) ?_ ?_
  ·exact kY
  rintro cQ bc σ cS ⟨l5,g,ap,ρ,rfl,bG,H⟩;obtain ⟨cT,cU,cV,hM,bH⟩:=M.e_iterN bG;refine WD.seq<|WD.seq<|WD.of ?_;refine kg 4 ?_
  refine WD.cond (decide (0<=g)) rfl (fun ao=>?_) (fun ao=>?_)
  ·replace hM:=M.e_t hM ao;replace ao:=dI ao;refine WD.of<|W.skip<|WD.seq<|WD.block<|WD.of ?_;refine kDS 0 [0,1,2,3,4,5] (.q 0 (.q 1 (.q 2 (.q 3 (.q 4 (.q 5 (.q 6 (.q 7 (.q 8 (.q 9 (.q 10 (.q 11 (.q 12 (.q 13 (.q 14 (.q 15 (.q 16 (.q 17 (.q 18 (.q 19 (.q 20 (.q 21 (.q 22 (.q 23 (.q 24 (.q 25 (.q 26 .nil))))))))))))))))))))))))))) 27 [27] ?_;intro cW H;obtain ⟨cX,hM⟩:=M.e_gq hM;obtain ⟨cY,hM⟩:=M.e_gq hM;obtain ⟨cZ,hM⟩:=M.e_gq hM;obtain ⟨c8,hM⟩:=M.e_gq hM;obtain ⟨c9,hM⟩:=M.e_gq hM;refine kG 29 ?_;obtain ⟨da,bI,hM⟩:=M.e_bind hM;refine s_callv (f:=116) rfl cq [I g,.agg #[I (((l5.getD (Int.toNat (g+1)) default).lo)-((l.getD (Int.toNat g) default).hi)),I (((l5.getD (Int.toNat (g+1)) default).hi)-((l.getD (Int.toNat g) default).lo))]] rfl (zeH g (⟨(((l5.getD (Int.toNat (g+1)) default).lo)-((l.getD (Int.toNat g) default).hi):Int),(((l5.getD (Int.toNat (g+1)) default).hi)-((l.getD (Int.toNat g) default).lo):Int)⟩:Span) l5 bI _ ((H.pk [5,4,0,1,2,3]).gt 4)) ?_
   rintro _ db ⟨l_k022,dc,rfl,rfl,ai⟩;replace H:=H.pk [5,4,0,1,2,3] |>.bk ai
   refine s_nil ⟨trivial,?_⟩;refine sr_nil<|WD.of ?_;obtain ⟨dg,hM⟩:=M.e_gq hM
   exact kXp 5 [2,3,4,5,1,0]
  replace hM:=M.e_f hM ao;replace ao:=dI ao;refine WD.of ?_;refine W.exit ?_;obtain rfl:=M.e_inr hM bH;replace hM:=bF;replace H:=H.pk [0,4,5];refine WD.seq<|WD.of ?_;refine kD 0 [0,1,2] [2] ?_;intro dh H;refine kg 2 ?_;refine d_l rfl ?_;obtain ⟨di,bJ,hM⟩:=M.e_bind hM;refine s_call cq [ap,.func (.func 119) #[] #[]] rfl (zfP l5 (fun aQ=>zd7 aQ) (rdo 2) (H.os 2) ⟨119,[],rfl,cq,fun bg dj dk bK aQ dm bL dq bN bO=>by obtain rfl:=Span_arg bN; exact (zf5 aQ bO bg (St.refl bL)).mono fun bK bg ⟨dr,bP,bQ,bR⟩=>by subst bP; exact ⟨bQ,bR⟩⟩ bJ _ (H.gt 3)) ?_
  rintro _ dt ⟨r3,rfl,rfl,ai⟩;replace H:=H.bk ai;refine kN ?_;refine kg 3 ?_;refine WD.of ?_;refine W.ret ?_;refine bodyD_r (H.pk [0,1,2]) ?_;intro dv H;replace H:=H.nf;have bS:=M.e_pure hM;exact ⟨_,resE_tmp2 rfl,⟨l5,r3,ap,bS,rfl,(H.pk [1])⟩⟩
 obtain ⟨_,_,h_⟩:=aZ; exact h_.elim

def zfK (aa ac ae ag ah:Int) (ai:List CMk) (aj:List CNt) (al:List (Int × CNt)) (am:List Bool):M ((List Span) × Bool) :=
  M.bind (zdv aa ac ae ag ah ai aj al) fun (r0,r1) =>
  bif !r1 then (
  M.fail)
  else (
  M.bind (zfE aa ac ae ag ah ai aj al) fun r2 =>
  M.bind (zbY aa ac ae ag ah ai aj al am r2) fun (ao,ap) =>
  M.pure (ao,ap))
theorem zgT {R aa aq au av aw ax}(ac ae ag ah ai aj al am ao)(ay:Reads R aq)(aA:Sl aq au aj)(aB:Reads R av)(aC:Sl av aw al)(aD:Has R (cMl I encCN ax am))(aI:ao.length=40)(aE:Has R (cBlk aa (List.flatten [[I ac,I ae,I ag,I ah,I ai,au,aw,.map (some ax)],encF (α:=Bool) ao]) 257)){r}(hM:(zfK ac ae ag ah ai aj al am ao).Ends r)(w)(H:St w w [] R):Ret Tryz.prog 113 #[Pq aa] w fun v w'=>∃ y0 y1 u0,(y0,y1)=r/\v = .tuple #[u0,B y1]/\St w w' [cOwn (α:=Span) 42 u0 y0] R:=by
 refine ret_of_W Tryz.func113 rfl rfl rfl ?_;refine kg 9 ?_;obtain ⟨aJ,aF,hM⟩:=M.e_bind hM;refine s_call cq [Pq aa] rfl (zeS ac ae ag ah ai aj al am (ay.app _) aA (aB.app _) aC (aD.app _) (Fld.of (aE.app _) rfl) aF _ (H.gt 0)) ?_;rintro _ aK ⟨r0,r1,aL,rfl,rfl,ap⟩;replace H:=H.bk ap;refine kI 11 ?_ ?_
 ·intro aG hM;exact (M.e_fail hM).elim
 intro aG hM;refine kg 5 ?_;obtain ⟨aM,aH,hM⟩:=M.e_bind hM;refine s_call cq [Pq aa] rfl (zhf ac ae ag ah ai aj al am (ay.app _) aA (aB.app _) aC (aD.app _) (Fld.of (aE.app _) rfl) aH _ (H.gt 1)) ?_;rintro vq aN ⟨r2,aO,rfl,hvq,ap⟩;subst vq;replace H:=H.bk ap;refine kC 0 @zfa ?_;intro aP aQ aR aS hM H;refine kg 5 ?_;replace H:=H.pk [0];exact rt

def zfC (c_Pace_Lo c_Pace_Hi c_Base c_Scale c_Off:Int) (c_Marks:List CMk) (c_Notes:List CNt) (stops:List Int):M (Int × Int × Int × Int × Int × (List (Int × CNt)) × (List Bool) × (List Span) × (List Span) × Int) :=
  M.bind (zfH c_Pace_Lo c_Pace_Hi c_Base c_Scale c_Off c_Marks c_Notes stops) fun (aa,ac,ae,ag,ah,ai,aj,r1) =>
  bif r1 != 0 then (
  M.fail)
  else (
  M.bind (zfK aa ac ae ag ah c_Marks c_Notes ai aj) fun (r0,al) =>
  bif !al then (
  M.fail)
  else (
  M.bind (zdv aa ac ae ag ah c_Marks c_Notes ai) fun (am,ao) =>
  M.pure (aa,ac,ae,ag,ah,ai,aj,r0,am,0)))
theorem zf6 {R ae aa ag ac ah ai}(c_Pace_Lo c_Pace_Hi c_Base c_Scale c_Off c_Marks c_Notes stops)(ap:Reads R ae)(aq:Sl ae aa c_Marks)(au:Reads R ag)(av:Sl ag ac c_Notes)(aw:Reads R ah)(ax:Sl ah ai stops){r}(hM:(zfC c_Pace_Lo c_Pace_Hi c_Base c_Scale c_Off c_Marks c_Notes stops).Ends r)(w)(H:St w w [] R):Ret Tryz.prog 61 #[.agg #[I c_Pace_Lo,I c_Pace_Hi,I c_Base,I c_Scale,I c_Off,aa,ac],ai] w fun v w'=>∃ y0 y1 y2 y3 y4 y5 y6 y7 y8 y9 aj al u2 u3,(y0,y1,y2,y3,y4,y5,y6,y7,y8,y9)=r/\v = .tuple #[Pq aj,u2,u3,I y9]/\St w w' [cBlk aj (List.flatten [[I y0,I y1,I y2,I y3,I y4,aa,ac,.map (some al)],encF (α:=Bool) y6]) 257,cMl I encCN al y5,cOwn (α:=Span) 42 u2 y7,cOwn (α:=Span) 42 u3 y8] R/\y6.length=40:=by
 refine ret_of_W Tryz.func61 rfl rfl rfl ?_;refine kB 2 ?_;intro ay aA H;refine kC 9 @zg6 ?_;intro aB aC aD aE aF aG aH aI r1 aJ aK aL hM H;refine kI 12 ?_ ?_
 ·intro am hM;exact (M.e_fail hM).elim
 intro am hM;refine kC 4 @zgT ?_;intro aM r0 aN aO hM H;refine kI 12 ?_ ?_
 ·intro ao hM;exact (M.e_fail hM).elim
 intro ao hM;refine kC 4 @zeS ?_;intro aP aQ aR aS hM H;exact kR 16 [2,3,1,0]

def ze4 (h_Span_Lo h_Span_Hi:Int) (aa:Bool) (s:Span):M (Int × Int × Bool) :=
  bif aa then (
  M.fail)
  else (
  M.pure (s.lo,s.hi,true))
theorem zhj {R aa}(h_Span_Lo h_Span_Hi ac s){r}(hM:(ze4 h_Span_Lo h_Span_Hi ac s).Ends r)(w)(H:St w w [cBlk aa [I h_Span_Lo,I h_Span_Hi,B ac] 179] R):Ret Tryz.prog 62 #[Pq aa,.agg #[I s.lo,I s.hi]] w fun v w'=>∃ y0 y1 y2,(y0,y1,y2)=r/\v = .tuple #[]/\St w w' [cBlk aa [I y0,I y1,B y2] 179] R:=by
 refine ret_of_W Tryz.func62 rfl rfl rfl ?_;refine kB 2 ?_;intro ah ai H;refine kI 9 ?_ ?_
 ·intro ae hM;exact (M.e_fail hM).elim
 intro ae hM;refine kS 7 ?_;intro aj H;refine kS 2 ?_;intro al H;refine s_nil ?_;have ag:=M.e_pure hM;exact ⟨_,resE_tmp0 rfl,⟨s.lo,s.hi,true,ag,rfl,(H.pk [1])⟩⟩

def zfl (aa ac ae ag ah:Int) (ai:List CMk) (aj:List CNt) (al:List (Int × CNt)) (times:List Span) (mark ahead behind:Int):M (List Span) :=
  M.bind (zbz times) fun r2 =>
  bif decide (0<mark) then (
  M.gi (mark-1) <|
  M.grd (decide ((0:Int)<=(mark-1))&&decide ((mark-1)<(r2.length:Int))) <|
  bif decide (mark<((r2.set (Int.toNat (mark-1)) ({ (r2.getD (Int.toNat (mark-1)) default) with hi:=min ((r2.getD (Int.toNat (mark-1)) default).hi) ahead })).length:Int)) then (
  M.grd (decide ((0:Int)<=mark)&&decide (mark<((r2.set (Int.toNat (mark-1)) ({ (r2.getD (Int.toNat (mark-1)) default) with hi:=min ((r2.getD (Int.toNat (mark-1)) default).hi) ahead })).length:Int))) <|
  M.pure ((r2.set (Int.toNat (mark-1)) ({ (r2.getD (Int.toNat (mark-1)) default) with hi:=min ((r2.getD (Int.toNat (mark-1)) default).hi) ahead })).set (Int.toNat mark) ({ ((r2.set (Int.toNat (mark-1)) ({ (r2.getD (Int.toNat (mark-1)) default) with hi:=min ((r2.getD (Int.toNat (mark-1)) default).hi) ahead })).getD (Int.toNat mark) default) with lo:=max (((r2.set (Int.toNat (mark-1)) ({ (r2.getD (Int.toNat (mark-1)) default) with hi:=min ((r2.getD (Int.toNat (mark-1)) default).hi) ahead })).getD (Int.toNat mark) default).lo) behind })))
  else (
  M.fail))
  else (
  M.fail)
theorem zgo {R aa ac ae ag ah ai aj al}(am ao ap aq au av aw ax times mark ahead behind)(aB:Reads R ac)(aC:Sl ac ae av)(aD:Reads R ag)(aE:Sl ag ah aw)(aF:Has R (cMl I encCN ai ax))(aG:Fld R aa [I am,I ao,I ap,I aq,I au,ae,ah,.map (some ai)])(aH:Reads R aj)(aI:Sl aj al times){r}(hM:(zfl am ao ap aq au av aw ax times mark ahead behind).Ends r)(w)(H:St w w [] R):Ret Tryz.prog 66 #[Pq aa,al,I mark,I ahead,I behind] w fun v w'=>∃ y0 u0,y0=r/\v=u0/\St w w' [cOwn (α:=Span) 42 u0 y0] R:=by
 refine ret_of_W Tryz.func66 rfl rfl rfl ?_;refine kC 7 @zdz ?_;intro aJ r2 aK hM H;refine kI 8 ?_ ?_
 ·intro ay hM;obtain ⟨aL,hM⟩:=M.e_gq hM;obtain ⟨aM,hM⟩:=M.e_gq hM;refine kO 14 (α:=Span) ({ (r2.getD (Int.toNat (mark-1)) default) with hi:=min ((r2.getD (Int.toNat (mark-1)) default).hi) ahead }) ?_;intro aN H;have aO:(r2.set (Int.toNat (mark-1)) ({ (r2.getD (Int.toNat (mark-1)) default) with hi:=min ((r2.getD (Int.toNat (mark-1)) default).hi) ahead })).length=(r2).length:=List.length_set;have aP:=((H.os 0)).len_le;refine kI 9 ?_ ?_
  ·intro aA hM;obtain ⟨aQ,hM⟩:=M.e_gq hM;refine kO 12 (α:=Span) ({ ((r2.set (Int.toNat (mark-1)) ({ (r2.getD (Int.toNat (mark-1)) default) with hi:=min ((r2.getD (Int.toNat (mark-1)) default).hi) ahead })).getD (Int.toNat mark) default) with lo:=max (((r2.set (Int.toNat (mark-1)) ({ (r2.getD (Int.toNat (mark-1)) default) with hi:=min ((r2.getD (Int.toNat (mark-1)) default).hi) ahead })).getD (Int.toNat mark) default).lo) behind }) ?_;intro aR H;have aS:((r2.set (Int.toNat (mark-1)) ({ (r2.getD (Int.toNat (mark-1)) default) with hi:=min ((r2.getD (Int.toNat (mark-1)) default).hi) ahead })).set (Int.toNat mark) ({ ((r2.set (Int.toNat (mark-1)) ({ (r2.getD (Int.toNat (mark-1)) default) with hi:=min ((r2.getD (Int.toNat (mark-1)) default).hi) ahead })).getD (Int.toNat mark) default) with lo:=max (((r2.set (Int.toNat (mark-1)) ({ (r2.getD (Int.toNat (mark-1)) default) with hi:=min ((r2.getD (Int.toNat (mark-1)) default).hi) ahead })).getD (Int.toNat mark) default).lo) behind })).length=(r2.set (Int.toNat (mark-1)) ({ (r2.getD (Int.toNat (mark-1)) default) with hi:=min ((r2.getD (Int.toNat (mark-1)) default).hi) ahead })).length:=List.length_set;refine kg 6 ?_;exact rt
  intro aA hM;exact (M.e_fail hM).elim
 intro ay hM;exact (M.e_fail hM).elim

def zeG (h_Span_Lo h_Span_Hi:Int) (aa:Bool):M (Int × Int × Int) :=
  bif !aa then (
  M.fail)
  else (
  M.pure (h_Span_Lo,h_Span_Hi,0))
theorem zgn {R aa}(h_Span_Lo h_Span_Hi ac)(ae:Has R (cBlk aa [I h_Span_Lo,I h_Span_Hi,B ac] 179)){r}(hM:(zeG h_Span_Lo h_Span_Hi ac).Ends r)(w)(H:St w w [] R):Ret Tryz.prog 67 #[Pq aa] w fun v w'=>∃ y0 y1 y2,(y0,y1,y2)=r/\v = .tuple #[.agg #[I y0,I y1],I y2]/\St w w' [] R:=by
 refine ret_of_W Tryz.func67 rfl rfl rfl ?_;refine kA 2 ?_;intro ah ai H;refine kI 11 ?_ ?_
 ·intro ag hM;exact (M.e_fail hM).elim
 intro ag hM;refine kg 6 ?_;refine s_val (x_ld (v:=.agg #[I h_Span_Lo,I h_Span_Hi]) rfl (ldb_ag (ds:=[I h_Span_Lo,I h_Span_Hi]) Ag42.h Sz42.h (ae.blk H) rfl rfl)) ?_;refine ksw ?_;intro aj H;exact kR 2 []

end Go.Proofs.YtaolcidinlnklaaGreat
end
section
set_option maxRecDepth 100000
set_option maxHeartbeats 16000000
namespace Go.Proofs.YtaolcidinlnklaaGreat
open Go Go.Nm
attribute [local irreducible] gd execOp SL SLD SLT WR
def zeJ (time:Int) (r1 r2:List Span):(Int × Int × Bool × Nat)->M ((Int × Int × Bool × Nat) ⊕ (Int × Int × Bool)):=fun (s,s2,s3,s4) =>
  bif decide ((s4:Int)<(r1.length:Int)) then (
  M.grd (decide ((s4:Int)<(r1.length:Int))) <|
  M.bind (zal time ((r1.getD s4 default).lo) ((r1.getD s4 default).hi)) fun r4 =>
  bif r4 then (
  M.grd (decide ((s4:Int)<(r2.length:Int))) <|
  M.bind (ze4 s s2 s3 (r2.getD s4 default)) fun (q0,q1,q2) =>
  M.pure (.inl (q0,q1,q2,s4+1)))
  else (
  M.pure (.inl (s,s2,s3,s4+1))))
  else (
  M.pure (.inr (s,s2,s3)))
def zaP (c_Marks:List CMk) (c_Notes:List CNt) (time aa ac ae ag ah:Int) (ai:List (Int × CNt)) (aj:List Bool) (r1:List Span):Unit->(Int × Span)->M (Unit ⊕ Unit):=fun (_:Unit) (x,x2) =>
  M.gi (x+1) <|
  M.gi (time-1) <|
  M.gi (time+1) <|
  M.bind (zfl aa ac ae ag ah c_Marks c_Notes ai r1 (x+1) (time-1) (time+1)) fun r6 =>
  M.bind (zbY aa ac ae ag ah c_Marks c_Notes ai aj r6) fun (r0,al) =>
  bif al then (
  M.fail)
  else (
  M.pure (.inl ()))
def zd8 (c_Pace_Lo c_Pace_Hi c_Base c_Scale c_Off:Int) (c_Marks:List CMk) (c_Notes:List CNt) (stops:List Int) (time:Int):M (Int × Int × Int) :=
  M.bind (zfC c_Pace_Lo c_Pace_Hi c_Base c_Scale c_Off c_Marks c_Notes stops) fun (aa,ac,ae,ag,ah,ai,aj,r1,r2,r3) =>
  bif r3 != 0 then (
  M.fail)
  else (
  M.bind (M.iter (zeJ time r1 r2) (0,0,false,0)) fun (s5,s6,s7) =>
  M.bind (zal time (-100000000) 100000000) fun r5 =>
  bif r5 then (
  M.bind (zdE aa ac ae ag ah c_Marks c_Notes ai) fun (_:Unit) =>
  M.bind (zdJ (M.yl (zaP c_Marks c_Notes time aa ac ae ag ah ai aj r1)) (.inl ()) aa ac ae ag ah c_Marks c_Notes ai aj) fun x_=>match x_ with
  | .inl _=>(
  M.bind (zeG s5 s6 s7) fun (al,am,ao) =>
  M.pure (al,am,ao))
  | .inr _=>M.fail)
  else (
  M.fail))
theorem zf0 {R aY ae aZ ag a7 a8}(c_Pace_Lo c_Pace_Hi c_Base c_Scale c_Off c_Marks c_Notes stops time)(aJ:Reads R aY)(aP:Sl aY ae c_Marks)(aK:Reads R aZ)(aQ:Sl aZ ag c_Notes)(ba:Reads R a7)(bj:Sl a7 a8 stops){r}(hM:(zd8 c_Pace_Lo c_Pace_Hi c_Base c_Scale c_Off c_Marks c_Notes stops time).Ends r)(w)(H:St w w [] R):Ret Tryz.prog 26 #[.agg #[I c_Pace_Lo,I c_Pace_Hi,I c_Base,I c_Scale,I c_Off,ae,ag],a8,I time] w fun v w'=>∃ y0 y1 y2,(y0,y1,y2)=r/\v = .tuple #[.agg #[I y0,I y1],I y2]/\St w w' [] R:=by
 refine ret_of_WD Tryz.func26 rfl rfl rfl ?_;replace H:St w w [cMk ([])] R:=H.mk0;have bF:=aP.len_le;have bG:=aQ.len_le;have bH:=bj.len_le;unfold zd8 at hM;refine WD.seq<|WD.of ?_;refine kB 1 ?_;intro aE bI H;refine kbx ?_;intro aw bJ H;refine kal ?_;intro ax bK H;refine kg 2 ?_;refine WD.seq<|WD.of ?_;refine kC 3 @zf6 ?_;intro bL ah ai aj al am ao ap r1 r2 r3 aa aq au av bc hM H;refine kA 5 ?_;intro ay bN H;refine kal ?_;intro aA bO H;refine kal ?_;intro aB bP H;refine ksw ?_;intro bQ H;refine kS 0 ?_;intro bR H;refine kS 0 ?_;intro bS H;refine kg 2 ?_;refine WD.seq<|WD.seq<|WD.of ?_;refine kg 4 ?_
 refine WD.cond (r3 != 0) rfl (fun aH=>?_) (fun aH=>?_)
 ·replace hM:=M.e_t hM aH;exact (M.e_fail hM).elim
 replace hM:=M.e_f hM aH;replace aH:=dI aH;refine WD.of<|W.skip<|WD.seq<|WD.of ?_;refine kA 1 ?_;intro ac bT H;refine s_nil<|WD.seq<|WD.of<|W.region rfl<|s_val (x_mf (fs:=[Pq ac]) (cs:=[]) rfl rfl) ?_;refine kal ?_;intro aC bU H;refine ksw ?_;intro bV H;refine s_nil<|WD.seq<|WD.seq<|WD.of ?_
 have bW:=((H.os 7)).len_le;refine kg 5 ?_;refine WD.block ?_;obtain ⟨bm,bg,bn⟩:=M.e_bind hM;obtain ⟨bX,bg⟩:=M.e_iter bg;refine WD.loop (fun m aI σ W=>∃ (s:Int) (s2:Int) (s3:Bool) (s4:Nat) (ρ:Env),σ=upds ρ [(5,Pq aw),(6,Pq ax),(8,Pq ay),(9,Pq aA),(10,Pq aB),(12,Pq ac),(13,Pq aC),(32,I (r1.length:Int)),(33,I (s4:Int))]/\M.iterN (zeJ time r1 r2) m (s,s2,s3,s4)=some bm/\St w W [cBlk aC [.func (.func 62) #[Pq ac] #[]] 180,cBlk ac [I s,I s2,B s3] 179,cBlk aB [av] 88,cBlk aA [au] 88,cBlk ay [Pq aa] 175,cBlk aa (List.flatten [[I ah,I ai,I aj,I al,I am,ae,ag,.map (some aq)],encF (α:=Bool) ap]) 257,cMl I encCN aq ao,cOwn (α:=Span) 42 au r1,cOwn (α:=Span) 42 av r2,cBlk ax [I 0,I 0] 42,cBlk aw [I time] 3,cBlk aE [I c_Pace_Lo,I c_Pace_Hi,I c_Base,I c_Scale,I c_Off,ae,ag] 123,cMk aI] R) ?_ ?_
 ·exact kY
 rintro bY aI σ bZ ⟨s,s2,s3,s4,ρ,rfl,bp,H⟩;obtain ⟨b7,b8,b9,hM,br⟩:=M.e_iterN bp;refine WD.seq<|WD.of ?_;refine kg 3 ?_;refine WD.seq ?_
 refine WD.cond (decide ((s4:Int)<(r1.length:Int))) rfl (fun aD=>?_) (fun aD=>?_)
 ·replace hM:=M.e_t hM aD;replace aD:=dI aD;refine WD.of<|W.skip<|WD.seq<|WD.block<|WD.seq<|WD.of ?_;refine kg 4 ?_;refine WD.seq<|WD.of ?_;refine kD 0 [0,1,2,3,4,5,6,7,8,9,10,11,12] [11] ?_;intro cb H;obtain ⟨cc,hM⟩:=M.e_gq hM;refine kC 12 @zam ?_;intro ce r4 hM H;refine kN ?_;refine d_nil ?_
  refine WD.cond r4 rfl (fun aR=>?_) (fun aR=>?_)
  ·replace hM:=M.e_t hM aR;refine WD.of ?_;refine kD 0 [0,2,3,4,5,6,7,8,9,10,11,12] [5] ?_;intro cf H;obtain ⟨cg,hM⟩:=M.e_gq hM;refine kG 6 ?_;obtain ⟨ch,bt,hM⟩:=M.e_bind hM;refine s_callm (f:=62) (fs:=[Pq ac]) rfl cq [.agg #[I ((r2.getD s4 default).lo),I ((r2.getD s4 default).hi)]] rfl (zhj s s2 s3 (r2.getD s4 default) bt _ ((H.pk [1,0,2,3,4,5,6,7,8,9,10,11,12]).gt 12)) ?_;rintro _ cj ⟨q0,q1,q2,rfl,rfl,aF⟩;replace H:=H.pk [1,0,2,3,4,5,6,7,8,9,10,11,12] |>.bk aF
   refine kN ?_;refine d_nil<|WD.of ?_
   exact kXp 4 [1,0,2,3,4,5,6,7,8,9,10,11,12]
  replace hM:=M.e_f hM aR;refine WD.of<|W.skip<|WD.of ?_
  exact kX 4
 replace hM:=M.e_f hM aD;replace aD:=dI aD;refine WD.of ?_;refine W.exit ?_;obtain rfl:=M.e_inr hM br;replace hM:=bn;refine WD.seq<|WD.seq<|WD.of ?_;refine kC 2 @zam ?_;intro ck r5 hM H;refine s_nil ?_
 refine WD.cond r5 rfl (fun aS=>?_) (fun aS=>?_)
 ·replace hM:=M.e_t hM aS;refine WD.seq<|WD.of ?_;refine kC 2 @zft ?_;intro cn aG hM H;refine s_nil<|WD.block ?_;obtain ⟨cp,bu,hM⟩:=M.e_bind hM;refine WD.range (L:=[cBlk aG [Pq aa] 175,cBlk aC [.func (.func 62) #[Pq ac] #[]] 180,cBlk ac [I s,I s2,B s3] 179,cBlk aB [av] 88,cBlk aA [au] 88,cBlk ay [Pq aa] 175,cBlk aa (List.flatten [[I ah,I ai,I aj,I al,I am,ae,ag,.map (some aq)],encF (α:=Bool) ap]) 257,cMl I encCN aq ao,cOwn (α:=Span) 42 au r1,cOwn (α:=Span) 42 av r2,cBlk ax [I 0,I 0] 42,cBlk aw [I time] 3,cBlk aE [I c_Pace_Lo,I c_Pace_Hi,I c_Base,I c_Scale,I c_Off,ae,ag] 123]) [Pq aG] (H.pk [13,0,1,2,3,4,5,6,7,8,9,10,11,12]) rfl cq ?_;intro aL aT aU bv aV H
  have hYC:YieldC Tryz.prog ([cMk (aT :: aI),cBlk aG [Pq aa] 175,cBlk aC [.func (.func 62) #[Pq ac] #[]] 180,cBlk ac [I s,I s2,B s3] 179,cBlk aB [av] 88,cBlk aA [au] 88,cBlk ay [Pq aa] 175,cBlk aa (List.flatten [[I ah,I ai,I aj,I al,I am,ae,ag,.map (some aq)],encF (α:=Bool) ap]) 257,cMl I encCN aq ao,cOwn (α:=Span) 42 au r1,cOwn (α:=Span) 42 av r2,cBlk ax [I 0,I 0] 42,cBlk aw [I time] 3,cBlk aE [I c_Pace_Lo,I c_Pace_Hi,I c_Base,I c_Scale,I c_Off,ae,ag] 123]++R) arISpan (yJ aL aU (fun _ aM=>aM=[]) (fun (_:Unit) _=>False) (fun _=>.ret)) (.func (.yield aL) #[] #[]) (M.yl (zaP c_Marks c_Notes time ah ai aj al am ao ap r1)):=by
   refine YieldC.mk aV (fun _ aM=>aM=[]) (fun (_:Unit) _=>False) (fun _=>.ret) (zaP c_Marks c_Notes time ah ai aj al am ao ap r1) (by rintro _ _ h_; obtain ⟨rfl⟩:=h_; rfl) (fun _ _ h_=>h_.elim) rfl (arISpan_len rfl) ?_;intro C_ cr x_ W_ bw;obtain ⟨x,x2⟩:=x_;obtain rfl:=bw;refine kg 3 ?_;refine ⟨rfl,rfl,?_⟩;intro w R aW aM s_ r bx hM H
   skip
   obtain ⟨rfl⟩:=bx;replace aJ:=aJ.sub aW;replace aK:=aK.sub aW;replace ba:=ba.sub aW;replace hM:(zaP c_Marks c_Notes time ah ai aj al am ao ap r1 () (x,x2)).Ends r:=hM;simp only [zaP] at hM;replace H:=H.pk [1,2,3,4,5,6,7,8,9,10,11,12,13,0];refine kD 2 [0,1,2,3,4,5,6,7,8,9,10,11,12,13] [9,10] ?_;intro ct H;obtain ⟨cv,hM⟩:=M.e_gq hM;obtain ⟨cw,hM⟩:=M.e_gq hM;obtain ⟨cA,hM⟩:=M.e_gq hM;refine kC 10 @zgo ?_;intro cB r6 bz hM H;refine s_nil ⟨(H.pk [1,2,3,4,5,6,7,8,9,10,11,12,13,14]),?_⟩;refine d_l rfl ?_;obtain ⟨cC,bA,hM⟩:=M.e_bind hM;refine s_call cq [Pq aa,bz] rfl (zfa ah ai aj al am c_Marks c_Notes ao ap r6 (aJ.app _) aP (aK.app _) aQ (Has.here (k:=8) rfl) bc (Has.here (k:=7) rfl) (rdo 0) (H.os 0) bA _ (H.gt 15)) ?_;rintro _ cD ⟨r0,cE,cF,rfl,rfl,aF⟩;replace H:=H.bk aF;refine s_nil ⟨(H.pk [2,3,4,5,6,7,8,9,10,11,12,13,14,15]),?_⟩;refine kg 6 ?_;replace H:=H.pk [2,3,4,5,6,7,8,9,10,11,12,13,14,15];refine kg 4 ?_;refine W.cnd hM rfl (fun bB hM=>?_) (fun bB hM=>?_)
   ·exact (M.e_fail hM).elim
   refine W.skip ?_;exact ⟨(),[],(M.e_pure hM).symm,rfl,H.pick [13,0,1,2,3,4,5,6,7,8,9,10,11,12] (by decide) rfl⟩
  replace H:St w bv (cAll (cObj aL (.loop aU) :: []) :: [cMk (aT :: aI),cBlk aG [Pq aa] 175,cBlk aC [.func (.func 62) #[Pq ac] #[]] 180,cBlk ac [I s,I s2,B s3] 179,cBlk aB [av] 88,cBlk aA [au] 88,cBlk ay [Pq aa] 175,cBlk aa (List.flatten [[I ah,I ai,I aj,I al,I am,ae,ag,.map (some aq)],encF (α:=Bool) ap]) 257,cMl I encCN aq ao,cOwn (α:=Span) 42 au r1,cOwn (α:=Span) 42 av r2,cBlk ax [I 0,I 0] 42,cBlk aw [I time] 3,cBlk aE [I c_Pace_Lo,I c_Pace_Hi,I c_Base,I c_Scale,I c_Off,ae,ag] 123]) R:=St.bundleB (A:=cObj aL (.loop aU) :: []) (T:=[cMk (aT :: aI),cBlk aG [Pq aa] 175,cBlk aC [.func (.func 62) #[Pq ac] #[]] 180,cBlk ac [I s,I s2,B s3] 179,cBlk aB [av] 88,cBlk aA [au] 88,cBlk ay [Pq aa] 175,cBlk aa (List.flatten [[I ah,I ai,I aj,I al,I am,ae,ag,.map (some aq)],encF (α:=Bool) ap]) 257,cMl I encCN aq ao,cOwn (α:=Span) 42 au r1,cOwn (α:=Span) 42 av r2,cBlk ax [I 0,I 0] 42,cBlk aw [I time] 3,cBlk aE [I c_Pace_Lo,I c_Pace_Hi,I c_Base,I c_Scale,I c_Off,ae,ag] 123]) rfl (H.pk [0,1,2,3,4,5,6,7,8,9,10,11,12,13,14]);refine (zfA (M.yl (zaP c_Marks c_Notes time ah ai aj al am ao ap r1)) (.inl ()) ah ai aj al am c_Marks c_Notes ao ap hYC ⟨_,rfl,rfl⟩ (aJ.app _) aP (aK.app _) aQ (Has.here (k:=8) rfl) bc (Has.here (k:=7) rfl) (Has.here (k:=1) rfl) bu _ (H.gt 14)).mono ?_;rintro vq cG ⟨bC,cH,rfl,hvq,aF,bi⟩;replace H:=H.back aF rfl;clear aF hYC;rcases bC with _ | _
  ·obtain ⟨_,rfl,rfl⟩:=bi;refine ⟨_,[cBlk aG [Pq aa] 175,cBlk aC [.func (.func 62) #[Pq ac] #[]] 180,cBlk ac [I s,I s2,B s3] 179,cBlk aB [av] 88,cBlk aA [au] 88,cBlk ay [Pq aa] 175,cBlk aa (List.flatten [[I ah,I ai,I aj,I al,I am,ae,ag,.map (some aq)],encF (α:=Bool) ap]) 257,cMl I encCN aq ao,cOwn (α:=Span) 42 au r1,cOwn (α:=Span) 42 av r2,cBlk ax [I 0,I 0] 42,cBlk aw [I time] 3,cBlk aE [I c_Pace_Lo,I c_Pace_Hi,I c_Base,I c_Scale,I c_Off,ae,ag] 123],H.unbundle.pick [0,1,2,3,4,5,6,7,8,9,10,11,12,13,14] (by decide) rfl,aV.nb,?_⟩;intro cI H;rw [aV.pd];replace H:=H.nf
   try simp only []
   replace H:=H.pk [0,3,11];refine WD.seq<|WD.of ?_;refine kC 1 @zgn ?_;intro cJ aN aO aX hM H;refine kS 2 ?_;intro cK H;refine kg 2 ?_;refine WD.of ?_;refine W.ret ?_;refine bodyD_r (H.pk [0,1,2]) ?_;intro cL H;replace H:=H.nf
   have bD:=(H.bl 1)
   have bE:=M.e_pure hM;exact ⟨_,(resE_ofn (vs:=[.agg #[I aN,I aO],I aX]) rfl rfl (.cell (v:=.agg #[I aN,I aO]) rfl (run_loadVar_ag (ds:=[I aN,I aO]) Ag42.h Sz42.h bD rfl rfl)<|.tmp (v:=I aX) rfl<|.nil)),⟨aN,aO,aX,bE,rfl,(H.pk [])⟩⟩
  obtain ⟨_,_,h_⟩:=bi; exact h_.elim
 replace hM:=M.e_f hM aS;exact (M.e_fail hM).elim

end Go.Proofs.YtaolcidinlnklaaGreat
end
section
set_option maxRecDepth 100000
set_option maxHeartbeats 16000000
namespace Go.Proofs.YtaolcidinlnklaaGreat
open Go Go.Nm
attribute [local irreducible] gd execOp SL SLD SLT WR
def zfG (rise:Int):M (Int × (List Line)) :=
  M.pure (3,([(⟨(0:Int),(1:Int),(5:Int),(100:Int),(2:Int)⟩:Line),(⟨(1:Int),(2:Int),(5:Int),(50:Int),(1:Int)⟩:Line),(⟨(0:Int),(2:Int),(9:Int),(rise:Int),(3:Int)⟩:Line)]))
theorem zhA {R}(rise){r}(hM:(zfG rise).Ends r)(w)(H:St w w [] R):Ret Tryz.prog 25 #[I rise] w fun v w'=>∃ y0 y1 u0,(y0,y1)=r/\v = .agg #[I y0,u0]/\St w w' [cOwn (α:=Line) 97 u0 y1] R:=by
 refine ret_of_W Tryz.func25 rfl rfl rfl ?_;refine kA 2 ?_;intro aa ac H;refine kL 7 (α:=Line) [⟨0,1,5,100,2⟩,⟨1,2,5,50,1⟩,⟨0,2,9,rise,3⟩] ?_;intro ae ag H;refine kS 1 ?_;intro ah H;exact kR 1 [0]

def zeP (aa ac:Int):M (Int × Int × Int × Int × Int × (List CMk) × (List CNt)) :=
  M.pure (10,12,500,10,5,([(⟨(0:Int),(20:Int)⟩:CMk),(⟨(10:Int),(50:Int)⟩:CMk),(⟨(30:Int),(30:Int)⟩:CMk)]),([(⟨(0:Int),(0:Int),(0:Int),(0:Int),(2000:Int)⟩:CNt),(⟨(2:Int),(aa:Int),(ac:Int),(0:Int),(2000:Int)⟩:CNt)]))
theorem zho {R}(aa ac){r}(hM:(zeP aa ac).Ends r)(w)(H:St w w [] R):Ret Tryz.prog 27 #[I aa,I ac] w fun v w'=>∃ y0 y1 y2 y3 y4 y5 y6 u0 u1,(y0,y1,y2,y3,y4,y5,y6)=r/\v = .agg #[I y0,I y1,I y2,I y3,I y4,u0,u1]/\St w w' [cOwn (α:=CMk) 189 u0 y5,cOwn (α:=CNt) 191 u1 y6] R:=by
 refine ret_of_W Tryz.func27 rfl rfl rfl ?_;refine kA 2 ?_;intro ae ag H;refine kA 4 ?_;intro ah ai H;refine ksw ?_;intro aj H;refine kL 7 (α:=CMk) [⟨0,20⟩,⟨10,50⟩,⟨30,30⟩] ?_;intro al am H;refine kL 7 (α:=CNt) [⟨0,0,0,0,2000⟩,⟨2,aa,ac,0,2000⟩] ?_;intro ao ap H;refine kS 1 ?_;intro aq H;exact kR 1 [1,0]

def zeK (lo hi:Int):M (List Gg) :=
  M.pure ([(⟨(100:Int),(10:Int),(12:Int)⟩:Gg),(⟨(200:Int),(30:Int),(32:Int)⟩:Gg),(⟨(300:Int),(lo:Int),(hi:Int)⟩:Gg)])
theorem zgJ {R}(lo hi){r}(hM:(zeK lo hi).Ends r)(w)(H:St w w [] R):Ret Tryz.prog 28 #[I lo,I hi] w fun v w'=>∃ y0 u0,y0=r/\v=u0/\St w w' [cOwn (α:=Gg) 62 u0 y0] R:=by
 refine ret_of_W Tryz.func28 rfl rfl rfl ?_;refine kL 14 (α:=Gg) [⟨100,10,12⟩,⟨200,30,32⟩,⟨300,lo,hi⟩] ?_;intro aa ac H;refine kg 2 ?_;exact rt

def zdW (place lo hi:Int):M (Int × Int × Int) :=
  M.pure (place,lo,hi)
theorem zfm {R}(place lo hi){r}(hM:(zdW place lo hi).Ends r)(w)(H:St w w [] R):Ret Tryz.prog 68 #[I place,I lo,I hi] w fun v w'=>∃ y0 y1 y2,(y0,y1,y2)=r/\v = .agg #[I y0,I y1,I y2]/\St w w' [] R:=by
 refine ret_of_W Tryz.func68 rfl rfl rfl ?_;refine kA 2 ?_;intro aa ac H;refine kS 8 ?_;intro ae H;exact kR 1 []

def zeI (marks:List Mrk):M ((List Sect) × (List Mrk) × (List Rch)) :=
  M.bind (zdW 0 150 160) fun (r0,r1,r2) =>
  M.bind (zdW 100 100 110) fun (aa,ac,ae) =>
  M.grd (decide ((([(⟨(r0:Int),(r1:Int),(r2:Int)⟩:Mrk),(⟨(aa:Int),(ac:Int),(ae:Int)⟩:Mrk)]).length+marks.length)*24<=140737488355328)) <|
  M.pure (([(⟨(0:Int),([(⟨(0:Int),(0:Int)⟩:FRow),(⟨(200:Int),(2000:Int)⟩:FRow)])⟩:Sect),(⟨(100:Int),([(⟨(0:Int),(0:Int)⟩:FRow),(⟨(200:Int),(2000:Int)⟩:FRow)])⟩:Sect)]),(([(⟨(r0:Int),(r1:Int),(r2:Int)⟩:Mrk),(⟨(aa:Int),(ac:Int),(ae:Int)⟩:Mrk)])++marks),([(⟨(0:Int),(1:Int),(50:Int),(100:Int),false⟩:Rch)]))
theorem zf7 {R al am}(marks)(aC:Reads R al)(aD:Sl al am marks){r}(hM:(zeI marks).Ends r)(w)(H:St w w [] R):Ret Tryz.prog 29 #[am] w fun v w'=>∃ y0 y1 y2 u0 rr1 ao u3 u4,(y0,y1,y2)=r/\v = .agg #[u0,u3,u4]/\St w w' [cOwn (α:=Raw 1) 103 u0 rr1,cRo ao,cOwn (α:=Mrk) 49 u3 y1,cOwn (α:=Rch) 53 u4 y2] R/\RepR (α:=Sect) ao.cells rr1 y0:=by
 refine ret_of_W Tryz.func29 rfl rfl rfl ?_;refine kA 2 ?_;intro aE aF H;refine kL 5 (α:=FRow) [⟨0,0⟩,⟨200,2000⟩] ?_;intro aa aG H;refine kG 8 ?_;obtain ⟨aH,H⟩:=H.emptyE;obtain ⟨aI,H,au⟩:=H.freezeE (k:=1) rfl;replace H:=H.nf;have ac:=au;obtain ⟨av,H,aJ,aw⟩:=H.joinE (i:=0) (j:=1) rfl rfl;replace ac:=ac.mono aw;obtain ⟨ae,ap⟩:∃ r:Raw 1,r.cs=[I 0,aa]:=⟨Raw.of [I 0,aa] rfl (by simp only [List.all_cons,List.all_nil,Bool.true_and,Bool.and_true,Sl.oc ac]; try rfl),rfl⟩
 obtain ⟨ag,aq⟩:∃ r:Raw 1,r.cs=[I 100,aa]:=⟨Raw.of [I 100,aa] rfl (by simp only [List.all_cons,List.all_nil,Bool.true_and,Bool.and_true,Sl.oc ac]; try rfl),rfl⟩
 have ax:RepR (α:=Sect) av.cells [ae,ag] [(⟨(0:Int),([(⟨(0:Int),(0:Int)⟩:FRow),(⟨(200:Int),(2000:Int)⟩:FRow)])⟩:Sect),(⟨(100:Int),([(⟨(0:Int),(0:Int)⟩:FRow),(⟨(200:Int),(2000:Int)⟩:FRow)])⟩:Sect)]:=.cons (by rw [ap]; exact ⟨_,rfl,ac⟩)<|.cons (by rw [aq]; exact ⟨_,rfl,ac⟩)<|.nil
 refine t_bs (α:=Raw 1) T31.h [.agg #[I 0,aa],.agg #[I 100,aa]] [ae,ag] H rfl (.cons (by rw [show (Flat.enc ae:List Value)=ae.cs from rfl,ap]; rfl) (Flat.rep_enc _ _)<|.cons (by rw [show (Flat.enc ag:List Value)=ag.cs from rfl,aq]; rfl) (Flat.rep_enc _ _)<|.nil) rfl rfl rfl ?_;intro ah aK H;replace H:=H.nf;refine kC 0 @zfm ?_;intro aL r0 r1 r2 hM H;refine kC 0 @zfm ?_;intro aM ay aA aB hM H;refine kL 0 (α:=Mrk) [⟨r0,r1,r2⟩,⟨ay,aA,aB⟩] ?_;intro aN aO H;obtain ⟨aP,hM⟩:=M.e_gq hM;refine kP 1 ?_;intro ai aQ H;refine kL 2 (α:=Rch) [⟨0,1,50,100,false⟩] ?_;intro aj aR H;refine s_val (x_bld (ps:=[(0,ah),(1,ai),(2,aj)]) (zs:=[.slice none 0 0,.slice none 0 0,.slice none 0 0]) (L':=[ah,ai,aj]) rfl Tryz.underlying35 Al35.h rfl (Bd35 Tryz.underlying35) (.cons (cs:=[ah]) (Sl.cells (rowSl rfl (H.get (k:=2) rfl) (roLe _ (H.get (k:=3) rfl)) ax)) rfl rfl rfl rfl<|.cons (cs:=[ai]) (Sl.cells (H.os 1)) rfl rfl rfl rfl<|.cons (cs:=[aj]) (Sl.cells (H.os 0)) rfl rfl rfl rfl<|.nil)) ?_;refine kS 0 ?_;intro aS H;refine s_nil ?_;replace H:=H.pk [0,1,2,3,6];exact kR 0 [2,3,1,0]

def zbd  : M Bool :=
  M.bind (zfG 148) fun (r0,r1) =>
  M.bind (zbp r0 r1 0 2) fun (aa,ac,ae) =>
  M.bind (zeP 310 320) fun (ag,ah,r2,r3,r4,r5,r6) =>
  M.bind (zd8 ag ah r2 r3 r4 r5 r6 ([]:List Int) 320) fun (ai,aj,al) =>
  M.bind (zeK 50 52) fun r7 =>
  M.bind (zbh r7 ([]:List Int) 150) fun (am,ao,aA,aB,ap) =>
  M.bind (zeI ([]:List Mrk)) fun (aq,au,av) =>
  M.bind (zaW aq au av ([(0:Int),(1:Int)]) 0) fun (aw,ax,ay) =>
  M.pure ((((((((ae==0)&&(al==0))&&(ap==0))&&(ay==0))&&(decide ((⟨(aa:Int),(ac:Int)⟩:Span)=(⟨(147:Int),(151:Int)⟩:Span))))&&(decide ((⟨(ai:Int),(aj:Int)⟩:Span)=(⟨(795:Int),(805:Int)⟩:Span))))&&(decide ((⟨(am:Int),(ao:Int)⟩:Rto)=(⟨(20:Int),(1:Int)⟩:Rto))))&&(decide ((⟨(aw:Int),(ax:Int)⟩:Span)=(⟨(812:Int),(1959:Int)⟩:Span))))
theorem zee {R r}(hM:(zbd).Ends r)(w)(H:St w w [] R):Ret Tryz.prog 9 #[] w fun v w'=>∃ y0,y0=r/\v=B y0/\St w w' [] R:=by
 refine ret_of_W Tryz.func9 rfl rfl rfl ?_;refine kC 6 @zhA ?_;intro aN r0 r1 aO hM H;refine kC 0 @ze6 ?_;intro aP aa ac ae hM H;refine kA 3 ?_;intro aQ aR H;refine ksw ?_;intro aS H;refine kC 4 @zho ?_;intro aT aq au r2 r3 r4 r5 r6 ax ay hM H;obtain ⟨aU,aA,hM⟩:=M.e_bind hM;refine s_call cq [.agg #[I aq,I au,I r2,I r3,I r4,ax,ay],.slice none 0 0,I 320] rfl (zf0 aq au r2 r3 r4 r5 r6 ([]:List Int) 320 (rdo 0) (H.os 0) (rdo 1) (H.os 1) Reads.none (Sl.nil (fun _=>none)) aA _ (H.gt 4)) ?_;rintro _ aV ⟨al,am,ag,rfl,rfl,aj⟩;replace H:=H.bk aj;refine kA 3 ?_;intro aW aX H;refine ksw ?_;intro aY H;refine kg 2 ?_;replace H:=H.pk [0,3];refine kC 2 @zgJ ?_;intro aZ r7 aB hM H;obtain ⟨a7,aC,hM⟩:=M.e_bind hM;refine s_call cq [aB,.slice none 0 0,I 150] rfl (zeQ r7 ([]:List Int) 150 (rdo 0) (H.os 0) Reads.none (Sl.nil (fun _=>none)) aC _ (H.gt 3)) ?_;rintro _ a8 ⟨ao,ap,ba,bc,ah,rfl,rfl,aj⟩;replace H:=H.bk aj;refine kA 3 ?_;intro bg bi H;refine ksw ?_;intro bj H;refine kg 4 ?_;obtain ⟨bm,aD,hM⟩:=M.e_bind hM;refine s_call cq [.slice none 0 0] rfl (zf7 ([]:List Mrk) Reads.none (Sl.nil (fun _=>none)) aD _ (H.gt 4)) ?_;rintro _ bn ⟨aE,aF,aG,aH,bp,br,aI,aJ,rfl,rfl,aj,aK⟩;replace H:=H.bk aj;refine kL 0 (α:=Int) [0,1] ?_;intro aL bt H;obtain ⟨bu,aM,hM⟩:=M.e_bind hM;refine s_call cq [.agg #[aH,aI,aJ],aL,I 0] rfl (zfp aE aF aG ([(0:Int),(1:Int)]) 0 (Reads.sup (rdo 1) (Reads.of (k:=2) rfl roLe)) (rowSl rfl (H.get (k:=1) rfl) (roLe _ (H.get (k:=2) rfl)) aK) (rdo 3) (H.os 3) (rdo 4) (H.os 4) (rdo 0) (H.os 0) aM _ (H.gt 9)) ?_;rintro _ bv ⟨av,aw,ai,rfl,rfl,aj⟩;replace H:=H.bk aj;refine kA 3 ?_;intro bw bx H;refine ksw ?_;intro bz H;refine kg 2 ?_;replace H:=H.pk [0,6,8,9];refine kg 18 ?_;refine g_val ((((ae==0)&&(ag==0))&&(ah==0))&&(ai==0)) (gy_t rfl) (fun hg=>y_bld [I 147,I 151] rfl rfl jF)<|g_val ((((ae==0)&&(ag==0))&&(ah==0))&&(ai==0)) (gy_t rfl) (fun hg=>x_eqS (eqT42 (⟨(aa:Int),(ac:Int)⟩:Span) (⟨(147:Int),(151:Int)⟩:Span) _) gdT42 (gd_of hg (.agg #[I aa,I ac])) (gd_of hg (.agg #[I 147,I 151]))) ?_;refine kg 3 ?_;refine g_val (((((ae==0)&&(ag==0))&&(ah==0))&&(ai==0))&&(decide ((⟨(aa:Int),(ac:Int)⟩:Span)=(⟨(147:Int),(151:Int)⟩:Span)))) (gy_t rfl) (fun hg=>y_bld [I 795,I 805] rfl rfl jF)<|g_val (((((ae==0)&&(ag==0))&&(ah==0))&&(ai==0))&&(decide ((⟨(aa:Int),(ac:Int)⟩:Span)=(⟨(147:Int),(151:Int)⟩:Span)))) (gy_t rfl) (fun hg=>x_eqS (eqT42 (⟨(al:Int),(am:Int)⟩:Span) (⟨(795:Int),(805:Int)⟩:Span) _) gdT42 (gd_of hg (.agg #[I al,I am])) (gd_of hg (.agg #[I 795,I 805]))) ?_;refine kg 4 ?_;refine g_val ((((((ae==0)&&(ag==0))&&(ah==0))&&(ai==0))&&(decide ((⟨(aa:Int),(ac:Int)⟩:Span)=(⟨(147:Int),(151:Int)⟩:Span))))&&(decide ((⟨(al:Int),(am:Int)⟩:Span)=(⟨(795:Int),(805:Int)⟩:Span)))) (gy_t rfl) (fun hg=>y_bld [I 20,I 1] rfl rfl jF)<|g_val ((((((ae==0)&&(ag==0))&&(ah==0))&&(ai==0))&&(decide ((⟨(aa:Int),(ac:Int)⟩:Span)=(⟨(147:Int),(151:Int)⟩:Span))))&&(decide ((⟨(al:Int),(am:Int)⟩:Span)=(⟨(795:Int),(805:Int)⟩:Span)))) (gy_t rfl) (fun hg=>x_eqS (eqT73 (⟨(ao:Int),(ap:Int)⟩:Rto) (⟨(20:Int),(1:Int)⟩:Rto) _) gdT73 (gd_of hg (.agg #[I ao,I ap])) (gd_of hg (.agg #[I 20,I 1]))) ?_;refine kg 3 ?_;refine g_val (((((((ae==0)&&(ag==0))&&(ah==0))&&(ai==0))&&(decide ((⟨(aa:Int),(ac:Int)⟩:Span)=(⟨(147:Int),(151:Int)⟩:Span))))&&(decide ((⟨(al:Int),(am:Int)⟩:Span)=(⟨(795:Int),(805:Int)⟩:Span))))&&(decide ((⟨(ao:Int),(ap:Int)⟩:Rto)=(⟨(20:Int),(1:Int)⟩:Rto)))) (gy_t rfl) (fun hg=>y_bld [I 812,I 1959] rfl rfl jF)<|g_val (((((((ae==0)&&(ag==0))&&(ah==0))&&(ai==0))&&(decide ((⟨(aa:Int),(ac:Int)⟩:Span)=(⟨(147:Int),(151:Int)⟩:Span))))&&(decide ((⟨(al:Int),(am:Int)⟩:Span)=(⟨(795:Int),(805:Int)⟩:Span))))&&(decide ((⟨(ao:Int),(ap:Int)⟩:Rto)=(⟨(20:Int),(1:Int)⟩:Rto)))) (gy_t rfl) (fun hg=>x_eqS (eqT42 (⟨(av:Int),(aw:Int)⟩:Span) (⟨(812:Int),(1959:Int)⟩:Span) _) gdT42 (gd_of hg (.agg #[I av,I aw])) (gd_of hg (.agg #[I 812,I 1959]))) ?_;refine kg 3 ?_;replace H:=H.pk []
 exact rt

end Go.Proofs.YtaolcidinlnklaaGreat
end
namespace Go.Nm
open Go
theorem ptr_fat {p:Value} {off:Nat} (h:∃ b o,p = .pointer (some ⟨b,o,none⟩)):∃ b o,fat p off = .pointer (some ⟨b,o,none⟩):=by
  obtain ⟨b,o,rfl⟩:=h;exact ⟨b,o+off,by simp only [fat,add_lit]⟩
end Go.Nm
section
set_option maxRecDepth 100000
set_option maxHeartbeats 16000000
namespace Go.Proofs.YtaolcidinlnklaaGreat
open Go Go.Nm
attribute [local irreducible] gd execOp SL SLD SLT WR
def za1 (aa:List Int) (r3 ac ae:Int):((List Mrk) × Nat)->M (((List Mrk) × Nat) ⊕ ((List Mrk) × (List Mrk))):=fun (l,i) =>
  bif decide ((i:Int)<(l.length:Int)) then (
  M.grd (decide ((i:Int)<(l.length:Int))) <|
  M.gi (10*((l.getD i default).lo)) <|
  M.gi ((10*((l.getD i default).lo))-((aa.getD (Int.toNat r3) 0)-(aa.getD 0 0))) <|
  M.gi (((10*((l.getD i default).lo))-((aa.getD (Int.toNat r3) 0)-(aa.getD 0 0)))+ac) <|
  M.gi (10*((l.getD i default).hi)) <|
  M.gi ((10*((l.getD i default).hi))-((aa.getD (Int.toNat r3) 0)-(aa.getD 0 0))) <|
  M.gi (((10*((l.getD i default).hi))-((aa.getD (Int.toNat r3) 0)-(aa.getD 0 0)))+ae) <|
  M.gi ((((10*((l.getD i default).lo))-((aa.getD (Int.toNat r3) 0)-(aa.getD 0 0)))+ac)-9) <|
  M.grd (decide (0<=(max 0 ((((10*((l.getD i default).lo))-((aa.getD (Int.toNat r3) 0)-(aa.getD 0 0)))+ac)-9)))&&decide ((max 0 ((((10*((l.getD i default).lo))-((aa.getD (Int.toNat r3) 0)-(aa.getD 0 0)))+ac)-9))<=(9223372036854775807:Int))&&decide ((0:Int)<10)) <|
  M.gi ((max 0 (((10*((l.getD i default).hi))-((aa.getD (Int.toNat r3) 0)-(aa.getD 0 0)))+ae))+9) <|
  M.grd (decide (0<=((max 0 (((10*((l.getD i default).hi))-((aa.getD (Int.toNat r3) 0)-(aa.getD 0 0)))+ae))+9))&&decide (((max 0 (((10*((l.getD i default).hi))-((aa.getD (Int.toNat r3) 0)-(aa.getD 0 0)))+ae))+9)<=(9223372036854775807:Int))&&decide ((0:Int)<10)) <|
  M.pure (.inl (l.set i ({ (l.getD i default) with lo:=(max 0 ((((10*((l.getD i default).lo))-((aa.getD (Int.toNat r3) 0)-(aa.getD 0 0)))+ac)-9)) / 10,hi:=min 2000 (((max 0 (((10*((l.getD i default).hi))-((aa.getD (Int.toNat r3) 0)-(aa.getD 0 0)))+ae))+9) / 10) }),i+1)))
  else (
  M.pure (.inr (l,l)))
def zaX (l3:List Mrk):(Nat × (List Int))->M ((Nat × (List Int)) ⊕ ((List Int) × (List Int))):=fun (i2,l4) =>
  bif decide ((i2:Int)<(l3.length:Int)) then (
  M.grd (decide ((l4.length+([(i2:Int)]).length)*8<=140737488355328)) <|
  M.pure (.inl (i2+1,l4++([(i2:Int)]))))
  else (
  M.pure (.inr (l4,l4)))
def zaJ (r8:Int) (aa:List Span):Nat->M (Nat ⊕ (Unit ⊕ Unit)):=fun i3 =>
  bif decide ((i3:Int)<(aa.length:Int)) then (
  M.grd (decide ((i3:Int)<(aa.length:Int))) <|
  bif ((decide ((r8-20)<((aa.getD i3 default).lo)))||(decide (((aa.getD i3 default).hi)<(r8-20)))) then (
  M.pure (.inr (.inl ())))
  else (
  M.pure (.inl (i3+1))))
  else (
  M.pure (.inr (.inr ())))
def zco (nets sites low:List UInt8) (bench at_ sunk:Int):M Bool :=
  M.bind (zaI nets) fun (r1,r2) =>
  M.bind (zcC nets r1 r2 8) fun (aq,aD,ae,q1,q2) =>
  M.bind (zaI sites) fun (aE,aF) =>
  M.bind (zb7 sites aE aF 8 false) fun (ap,aG,aa,ac,ao,aX,aY) =>
  M.bind (zaE bench aq) fun r3 =>
  bif decide ((ae.length:Int)<=r3) then (
  M.pure false)
  else (
  M.bind (zbp aq aD 0 r3) fun (au,av,aw) =>
  bif aw==5 then (
  M.bind (zbd) fun r4 =>
  M.pure r4)
  else (
  M.grd (decide ((0:Int)<=r3)&&decide (r3<(ae.length:Int))) <|
  M.grd (decide (0<(ae.length:Int))) <|
  M.gi ((ae.getD (Int.toNat r3) 0)-(ae.getD 0 0)) <|
  bif (((aw != 0)||(decide (((ae.getD (Int.toNat r3) 0)-(ae.getD 0 0))<au)))||(decide (av<((ae.getD (Int.toNat r3) 0)-(ae.getD 0 0))))) then (
  M.pure false)
  else (
  M.bind (M.iter (za1 ae r3 au av) (aG,0)) fun (l2,l3) =>
  M.bind (M.iter (zaX l3) (0,[])) fun (l5,l6) =>
  M.bind (zdg ap l3 aa) fun (r0,aH) =>
  M.grd (decide (0<(aa.length:Int))) <|
  M.bind (zaW ap l3 aa l6 0) fun (ai,ah,aI) =>
  M.grd (decide ((0:Int)<=((aa.getD 0 default).up))&&decide (((aa.getD 0 default).up)<(ac.length:Int))) <|
  M.grd (decide ((0:Int)<=((aa.getD 0 default).down))&&decide (((aa.getD 0 default).down)<(ac.length:Int))) <|
  M.grd (decide ((0:Int)<=((aa.getD 0 default).up))&&decide (((aa.getD 0 default).up)<(ao.length:Int))) <|
  M.grd (decide ((0:Int)<=((aa.getD 0 default).down))&&decide (((aa.getD 0 default).down)<(ao.length:Int))) <|
  M.bind (zbu ap l3 aa 0 (⟨(ac.getD (Int.toNat ((aa.getD 0 default).up)) 0:Int),(ac.getD (Int.toNat ((aa.getD 0 default).down)) 0:Int),(ao.getD (Int.toNat ((aa.getD 0 default).up)) 0:Int),(ao.getD (Int.toNat ((aa.getD 0 default).down)) 0:Int)⟩:Cas)) fun (ag,aJ) =>
  bif ((((((aH != 0)||(aI != 0))||(aJ != 0))||((r0.length:Int) != (l6.length:Int)))||(decide (ag<ai)))||(decide (ah<ag))) then (
  M.pure false)
  else (
  M.bind (zdm low) fun (aj,al,am,aK,aL) =>
  bif aL != 0 then (
  M.pure false)
  else (
  bif ((((!aK)||(decide (ag<=aj)))||(decide (200000<ah)))||(decide ((ac.getD (Int.toNat ((aa.getD 0 default).up)) 0)<2))) then (
  M.bind (zbd) fun r5 =>
  M.pure r5)
  else (
  M.grd (decide (0<=(ac.getD (Int.toNat ((aa.getD 0 default).up)) 0))&&decide ((ac.getD (Int.toNat ((aa.getD 0 default).up)) 0)<=(9223372036854775807:Int))&&decide ((0:Int)<2)) <|
  M.bind (zcO ([(⟨((ac.getD (Int.toNat ((aa.getD 0 default).up)) 0) / 2:Int),(al:Int),(am:Int)⟩:Gg),(⟨(ac.getD (Int.toNat ((aa.getD 0 default).up)) 0:Int),(ai:Int),(ah:Int)⟩:Gg)]) ([]:List Int) ([(⟨((ac.getD (Int.toNat ((aa.getD 0 default).up)) 0) / 2:Int),(aj:Int),(ac.getD (Int.toNat ((aa.getD 0 default).up)) 0:Int),(ag:Int)⟩:RLn)])) fun (ax,ay) =>
  M.bind (zaE at_ 2001) fun r6 =>
  M.bind (zbh ([(⟨((ac.getD (Int.toNat ((aa.getD 0 default).up)) 0) / 2:Int),(al:Int),(am:Int)⟩:Gg),(⟨(ac.getD (Int.toNat ((aa.getD 0 default).up)) 0:Int),(ai:Int),(ah:Int)⟩:Gg)]) ([]:List Int) r6) fun (aM,aN,aO,aP,aA) =>
  M.bind (zcX ([]:List Int) ([(⟨((ac.getD (Int.toNat ((aa.getD 0 default).up)) 0) / 2:Int),(aj:Int),(ac.getD (Int.toNat ((aa.getD 0 default).up)) 0:Int),(ag:Int)⟩:RLn)]) r6) fun (aQ,aR,aB) =>
  M.bind (M.opt (!((((ay != 0)||(aA != 0))||(aB != 0))||(decide (0<(ax.length:Int))))) (zbV (⟨(aQ:Int),(aR:Int)⟩:Rto) aM aN aO aP) false) fun r7 =>
  bif (((((ay != 0)||(aA != 0))||(aB != 0))||(decide (0<(ax.length:Int))))||(!r7)) then (
  M.pure false)
  else (
  M.bind (zaE sunk 41) fun r8 =>
  M.gi (r8-20) <|
  M.gi (((ac.getD (Int.toNat ((aa.getD 0 default).up)) 0) / 2)+(r8-20)) <|
  M.gi ((ac.getD (Int.toNat ((aa.getD 0 default).up)) 0)+(r8-20)) <|
  M.bind (m_shift_Passes ([(⟨((ac.getD (Int.toNat ((aa.getD 0 default).up)) 0) / 2:Int),(aj:Int)⟩:SMk),(⟨(ac.getD (Int.toNat ((aa.getD 0 default).up)) 0:Int),(ag:Int)⟩:SMk)]) ([(⟨(1:Int),(((ac.getD (Int.toNat ((aa.getD 0 default).up)) 0) / 2)+(r8-20):Int),(al:Int),(am:Int)⟩:SGg),(⟨(2:Int),((ac.getD (Int.toNat ((aa.getD 0 default).up)) 0)+(r8-20):Int),(ai:Int),(ah:Int)⟩:SGg)])) fun (aC,aS) =>
  M.bind (m_shift_Moves ([(⟨((ac.getD (Int.toNat ((aa.getD 0 default).up)) 0) / 2:Int),(aj:Int)⟩:SMk),(⟨(ac.getD (Int.toNat ((aa.getD 0 default).up)) 0:Int),(ag:Int)⟩:SMk)]) ([(⟨(1:Int),(((ac.getD (Int.toNat ((aa.getD 0 default).up)) 0) / 2)+(r8-20):Int),(al:Int),(am:Int)⟩:SGg),(⟨(2:Int),((ac.getD (Int.toNat ((aa.getD 0 default).up)) 0)+(r8-20):Int),(ai:Int),(ah:Int)⟩:SGg)]) ([(r8-20:Int),(r8-20:Int)])) fun (aT,aU) =>
  M.bind (m_shift_Least ([(⟨((ac.getD (Int.toNat ((aa.getD 0 default).up)) 0) / 2:Int),(aj:Int)⟩:SMk),(⟨(ac.getD (Int.toNat ((aa.getD 0 default).up)) 0:Int),(ag:Int)⟩:SMk)]) ([(⟨(1:Int),(((ac.getD (Int.toNat ((aa.getD 0 default).up)) 0) / 2)+(r8-20):Int),(al:Int),(am:Int)⟩:SGg),(⟨(2:Int),((ac.getD (Int.toNat ((aa.getD 0 default).up)) 0)+(r8-20):Int),(ai:Int),(ah:Int)⟩:SGg)])) fun (aZ,aV,aW) =>
  bif ((((((aS != 0)||(aU != 0))||(aW != 0))||(aT != 0))||(aV != 0))||((aC.length:Int) != 2)) then (
  M.pure false)
  else (
  M.bind (M.iter (zaJ r8 aC) 0) fun x_=>match x_ with
  | (.inl (_:Unit))=>(
  M.pure false)
  | (.inr (_:Unit))=>(
  M.bind (zbd) fun r9 =>
  M.pure r9)))))))))
theorem zgq {R bi bj bm bn bp aW}(nets sites low bench at_ sunk)(cB:Reads R bi)(cC:Sl bi bj nets)(bF:Reads R bm)(bG:Sl bm bn sites)(cD:Reads R bp)(cE:Sl bp aW low){r}(hM:(zco nets sites low bench at_ sunk).Ends r)(w)(H:St w w [] R):Ret Tryz.prog 3 #[bj,bn,aW,I bench,I at_,I sunk] w fun v w'=>∃ y0,y0=r/\v=B y0/\St w w' [] R:=by
 refine ret_of_W Tryz.func3 rfl rfl rfl ?_;refine kC 7 @zdX ?_;intro cF r1 r2 cG hM H;refine kC 0 @zhK ?_;intro cH cI cJ ac q1 q2 cK bH hM H;refine kA 3 ?_;intro cL cM H;refine kS 0 ?_;intro cN H;refine kC 5 @zdX ?_;intro cO bI bJ bK hM H;obtain ⟨cQ,bL,hM⟩:=M.e_bind hM;refine s_call cq [Pq bK,I 8,B false] rfl (zhm sites bI bJ 8 false (bF.app _) bG bL _ (H.gt 4)) ?_;rintro _ cS ⟨bc,cT,aa,ag,aG,cU,cV,aK,br,bt,cW,aL,aM,aN,rfl,rfl,aA,bg⟩;replace H:=H.bk aA;refine kA 3 ?_;intro aX cX H;refine kal ?_;intro aY cY H;refine kS 0 ?_;intro cZ H;refine kS 0 ?_;intro c8 H;refine s_nil ?_;replace H:=H.pk [0,1,2,3,4,5,6,7,9,10,11];refine kC 5 @zdZ ?_;intro c9 r3 hM H;have da:=((H.os 10)).len_le;refine kg 7 ?_;refine s_val (x_lenS T26.h.und rfl (H.os 10)) ?_;refine kI 2 ?_ ?_
 ·intro bN hM;refine kg 4 ?_;replace H:=H.pk [];exact rt
 intro bN hM;refine kC 5 @ze6 ?_;intro db aB aI aJ hM H;refine kA 3 ?_;intro aZ dc H;refine ksw ?_;intro dg H;refine kg 2 ?_;replace H:=H.pk [0,1,2,3,4,5,6,7,8,11];refine kI 6 ?_ ?_
 ·intro bO hM;refine kC 2 @zee ?_;intro dh r4 hM H;refine kg 2 ?_;replace H:=H.pk [];exact rt
 intro bO hM;refine kD 2 [0,1,2,3,4,5,6,7,8,9] [] ?_;intro di H;obtain ⟨dj,hM⟩:=M.e_gq hM;obtain ⟨dk,hM⟩:=M.e_gq hM;obtain ⟨dm,hM⟩:=M.e_gq hM;refine kg 20 ?_;refine s_val (x_por (b:=aJ != 0) (r:=decide (((ac.getD (Int.toNat r3) 0)-(ac.getD 0 0))<aB)) rfl rfl (fun hb=>gd_of (c:=!(aJ != 0)) (by first | exact hb | (rw [hb]; rfl) | simp_all) (B (decide (((ac.getD (Int.toNat r3) 0)-(ac.getD 0 0))<aB)))))<|zM (B ((aJ != 0)||(decide (((ac.getD (Int.toNat r3) 0)-(ac.getD 0 0))<aB)))) rfl<|g_val (!((aJ != 0)||(decide (((ac.getD (Int.toNat r3) 0)-(ac.getD 0 0))<aB)))) (gy_f rfl) (fun hg=>x_mv (v:=I ((ac.getD (Int.toNat r3) 0)-(ac.getD 0 0))) rfl)<|g_val (!((aJ != 0)||(decide (((ac.getD (Int.toNat r3) 0)-(ac.getD 0 0))<aB)))) (gy_f rfl) (fun hg=>x_fa (v:=Oq aZ 1) rfl (fa_blk (o:=0) Fd42_1.h Sz3.h))<|g_val (!((aJ != 0)||(decide (((ac.getD (Int.toNat r3) 0)-(ac.getD 0 0))<aB)))) (gy_f rfl) (fun hg=>x_ld (v:=I aI) (gd_of hg (Oq aZ 1)) (ldb_sc Sc3.h (H.bl 0) rfl))<|g_val (!((aJ != 0)||(decide (((ac.getD (Int.toNat r3) 0)-(ac.getD 0 0))<aB)))) (gy_f rfl) (fun hg=>x_cmp (kd:=.i64) (r:=decide (aI<((ac.getD (Int.toNat r3) 0)-(ac.getD 0 0)))) (gd_of hg (I ((ac.getD (Int.toNat r3) 0)-(ac.getD 0 0)))) (gd_of hg (I aI)) rfl)<|s_val (x_por (b:=((aJ != 0)||(decide (((ac.getD (Int.toNat r3) 0)-(ac.getD 0 0))<aB)))) (r:=decide (aI<((ac.getD (Int.toNat r3) 0)-(ac.getD 0 0)))) rfl rfl (fun hb=>gd_of (c:=!((aJ != 0)||(decide (((ac.getD (Int.toNat r3) 0)-(ac.getD 0 0))<aB)))) (by first | exact hb | (rw [hb]; rfl) | simp_all) (B (decide (aI<((ac.getD (Int.toNat r3) 0)-(ac.getD 0 0))))))) ?_;refine kI 1 ?_ ?_
 ·intro bP hM;refine kg 4 ?_;replace H:=H.pk [];exact rt
 intro bP hM;refine kg 7 ?_;obtain ⟨bQ,bu,bR⟩:=M.e_bind hM;obtain ⟨bv,bu⟩:=M.e_iter bu;refine W.loop (fun m σ W=>∃ (l:List Mrk) (i:Nat) (aC:Value) (ρ:Env),σ=upds ρ [(2,aW),(4,I at_),(5,I sunk),(15,Pq aX),(16,Pq aY),(18,Pq aZ),(20,I ((ac.getD (Int.toNat r3) 0)-(ac.getD 0 0))),(21,I (i:Int))]/\M.iterN (za1 ac r3 aB aI) m (l,i)=some bQ/\St w W [cBlk aZ [I aB,I aI] 42,cBlk aY [aM,aN] 37,cBlk aX [aK,aC,aL] 35,cOwn (α:=Raw 1) 103 aK br,cRo bt,cOwn (α:=Mrk) 49 aC l,cOwn (α:=Rch) 53 aL aa,cOwn (α:=Int) 3 aM ag,cOwn (α:=Int) 3 aN aG,cOwn (α:=Int) 3 bH ac] R) ?_ ?_
 ·exact kY
 rintro dq σ dr ⟨l,i,aC,ρ,rfl,bS,H⟩;obtain ⟨dt,dv,dw,hM,bT⟩:=M.e_iterN bS;have dx:=((H.os 5)).len_le;refine kI 9 ?_ ?_
 ·intro bU hM;obtain ⟨dy,hM⟩:=M.e_gq hM;refine kD 13 [0,1,2,3,4,5,6,7,8,9] [] ?_;intro dz H;refine kg 1 ?_;refine d_q rfl (fun w' H=>x_ncE (p:=fat (vat aC 3 (Int.toNat (i:Int))) 1) rfl (ptr_fat (Sl.pl (i:=(i:Int)) (H.os 5) (by omega) (by omega))))<|d_q rfl (fun w' H=>x_fa (v:=fat (vat aC 3 (Int.toNat (i:Int))) 1) rfl (fa_pl2 (a:=1) (c:=1) Fd42_0.h Sz3.h (Sl.pl (i:=(i:Int)) (H.os 5) (by omega) (by omega)) rfl))<|d_q rfl (fun w' H=>x_ld (v:=I ((l.getD i default).lo)) rfl (ld_sc Sc3.h (At.mono (Mrk_at1 (H.os 5) (i:=(i:Int)) (by omega) (by omega)) (H.ol 5)))) ?_;obtain ⟨dA,hM⟩:=M.e_gq hM;obtain ⟨dB,hM⟩:=M.e_gq hM;obtain ⟨dC,hM⟩:=M.e_gq hM;refine kg 7 ?_;refine d_q rfl (fun w' H=>x_ncE (p:=fat (vat aC 3 (Int.toNat (i:Int))) 1) rfl (ptr_fat (Sl.pl (i:=(i:Int)) (H.os 5) (by omega) (by omega))))<|d_q rfl (fun w' H=>x_fa (v:=fat (vat aC 3 (Int.toNat (i:Int))) 2) rfl (fa_pl2 (a:=1) (c:=2) Fd42_1.h Sz3.h (Sl.pl (i:=(i:Int)) (H.os 5) (by omega) (by omega)) rfl))<|d_q rfl (fun w' H=>x_ld (v:=I ((l.getD i default).hi)) rfl (ld_sc Sc3.h (At.mono (Mrk_at2 (H.os 5) (i:=(i:Int)) (by omega) (by omega)) (H.ol 5)))) ?_;obtain ⟨dD,hM⟩:=M.e_gq hM;obtain ⟨dE,hM⟩:=M.e_gq hM;obtain ⟨dF,hM⟩:=M.e_gq hM;obtain ⟨dG,hM⟩:=M.e_gq hM;obtain ⟨dH,hM⟩:=M.e_gq hM;obtain ⟨dJ,hM⟩:=M.e_gq hM;obtain ⟨dK,hM⟩:=M.e_gq hM;refine kG 21 ?_;refine s_val (x_ncE (p:=fat (vat aC 3 (Int.toNat (i:Int))) 1) rfl (ptr_fat (Sl.pl (i:=(i:Int)) (H.os 5) (by omega) (by omega)))) ?_;refine kO 0 (α:=Mrk) ({ (l.getD i default) with lo:=(max 0 ((((10*((l.getD i default).lo))-((ac.getD (Int.toNat r3) 0)-(ac.getD 0 0)))+aB)-9)) / 10,hi:=min 2000 (((max 0 (((10*((l.getD i default).hi))-((ac.getD (Int.toNat r3) 0)-(ac.getD 0 0)))+aI))+9) / 10) }) ?_;intro dL H
  have dM:(l.set i ({ (l.getD i default) with lo:=(max 0 ((((10*((l.getD i default).lo))-((ac.getD (Int.toNat r3) 0)-(ac.getD 0 0)))+aB)-9)) / 10,hi:=min 2000 (((max 0 (((10*((l.getD i default).hi))-((ac.getD (Int.toNat r3) 0)-(ac.getD 0 0)))+aI))+9) / 10) })).length=(l).length:=List.length_set;exact kX 6
 intro bU hM;refine W.exit ?_;obtain rfl:=M.e_inr hM bT;replace hM:=bR;replace H:=H.pk [1,2,3,4,5,6,7,8];refine kg 10 ?_;replace H:=H.nilOwn (α:=Int) 3;obtain ⟨bV,bw,bW⟩:=M.e_bind hM;obtain ⟨bv,bw⟩:=M.e_iter bw;refine W.loop (fun m σ W=>∃ (i2:Nat) (l4:List Int) (aO:Value) (ρ:Env),σ=upds ρ [(2,aW),(4,I at_),(5,I sunk),(15,Pq aX),(16,Pq aY),(25,aO),(26,I (i2:Int))]/\M.iterN (zaX l) m (i2,l4)=some bV/\St w W [cOwn (α:=Int) 3 aO l4,cBlk aY [aM,aN] 37,cBlk aX [aK,aC,aL] 35,cOwn (α:=Raw 1) 103 aK br,cRo bt,cOwn (α:=Mrk) 49 aC l,cOwn (α:=Rch) 53 aL aa,cOwn (α:=Int) 3 aM ag,cOwn (α:=Int) 3 aN aG] R) ?_ ?_
 ·exact kY
 rintro dN σ dO ⟨i2,l4,aO,ρ,rfl,bX,H⟩;obtain ⟨dP,dQ,dR,hM,bY⟩:=M.e_iterN bX;have dS:=((H.os 5)).len_le;refine kI 9 ?_ ?_
 ·intro bZ hM;refine kL 6 (α:=Int) [i2] ?_;intro dU dV H;obtain ⟨dW,hM⟩:=M.e_gq hM;refine kP 0 ?_;intro dX dY H;exact kXp 7 [1,2,3,4,5,6,7,8,9]
 intro bZ hM;refine W.exit ?_;obtain rfl:=M.e_inr hM bY;replace hM:=bW;refine kg 3 ?_;obtain ⟨dZ,b7,hM⟩:=M.e_bind hM;refine s_call cq [.agg #[aK,aC,aL]] rfl (zhS bc l aa (Reads.sup (rdo 3) (Reads.of (k:=4) rfl roLe)) (rowSl rfl (H.get (k:=3) rfl) (roLe _ (H.get (k:=4) rfl)) bg) (rdo 5) (H.os 5) (rdo 6) (H.os 6) b7 _ (H.gt 9)) ?_;rintro _ d6 ⟨r0,ah,bx,rfl,rfl,aA⟩;replace H:=H.bk aA;obtain ⟨d7,hM⟩:=M.e_gq hM;refine kA 12 ?_;intro d8 d9 H;refine ksw ?_;intro ee H;refine kg 5 ?_;obtain ⟨ef,b8,hM⟩:=M.e_bind hM;refine s_call cq [.agg #[aK,aC,aL],aO,I 0] rfl (zfp bc l aa l4 0 (Reads.sup (rdo 5) (Reads.of (k:=6) rfl roLe)) (rowSl rfl (H.get (k:=5) rfl) (roLe _ (H.get (k:=6) rfl)) bg) (rdo 7) (H.os 7) (rdo 8) (H.os 8) (rdo 2) (H.os 2) b8 _ (H.gt 11)) ?_;rintro _ eg ⟨ax,au,ai,rfl,rfl,aA⟩;replace H:=H.bk aA;refine kA 3 ?_;intro aP ei H;refine ksw ?_;intro ej H;refine kD 3 [0,1,2,3,4,5,6,7,8,9,10,11] [26] ?_;intro eo H;obtain ⟨ep,hM⟩:=M.e_gq hM;refine kg 5 ?_;refine d_q rfl (fun w' H=>x_ix (v:=vat aM 1 (Int.toNat ((aa.getD 0 default).up))) rfl rfl (Sl.ix (α:=Int) T26.h.und T26.h.size (H.os 10) (by omega) (by omega)))<|d_q rfl (fun w' H=>x_ld (v:=I (ag.getD (Int.toNat ((aa.getD 0 default).up)) 0)) rfl (ld_sc Sc3.h (At.mono (Int_at (H.os 10) (i:=(aa.getD 0 default).up) (by omega) (by omega)) (H.ol 10)))) ?_;obtain ⟨er,hM⟩:=M.e_gq hM;refine kg 4 ?_;refine d_q rfl (fun w' H=>x_ix (v:=vat aM 1 (Int.toNat ((aa.getD 0 default).down))) rfl rfl (Sl.ix (α:=Int) T26.h.und T26.h.size (H.os 10) (by omega) (by omega)))<|d_q rfl (fun w' H=>x_ld (v:=I (ag.getD (Int.toNat ((aa.getD 0 default).down)) 0)) rfl (ld_sc Sc3.h (At.mono (Int_at (H.os 10) (i:=(aa.getD 0 default).down) (by omega) (by omega)) (H.ol 10)))) ?_;obtain ⟨eu,hM⟩:=M.e_gq hM;refine kg 4 ?_;refine d_q rfl (fun w' H=>x_ix (v:=vat aN 1 (Int.toNat ((aa.getD 0 default).up))) rfl rfl (Sl.ix (α:=Int) T26.h.und T26.h.size (H.os 11) (by omega) (by omega)))<|d_q rfl (fun w' H=>x_ld (v:=I (aG.getD (Int.toNat ((aa.getD 0 default).up)) 0)) rfl (ld_sc Sc3.h (At.mono (Int_at (H.os 11) (i:=(aa.getD 0 default).up) (by omega) (by omega)) (H.ol 11)))) ?_;obtain ⟨ew,hM⟩:=M.e_gq hM;refine kg 4 ?_;refine d_q rfl (fun w' H=>x_ix (v:=vat aN 1 (Int.toNat ((aa.getD 0 default).down))) rfl rfl (Sl.ix (α:=Int) T26.h.und T26.h.size (H.os 11) (by omega) (by omega)))<|d_q rfl (fun w' H=>x_ld (v:=I (aG.getD (Int.toNat ((aa.getD 0 default).down)) 0)) rfl (ld_sc Sc3.h (At.mono (Int_at (H.os 11) (i:=(aa.getD 0 default).down) (by omega) (by omega)) (H.ol 11))))<|d_q rfl (fun w' H=>y_bld [I (ag.getD (Int.toNat ((aa.getD 0 default).up)) 0),I (ag.getD (Int.toNat ((aa.getD 0 default).down)) 0),I (aG.getD (Int.toNat ((aa.getD 0 default).up)) 0),I (aG.getD (Int.toNat ((aa.getD 0 default).down)) 0)] rfl rfl jF)<|d_l rfl ?_;obtain ⟨ey,b9,hM⟩:=M.e_bind hM;refine s_call cq [.agg #[aK,aC,aL],I 0,.agg #[I (ag.getD (Int.toNat ((aa.getD 0 default).up)) 0),I (ag.getD (Int.toNat ((aa.getD 0 default).down)) 0),I (aG.getD (Int.toNat ((aa.getD 0 default).up)) 0),I (aG.getD (Int.toNat ((aa.getD 0 default).down)) 0)]] rfl (zgY bc l aa 0 (⟨(ag.getD (Int.toNat ((aa.getD 0 default).up)) 0:Int),(ag.getD (Int.toNat ((aa.getD 0 default).down)) 0:Int),(aG.getD (Int.toNat ((aa.getD 0 default).up)) 0:Int),(aG.getD (Int.toNat ((aa.getD 0 default).down)) 0:Int)⟩:Cas) (Reads.sup (rdo 6) (Reads.of (k:=7) rfl roLe)) (rowSl rfl (H.get (k:=6) rfl) (roLe _ (H.get (k:=7) rfl)) bg) (rdo 8) (H.os 8) (rdo 9) (H.os 9) b9 _ (H.gt 12)) ?_
 rintro _ eA ⟨ae,aj,rfl,rfl,aA⟩;replace H:=H.bk aA;refine kN ?_;refine kg 6 ?_;replace H:=H.pk [0,1,2,3,4,10,11];refine kg 8 ?_;refine s_val (x_por (b:=ah != 0) (r:=ai != 0) rfl rfl (fun hb=>gd_of (c:=!(ah != 0)) (by first | exact hb | (rw [hb]; rfl) | simp_all) (B (ai != 0))))<|zM (B ((ah != 0)||(ai != 0))) rfl<|g_val (!((ah != 0)||(ai != 0))) (gy_f rfl) (fun hg=>x_mv (v:=I aj) rfl)<|g_val (!((ah != 0)||(ai != 0))) (gy_f rfl) (fun hg=>x_cmp (kd:=.i64) (r:=aj != 0) (gd_of hg (I aj)) rfl rfl)<|s_val (x_por (b:=((ah != 0)||(ai != 0))) (r:=aj != 0) rfl rfl (fun hb=>gd_of (c:=!((ah != 0)||(ai != 0))) (by first | exact hb | (rw [hb]; rfl) | simp_all) (B (aj != 0))))<|zM (B (((ah != 0)||(ai != 0))||(aj != 0))) rfl<|g_val (!(((ah != 0)||(ai != 0))||(aj != 0))) (gy_f rfl) (fun hg=>x_mv (v:=bx) rfl)<|g_val (!(((ah != 0)||(ai != 0))||(aj != 0))) (gy_f rfl) (fun hg=>x_lenS T26.h.und (gd_of hg (bx)) (H.os 2))<|g_val (!(((ah != 0)||(ai != 0))||(aj != 0))) (gy_f rfl) (fun hg=>x_mv (v:=aO) rfl)<|g_val (!(((ah != 0)||(ai != 0))||(aj != 0))) (gy_f rfl) (fun hg=>x_lenS T26.h.und (gd_of hg (aO)) (H.os 3)) ?_;refine g_val (!(((ah != 0)||(ai != 0))||(aj != 0))) (gy_f rfl) (fun hg=>x_cmp (kd:=.i64) (r:=(r0.length:Int) != (l4.length:Int)) (gd_of hg (I (r0.length:Int))) (gd_of hg (I (l4.length:Int))) rfl)<|s_val (x_por (b:=(((ah != 0)||(ai != 0))||(aj != 0))) (r:=(r0.length:Int) != (l4.length:Int)) rfl rfl (fun hb=>gd_of (c:=!(((ah != 0)||(ai != 0))||(aj != 0))) (by first | exact hb | (rw [hb]; rfl) | simp_all) (B ((r0.length:Int) != (l4.length:Int)))))<|zM (B ((((ah != 0)||(ai != 0))||(aj != 0))||((r0.length:Int) != (l4.length:Int)))) rfl<|g_val (!((((ah != 0)||(ai != 0))||(aj != 0))||((r0.length:Int) != (l4.length:Int)))) (gy_f rfl) (fun hg=>x_mv (v:=I ae) rfl)<|g_val (!((((ah != 0)||(ai != 0))||(aj != 0))||((r0.length:Int) != (l4.length:Int)))) (gy_f rfl) (fun hg=>x_fa (v:=Pq aP) rfl (fa_blk (o:=0) Fd42_0.h Sz3.h))<|g_val (!((((ah != 0)||(ai != 0))||(aj != 0))||((r0.length:Int) != (l4.length:Int)))) (gy_f rfl) (fun hg=>x_ld (v:=I ax) (gd_of hg (Pq aP)) (ldb_sc Sc3.h (H.bl 0) rfl))<|g_val (!((((ah != 0)||(ai != 0))||(aj != 0))||((r0.length:Int) != (l4.length:Int)))) (gy_f rfl) (fun hg=>x_cmp (kd:=.i64) (r:=decide (ae<ax)) (gd_of hg (I ae)) (gd_of hg (I ax)) rfl)<|s_val (x_por (b:=((((ah != 0)||(ai != 0))||(aj != 0))||((r0.length:Int) != (l4.length:Int)))) (r:=decide (ae<ax)) rfl rfl (fun hb=>gd_of (c:=!((((ah != 0)||(ai != 0))||(aj != 0))||((r0.length:Int) != (l4.length:Int)))) (by first | exact hb | (rw [hb]; rfl) | simp_all) (B (decide (ae<ax)))))<|zM (B (((((ah != 0)||(ai != 0))||(aj != 0))||((r0.length:Int) != (l4.length:Int)))||(decide (ae<ax)))) rfl<|g_val (!(((((ah != 0)||(ai != 0))||(aj != 0))||((r0.length:Int) != (l4.length:Int)))||(decide (ae<ax)))) (gy_f rfl) (fun hg=>x_mv (v:=I ae) rfl) ?_;refine g_val (!(((((ah != 0)||(ai != 0))||(aj != 0))||((r0.length:Int) != (l4.length:Int)))||(decide (ae<ax)))) (gy_f rfl) (fun hg=>x_fa (v:=Oq aP 1) rfl (fa_blk (o:=0) Fd42_1.h Sz3.h))<|g_val (!(((((ah != 0)||(ai != 0))||(aj != 0))||((r0.length:Int) != (l4.length:Int)))||(decide (ae<ax)))) (gy_f rfl) (fun hg=>x_ld (v:=I au) (gd_of hg (Oq aP 1)) (ldb_sc Sc3.h (H.bl 0) rfl))<|g_val (!(((((ah != 0)||(ai != 0))||(aj != 0))||((r0.length:Int) != (l4.length:Int)))||(decide (ae<ax)))) (gy_f rfl) (fun hg=>x_cmp (kd:=.i64) (r:=decide (au<ae)) (gd_of hg (I ae)) (gd_of hg (I au)) rfl)<|s_val (x_por (b:=(((((ah != 0)||(ai != 0))||(aj != 0))||((r0.length:Int) != (l4.length:Int)))||(decide (ae<ax)))) (r:=decide (au<ae)) rfl rfl (fun hb=>gd_of (c:=!(((((ah != 0)||(ai != 0))||(aj != 0))||((r0.length:Int) != (l4.length:Int)))||(decide (ae<ax)))) (by first | exact hb | (rw [hb]; rfl) | simp_all) (B (decide (au<ae)))))<|s_nil ?_;replace H:=H.pk [0,1,4,5,6];refine kI 0 ?_ ?_
 ·intro cb hM;refine kg 4 ?_;replace H:=H.pk [];exact rt
 intro cb hM;refine kC 4 @zha ?_;intro eB aw a7 a8 aD eC hM H;refine kA 5 ?_;intro eD eE H;refine kS 1 ?_;intro eF H;refine kI 9 ?_ ?_
 ·intro cc hM;refine kg 4 ?_;replace H:=H.pk [];exact rt
 intro cc hM;refine kg 11 ?_;replace H:=H.pk [0,1];refine kg 9 ?_;refine s_val (x_por (b:=!aD) (r:=decide (ae<=aw)) rfl rfl (fun hb=>gd_of (c:=!(!aD)) (by first | exact hb | (rw [hb]; rfl) | simp_all) (B (decide (ae<=aw)))))<|zM (B ((!aD)||(decide (ae<=aw)))) rfl<|g_val (!((!aD)||(decide (ae<=aw)))) (gy_f rfl) (fun hg=>x_fa (v:=Oq aP 1) rfl (fa_blk (o:=0) Fd42_1.h Sz3.h))<|g_val (!((!aD)||(decide (ae<=aw)))) (gy_f rfl) (fun hg=>x_ld (v:=I au) (gd_of hg (Oq aP 1)) (ldb_sc Sc3.h (H.bl 1) rfl))<|g_val (!((!aD)||(decide (ae<=aw)))) (gy_f rfl) (fun hg=>x_cmp (kd:=.i64) (r:=decide (200000<au)) (gd_of hg (I au)) rfl rfl)<|s_val (x_por (b:=((!aD)||(decide (ae<=aw)))) (r:=decide (200000<au)) rfl rfl (fun hb=>gd_of (c:=!((!aD)||(decide (ae<=aw)))) (by first | exact hb | (rw [hb]; rfl) | simp_all) (B (decide (200000<au)))))<|zM (B (((!aD)||(decide (ae<=aw)))||(decide (200000<au)))) rfl<|g_val (!(((!aD)||(decide (ae<=aw)))||(decide (200000<au)))) (gy_f rfl) (fun hg=>x_mv (v:=I (ag.getD (Int.toNat ((aa.getD 0 default).up)) 0)) rfl)<|g_val (!(((!aD)||(decide (ae<=aw)))||(decide (200000<au)))) (gy_f rfl) (fun hg=>x_cmp (kd:=.i64) (r:=decide ((ag.getD (Int.toNat ((aa.getD 0 default).up)) 0)<2)) (gd_of hg (I (ag.getD (Int.toNat ((aa.getD 0 default).up)) 0))) rfl rfl)<|s_val (x_por (b:=(((!aD)||(decide (ae<=aw)))||(decide (200000<au)))) (r:=decide ((ag.getD (Int.toNat ((aa.getD 0 default).up)) 0)<2)) rfl rfl (fun hb=>gd_of (c:=!(((!aD)||(decide (ae<=aw)))||(decide (200000<au)))) (by first | exact hb | (rw [hb]; rfl) | simp_all) (B (decide ((ag.getD (Int.toNat ((aa.getD 0 default).up)) 0)<2))))) ?_;refine kI 1 ?_ ?_
 ·intro ce hM;refine kC 2 @zee ?_;intro eG r5 hM H;refine kg 2 ?_;replace H:=H.pk [];exact rt
 intro ce hM;obtain ⟨eH,hM⟩:=M.e_gq hM;refine kL 10 (α:=Gg) [⟨(ag.getD (Int.toNat ((aa.getD 0 default).up)) 0) / 2,a7,a8⟩,⟨ag.getD (Int.toNat ((aa.getD 0 default).up)) 0,ax,au⟩] ?_;intro bz eI H;refine kL 12 (α:=RLn) [⟨(ag.getD (Int.toNat ((aa.getD 0 default).up)) 0) / 2,aw,ag.getD (Int.toNat ((aa.getD 0 default).up)) 0,ae⟩] ?_;intro bA eJ H;refine kA 1 ?_;intro eK eL H;refine kS 0 ?_;intro eM H;refine kg 5 ?_;obtain ⟨eN,cf,hM⟩:=M.e_bind hM;refine s_call cq [bz,.agg #[.slice none 0 0,bA]] rfl (zhQ ([(⟨((ag.getD (Int.toNat ((aa.getD 0 default).up)) 0) / 2:Int),(a7:Int),(a8:Int)⟩:Gg),(⟨(ag.getD (Int.toNat ((aa.getD 0 default).up)) 0:Int),(ax:Int),(au:Int)⟩:Gg)]) ([]:List Int) ([(⟨((ag.getD (Int.toNat ((aa.getD 0 default).up)) 0) / 2:Int),(aw:Int),(ag.getD (Int.toNat ((aa.getD 0 default).up)) 0:Int),(ae:Int)⟩:RLn)]) (rdo 2) (H.os 2) Reads.none (Sl.nil (fun _=>none)) (rdo 1) (H.os 1) cf _ (H.gt 5)) ?_;rintro _ eO ⟨aE,ap,bB,rfl,rfl,aA⟩;replace H:=H.bk aA;refine kC 9 @zdZ ?_;intro eP r6 hM H;refine kg 6 ?_;obtain ⟨eQ,cg,hM⟩:=M.e_bind hM;refine s_call cq [bz,.slice none 0 0,I r6] rfl (zeQ ([(⟨((ag.getD (Int.toNat ((aa.getD 0 default).up)) 0) / 2:Int),(a7:Int),(a8:Int)⟩:Gg),(⟨(ag.getD (Int.toNat ((aa.getD 0 default).up)) 0:Int),(ax:Int),(au:Int)⟩:Gg)]) ([]:List Int) r6 (rdo 3) (H.os 3) Reads.none (Sl.nil (fun _=>none)) cg _ (H.gt 6)) ?_;rintro _ eR ⟨aQ,aR,aS,aT,aq,rfl,rfl,aA⟩;replace H:=H.bk aA;refine kA 3 ?_;intro eS eT H;refine ksw ?_;intro eU H;refine kg 6 ?_;obtain ⟨eV,ch,hM⟩:=M.e_bind hM;refine s_call cq [.agg #[.slice none 0 0,bA],I r6] rfl (zhG ([]:List Int) ([(⟨((ag.getD (Int.toNat ((aa.getD 0 default).up)) 0) / 2:Int),(aw:Int),(ag.getD (Int.toNat ((aa.getD 0 default).up)) 0:Int),(ae:Int)⟩:RLn)]) r6 Reads.none (Sl.nil (fun _=>none)) (rdo 3) (H.os 3) ch _ (H.gt 7)) ?_;rintro _ eW ⟨aU,aV,av,rfl,rfl,aA⟩;replace H:=H.bk aA;refine kA 3 ?_;intro eX eY H;refine ksw ?_;intro eZ H;refine kg 2 ?_;replace H:=H.pk [0,1,2,6,7];refine kg 8 ?_;refine s_val (x_por (b:=ap != 0) (r:=aq != 0) rfl rfl (fun hb=>gd_of (c:=!(ap != 0)) (by first | exact hb | (rw [hb]; rfl) | simp_all) (B (aq != 0))))<|zM (B ((ap != 0)||(aq != 0))) rfl<|g_val (!((ap != 0)||(aq != 0))) (gy_f rfl) (fun hg=>x_mv (v:=I av) rfl)<|g_val (!((ap != 0)||(aq != 0))) (gy_f rfl) (fun hg=>x_cmp (kd:=.i64) (r:=av != 0) (gd_of hg (I av)) rfl rfl)<|s_val (x_por (b:=((ap != 0)||(aq != 0))) (r:=av != 0) rfl rfl (fun hb=>gd_of (c:=!((ap != 0)||(aq != 0))) (by first | exact hb | (rw [hb]; rfl) | simp_all) (B (av != 0))))<|zM (B (((ap != 0)||(aq != 0))||(av != 0))) rfl<|g_val (!(((ap != 0)||(aq != 0))||(av != 0))) (gy_f rfl) (fun hg=>x_mv (v:=bB) rfl)<|g_val (!(((ap != 0)||(aq != 0))||(av != 0))) (gy_f rfl) (fun hg=>x_lenS T26.h.und (gd_of hg (bB)) (H.os 2))<|g_val (!(((ap != 0)||(aq != 0))||(av != 0))) (gy_f rfl) (fun hg=>x_cmp (kd:=.i64) (r:=decide (0<(aE.length:Int))) (gd_of hg (I (aE.length:Int))) rfl rfl)<|s_val (x_por (b:=(((ap != 0)||(aq != 0))||(av != 0))) (r:=decide (0<(aE.length:Int))) rfl rfl (fun hb=>gd_of (c:=!(((ap != 0)||(aq != 0))||(av != 0))) (by first | exact hb | (rw [hb]; rfl) | simp_all) (B (decide (0<(aE.length:Int)))))) ?_;refine zM (B ((((ap != 0)||(aq != 0))||(av != 0))||(decide (0<(aE.length:Int))))) rfl<|g_val (!((((ap != 0)||(aq != 0))||(av != 0))||(decide (0<(aE.length:Int))))) (gy_f rfl) (fun hg=>x_ld (v:=.agg #[I aU,I aV]) rfl (ldb_ag (ds:=[I aU,I aV]) Ag73.h Sz73.h (H.bl 0) rfl rfl))<|g_val (!((((ap != 0)||(aq != 0))||(av != 0))||(decide (0<(aE.length:Int))))) (gy_f rfl) (fun hg=>x_ld (v:=.agg #[I aQ,I aR,I aS,I aT]) rfl (ldb_ag (ds:=[I aQ,I aR,I aS,I aT]) Ag75.h Sz75.h (H.bl 1) rfl rfl)) ?_;obtain ⟨r7,cj,hM⟩:=M.e_bind hM;refine t_gcall (!((((ap != 0)||(aq != 0))||(av != 0))||(decide (0<(aE.length:Int))))) (gy_f rfl) cq (B r7) (fun _=>[.agg #[I aU,I aV],.agg #[I aQ,I aR,I aS,I aT]]) (fun hg=>lst2 (gd_of hg (.agg #[I aU,I aV])) (gd_of hg (.agg #[I aQ,I aR,I aS,I aT]))) H (fun hg=>(zgv (⟨(aU:Int),(aV:Int)⟩:Rto) aQ aR aS aT (M.e_opt cj hg) _ (H.give (A:=[]) rfl)).mono fun v_ w_ ⟨y_,ck,cn,H_⟩=>by subst ck; exact ⟨cn,H.via H_⟩) ?_;intro e7 H;refine g_val (!((((ap != 0)||(aq != 0))||(av != 0))||(decide (0<(aE.length:Int))))) (gy_f rfl) (fun hg=>x_not (b:=r7) (gd_of hg (B r7)))<|s_val (x_por (b:=((((ap != 0)||(aq != 0))||(av != 0))||(decide (0<(aE.length:Int))))) (r:=!r7) rfl rfl (fun hb=>gd_of (c:=!((((ap != 0)||(aq != 0))||(av != 0))||(decide (0<(aE.length:Int))))) (by first | exact hb | (rw [hb]; rfl) | simp_all) (B (!r7))))<|s_nil ?_;replace H:=H.pk [3,4];refine kI 0 ?_ ?_
 ·intro cp hM;refine kg 4 ?_;replace H:=H.pk [];exact rt
 intro cp hM;refine kC 4 @zdZ ?_;intro e8 r8 hM H;obtain ⟨e9,hM⟩:=M.e_gq hM;refine kL 12 (α:=SMk) [⟨(ag.getD (Int.toNat ((aa.getD 0 default).up)) 0) / 2,aw⟩,⟨ag.getD (Int.toNat ((aa.getD 0 default).up)) 0,ae⟩] ?_;intro fd fg H;obtain ⟨fh,hM⟩:=M.e_gq hM;refine kG 6 ?_;obtain ⟨fi,hM⟩:=M.e_gq hM;refine kL 5 (α:=SGg) [⟨1,((ag.getD (Int.toNat ((aa.getD 0 default).up)) 0) / 2)+(r8-20),a7,a8⟩,⟨2,(ag.getD (Int.toNat ((aa.getD 0 default).up)) 0)+(r8-20),ax,au⟩] ?_;intro fj fk H;refine kA 1 ?_;intro fm fo H;refine kS 0 ?_;intro fp H;refine s_nil ?_;replace H:=H.pk [0,1,2];refine kC 3 @shift_Passes_ok ?_;intro fq aH al ba hM H;refine kL 11 (α:=Int) [r8-20,r8-20] ?_;intro fu fv H;refine kC 0 @shift_Moves_ok ?_;intro fw ay am hM H;refine kC 9 @shift_Least_ok ?_;intro fy fA aF ao fB hM H;refine kg 8 ?_;replace H:=H.pk [2];refine kg 8 ?_;refine s_val (x_por (b:=al != 0) (r:=am != 0) rfl rfl (fun hb=>gd_of (c:=!(al != 0)) (by first | exact hb | (rw [hb]; rfl) | simp_all) (B (am != 0))))<|zM (B ((al != 0)||(am != 0))) rfl<|g_val (!((al != 0)||(am != 0))) (gy_f rfl) (fun hg=>x_mv (v:=I ao) rfl)<|g_val (!((al != 0)||(am != 0))) (gy_f rfl) (fun hg=>x_cmp (kd:=.i64) (r:=ao != 0) (gd_of hg (I ao)) rfl rfl)<|s_val (x_por (b:=((al != 0)||(am != 0))) (r:=ao != 0) rfl rfl (fun hb=>gd_of (c:=!((al != 0)||(am != 0))) (by first | exact hb | (rw [hb]; rfl) | simp_all) (B (ao != 0))))<|zM (B (((al != 0)||(am != 0))||(ao != 0))) rfl<|g_val (!(((al != 0)||(am != 0))||(ao != 0))) (gy_f rfl) (fun hg=>x_mv (v:=I ay) rfl)<|g_val (!(((al != 0)||(am != 0))||(ao != 0))) (gy_f rfl) (fun hg=>x_cmp (kd:=.i64) (r:=ay != 0) (gd_of hg (I ay)) rfl rfl)<|s_val (x_por (b:=(((al != 0)||(am != 0))||(ao != 0))) (r:=ay != 0) rfl rfl (fun hb=>gd_of (c:=!(((al != 0)||(am != 0))||(ao != 0))) (by first | exact hb | (rw [hb]; rfl) | simp_all) (B (ay != 0))))<|zM (B ((((al != 0)||(am != 0))||(ao != 0))||(ay != 0))) rfl ?_;refine g_val (!((((al != 0)||(am != 0))||(ao != 0))||(ay != 0))) (gy_f rfl) (fun hg=>x_mv (v:=I aF) rfl)<|g_val (!((((al != 0)||(am != 0))||(ao != 0))||(ay != 0))) (gy_f rfl) (fun hg=>x_cmp (kd:=.i64) (r:=aF != 0) (gd_of hg (I aF)) rfl rfl)<|s_val (x_por (b:=((((al != 0)||(am != 0))||(ao != 0))||(ay != 0))) (r:=aF != 0) rfl rfl (fun hb=>gd_of (c:=!((((al != 0)||(am != 0))||(ao != 0))||(ay != 0))) (by first | exact hb | (rw [hb]; rfl) | simp_all) (B (aF != 0))))<|zM (B (((((al != 0)||(am != 0))||(ao != 0))||(ay != 0))||(aF != 0))) rfl<|g_val (!(((((al != 0)||(am != 0))||(ao != 0))||(ay != 0))||(aF != 0))) (gy_f rfl) (fun hg=>x_mv (v:=ba) rfl)<|g_val (!(((((al != 0)||(am != 0))||(ao != 0))||(ay != 0))||(aF != 0))) (gy_f rfl) (fun hg=>x_lenS T88.h.und (gd_of hg (ba)) (H.os 0))<|g_val (!(((((al != 0)||(am != 0))||(ao != 0))||(ay != 0))||(aF != 0))) (gy_f rfl) (fun hg=>x_cmp (kd:=.i64) (r:=(aH.length:Int) != 2) (gd_of hg (I (aH.length:Int))) rfl rfl)<|s_val (x_por (b:=(((((al != 0)||(am != 0))||(ao != 0))||(ay != 0))||(aF != 0))) (r:=(aH.length:Int) != 2) rfl rfl (fun hb=>gd_of (c:=!(((((al != 0)||(am != 0))||(ao != 0))||(ay != 0))||(aF != 0))) (by first | exact hb | (rw [hb]; rfl) | simp_all) (B ((aH.length:Int) != 2)))) ?_;refine kI 1 ?_ ?_
 ·intro cr hM;refine kg 4 ?_;exact rt
 intro cr hM;refine kg 7 ?_;obtain ⟨ct,bC,bD⟩:=M.e_bind hM;obtain ⟨bv,bC⟩:=M.e_iter bC;refine W.loop (fun m σ W=>∃ (i3:Nat) (ρ:Env),σ=upds ρ [(43,I (r8-20)),(45,ba),(49,I (i3:Int))]/\M.iterN (zaJ r8 aH) m i3=some ct/\St w W [cOwn (α:=Span) 42 ba aH] R) ?_ ?_
 ·exact kY
 rintro fC σ fD ⟨i3,ρ,rfl,cv,H⟩;obtain ⟨fE,fG,fH,hM,bE⟩:=M.e_iterN cv;have fI:=((H.os 0)).len_le;refine kI 8 ?_ ?_
 ·intro cw hM;obtain ⟨fJ,hM⟩:=M.e_gq hM;refine kg 20 ?_;refine s_val (x_por (b:=decide ((r8-20)<((aH.getD i3 default).lo))) (r:=decide (((aH.getD i3 default).hi)<(r8-20))) rfl rfl (fun hb=>gd_of (c:=!(decide ((r8-20)<((aH.getD i3 default).lo)))) (by first | exact hb | (rw [hb]; rfl) | simp_all) (B (decide (((aH.getD i3 default).hi)<(r8-20)))))) ?_;refine kI 1 ?_ ?_
  ·intro cA hM;refine kg 4 ?_;obtain rfl:=M.e_inr hM bE;replace hM:=bD;exact rt
  intro cA hM;exact kX 6
 intro cw hM;refine W.exit ?_;obtain rfl:=M.e_inr hM bE;replace hM:=bD;refine kC 2 @zee ?_;intro fK r9 hM H;refine kg 2 ?_;exact rt

end Go.Proofs.YtaolcidinlnklaaGreat
end
