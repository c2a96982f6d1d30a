/- Part 4 of the texts on which the proof rests. Conditions: none. -/
import Derived.Test.YtkclldpnmolljaaGreatZA3
set_option linter.unusedVariables false
set_option linter.unusedSimpArgs false
set_option linter.unusedSectionVars false
namespace Go.Nm
open Go
section
variable {P:Program} {w:World} {σ:Env} {d:Nat} {ty:TypeId} {pos:String} {af:Array Edge} {g:Option (Nat × Bool)}
theorem x_shl {t yt:TypeId} {x y:Operand} {a b:Int} {n:Nat} (hx:ev σ x = .int .i64 a) (hy:ev σ y = .int .i64 b) (h:b=(n:Int)/\n<=62/\-9223372036854775808<=a*2 ^ n/\a*2 ^ n<=9223372036854775807) :
    (execOp (ev σ) ⟨some d,.binOp .shl t x y yt,ty,pos,af,g⟩).run P w = .ok (.value (.int .i64 (a*2 ^ n))) w:=by
  obtain ⟨rfl,h1,h2,h3⟩:=h
  have hn:¬ ((n:Int)<0):=by omega
  have hm:min n IntKind.i64.bits=n:=Nat.min_eq_left (by show n<=64; omega)
  simp [execOp,hx,hy,eqGuard,binOp,Op.shift,hn,hm,wrap64 (a:=a*2 ^ n) ⟨h2,h3⟩]
theorem x_shr {t yt:TypeId} {x y:Operand} {a b:Int} {n:Nat} (hx:ev σ x = .int .i64 a) (hy:ev σ y = .int .i64 b) (h:b=(n:Int)/\n<=62) :
    (execOp (ev σ) ⟨some d,.binOp .shr t x y yt,ty,pos,af,g⟩).run P w = .ok (.value (.int .i64 (a / 2 ^ n))) w:=by
  obtain ⟨rfl,h1⟩:=h
  have hn:¬ ((n:Int)<0):=by omega
  have hm:min n IntKind.i64.bits=n:=Nat.min_eq_left (by show n<=64; omega)
  have hf:a.fdiv (2 ^ n)=a / 2 ^ n:=Int.fdiv_eq_ediv_of_nonneg _ (Int.le_of_lt (Int.pow_pos (by decide)))
  simp [execOp,hx,hy,eqGuard,binOp,Op.shift,hn,hm,hf]
theorem x_and1 {t yt:TypeId} {x y:Operand} {a:Int} (hx:ev σ x = .int .i64 a) (hy:ev σ y = .int .i64 1) (h:0<=a/\a<=9223372036854775807) :
    (execOp (ev σ) ⟨some d,.binOp .and t x y yt,ty,pos,af,g⟩).run P w = .ok (.value (.int .i64 (a % 2))) w:=by
  have e:(((a % 2 ^ IntKind.i64.bits).toNat &&& 1 % 2 ^ IntKind.i64.bits:Nat):Int)=a % 2:=by
    show (((a % 18446744073709551616).toNat &&& 1:Nat):Int)=a % 2
    rw [Nat.and_one_is_mod]
    omega
  simp [execOp,hx,hy,eqGuard,binOp,Op.intBits]
  rw [e,wrap64 (a:=a % 2) (by omega)]
end
end Go.Nm
section
set_option maxRecDepth 100000
set_option maxHeartbeats 16000000
namespace Go.Proofs.YtkclldpnmolljaaGreat
open Go Go.Nm
attribute [local irreducible] gd execOp SL SLD SLT WR
def zdo (w_:List Work) (l:List Int):Nat->M (Nat ⊕ (Unit ⊕ Unit)):=fun i =>
  bif decide ((i:Int)<(l.length:Int)) then (
  M.grd (decide ((i:Int)<(l.length:Int))) <|
  M.bind (zao (l.getD i 0) 0 ((w_.length:Int)-1)) fun r2 =>
  bif r2 then (
  M.pure (.inr (.inl ())))
  else (
  M.pure (.inl (i+1))))
  else (
  M.pure (.inr (.inr ())))
def zd6 (l:List Int):Nat->M (Nat ⊕ (Unit ⊕ Unit)):=fun i2 =>
  bif decide ((i2:Int)<(l.length:Int)) then (
  M.grd (decide ((i2:Int)<(l.length:Int))) <|
  M.grd (decide ((-9223372036854775808:Int)<=((i2:Int)-1))&&decide (((i2:Int)-1)<=(9223372036854775807:Int))) <|
  M.grd (decide ((0:Int)<=((i2:Int)-1))&&decide (((i2:Int)-1)<(l.length:Int))) <|
  bif decide ((l.getD i2 0)<=(l.getD (Int.toNat ((i2:Int)-1)) 0)) then (
  M.pure (.inr (.inl ())))
  else (
  M.pure (.inl (i2+1))))
  else (
  M.pure (.inr (.inr ())))
def zbC (w_:List Work) (l:List Int):M Int :=
  M.bind (M.iter (zdo w_ l) 0) fun x_=>match x_ with
  | (.inl (_:Unit))=>(
  M.pure 2)
  | (.inr (_:Unit))=>(
  M.bind (M.iter (zd6 l) 1) fun x_=>match x_ with
  | (.inl (_:Unit))=>(
  M.pure 9)
  | (.inr (_:Unit))=>(
  M.pure 0))
theorem zb8 {R:List Chunk} {ao:Cells} {ah:Value} {ap:Cells} {ag:Value} (w_:List Work) (l:List Int) (aN:Reads R ao) (aA:Sl ao ah w_) (aO:Reads R ap) (aq:Sl ap ag l) {r:Int} (hM:(zbC w_ l).Ends r) (w:World) (H:St w w [] R):Ret Tryz.prog 81 #[ah,ag] w fun v w'=>∃ (y0:Int),y0=r/\v=I y0/\St w w' [] R:=by
 refine ret_of_W Tryz.func81 rfl rfl rfl ?_;refine kg 10 ?_;obtain ⟨aB,ai,au⟩:=M.e_bind hM
 obtain ⟨aC,ai⟩:=M.e_iter ai
 refine W.loop (fun m σ W=>∃ (i:Nat) (ρ:Env),σ=upds ρ [(0,ah),(1,ag),(5,I (i:Int))]/\M.iterN (zdo w_ l) m i=some aB/\St w W [] R) ?_ ?_
 ·exact ⟨_,0,_,upds_of _ _ ⟨rfl,rfl,rfl,trivial⟩,ai,H⟩
 rintro aP σ aQ ⟨i,ρ,rfl,av,H⟩
 obtain ⟨aD,aE,aR,hM,aj⟩:=M.e_iterN av
 simp only [zdo] at hM
 clear av
 have aS:=(aq).len_le
 refine kg 8 ?_
 refine W.cond (decide ((i:Int)<(l.length:Int))) rfl (fun aa=>?_) (fun aa=>?_)
 ·replace hM:=M.e_t hM aa
  replace aa:=dI aa
  obtain ⟨aT,hM⟩:=M.e_gd hM
  have aU:=(aA).len_le
  refine kg 12 ?_;obtain ⟨aV,aF,hM⟩:=M.e_bind hM;refine s_call cf68 [I (l.getD i 0),I 0,I ((w_.length:Int)-1)] rfl (zas (l.getD i 0) 0 ((w_.length:Int)-1) aF _ (H.gt 0)) ?_
  rintro vq aW ⟨r2,rfl,hvq,aw⟩
  subst vq;(try dsimp only at hM);replace H:=H.bk aw;clear aw;refine s_nil ?_
  refine W.cond r2 rfl (fun ak=>?_) (fun ak=>?_)
  ·replace hM:=M.e_t hM ak;refine kg 4 ?_;refine W.ret ?_
   have aG:=M.e_inr hM aj
   subst aG;replace hM:=au;(try dsimp only at hM)
   have ae:=M.e_pure hM
   exact ⟨_,resE_tmp rfl,⟨2,ae,rfl,H⟩⟩
  replace hM:=M.e_f hM ak;refine kg 6 ?_
  exact ⟨aD,aE,i+1,_,upds_of _ _ ⟨rfl,rfl,rfl,trivial⟩,M.e_inl hM aj,H⟩
 replace hM:=M.e_f hM aa
 replace aa:=dI aa
 refine W.exit ?_
 have aH:=M.e_inr hM aj
 subst aH;replace hM:=au;(try dsimp only at hM);refine kg 6 ?_;obtain ⟨aI,al,ax⟩:=M.e_bind hM
 obtain ⟨aC,al⟩:=M.e_iter al
 refine W.loop (fun m σ W=>∃ (i2:Nat) (ρ:Env),σ=upds ρ [(1,ag),(6,I (i2:Int))]/\M.iterN (zd6 l) m i2=some aI/\St w W [] R) ?_ ?_
 ·exact ⟨_,1,_,upds_of _ _ ⟨rfl,rfl,trivial⟩,al,H⟩
 rintro aX σ aY ⟨i2,ρ,rfl,ay,H⟩
 obtain ⟨aJ,aK,aZ,hM,am⟩:=M.e_iterN ay
 simp only [zd6] at hM
 clear ay
 have a0:=(aq).len_le
 refine kg 8 ?_
 refine W.cond (decide ((i2:Int)<(l.length:Int))) rfl (fun ab=>?_) (fun ab=>?_)
 ·replace hM:=M.e_t hM ab
  replace ab:=dI ab
  refine kg 4 ?_;refine W.draw (fun W=>St w W [] R) [(0,true),(1,true),(2,true),(3,true),(4,true),(5,true),(6,true),(7,true),(8,true),(9,true)] mixed (by decide +kernel) rfl ?_;intro a4 az;replace H:=H.ext az;clear az
  refine ⟨(H.pk []),?_⟩
  obtain ⟨a5,hM⟩:=M.e_gd hM;obtain ⟨a6,hM⟩:=M.e_gd hM;obtain ⟨a7,hM⟩:=M.e_gd hM;refine kg 11 ?_
  refine W.cond (decide ((l.getD i2 0)<=(l.getD (Int.toNat ((i2:Int)-1)) 0))) rfl (fun ac=>?_) (fun ac=>?_)
  ·replace hM:=M.e_t hM ac
   replace ac:=dI ac
   refine kg 4 ?_;refine W.ret ?_
   have aL:=M.e_inr hM am
   subst aL;replace hM:=ax;(try dsimp only at hM)
   have ae:=M.e_pure hM
   exact ⟨_,resE_tmp rfl,⟨9,ae,rfl,H⟩⟩
  replace hM:=M.e_f hM ac
  replace ac:=dI ac
  refine kg 6 ?_
  exact ⟨aJ,aK,i2+1,_,upds_of _ _ ⟨rfl,rfl,trivial⟩,M.e_inl hM am,H⟩
 replace hM:=M.e_f hM ab
 replace ab:=dI ab
 refine W.exit ?_
 have aM:=M.e_inr hM am
 subst aM;replace hM:=ax;(try dsimp only at hM);refine kg 4 ?_;refine W.ret ?_
 have ae:=M.e_pure hM
 exact ⟨_,resE_tmp rfl,⟨0,ae,rfl,H⟩⟩

def zc4 (revised:List Int) (r4:List (List Bool)) (i:Nat):(Bool × Nat)->M ((Bool × Nat) ⊕ Bool):=fun (is,k) =>
  bif decide ((k:Int)<(revised.length:Int)) then (
  M.grd ((!(!is)||(decide ((k:Int)<(revised.length:Int))))) <|
  M.grd ((!(!is)||(decide ((0:Int)<=(revised.getD k 0))&&decide ((revised.getD k 0)<(r4.length:Int))))) <|
  M.grd ((!(!is)||(decide ((i:Int)<((r4.getD (Int.toNat (revised.getD k 0)) ([])).length:Int))))) <|
  M.pure (.inl ((is||((r4.getD (Int.toNat (revised.getD k 0)) ([])).getD i false)),k+1)))
  else (
  M.pure (.inr is))
def zdH (w_:List Work) (revised:List Int) (r4:List (List Bool)):(Nat × (List Int))->M ((Nat × (List Int)) ⊕ ((List Int) × (List Int))):=fun (i,l) =>
  bif decide ((i:Int)<(w_.length:Int)) then (
  M.bind (zad revised (i:Int)) fun r5 =>
  M.bind (M.iter (zc4 revised r4 i) (r5,0)) fun is2 =>
  bif is2 then (
  M.grd (decide ((l.length+([(i:Int)]).length)*8<=140737488355328)) <|
  M.pure (.inl (i+1,l++([(i:Int)]))))
  else (
  M.pure (.inl (i+1,l))))
  else (
  M.pure (.inr (l,l)))
def za7 (w_:List Work) (revised:List Int):M ((List Int) × Int) :=
  M.bind (zaK w_) fun r2 =>
  bif r2 != 0 then (
  M.pure (([]),r2))
  else (
  M.bind (zbC w_ revised) fun r3 =>
  bif r3 != 0 then (
  M.pure (([]),r3))
  else (
  M.bind (zbN w_) fun r4 =>
  M.bind (M.iter (zdH w_ revised r4) (0,[])) fun (l2,l3) =>
  M.pure (l3,0)))
theorem zbp {R:List Chunk} {aG:Cells} {ae:Value} {aH:Cells} {aq:Value} (w_:List Work) (revised:List Int) (ax:Reads R aG) (aw:Sl aG ae w_) (aI:Reads R aH) (ay:Sl aH aq revised) {r:((List Int) × Int)} (hM:(za7 w_ revised).Ends r) (w:World) (H:St w w [] R):Ret Tryz.prog 36 #[ae,aq] w fun v w'=>∃ (y0:List Int) (y1:Int) (u0:Value),(y0,y1)=r/\v = .tuple #[u0,I y1]/\St w w' [cOwn (α:=Int) 3 u0 y0] R:=by
 refine ret_of_W Tryz.func36 rfl rfl rfl ?_;refine kg 9 ?_;obtain ⟨a9,aP,hM⟩:=M.e_bind hM;refine s_call cf14 [ae] rfl (zbe w_ (ax.app _) aw aP _ (H.gt 0)) ?_
 rintro vq ba ⟨r2,rfl,hvq,ac⟩
 subst vq;(try dsimp only at hM);replace H:=H.bk ac;clear ac;refine kg 7 ?_
 refine W.cond (r2 != 0) rfl (fun ag=>?_) (fun ag=>?_)
 ·replace hM:=M.e_t hM ag
  replace ag:=dI ag
  refine kg 6 ?_;refine W.ret ?_
  have au:=M.e_pure hM
  replace H:=H.nilOwn (α:=Int) 3
  exact ⟨_,resE_tmp2 rfl,⟨([]),r2,(.slice none 0 0),au,rfl,H⟩⟩
 replace hM:=M.e_f hM ag
 replace ag:=dI ag
 refine kg 6 ?_;obtain ⟨bb,aQ,hM⟩:=M.e_bind hM;refine s_call cf81 [ae,aq] rfl (zb8 w_ revised (ax.app _) aw (aI.app _) ay aQ _ (H.gt 0)) ?_
 rintro vq bc ⟨r3,rfl,hvq,ac⟩
 subst vq;(try dsimp only at hM);replace H:=H.bk ac;clear ac;refine kg 7 ?_
 refine W.cond (r3 != 0) rfl (fun ah=>?_) (fun ah=>?_)
 ·replace hM:=M.e_t hM ah
  replace ah:=dI ah
  refine kg 6 ?_;refine W.ret ?_
  have au:=M.e_pure hM
  replace H:=H.nilOwn (α:=Int) 3
  exact ⟨_,resE_tmp2 rfl,⟨([]),r3,(.slice none 0 0),au,rfl,H⟩⟩
 replace hM:=M.e_f hM ah
 replace ah:=dI ah
 refine kg 4 ?_;obtain ⟨bf,aR,hM⟩:=M.e_bind hM;refine s_call cf54 [ae] rfl (zdl w_ (ax.app _) aw aR _ (H.gt 0)) ?_
 rintro vq bg ⟨r4,az,aJ,rfl,hvq,ac,aS⟩
 subst vq;(try dsimp only at hM);replace H:=H.bk ac;clear ac;refine kg 12 ?_
 replace H:=H.nilOwn (α:=Int) 3
 obtain ⟨aT,aA,aU⟩:=M.e_bind hM
 obtain ⟨aV,aA⟩:=M.e_iter aA
 refine W.loop (fun m σ W=>∃ (i:Nat) (l:List Int) (ai:Value) (ρ:Env),σ=upds ρ [(0,ae),(1,aq),(8,az),(9,ai),(10,I (i:Int))]/\M.iterN (zdH w_ revised r4) m (i,l)=some aT/\St w W [cOwn (α:=Int) 3 ai l,cRo aJ] R) ?_ ?_
 ·exact ⟨_,0,[],(.slice none 0 0),_,upds_of _ _ ⟨rfl,rfl,rfl,rfl,rfl,trivial⟩,aA,H⟩
 rintro bh σ bi ⟨i,l,ai,ρ,rfl,aK,H⟩
 obtain ⟨aL,aM,bj,hM,aB⟩:=M.e_iterN aK
 simp only [zdH] at hM
 clear aK
 have bm:=(aw).len_le
 refine kg 8 ?_
 refine W.cond (decide ((i:Int)<(w_.length:Int))) rfl (fun aj=>?_) (fun aj=>?_)
 ·replace hM:=M.e_t hM aj
  replace aj:=dI aj
  refine kg 7 ?_;obtain ⟨bn,aW,hM⟩:=M.e_bind hM;refine s_call cf63 [aq,I (i:Int)] rfl (zae revised (i:Int) (aI.app _) ay aW _ (H.gt 2)) ?_
  rintro vq bo ⟨r5,rfl,hvq,ac⟩
  subst vq;(try dsimp only at hM);replace H:=H.bk ac;clear ac;refine kg 8 ?_;obtain ⟨aX,aC,aY⟩:=M.e_bind hM
  obtain ⟨aV,aC⟩:=M.e_iter aC
  refine W.loop (fun m σ W=>∃ (is:Bool) (k:Nat) (ρ:Env),σ=upds ρ [(0,ae),(1,aq),(8,az),(9,ai),(10,I (i:Int)),(11,B is),(12,I (k:Int))]/\M.iterN (zc4 revised r4 i) m (is,k)=some aX/\St w W [cOwn (α:=Int) 3 ai l,cRo aJ] R) ?_ ?_
  ·exact ⟨_,r5,0,_,upds_of _ _ ⟨rfl,rfl,rfl,rfl,rfl,rfl,rfl,trivial⟩,aC,H⟩
  rintro bp σ br ⟨is,k,ρ,rfl,aN,H⟩
  obtain ⟨aZ,a0,bt,hM,aO⟩:=M.e_iterN aN
  simp only [zc4] at hM
  clear aN
  have bu:=(ay).len_le
  refine kg 8 ?_
  refine W.cond (decide ((k:Int)<(revised.length:Int))) rfl (fun ak=>?_) (fun ak=>?_)
  ·replace hM:=M.e_t hM ak
   replace ak:=dI ak
   obtain ⟨al,hM⟩:=M.e_grd hM
   replace al:=M.imp_of al
   simp only [Bool.and_eq_true,decide_eq_true_eq] at al
   obtain ⟨am,hM⟩:=M.e_grd hM
   replace am:=M.imp_of am
   simp only [Bool.and_eq_true,decide_eq_true_eq] at am
   refine kg 12 ?_
   obtain ⟨aD,a4,aE⟩:=gd_ex (c:=!is) fun hg=>List_at aS (i:=revised.getD k 0) (by have aa:=al.resolve_left (by rw [hg]; decide); have ab:=am.resolve_left (by rw [hg]; decide); first | exact aa | exact aa.1 | exact aa.2 | exact ab | exact ab.1 | exact ab.2 | omega | (have ao:=hg; simp at ao; omega)) (by have aa:=al.resolve_left (by rw [hg]; decide); have ab:=am.resolve_left (by rw [hg]; decide); first | exact aa | exact aa.1 | exact aa.2 | exact ab | exact ab.1 | exact ab.2 | omega | (have ao:=hg; simp at ao; omega))
   replace aE:(!is)=true->Sl _ aD (r4.getD (Int.toNat (revised.getD k 0)) ([])):=aE
   refine g_val (!is) (gy_f rfl) (fun hg=>x_ld (v:=aD) (gd_of hg (vat az 1 (Int.toNat (revised.getD k 0)))) (ld_sc Sc92 (At.mono (a4 hg) (roLe _ (H.get (k:=1) rfl))))) ?_;obtain ⟨av,hM⟩:=M.e_grd hM
   replace av:=M.imp_of av
   simp only [Bool.and_eq_true,decide_eq_true_eq] at av
   refine kg 2 ?_;refine g_val (!is) (gy_f rfl) (fun hg=>x_ld (v:=B ((r4.getD (Int.toNat (revised.getD k 0)) ([])).getD i false)) (gd_of hg (vat aD 1 (Int.toNat (i:Int)))) (ld_sc Sc4 (At.mono (Bool_at (aE hg) (i:=(i:Int)) (by have aa:=al.resolve_left (by rw [hg]; decide); have ab:=am.resolve_left (by rw [hg]; decide); have ap:=av.resolve_left (by rw [hg]; decide); first | exact aa | exact aa.1 | exact aa.2 | exact ab | exact ab.1 | exact ab.2 | exact ap | exact ap.1 | exact ap.2 | omega | (have ao:=hg; simp at ao; omega)) (by have aa:=al.resolve_left (by rw [hg]; decide); have ab:=am.resolve_left (by rw [hg]; decide); have ap:=av.resolve_left (by rw [hg]; decide); first | exact aa | exact aa.1 | exact aa.2 | exact ab | exact ab.1 | exact ab.2 | exact ap | exact ap.1 | exact ap.2 | omega | (have ao:=hg; simp at ao; omega))) (roLe _ (H.get (k:=1) rfl)))))<|s_val (x_por (b:=is) (r:=(r4.getD (Int.toNat (revised.getD k 0)) ([])).getD i false) rfl rfl (fun hb=>gd_of (c:=!is) (by first | exact hb | (rw [hb]; rfl) | simp_all) (B ((r4.getD (Int.toNat (revised.getD k 0)) ([])).getD i false))))<|zA (B (is||((r4.getD (Int.toNat (revised.getD k 0)) ([])).getD i false))) rfl ?_;refine kg 6 ?_
   exact ⟨aZ,a0,(is||((r4.getD (Int.toNat (revised.getD k 0)) ([])).getD i false)),k+1,_,upds_of _ _ ⟨rfl,rfl,rfl,rfl,rfl,rfl,rfl,trivial⟩,M.e_inl hM aO,H⟩
  replace hM:=M.e_f hM ak
  replace ak:=dI ak
  refine W.exit ?_
  have a5:=M.e_inr hM aO
  subst a5;replace hM:=aY;(try dsimp only at hM);refine kg 4 ?_
  refine W.cond is rfl (fun aF=>?_) (fun aF=>?_)
  ·replace hM:=M.e_t hM aF;refine kg 3 ?_;refine t_bs (α:=Int) T22 [I (i:Int)] [(i:Int)] H rfl (.cons rfl (Flat.rep_enc _ (i:Int))<|.nil) rfl rfl rfl ?_;intro a6 bv H;obtain ⟨bw,hM⟩:=M.e_gd hM;refine t_app (α:=Int) (k:=1) (l:=l) (l2:=[(i:Int)]) (l':=l++([(i:Int)])) (vy:=a6) T22 rfl H rfl rfl rfl (H.os 0) (H.ol 0) (rfl) (by first | omega | (simp only [List.length_nil] at *; omega)) ?_;intro a7 bx H;replace H:=H.nf;refine kg 7 ?_
   exact ⟨aL,aM,i+1,l++([(i:Int)]),a7,_,upds_of _ _ ⟨rfl,rfl,rfl,rfl,rfl,trivial⟩,M.e_inl hM aB,(H.pk [1,2])⟩
  replace hM:=M.e_f hM aF;refine kg 6 ?_
  exact ⟨aL,aM,i+1,l,ai,_,upds_of _ _ ⟨rfl,rfl,rfl,rfl,rfl,trivial⟩,M.e_inl hM aB,H⟩
 replace hM:=M.e_f hM aj
 replace aj:=dI aj
 refine W.exit ?_
 have a8:=M.e_inr hM aB
 subst a8;replace hM:=aU;(try dsimp only at hM);refine kg 6 ?_;refine W.ret ?_
 have au:=M.e_pure hM
 exact ⟨_,resE_tmp2 rfl,⟨l,0,ai,au,rfl,(H.pk [0])⟩⟩

def zcA (revised fence:List Int):Nat->M (Nat ⊕ (Unit ⊕ Unit)):=fun k =>
  bif decide ((k:Int)<(revised.length:Int)) then (
  M.grd (decide ((k:Int)<(revised.length:Int))) <|
  M.bind (zad fence (revised.getD k 0)) fun r3 =>
  bif !r3 then (
  M.pure (.inr (.inl ())))
  else (
  M.pure (.inl (k+1))))
  else (
  M.pure (.inr (.inr ())))
def zdI (w_:List Work) (fence:List Int) (i:Nat):Nat->M (Nat ⊕ (Unit ⊕ Unit)):=fun k2 =>
  M.grd (decide ((i:Int)<(w_.length:Int))) <|
  bif decide ((k2:Int)<(((w_.getD i default).of).length:Int)) then (
  M.grd (decide ((k2:Int)<(((w_.getD i default).of).length:Int))) <|
  M.bind (zad fence (((w_.getD i default).of).getD k2 0)) fun r4 =>
  M.bind (M.opt r4 (zad fence (i:Int)) false) fun r5 =>
  bif (r4&&(!r5)) then (
  M.pure (.inr (.inl ())))
  else (
  M.pure (.inl (k2+1))))
  else (
  M.pure (.inr (.inr ())))
def zdy (w_:List Work) (fence:List Int):Nat->M (Nat ⊕ (Unit ⊕ Unit)):=fun i =>
  bif decide ((i:Int)<(w_.length:Int)) then (
  M.bind (M.iter (zdI w_ fence i) 0) fun x_=>match x_ with
  | (.inl (_:Unit))=>(
  M.pure (.inr (.inl ())))
  | (.inr (_:Unit))=>(
  M.pure (.inl (i+1))))
  else (
  M.pure (.inr (.inr ())))
def zen (w_:List Work) (revised fence:List Int):M (Bool × Int) :=
  M.bind (za7 w_ revised) fun (r0,r1) =>
  bif r1 != 0 then (
  M.pure (false,r1))
  else (
  M.bind (zbC w_ fence) fun r2 =>
  bif r2 != 0 then (
  M.pure (false,r2))
  else (
  M.bind (M.iter (zcA revised fence) 0) fun x_=>match x_ with
  | (.inl (_:Unit))=>(
  M.pure (false,0))
  | (.inr (_:Unit))=>(
  M.bind (M.iter (zdy w_ fence) 0) fun x_=>match x_ with
  | (.inl (_:Unit))=>(
  M.pure (false,0))
  | (.inr (_:Unit))=>(
  M.pure (true,0)))))
theorem zfT {R:List Chunk} {aF:Cells} {ae:Value} {aG:Cells} {am:Value} {aH:Cells} {ac:Value} (w_:List Work) (revised:List Int) (fence:List Int) (ao:Reads R aF) (al:Sl aF ae w_) (aS:Reads R aG) (aI:Sl aG am revised) (ap:Reads R aH) (aq:Sl aH ac fence) {r:(Bool × Int)} (hM:(zen w_ revised fence).Ends r) (w:World) (H:St w w [] R):Ret Tryz.prog 38 #[ae,am,ac] w fun v w'=>∃ (y0:Bool) (y1:Int),(y0,y1)=r/\v = .tuple #[B y0,I y1]/\St w w' [] R:=by
 refine ret_of_W Tryz.func38 rfl rfl rfl ?_;refine kg 10 ?_;obtain ⟨bn,aT,hM⟩:=M.e_bind hM;refine s_call cf36 [ae,am] rfl (zbp w_ revised (ao.app _) al (aS.app _) aI aT _ (H.gt 0)) ?_
 rintro vq bo ⟨r0,r1,av,rfl,hvq,aa⟩
 subst vq;(try dsimp only at hM);replace H:=H.bk aa;clear aa;refine kg 11 ?_
 refine W.cond (r1 != 0) rfl (fun ag=>?_) (fun ag=>?_)
 ·replace hM:=M.e_t hM ag
  replace ag:=dI ag
  refine kg 6 ?_;refine W.ret ?_
  have ab:=M.e_pure hM
  exact ⟨_,resE_tmp2 rfl,⟨false,r1,ab,rfl,(H.pk [])⟩⟩
 replace hM:=M.e_f hM ag
 replace ag:=dI ag
 refine kg 6 ?_;obtain ⟨bp,aU,hM⟩:=M.e_bind hM;refine s_call cf81 [ae,ac] rfl (zb8 w_ fence (ao.app _) al (ap.app _) aq aU _ (H.gt 1)) ?_
 rintro vq br ⟨r2,rfl,hvq,aa⟩
 subst vq;(try dsimp only at hM);replace H:=H.bk aa;clear aa;refine kg 7 ?_
 refine W.cond (r2 != 0) rfl (fun ah=>?_) (fun ah=>?_)
 ·replace hM:=M.e_t hM ah
  replace ah:=dI ah
  refine kg 6 ?_;refine W.ret ?_
  have ab:=M.e_pure hM
  exact ⟨_,resE_tmp2 rfl,⟨false,r2,ab,rfl,(H.pk [])⟩⟩
 replace hM:=M.e_f hM ah
 replace ah:=dI ah
 refine kg 7 ?_;obtain ⟨aV,aw,aJ⟩:=M.e_bind hM
 obtain ⟨aK,aw⟩:=M.e_iter aw
 refine W.loop (fun m σ W=>∃ (k:Nat) (ρ:Env),σ=upds ρ [(0,ae),(1,am),(2,ac),(11,I (k:Int))]/\M.iterN (zcA revised fence) m k=some aV/\St w W [cOwn (α:=Int) 3 av r0] R) ?_ ?_
 ·exact ⟨_,0,_,upds_of _ _ ⟨rfl,rfl,rfl,rfl,trivial⟩,aw,H⟩
 rintro bt σ bu ⟨k,ρ,rfl,aL,H⟩
 obtain ⟨aW,aX,bv,hM,ax⟩:=M.e_iterN aL
 simp only [zcA] at hM
 clear aL
 have bw:=(aI).len_le
 refine kg 8 ?_
 refine W.cond (decide ((k:Int)<(revised.length:Int))) rfl (fun ai=>?_) (fun ai=>?_)
 ·replace hM:=M.e_t hM ai
  replace ai:=dI ai
  obtain ⟨bx,hM⟩:=M.e_gd hM;refine kg 10 ?_;obtain ⟨bz,aY,hM⟩:=M.e_bind hM;refine s_call cf63 [ac,I (revised.getD k 0)] rfl (zae fence (revised.getD k 0) (ap.app _) aq aY _ (H.gt 1)) ?_
  rintro vq bA ⟨r3,rfl,hvq,aa⟩
  subst vq;(try dsimp only at hM);replace H:=H.bk aa;clear aa;refine kg 2 ?_
  refine W.cond (!r3) rfl (fun ay=>?_) (fun ay=>?_)
  ·replace hM:=M.e_t hM ay;refine kg 5 ?_;refine W.ret ?_
   have aZ:=M.e_inr hM ax
   subst aZ;replace hM:=aJ;(try dsimp only at hM)
   have ab:=M.e_pure hM
   exact ⟨_,resE_tmp2 rfl,⟨false,0,ab,rfl,(H.pk [])⟩⟩
  replace hM:=M.e_f hM ay;refine kg 6 ?_
  exact ⟨aW,aX,k+1,_,upds_of _ _ ⟨rfl,rfl,rfl,rfl,trivial⟩,M.e_inl hM ax,H⟩
 replace hM:=M.e_f hM ai
 replace ai:=dI ai
 refine W.exit ?_
 have a0:=M.e_inr hM ax
 subst a0;replace hM:=aJ;(try dsimp only at hM);refine kg 6 ?_;obtain ⟨a4,az,aM⟩:=M.e_bind hM
 obtain ⟨aK,az⟩:=M.e_iter az
 refine W.loop (fun m σ W=>∃ (i:Nat) (ρ:Env),σ=upds ρ [(0,ae),(2,ac),(12,I (i:Int))]/\M.iterN (zdy w_ fence) m i=some a4/\St w W [cOwn (α:=Int) 3 av r0] R) ?_ ?_
 ·exact ⟨_,0,_,upds_of _ _ ⟨rfl,rfl,rfl,trivial⟩,az,H⟩
 rintro bB σ bC ⟨i,ρ,rfl,aN,H⟩
 obtain ⟨a5,a6,bD,hM,aA⟩:=M.e_iterN aN
 simp only [zdy] at hM
 clear aN
 have bE:=(al).len_le
 refine kg 8 ?_
 refine W.cond (decide ((i:Int)<(w_.length:Int))) rfl (fun aj=>?_) (fun aj=>?_)
 ·replace hM:=M.e_t hM aj
  replace aj:=dI aj
  refine kg 8 ?_;obtain ⟨a7,aB,aO⟩:=M.e_bind hM
  obtain ⟨aK,aB⟩:=M.e_iter aB
  refine W.loop (fun m σ W=>∃ (k2:Nat) (ρ:Env),σ=upds ρ [(0,ae),(2,ac),(12,I (i:Int)),(13,I (k2:Int))]/\M.iterN (zdI w_ fence i) m k2=some a7/\St w W [cOwn (α:=Int) 3 av r0] R) ?_ ?_
  ·exact ⟨_,0,_,upds_of _ _ ⟨rfl,rfl,rfl,rfl,trivial⟩,aB,H⟩
  rintro bF σ bG ⟨k2,ρ,rfl,aP,H⟩
  obtain ⟨a8,a9,bH,hM,aC⟩:=M.e_iterN aP
  simp only [zdI] at hM
  clear aP;obtain ⟨bI,hM⟩:=M.e_gd hM;refine kg 8 ?_
  obtain ⟨aQ,ba,au⟩:=Work_at0 al (i:=(i:Int)) (by omega) (by omega)
  replace au:Sl _ aQ (w_.getD i default).of:=au
  have bJ:=au.len_le
  refine s_val (x_ld (v:=aQ) rfl (ld_sc Sc22 (At.mono (ba) (ao.at H)))) ?_
  have bK:=(au).len_le
  refine kg 3 ?_
  refine W.cond (decide ((k2:Int)<(((w_.getD i default).of).length:Int))) rfl (fun ak=>?_) (fun ak=>?_)
  ·replace hM:=M.e_t hM ak
   replace ak:=dI ak
   refine kg 10 ?_
   obtain ⟨aR,bb,aD⟩:=Work_at0 al (i:=(i:Int)) (by omega) (by omega)
   replace aD:Sl _ aR (w_.getD i default).of:=aD
   have bL:=aD.len_le
   refine s_val (x_ld (v:=aR) rfl (ld_sc Sc22 (At.mono (bb) (ao.at H)))) ?_;obtain ⟨bM,hM⟩:=M.e_gd hM;refine kg 3 ?_;obtain ⟨bN,bc,hM⟩:=M.e_bind hM;refine s_call cf63 [ac,I (((w_.getD i default).of).getD k2 0)] rfl (zae fence (((w_.getD i default).of).getD k2 0) (ap.app _) aq bc _ (H.gt 1)) ?_
   rintro vq bO ⟨r4,rfl,hvq,aa⟩
   subst vq;(try dsimp only at hM);replace H:=H.bk aa;clear aa;refine kg 3 ?_;obtain ⟨r5,bf,hM⟩:=M.e_bind hM;refine t_gcall r4 (gy_t rfl) cf63 (B r5) (fun _=>[ac,I (i:Int)]) (fun hg=>lst2 (gd_of hg (ac)) (gd_of hg (I (i:Int)))) H (fun hg=>(zae fence (i:Int) (ap.app _) aq (M.e_opt bf hg) _ (H.give (A:=[]) rfl)).mono fun v_ w_ ⟨y_,ab,bg,H_⟩=>by subst ab; exact ⟨bg,H.via H_⟩) ?_;intro bP H;refine kg 1 ?_;refine s_val (x_pand (b:=r4) (r:=!r5) rfl (fun hb=>gd_of (c:=r4) (by first | exact hb | (rw [hb]; rfl) | simp_all) (B (!r5))) rfl)<|s_nil ?_
   refine W.cond (r4&&(!r5)) rfl (fun aE=>?_) (fun aE=>?_)
   ·replace hM:=M.e_t hM aE;refine kg 5 ?_;refine W.ret ?_
    have bh:=M.e_inr hM aC
    subst bh;replace hM:=aO;(try dsimp only at hM)
    have bi:=M.e_inr hM aA
    subst bi;replace hM:=aM;(try dsimp only at hM)
    have ab:=M.e_pure hM
    exact ⟨_,resE_tmp2 rfl,⟨false,0,ab,rfl,(H.pk [])⟩⟩
   replace hM:=M.e_f hM aE;refine kg 6 ?_
   exact ⟨a8,a9,k2+1,_,upds_of _ _ ⟨rfl,rfl,rfl,rfl,trivial⟩,M.e_inl hM aC,H⟩
  replace hM:=M.e_f hM ak
  replace ak:=dI ak
  refine W.exit ?_
  have bj:=M.e_inr hM aC
  subst bj;replace hM:=aO;(try dsimp only at hM);refine kg 5 ?_
  exact ⟨a5,a6,i+1,_,upds_of _ _ ⟨rfl,rfl,rfl,trivial⟩,M.e_inl hM aA,H⟩
 replace hM:=M.e_f hM aj
 replace aj:=dI aj
 refine W.exit ?_
 have bm:=M.e_inr hM aA
 subst bm;replace hM:=aM;(try dsimp only at hM);refine kg 5 ?_;refine W.ret ?_
 have ab:=M.e_pure hM
 exact ⟨_,resE_tmp2 rfl,⟨true,0,ab,rfl,(H.pk [])⟩⟩

def zcs (w_:List Work) (r0 aa l:List Int) (n:Nat):(Int × Nat)->M ((Int × Nat) ⊕ Int):=fun (begin,k) =>
  M.grd (decide ((0:Int)<=(aa.getD n 0))&&decide ((aa.getD n 0)<(w_.length:Int))) <|
  bif decide ((k:Int)<(((w_.getD (Int.toNat (aa.getD n 0)) default).of).length:Int)) then (
  M.grd (decide ((k:Int)<(((w_.getD (Int.toNat (aa.getD n 0)) default).of).length:Int))) <|
  M.bind (zad r0 (((w_.getD (Int.toNat (aa.getD n 0)) default).of).getD k 0)) fun r3 =>
  M.grd ((!r3||(decide ((0:Int)<=(((w_.getD (Int.toNat (aa.getD n 0)) default).of).getD k 0))&&decide ((((w_.getD (Int.toNat (aa.getD n 0)) default).of).getD k 0)<((l.set (Int.toNat (aa.getD n 0)) (-1:Int)).length:Int))))) <|
  bif (r3&&(decide (begin<((l.set (Int.toNat (aa.getD n 0)) (-1:Int)).getD (Int.toNat (((w_.getD (Int.toNat (aa.getD n 0)) default).of).getD k 0)) 0)))) then (
  M.grd (decide ((0:Int)<=(((w_.getD (Int.toNat (aa.getD n 0)) default).of).getD k 0))&&decide ((((w_.getD (Int.toNat (aa.getD n 0)) default).of).getD k 0)<((l.set (Int.toNat (aa.getD n 0)) (-1:Int)).length:Int))) <|
  M.pure (.inl ((l.set (Int.toNat (aa.getD n 0)) (-1:Int)).getD (Int.toNat (((w_.getD (Int.toNat (aa.getD n 0)) default).of).getD k 0)) 0,k+1)))
  else (
  M.pure (.inl (begin,k+1))))
  else (
  M.pure (.inr begin))
def zdB (w_:List Work) (r0 aa:List Int):((List Int) × Nat)->M (((List Int) × Nat) ⊕ ((List Int) × (List Int))):=fun (l,n) =>
  bif decide ((n:Int)<(aa.length:Int)) then (
  M.grd (decide ((n:Int)<(aa.length:Int))) <|
  M.grd (decide ((0:Int)<=(aa.getD n 0))&&decide ((aa.getD n 0)<(l.length:Int))) <|
  M.bind (zad r0 (aa.getD n 0)) fun r2 =>
  bif !r2 then (
  M.pure (.inl (l.set (Int.toNat (aa.getD n 0)) (-1:Int),n+1)))
  else (
  M.bind (M.iter (zcs w_ r0 aa l n) (0,0)) fun begin2 =>
  M.grd (decide ((0:Int)<=(aa.getD n 0))&&decide ((aa.getD n 0)<(w_.length:Int))) <|
  M.grd (decide ((-9223372036854775808:Int)<=(begin2+((w_.getD (Int.toNat (aa.getD n 0)) default).minutes)))&&decide ((begin2+((w_.getD (Int.toNat (aa.getD n 0)) default).minutes))<=(9223372036854775807:Int))) <|
  M.grd (decide ((0:Int)<=(aa.getD n 0))&&decide ((aa.getD n 0)<((l.set (Int.toNat (aa.getD n 0)) (-1:Int)).length:Int))) <|
  M.pure (.inl ((l.set (Int.toNat (aa.getD n 0)) (-1:Int)).set (Int.toNat (aa.getD n 0)) (begin2+((w_.getD (Int.toNat (aa.getD n 0)) default).minutes):Int),n+1))))
  else (
  M.pure (.inr (l,l)))
def ze2 (w_:List Work) (revised:List Int):M ((List Int) × Int) :=
  M.bind (za7 w_ revised) fun (r0,r1) =>
  bif r1 != 0 then (
  M.pure (([]),r1))
  else (
  M.bind (za5 w_) fun (aa,ab) =>
  M.grd (decide ((0:Int)<=(w_.length:Int))&&decide ((8:Int)*(w_.length:Int)<=281474976710656)&&decide ((w_.length:Int)<=(9223372036854775807:Int))) <|
  M.bind (M.iter (zdB w_ r0 aa) (List.replicate (w_.length) (0:Int),0)) fun (l2,l3) =>
  M.pure (l3,0))
theorem zfM {R:List Chunk} {aE:Cells} {ah:Value} {aF:Cells} {ap:Value} (w_:List Work) (revised:List Int) (ai:Reads R aE) (ae:Sl aE ah w_) (aR:Reads R aF) (aS:Sl aF ap revised) {r:((List Int) × Int)} (hM:(ze2 w_ revised).Ends r) (w:World) (H:St w w [] R):Ret Tryz.prog 40 #[ah,ap] w fun v w'=>∃ (y0:List Int) (y1:Int) (u0:Value),(y0,y1)=r/\v = .tuple #[u0,I y1]/\St w w' [cOwn (α:=Int) 3 u0 y0] R:=by
 refine ret_of_W Tryz.func40 rfl rfl rfl ?_;refine kg 9 ?_;obtain ⟨bc,aT,hM⟩:=M.e_bind hM;refine s_call cf36 [ah,ap] rfl (zbp w_ revised (ai.app _) ae (aR.app _) aS aT _ (H.gt 0)) ?_
 rintro vq bf ⟨r0,r1,ag,rfl,hvq,ab⟩
 subst vq;(try dsimp only at hM);replace H:=H.bk ab;clear ab;refine kg 12 ?_
 refine W.cond (r1 != 0) rfl (fun aj=>?_) (fun aj=>?_)
 ·replace hM:=M.e_t hM aj
  replace aj:=dI aj
  refine kg 6 ?_;refine W.ret ?_
  have aq:=M.e_pure hM
  replace H:=H.nilOwn (α:=Int) 3
  exact ⟨_,resE_tmp2 rfl,⟨([]),r1,(.slice none 0 0),aq,rfl,(H.pk [0])⟩⟩
 replace hM:=M.e_f hM aj
 replace aj:=dI aj
 refine kg 4 ?_;obtain ⟨bg,aU,hM⟩:=M.e_bind hM;refine s_call cf19 [ah] rfl (zdj w_ (ai.app _) ae aU _ (H.gt 1)) ?_
 rintro vq bh ⟨aa,bi,am,rfl,hvq,ab⟩
 subst vq;(try dsimp only at hM);replace H:=H.bk ab;clear ab
 have bj:=(ae).len_le
 obtain ⟨bm,hM⟩:=M.e_gd hM;refine kg 10 ?_;refine t_mk (α:=Int) T22 (0:Int) rfl (n:=(w_.length:Int)) H rfl rfl (by omega) (by omega) (by omega) ?_;intro aV bn H;replace H:=H.nf;refine kg 8 ?_;obtain ⟨aW,au,aX⟩:=M.e_bind hM
 obtain ⟨aY,au⟩:=M.e_iter au
 refine W.loop (fun m σ W=>∃ (l:List Int) (n:Nat) (ac:Value) (ρ:Env),σ=upds ρ [(0,ah),(6,ag),(8,am),(10,ac),(11,I (n:Int))]/\M.iterN (zdB w_ r0 aa) m (l,n)=some aW/\St w W [cOwn (α:=Int) 3 ac l,cOwn (α:=Int) 3 am aa,cOwn (α:=Int) 3 ag r0] R) ?_ ?_
 ·exact ⟨_,List.replicate (w_.length) (0:Int),0,aV,_,upds_of _ _ ⟨rfl,rfl,rfl,rfl,rfl,trivial⟩,au,H⟩
 rintro bo σ bp ⟨l,n,ac,ρ,rfl,aG,H⟩
 obtain ⟨aH,aI,br,hM,av⟩:=M.e_iterN aG
 simp only [zdB] at hM
 clear aG
 have bt:=((H.os 1)).len_le
 refine kg 8 ?_
 refine W.cond (decide ((n:Int)<(aa.length:Int))) rfl (fun ak=>?_) (fun ak=>?_)
 ·replace hM:=M.e_t hM ak
  replace ak:=dI ak
  obtain ⟨bu,hM⟩:=M.e_gd hM;obtain ⟨bv,hM⟩:=M.e_gd hM;refine kg 16 ?_;refine t_ost (k:=0) (i:=aa.getD n 0) (l:=l) (l':=l.set (Int.toNat (aa.getD n 0)) (-1:Int)) (val:=I (-1)) (L':=[cOwn (α:=Int) 3 ac (l.set (Int.toNat (aa.getD n 0)) (-1:Int)),cOwn (α:=Int) 3 am aa,cOwn (α:=Int) 3 ag r0]) H rfl Sz3 (by omega) (by omega) (-1:Int) rfl rfl rfl rfl rfl ?_;intro bw H;refine kg 6 ?_;obtain ⟨bx,aZ,hM⟩:=M.e_bind hM;refine s_call cf63 [ag,I (aa.getD n 0)] rfl (zae r0 (aa.getD n 0) (rdo 2) (H.os 2) aZ _ (H.gt 3)) ?_
  rintro vq bz ⟨r2,rfl,hvq,ab⟩
  subst vq;(try dsimp only at hM);replace H:=H.bk ab;clear ab;refine kg 2 ?_
  refine W.cond (!r2) rfl (fun aw=>?_) (fun aw=>?_)
  ·replace hM:=M.e_t hM aw;refine W.exit ?_;refine kg 5 ?_
   exact ⟨aH,aI,l.set (Int.toNat (aa.getD n 0)) (-1:Int),n+1,ac,_,upds_of _ _ ⟨rfl,rfl,rfl,rfl,rfl,trivial⟩,M.e_inl hM av,H⟩
  replace hM:=M.e_f hM aw;refine kg 11 ?_;obtain ⟨a0,ax,a4⟩:=M.e_bind hM
  obtain ⟨aY,ax⟩:=M.e_iter ax
  refine W.loop (fun m σ W=>∃ (begin:Int) (k:Nat) (ρ:Env),σ=upds ρ [(0,ah),(6,ag),(8,am),(10,ac),(11,I (n:Int)),(12,I (aa.getD n 0)),(13,I begin),(14,I (k:Int))]/\M.iterN (zcs w_ r0 aa l n) m (begin,k)=some a0/\St w W [cOwn (α:=Int) 3 ac (l.set (Int.toNat (aa.getD n 0)) (-1:Int)),cOwn (α:=Int) 3 am aa,cOwn (α:=Int) 3 ag r0] R) ?_ ?_
  ·exact ⟨_,0,0,_,upds_of _ _ ⟨rfl,rfl,rfl,rfl,rfl,rfl,rfl,rfl,trivial⟩,ax,H⟩
  rintro bA σ bB ⟨begin,k,ρ,rfl,aJ,H⟩
  obtain ⟨aK,aL,bC,hM,ay⟩:=M.e_iterN aJ
  simp only [zcs] at hM
  clear aJ;obtain ⟨bD,hM⟩:=M.e_gd hM;refine kg 8 ?_
  obtain ⟨aM,a5,ao⟩:=Work_at0 ae (i:=aa.getD n 0) (by omega) (by omega)
  replace ao:Sl _ aM (w_.getD (Int.toNat (aa.getD n 0)) default).of:=ao
  have bE:=ao.len_le
  refine s_val (x_ld (v:=aM) rfl (ld_sc Sc22 (At.mono (a5) (ai.at H)))) ?_
  have bF:=(ao).len_le
  refine kg 3 ?_
  refine W.cond (decide ((k:Int)<(((w_.getD (Int.toNat (aa.getD n 0)) default).of).length:Int))) rfl (fun al=>?_) (fun al=>?_)
  ·replace hM:=M.e_t hM al
   replace al:=dI al
   refine kg 10 ?_
   obtain ⟨aN,a6,az⟩:=Work_at0 ae (i:=aa.getD n 0) (by omega) (by omega)
   replace az:Sl _ aN (w_.getD (Int.toNat (aa.getD n 0)) default).of:=az
   have bG:=az.len_le
   refine s_val (x_ld (v:=aN) rfl (ld_sc Sc22 (At.mono (a6) (ai.at H)))) ?_;obtain ⟨bH,hM⟩:=M.e_gd hM;refine kg 3 ?_;obtain ⟨bI,a7,hM⟩:=M.e_bind hM;refine s_call cf63 [ag,I (((w_.getD (Int.toNat (aa.getD n 0)) default).of).getD k 0)] rfl (zae r0 (((w_.getD (Int.toNat (aa.getD n 0)) default).of).getD k 0) (rdo 2) (H.os 2) a7 _ (H.gt 3)) ?_
   rintro vq bJ ⟨r3,rfl,hvq,ab⟩
   subst vq;(try dsimp only at hM);replace H:=H.bk ab;clear ab;refine kg 6 ?_
   obtain ⟨aO,a8,aP⟩:=gd_ex (c:=r3) fun hg=>Work_at0 ae (i:=aa.getD n 0) (by first | omega | (have aA:=hg; simp at aA; omega)) (by first | omega | (have aA:=hg; simp at aA; omega))
   replace aP:r3=true->Sl _ aO (w_.getD (Int.toNat (aa.getD n 0)) default).of:=aP
   refine g_val r3 (gy_t rfl) (fun hg=>x_ld (v:=aO) (gd_of hg (fat (vat ah 3 (Int.toNat (aa.getD n 0))) 0)) (ld_sc Sc22 (At.mono (a8 hg) (ai.at H)))) ?_;obtain ⟨aB,hM⟩:=M.e_grd hM
   replace aB:=M.imp_of aB
   simp only [Bool.and_eq_true,decide_eq_true_eq] at aB
   refine kg 7 ?_;refine s_val (x_pand (b:=r3) (r:=decide (begin<((l.set (Int.toNat (aa.getD n 0)) (-1:Int)).getD (Int.toNat (((w_.getD (Int.toNat (aa.getD n 0)) default).of).getD k 0)) 0))) rfl (fun hb=>gd_of (c:=r3) (by first | exact hb | (rw [hb]; rfl) | simp_all) (B (decide (begin<((l.set (Int.toNat (aa.getD n 0)) (-1:Int)).getD (Int.toNat (((w_.getD (Int.toNat (aa.getD n 0)) default).of).getD k 0)) 0))))) rfl)<|s_nil ?_
   refine W.cond (r3&&(decide (begin<((l.set (Int.toNat (aa.getD n 0)) (-1:Int)).getD (Int.toNat (((w_.getD (Int.toNat (aa.getD n 0)) default).of).getD k 0)) 0)))) rfl (fun aC=>?_) (fun aC=>?_)
   ·replace hM:=M.e_t hM aC;refine kg 6 ?_
    obtain ⟨aQ,a9,aD⟩:=Work_at0 ae (i:=aa.getD n 0) (by omega) (by omega)
    replace aD:Sl _ aQ (w_.getD (Int.toNat (aa.getD n 0)) default).of:=aD
    have bK:=aD.len_le
    refine s_val (x_ld (v:=aQ) rfl (ld_sc Sc22 (At.mono (a9) (ai.at H)))) ?_;obtain ⟨bL,hM⟩:=M.e_gd hM;refine kg 12 ?_
    exact ⟨aK,aL,(l.set (Int.toNat (aa.getD n 0)) (-1:Int)).getD (Int.toNat (((w_.getD (Int.toNat (aa.getD n 0)) default).of).getD k 0)) 0,k+1,_,upds_of _ _ ⟨rfl,rfl,rfl,rfl,rfl,rfl,rfl,rfl,trivial⟩,M.e_inl hM ay,H⟩
   replace hM:=M.e_f hM aC;refine kg 6 ?_
   exact ⟨aK,aL,begin,k+1,_,upds_of _ _ ⟨rfl,rfl,rfl,rfl,rfl,rfl,rfl,rfl,trivial⟩,M.e_inl hM ay,H⟩
  replace hM:=M.e_f hM al
  replace al:=dI al
  refine W.exit ?_
  have ba:=M.e_inr hM ay
  subst ba;replace hM:=a4;(try dsimp only at hM);obtain ⟨bM,hM⟩:=M.e_gd hM;refine kg 8 ?_;refine s_val (x_ld (v:=I ((w_.getD (Int.toNat (aa.getD n 0)) default).minutes)) rfl (ld_sc Sc3 (At.mono (Work_at2 ae (i:=aa.getD n 0) (by omega) (by omega)) (ai.at H)))) ?_;obtain ⟨bN,hM⟩:=M.e_gd hM;obtain ⟨bO,hM⟩:=M.e_gd hM;refine kg 2 ?_;refine t_ost (k:=0) (i:=aa.getD n 0) (l:=l.set (Int.toNat (aa.getD n 0)) (-1:Int)) (l':=(l.set (Int.toNat (aa.getD n 0)) (-1:Int)).set (Int.toNat (aa.getD n 0)) (begin+((w_.getD (Int.toNat (aa.getD n 0)) default).minutes):Int)) (val:=I (begin+((w_.getD (Int.toNat (aa.getD n 0)) default).minutes))) (L':=[cOwn (α:=Int) 3 ac ((l.set (Int.toNat (aa.getD n 0)) (-1:Int)).set (Int.toNat (aa.getD n 0)) (begin+((w_.getD (Int.toNat (aa.getD n 0)) default).minutes):Int)),cOwn (α:=Int) 3 am aa,cOwn (α:=Int) 3 ag r0]) H rfl Sz3 (by omega) (by omega) (begin+((w_.getD (Int.toNat (aa.getD n 0)) default).minutes):Int) rfl rfl rfl rfl rfl ?_;intro bP H;refine kg 6 ?_
  exact ⟨aH,aI,(l.set (Int.toNat (aa.getD n 0)) (-1:Int)).set (Int.toNat (aa.getD n 0)) (begin+((w_.getD (Int.toNat (aa.getD n 0)) default).minutes):Int),n+1,ac,_,upds_of _ _ ⟨rfl,rfl,rfl,rfl,rfl,trivial⟩,M.e_inl hM av,H⟩
 replace hM:=M.e_f hM ak
 replace ak:=dI ak
 refine W.exit ?_
 have bb:=M.e_inr hM av
 subst bb;replace hM:=aX;(try dsimp only at hM);replace H:=H.pk [0];refine kg 6 ?_;refine W.ret ?_
 have aq:=M.e_pure hM
 exact ⟨_,resE_tmp2 rfl,⟨l,0,ac,aq,rfl,H⟩⟩

def zdb (aa ab:List Int) (s2:Nat):(Bool × Nat)->M ((Bool × Nat) ⊕ Bool):=fun (there,s) =>
  bif decide ((s:Int)<(aa.length:Int)) then (
  M.pure (.inl ((there||((aa.getD s 0)==(ab.getD s2 0))),s+1)))
  else (
  M.pure (.inr there))
def zcT (w_:List Work) (ab aa:List Int):(Int × Nat)->M ((Int × Nat) ⊕ (Unit ⊕ Int)):=fun (sum,s2) =>
  bif decide ((s2:Int)<(aa.length:Int)) then (
  M.grd (decide ((0:Int)<=(aa.getD s2 0))&&decide ((aa.getD s2 0)<(w_.length:Int))) <|
  M.grd (decide ((-9223372036854775808:Int)<=(sum+((w_.getD (Int.toNat (aa.getD s2 0)) default).minutes)))&&decide ((sum+((w_.getD (Int.toNat (aa.getD s2 0)) default).minutes))<=(9223372036854775807:Int))) <|
  M.bind (M.iter (zdb ab aa s2) (false,0)) fun there2 =>
  bif !there2 then (
  M.pure (.inr (.inl ())))
  else (
  M.pure (.inl (sum+((w_.getD (Int.toNat (aa.getD s2 0)) default).minutes),s2+1))))
  else (
  M.pure (.inr (.inr sum)))
def zc7 (aa:List Int):(Int × Nat)->M ((Int × Nat) ⊕ Int):=fun (most,s3) =>
  bif decide ((s3:Int)<(aa.length:Int)) then (
  M.pure (.inl (max most (aa.getD s3 0),s3+1)))
  else (
  M.pure (.inr most))
def zbx (w_:List Work) (revised fence:List Int) (r4:List Work) (r5 r6 ai ao aj:List Int) (f:Int):M Bool :=
  M.bind (zck r4 r5) fun (ae,ag) =>
  bif ((ag != f)||((ag != 0)&&(decide (0<(ae.length:Int))))) then (
  M.pure false)
  else (
  bif ag==0 then (
  M.bind (zag w_) fun ak =>
  M.bind (zbz ak ae) fun (al,am) =>
  bif ((am != 0)||(!al)) then (
  M.pure false)
  else (
  M.bind (M.iter (zcT w_ ai ae) (0,0)) fun x_=>match x_ with
  | (.inl (_:Unit))=>(
  M.pure false)
  | (.inr sum2)=>(
  M.bind (M.iter (zc7 aj) (0,0)) fun most2 =>
  bif sum2 != most2 then (
  M.pure false)
  else (
  M.bind (zaI r4 w_) fun aa =>
  M.bind (M.opt aa (zab r5 revised) false) fun ab =>
  M.bind (M.opt (aa&&ab) (zab r6 fence) false) fun ac =>
  M.bind (M.opt ((aa&&ab)&&ac) (zam) false) fun ah =>
  M.pure (((aa&&ab)&&ac)&&ah)))))
  else (
  M.bind (zaI r4 w_) fun aa =>
  M.bind (M.opt aa (zab r5 revised) false) fun ab =>
  M.bind (M.opt (aa&&ab) (zab r6 fence) false) fun ac =>
  M.bind (M.opt ((aa&&ab)&&ac) (zam) false) fun ah =>
  M.pure (((aa&&ab)&&ac)&&ah)))
def zbB (w_:List Work) (revised fence:List Int):M Bool :=
  M.bind (za2 w_ ([revised,fence])) fun r2 =>
  bif !r2 then (
  M.bind (zam) fun r3 =>
  M.pure r3)
  else (
  M.bind (zbf w_) fun r4 =>
  M.bind (zay revised) fun r5 =>
  M.bind (zay fence) fun r6 =>
  M.bind (zcu r4 r5) fun (r0,r1) =>
  M.bind (zag w_) fun r7 =>
  M.bind (za7 r7 revised) fun (aa,ag) =>
  M.bind (zab r0 aa) fun r8 =>
  bif ((!r8)||(r1 != ag)) then (
  M.pure false)
  else (
  M.bind (zaU r4 r5 r6) fun (ah,ai) =>
  M.bind (zag w_) fun r9 =>
  M.bind (zen r9 revised fence) fun (aj,ak) =>
  bif ((ah != aj)||(ai != ak)) then (
  M.pure false)
  else (
  M.bind (zb7 r4 r5) fun (ab,al) =>
  M.bind (zag w_) fun am =>
  M.bind (ze2 am revised) fun (ac,ae) =>
  M.bind (zab ab ac) fun ao =>
  bif ((!ao)||(al != ae)) then (
  M.pure false)
  else (
  bif ((ae==0)&&((revised.length:Int)==0)) then (
  zbx w_ revised fence r4 r5 r6 aa ab ac 5)
  else (
  zbx w_ revised fence r4 r5 r6 aa ab ac ae)))))
theorem zbn {R:List Chunk} {bp:Cells} {am:Value} {aV:Cells} {ai:Value} {aW:Cells} {ak:Value} (w_:List Work) (revised:List Int) (fence:List Int) (ae:Reads R bp) (ay:Sl bp am w_) (aw:Reads R aV) (aB:Sl aV ai revised) (aC:Reads R aW) (aM:Sl aW ak fence) {r:Bool} (hM:(zbB w_ revised fence).Ends r) (w:World) (H:St w w [] R):Ret Tryz.prog 7 #[am,ai,ak] w fun v w'=>∃ (y0:Bool),y0=r/\v=B y0/\St w w' [] R:=by
 refine ret_of_W Tryz.func7 rfl rfl rfl ?_;refine kg 10 ?_
 obtain ⟨aX,H⟩:=H.emptyE
 have aE:=aB
 replace aE:=aE.mono (Cells.sup_l _ aX.cells)
 have aN:=aM
 replace aE:=aE.mono (Cells.sup_monoL (Cells.sup_l _ _) ((Reads.sup aw aC).at H) (roLe _ (H.get (k:=0) rfl)))
 replace aN:=aN.mono ((Cells.sup_r (aw.at H) (aC.at H)).trans (Cells.sup_l _ aX.cells))
 obtain ⟨aR,br⟩:∃ r:Raw 0,r.cs=[ai]:=⟨Raw.of [ai] rfl (by simp only [List.all_cons,List.all_nil,Bool.true_and,Bool.and_true,Sl.oc aE]; try rfl),rfl⟩
 obtain ⟨aS,bt⟩:∃ r:Raw 0,r.cs=[ak]:=⟨Raw.of [ak] rfl (by simp only [List.all_cons,List.all_nil,Bool.true_and,Bool.and_true,Sl.oc aN]; try rfl),rfl⟩
 have bD:RepR (α:=List Int) (Cells.sup (Cells.sup aV aW) aX.cells) [aR,aS] [revised,fence]:=.cons (by rw [br]; exact ⟨_,rfl,aE⟩)<|.cons (by rw [bt]; exact ⟨_,rfl,aN⟩)<|.nil
 refine t_bs (α:=Raw 0) T31 [ai,ak] [aR,aS] H rfl (.cons (by rw [show (Flat.enc aR:List Value)=aR.cs from rfl,br]; exact Sl.cells aE) (Flat.rep_enc _ _)<|.cons (by rw [show (Flat.enc aS:List Value)=aS.cs from rfl,bt]; exact Sl.cells aN) (Flat.rep_enc _ _)<|.nil) rfl rfl rfl ?_;intro bE cA H;replace H:=H.nf;obtain ⟨cB,bF,hM⟩:=M.e_bind hM;refine s_call cf11 [am,bE] rfl (zbG w_ ([revised,fence]) (ae.app _) ay (Reads.sup (rdo 0) (Reads.sup ((Reads.sup aw aC).app _) (Reads.of (k:=1) rfl roLe))) (rowSl rfl (H.get (k:=0) rfl) (Cells.sup_le ((Reads.sup aw aC).at H) (roLe _ (H.get (k:=1) rfl))) bD) bF _ (H.gt 2)) ?_
 rintro vq cC ⟨r2,rfl,hvq,aa⟩
 subst vq;(try dsimp only at hM);replace H:=H.bk aa;clear aa;refine kg 2 ?_;replace H:=H.pk []
 refine W.cond (!r2) rfl (fun aY=>?_) (fun aY=>?_)
 ·replace hM:=M.e_t hM aY;refine kg 2 ?_;obtain ⟨cD,bG,hM⟩:=M.e_bind hM;refine s_call cf10 [] rfl (zar bG _ (H.gt 0)) ?_
  rintro vq cE ⟨r3,rfl,hvq,aa⟩
  subst vq;(try dsimp only at hM);replace H:=H.bk aa;clear aa;refine kg 2 ?_;refine W.ret ?_
  have ab:=M.e_pure hM
  exact ⟨_,resE_tmp rfl,⟨r3,ab,rfl,H⟩⟩
 replace hM:=M.e_f hM aY;refine kg 4 ?_;obtain ⟨cF,bH,hM⟩:=M.e_bind hM;refine s_call cf12 [am] rfl (zbD w_ (ae.app _) ay bH _ (H.gt 0)) ?_
 rintro vq cG ⟨r4,ao,aT,aU,rfl,hvq,aa,aL⟩
 subst vq;(try dsimp only at hM);replace H:=H.bk aa;clear aa;refine kg 1 ?_;obtain ⟨cH,bI,hM⟩:=M.e_bind hM;refine s_call cf13 [ai] rfl (zaB revised (aw.app _) aB bI _ (H.gt 2)) ?_
 rintro vq cI ⟨r5,aj,rfl,hvq,aa⟩
 subst vq;(try dsimp only at hM);replace H:=H.bk aa;clear aa;refine kg 1 ?_;obtain ⟨cJ,bJ,hM⟩:=M.e_bind hM;refine s_call cf13 [ak] rfl (zaB fence (aC.app _) aM bJ _ (H.gt 3)) ?_
 rintro vq cK ⟨r6,ap,rfl,hvq,aa⟩
 subst vq;(try dsimp only at hM);replace H:=H.bk aa;clear aa;refine kg 8 ?_;obtain ⟨cL,bK,hM⟩:=M.e_bind hM;refine s_call cf35 [ao,aj] rfl (ze1 r4 r5 (Reads.sup (rdo 2) (Reads.sup (ae.app _) (Reads.of (k:=3) rfl roLe))) (rowSl rfl (H.get (k:=2) rfl) (Cells.sup_le (ae.at H) (roLe _ (H.get (k:=3) rfl))) aL) (rdo 1) (H.os 1) bK _ (H.gt 4)) ?_
 rintro vq cM ⟨r0,r1,bL,rfl,hvq,aa⟩
 subst vq;(try dsimp only at hM);replace H:=H.bk aa;clear aa;refine kg 9 ?_;obtain ⟨cN,bM,hM⟩:=M.e_bind hM;refine s_call cf15 [am] rfl (zah w_ (ae.app _) ay bM _ (H.gt 5)) ?_
 rintro vq cO ⟨r7,bN,cP,cQ,rfl,hvq,aa,bO⟩
 subst vq;(try dsimp only at hM);replace H:=H.bk aa;clear aa;refine kg 1 ?_;obtain ⟨cR,bP,hM⟩:=M.e_bind hM;refine s_call cf36 [bN,ai] rfl (zbp r7 revised (Reads.sup (rdo 0) (Reads.of (k:=1) rfl roLe)) (rowSl rfl (H.get (k:=0) rfl) (roLe _ (H.get (k:=1) rfl)) bO) (aw.app _) aB bP _ (H.gt 7)) ?_
 rintro vq cS ⟨aq,aZ,aD,rfl,hvq,aa⟩
 subst vq;(try dsimp only at hM);replace H:=H.bk aa;clear aa;refine kg 6 ?_;replace H:=H.pk [0,3,4,5,6,7];refine kg 5 ?_;obtain ⟨cT,bQ,hM⟩:=M.e_bind hM;refine s_call cf20 [bL,aD] rfl (zac r0 aq (rdo 1) (H.os 1) (rdo 0) (H.os 0) bQ _ (H.gt 6)) ?_
 rintro vq cU ⟨r8,rfl,hvq,aa⟩
 subst vq;(try dsimp only at hM);replace H:=H.bk aa;clear aa;refine kg 5 ?_;refine s_val (x_por (b:=!r8) (r:=r1 != aZ) rfl rfl (fun hb=>gd_of (c:=!(!r8)) (by first | exact hb | (rw [hb]; rfl) | simp_all) (B (r1 != aZ))))<|s_nil ?_
 refine W.cond ((!r8)||(r1 != aZ)) rfl (fun a0=>?_) (fun a0=>?_)
 ·replace hM:=M.e_t hM a0;refine kg 4 ?_;replace H:=H.pk [];refine W.ret ?_
  have ab:=M.e_pure hM
  exact ⟨_,resE_tmp rfl,⟨false,ab,rfl,H⟩⟩
 replace hM:=M.e_f hM a0;refine kg 6 ?_;obtain ⟨cV,bR,hM⟩:=M.e_bind hM;refine s_call cf37 [ao,aj,ap] rfl (zcD r4 r5 r6 (Reads.sup (rdo 4) (Reads.sup (ae.app _) (Reads.of (k:=5) rfl roLe))) (rowSl rfl (H.get (k:=4) rfl) (Cells.sup_le (ae.at H) (roLe _ (H.get (k:=5) rfl))) aL) (rdo 3) (H.os 3) (rdo 2) (H.os 2) bR _ (H.gt 6)) ?_
 rintro vq cW ⟨aO,a4,rfl,hvq,aa⟩
 subst vq;(try dsimp only at hM);replace H:=H.bk aa;clear aa;refine kg 9 ?_;obtain ⟨cX,bS,hM⟩:=M.e_bind hM;refine s_call cf15 [am] rfl (zah w_ (ae.app _) ay bS _ (H.gt 6)) ?_
 rintro vq cY ⟨r9,bT,cZ,c0,rfl,hvq,aa,bU⟩
 subst vq;(try dsimp only at hM);replace H:=H.bk aa;clear aa;refine kg 2 ?_;obtain ⟨c3,bV,hM⟩:=M.e_bind hM;refine s_call cf38 [bT,ai,ak] rfl (zfT r9 revised fence (Reads.sup (rdo 0) (Reads.of (k:=1) rfl roLe)) (rowSl rfl (H.get (k:=0) rfl) (roLe _ (H.get (k:=1) rfl)) bU) (aw.app _) aB (aC.app _) aM bV _ (H.gt 8)) ?_
 rintro vq c4 ⟨aP,a5,rfl,hvq,aa⟩
 subst vq;(try dsimp only at hM);replace H:=H.bk aa;clear aa;refine kg 6 ?_;replace H:=H.pk [2,4,5,6,7];refine kg 5 ?_;refine s_val (x_eqb (a:=aO) (b:=aP) (r:=(aO != aP)) rfl rfl Tryz.underlying4 rfl) ?_;refine kg 4 ?_;refine s_val (x_por (b:=(aO != aP)) (r:=a4 != a5) rfl rfl (fun hb=>gd_of (c:=!(aO != aP)) (by first | exact hb | (rw [hb]; rfl) | simp_all) (B (a4 != a5))))<|s_nil ?_
 refine W.cond ((aO != aP)||(a4 != a5)) rfl (fun a6=>?_) (fun a6=>?_)
 ·replace hM:=M.e_t hM a6;refine kg 4 ?_;replace H:=H.pk [];refine W.ret ?_
  have ab:=M.e_pure hM
  exact ⟨_,resE_tmp rfl,⟨false,ab,rfl,H⟩⟩
 replace hM:=M.e_f hM a6;refine kg 5 ?_;obtain ⟨c6,bW,hM⟩:=M.e_bind hM;refine s_call cf39 [ao,aj] rfl (zfh r4 r5 (Reads.sup (rdo 3) (Reads.sup (ae.app _) (Reads.of (k:=4) rfl roLe))) (rowSl rfl (H.get (k:=3) rfl) (Cells.sup_le (ae.at H) (roLe _ (H.get (k:=4) rfl))) aL) (rdo 2) (H.os 2) bW _ (H.gt 5)) ?_
 rintro vq c7 ⟨a7,a8,bu,rfl,hvq,aa⟩
 subst vq;(try dsimp only at hM);replace H:=H.bk aa;clear aa;refine kg 9 ?_;obtain ⟨c8,bX,hM⟩:=M.e_bind hM;refine s_call cf15 [am] rfl (zah w_ (ae.app _) ay bX _ (H.gt 6)) ?_
 rintro vq c9 ⟨bY,bZ,da,db,rfl,hvq,aa,b0⟩
 subst vq;(try dsimp only at hM);replace H:=H.bk aa;clear aa;refine kg 1 ?_;obtain ⟨dc,b4,hM⟩:=M.e_bind hM;refine s_call cf40 [bZ,ai] rfl (zfM bY revised (Reads.sup (rdo 0) (Reads.of (k:=1) rfl roLe)) (rowSl rfl (H.get (k:=0) rfl) (roLe _ (H.get (k:=1) rfl)) b0) (aw.app _) aB b4 _ (H.gt 8)) ?_
 rintro vq dd ⟨ax,aF,az,rfl,hvq,aa⟩
 subst vq;(try dsimp only at hM);replace H:=H.bk aa;clear aa;refine kg 6 ?_;replace H:=H.pk [0,3,4,5,6,7,8];refine kg 5 ?_;obtain ⟨dg,b5,hM⟩:=M.e_bind hM;refine s_call cf20 [bu,az] rfl (zac a7 ax (rdo 1) (H.os 1) (rdo 0) (H.os 0) b5 _ (H.gt 7)) ?_
 rintro vq dh ⟨a9,rfl,hvq,aa⟩
 subst vq;(try dsimp only at hM);replace H:=H.bk aa;clear aa;refine kg 5 ?_;refine s_val (x_por (b:=!a9) (r:=a8 != aF) rfl rfl (fun hb=>gd_of (c:=!(!a9)) (by first | exact hb | (rw [hb]; rfl) | simp_all) (B (a8 != aF))))<|s_nil ?_
 refine W.cond ((!a9)||(a8 != aF)) rfl (fun ba=>?_) (fun ba=>?_)
 ·replace hM:=M.e_t hM ba;refine kg 4 ?_;replace H:=H.pk [];refine W.ret ?_
  have ab:=M.e_pure hM
  exact ⟨_,resE_tmp rfl,⟨false,ab,rfl,H⟩⟩
 replace hM:=M.e_f hM ba;refine W.skip ?_;refine W.seqJ (fun σ W=>∃ (f:Int) (ρ:Env),σ=upds ρ [(0,am),(1,ai),(2,ak),(7,ao),(8,aj),(9,ap),(12,aD),(13,I f),(16,az)]/\(zbx w_ revised fence r4 r5 r6 aq a7 ax f).Ends r/\St w W [cOwn (α:=Int) 3 az ax,cOwn (α:=Int) 3 bu a7,cOwn (α:=Int) 3 aD aq,cOwn (α:=Int) 3 ap r6,cOwn (α:=Int) 3 aj r5,cOwn (α:=Raw 2) 34 ao aT,cRo aU] R) ?_ ?_
 ·skip
  have di:=(aB).len_le
  refine kg 8 ?_;refine s_val (x_pand (b:=aF==0) (r:=(revised.length:Int)==0) rfl (fun hb=>gd_of (c:=aF==0) (by first | exact hb | (rw [hb]; rfl) | simp_all) (B ((revised.length:Int)==0))) rfl)<|s_nil ?_
  refine W.cond ((aF==0)&&((revised.length:Int)==0)) rfl (fun bb=>?_) (fun bb=>?_)
  ·replace hM:=M.e_t hM bb;refine kg 3 ?_
   exact ⟨5,_,upds_of _ _ ⟨rfl,rfl,rfl,rfl,rfl,rfl,rfl,rfl,rfl,trivial⟩,hM,H⟩
  replace hM:=M.e_f hM bb;refine W.skip ?_
  exact ⟨aF,_,upds_of _ _ ⟨rfl,rfl,rfl,rfl,rfl,rfl,rfl,rfl,rfl,trivial⟩,hM,H⟩
 rintro _ dj ⟨f,ρ,rfl,hM,H⟩
 unfold zbx at hM
 refine kg 4 ?_;obtain ⟨dk,b6,hM⟩:=M.e_bind hM;refine s_call cf41 [ao,aj] rfl (ze9 r4 r5 (Reads.sup (rdo 5) (Reads.sup (ae.app _) (Reads.of (k:=6) rfl roLe))) (rowSl rfl (H.get (k:=5) rfl) (Cells.sup_le (ae.at H) (roLe _ (H.get (k:=6) rfl))) aL) (rdo 4) (H.os 4) b6 _ (H.gt 7)) ?_
 rintro vq dl ⟨ac,au,aQ,rfl,hvq,aa⟩
 subst vq;(try dsimp only at hM);replace H:=H.bk aa;clear aa;refine kg 19 ?_;refine g_val (!(au != f)) (gy_f rfl) (fun hg=>x_pand (b:=au != 0) (r:=decide (0<(ac.length:Int))) (gd_of hg (B (au != 0))) (fun hb=>gd_of (c:=((!(au != f))&&(au != 0))) (by first | exact hb | (rw [hb]; rfl) | simp_all) (B (decide (0<(ac.length:Int))))) rfl)<|s_val (x_por (b:=au != f) (r:=((au != 0)&&(decide (0<(ac.length:Int))))) rfl rfl (fun hb=>gd_of (c:=!(au != f)) (by first | exact hb | (rw [hb]; rfl) | simp_all) (B ((au != 0)&&(decide (0<(ac.length:Int)))))))<|s_nil ?_
 refine W.cond ((au != f)||((au != 0)&&(decide (0<(ac.length:Int))))) rfl (fun bc=>?_) (fun bc=>?_)
 ·replace hM:=M.e_t hM bc;refine kg 4 ?_;replace H:=H.pk [];refine W.ret ?_
  have ab:=M.e_pure hM
  exact ⟨_,resE_tmp rfl,⟨false,ab,rfl,H⟩⟩
 replace hM:=M.e_f hM bc;refine kg 7 ?_
 refine W.cond (au==0) rfl (fun aG=>?_) (fun aG=>?_)
 ·replace hM:=M.e_t hM aG
  replace aG:=dI aG
  refine kg 4 ?_;obtain ⟨dm,b7,hM⟩:=M.e_bind hM;refine s_call cf15 [am] rfl (zah w_ (ae.app _) ay b7 _ (H.gt 8)) ?_
  rintro vq dp ⟨b8,b9,dq,dr,rfl,hvq,aa,ca⟩
  subst vq;(try dsimp only at hM);replace H:=H.bk aa;clear aa;refine kg 1 ?_;obtain ⟨dt,cb,hM⟩:=M.e_bind hM;refine s_call cf22 [b9,aQ] rfl (zda b8 ac (Reads.sup (rdo 0) (Reads.of (k:=1) rfl roLe)) (rowSl rfl (H.get (k:=0) rfl) (roLe _ (H.get (k:=1) rfl)) ca) (rdo 2) (H.os 2) cb _ (H.gt 10)) ?_
  rintro vq du ⟨bf,bg,rfl,hvq,aa⟩
  subst vq;(try dsimp only at hM);replace H:=H.bk aa;clear aa;refine kg 6 ?_;replace H:=H.pk [2,3,5,6,7,8,9];refine kg 7 ?_;refine s_val (x_por (b:=bg != 0) (r:=!bf) rfl rfl (fun hb=>gd_of (c:=!(bg != 0)) (by first | exact hb | (rw [hb]; rfl) | simp_all) (B (!bf))))<|s_nil ?_
  refine W.cond ((bg != 0)||(!bf)) rfl (fun bh=>?_) (fun bh=>?_)
  ·replace hM:=M.e_t hM bh;refine kg 4 ?_;replace H:=H.pk [];refine W.ret ?_
   have ab:=M.e_pure hM
   exact ⟨_,resE_tmp rfl,⟨false,ab,rfl,H⟩⟩
  replace hM:=M.e_f hM bh
  have dv:=((H.os 0)).len_le
  refine kg 14 ?_;obtain ⟨cc,bi,bv⟩:=M.e_bind hM
  obtain ⟨bw,bi⟩:=M.e_iter bi
  refine W.loop (fun m σ W=>∃ (sum:Int) (s2:Nat) (ρ:Env),σ=upds ρ [(0,am),(1,ai),(2,ak),(7,ao),(8,aj),(9,ap),(12,aD),(16,az),(19,I sum),(20,I 0),(148,aQ),(149,I (ac.length:Int)),(150,I (s2:Int))]/\M.iterN (zcT w_ aq ac) m (sum,s2)=some cc/\St w W [cOwn (α:=Int) 3 aQ ac,cOwn (α:=Int) 3 az ax,cOwn (α:=Int) 3 aD aq,cOwn (α:=Int) 3 ap r6,cOwn (α:=Int) 3 aj r5,cOwn (α:=Raw 2) 34 ao aT,cRo aU] R) ?_ ?_
  ·exact ⟨_,0,0,_,upds_of _ _ ⟨rfl,rfl,rfl,rfl,rfl,rfl,rfl,rfl,rfl,rfl,rfl,rfl,rfl,trivial⟩,bi,H⟩
  rintro dw σ dx ⟨sum,s2,ρ,rfl,bx,H⟩
  obtain ⟨cd,ce,dy,hM,bj⟩:=M.e_iterN bx
  simp only [zcT] at hM
  clear bx;refine kg 5 ?_
  refine W.cond (decide ((s2:Int)<(ac.length:Int))) rfl (fun aH=>?_) (fun aH=>?_)
  ·replace hM:=M.e_t hM aH
   replace aH:=dI aH
   obtain ⟨dz,hM⟩:=M.e_gd hM;refine kg 16 ?_;refine s_val (x_ld (v:=I ((w_.getD (Int.toNat (ac.getD s2 0)) default).minutes)) rfl (ld_sc Sc3 (At.mono (Work_at2 ay (i:=ac.getD s2 0) (by omega) (by omega)) (ae.at H)))) ?_;obtain ⟨dA,hM⟩:=M.e_gd hM
   have dB:=((H.os 2)).len_le
   refine kg 15 ?_;obtain ⟨cf,bm,cg⟩:=M.e_bind hM
   obtain ⟨bw,bm⟩:=M.e_iter bm
   refine W.loop (fun m σ W=>∃ (there:Bool) (s:Nat) (ρ:Env),σ=upds ρ [(0,am),(1,ai),(2,ak),(7,ao),(8,aj),(9,ap),(12,aD),(16,az),(19,I (sum+((w_.getD (Int.toNat (ac.getD s2 0)) default).minutes))),(20,I 0),(22,I (ac.getD s2 0)),(23,B there),(148,aQ),(149,I (ac.length:Int)),(150,I (s2:Int)),(161,aD),(162,I (aq.length:Int)),(163,I (s:Int))]/\M.iterN (zdb aq ac s2) m (there,s)=some cf/\St w W [cOwn (α:=Int) 3 aQ ac,cOwn (α:=Int) 3 az ax,cOwn (α:=Int) 3 aD aq,cOwn (α:=Int) 3 ap r6,cOwn (α:=Int) 3 aj r5,cOwn (α:=Raw 2) 34 ao aT,cRo aU] R) ?_ ?_
   ·exact ⟨_,false,0,_,upds_of _ _ ⟨rfl,rfl,rfl,rfl,rfl,rfl,rfl,rfl,rfl,rfl,rfl,rfl,rfl,rfl,rfl,rfl,rfl,rfl,trivial⟩,bm,H⟩
   rintro dC σ dD ⟨there,s,ρ,rfl,bz,H⟩
   obtain ⟨ch,ci,dE,hM,bA⟩:=M.e_iterN bz
   simp only [zdb] at hM
   clear bz;refine kg 5 ?_
   refine W.cond (decide ((s:Int)<(aq.length:Int))) rfl (fun aI=>?_) (fun aI=>?_)
   ·replace hM:=M.e_t hM aI
    replace aI:=dI aI
    refine kg 15 ?_;refine s_val (x_por (b:=there) (r:=(aq.getD s 0)==(ac.getD s2 0)) rfl rfl (fun hb=>gd_of (c:=!there) (by first | exact hb | (rw [hb]; rfl) | simp_all) (B ((aq.getD s 0)==(ac.getD s2 0)))))<|zA (B (there||((aq.getD s 0)==(ac.getD s2 0)))) rfl ?_;refine kg 5 ?_
    exact ⟨ch,ci,(there||((aq.getD s 0)==(ac.getD s2 0))),s+1,_,upds_of _ _ ⟨rfl,rfl,rfl,rfl,rfl,rfl,rfl,rfl,rfl,rfl,rfl,rfl,rfl,rfl,rfl,rfl,rfl,rfl,trivial⟩,M.e_inl hM bA,H⟩
   replace hM:=M.e_f hM aI
   replace aI:=dI aI
   refine W.exit ?_
   have cj:=M.e_inr hM bA
   subst cj;replace hM:=cg;(try dsimp only at hM);refine kg 5 ?_
   refine W.cond (!there) rfl (fun bn=>?_) (fun bn=>?_)
   ·replace hM:=M.e_t hM bn;refine kg 4 ?_;refine W.ret ?_
    have ck:=M.e_inr hM bj
    subst ck;replace hM:=bv;(try dsimp only at hM)
    have ab:=M.e_pure hM
    exact ⟨_,resE_tmp rfl,⟨false,ab,rfl,(H.pk [])⟩⟩
   replace hM:=M.e_f hM bn;refine kg 5 ?_
   exact ⟨cd,ce,sum+((w_.getD (Int.toNat (ac.getD s2 0)) default).minutes),s2+1,_,upds_of _ _ ⟨rfl,rfl,rfl,rfl,rfl,rfl,rfl,rfl,rfl,rfl,rfl,rfl,rfl,trivial⟩,M.e_inl hM bj,H⟩
  replace hM:=M.e_f hM aH
  replace aH:=dI aH
  refine W.exit ?_
  have cl:=M.e_inr hM bj
  subst cl;replace hM:=bv;(try dsimp only at hM);replace H:=H.pk [1,3,4,5,6]
  have dF:=((H.os 0)).len_le
  refine kg 8 ?_;obtain ⟨cm,bo,cn⟩:=M.e_bind hM
  obtain ⟨bw,bo⟩:=M.e_iter bo
  refine W.loop (fun m σ W=>∃ (most:Int) (s3:Nat) (ρ:Env),σ=upds ρ [(0,am),(1,ai),(2,ak),(7,ao),(8,aj),(9,ap),(19,I sum),(20,I most),(177,az),(178,I (ax.length:Int)),(179,I (s3:Int))]/\M.iterN (zc7 ax) m (most,s3)=some cm/\St w W [cOwn (α:=Int) 3 az ax,cOwn (α:=Int) 3 ap r6,cOwn (α:=Int) 3 aj r5,cOwn (α:=Raw 2) 34 ao aT,cRo aU] R) ?_ ?_
  ·exact ⟨_,0,0,_,upds_of _ _ ⟨rfl,rfl,rfl,rfl,rfl,rfl,rfl,rfl,rfl,rfl,rfl,trivial⟩,bo,H⟩
  rintro dG σ dH ⟨most,s3,ρ,rfl,bB,H⟩
  obtain ⟨co,cp,dJ,hM,bC⟩:=M.e_iterN bB
  simp only [zc7] at hM
  clear bB;refine kg 5 ?_
  refine W.cond (decide ((s3:Int)<(ax.length:Int))) rfl (fun aJ=>?_) (fun aJ=>?_)
  ·replace hM:=M.e_t hM aJ
   replace aJ:=dI aJ
   refine kg 19 ?_
   exact ⟨co,cp,max most (ax.getD s3 0),s3+1,_,upds_of _ _ ⟨rfl,rfl,rfl,rfl,rfl,rfl,rfl,rfl,rfl,rfl,rfl,trivial⟩,M.e_inl hM bC,H⟩
  replace hM:=M.e_f hM aJ
  replace aJ:=dI aJ
  refine W.exit ?_
  have cq:=M.e_inr hM bC
  subst cq;replace hM:=cn;(try dsimp only at hM);refine kg 6 ?_
  refine W.cond (sum != most) rfl (fun aK=>?_) (fun aK=>?_)
  ·replace hM:=M.e_t hM aK
   replace aK:=dI aK
   refine kg 4 ?_;replace H:=H.pk [];refine W.ret ?_
   have ab:=M.e_pure hM
   exact ⟨_,resE_tmp rfl,⟨false,ab,rfl,H⟩⟩
  replace hM:=M.e_f hM aK
  replace aK:=dI aK
  refine kg 5 ?_;obtain ⟨dK,cr,hM⟩:=M.e_bind hM;refine s_call cf25 [ao,am] rfl (zbc r4 w_ (Reads.sup (rdo 3) (Reads.sup (ae.app _) (Reads.of (k:=4) rfl roLe))) (rowSl rfl (H.get (k:=3) rfl) (Cells.sup_le (ae.at H) (roLe _ (H.get (k:=4) rfl))) aL) (ae.app _) ay cr _ (H.gt 5)) ?_
  rintro vq dL ⟨ag,rfl,hvq,aa⟩
  subst vq;(try dsimp only at hM);replace H:=H.bk aa;clear aa;refine kg 3 ?_;obtain ⟨ah,ct,hM⟩:=M.e_bind hM;refine t_gcall ag (gy_t rfl) cf20 (B ah) (fun _=>[aj,ai]) (fun hg=>lst2 (gd_of hg (aj)) (gd_of hg (ai))) H (fun hg=>(zac r5 revised (rdo 2) (H.os 2) (aw.app _) aB (M.e_opt ct hg) _ (H.give (A:=[]) rfl)).mono fun v_ w_ ⟨y_,ab,av,H_⟩=>by subst ab; exact ⟨av,H.via H_⟩) ?_;intro dM H;refine s_val (x_pand (b:=ag) (r:=ah) rfl (fun hb=>gd_of (c:=ag) (by first | exact hb | (rw [hb]; rfl) | simp_all) (B ah)) rfl) ?_;refine kg 3 ?_;obtain ⟨al,cu,hM⟩:=M.e_bind hM;refine t_gcall (ag&&ah) (gy_t rfl) cf20 (B al) (fun _=>[ap,ak]) (fun hg=>lst2 (gd_of hg (ap)) (gd_of hg (ak))) H (fun hg=>(zac r6 fence (rdo 1) (H.os 1) (aC.app _) aM (M.e_opt cu hg) _ (H.give (A:=[]) rfl)).mono fun v_ w_ ⟨y_,ab,av,H_⟩=>by subst ab; exact ⟨av,H.via H_⟩) ?_;intro dN H;refine s_val (x_pand (b:=(ag&&ah)) (r:=al) rfl (fun hb=>gd_of (c:=(ag&&ah)) (by first | exact hb | (rw [hb]; rfl) | simp_all) (B al)) rfl) ?_;refine kg 1 ?_;obtain ⟨aA,cv,hM⟩:=M.e_bind hM;refine t_gcall ((ag&&ah)&&al) (gy_t rfl) cf10 (B aA) (fun _=>[]) (fun _=>rfl) H (fun hg=>(zar (M.e_opt cv hg) _ (H.give (A:=[]) rfl)).mono fun v_ w_ ⟨y_,ab,av,H_⟩=>by subst ab; exact ⟨av,H.via H_⟩) ?_;intro dO H;refine s_val (x_pand (b:=((ag&&ah)&&al)) (r:=aA) rfl (fun hb=>gd_of (c:=((ag&&ah)&&al)) (by first | exact hb | (rw [hb]; rfl) | simp_all) (B aA)) rfl) ?_;refine kg 2 ?_;replace H:=H.pk [];refine W.ret ?_
  have ab:=M.e_pure hM
  exact ⟨_,resE_tmp rfl,⟨(((ag&&ah)&&al)&&aA),ab,rfl,H⟩⟩
 replace hM:=M.e_f hM aG
 replace aG:=dI aG
 refine W.skip ?_;replace H:=H.pk [4,5,6,7];refine kg 4 ?_;obtain ⟨dP,cw,hM⟩:=M.e_bind hM;refine s_call cf25 [ao,am] rfl (zbc r4 w_ (Reads.sup (rdo 2) (Reads.sup (ae.app _) (Reads.of (k:=3) rfl roLe))) (rowSl rfl (H.get (k:=2) rfl) (Cells.sup_le (ae.at H) (roLe _ (H.get (k:=3) rfl))) aL) (ae.app _) ay cw _ (H.gt 4)) ?_
 rintro vq dQ ⟨ag,rfl,hvq,aa⟩
 subst vq;(try dsimp only at hM);replace H:=H.bk aa;clear aa;refine kg 3 ?_;obtain ⟨ah,cx,hM⟩:=M.e_bind hM;refine t_gcall ag (gy_t rfl) cf20 (B ah) (fun _=>[aj,ai]) (fun hg=>lst2 (gd_of hg (aj)) (gd_of hg (ai))) H (fun hg=>(zac r5 revised (rdo 1) (H.os 1) (aw.app _) aB (M.e_opt cx hg) _ (H.give (A:=[]) rfl)).mono fun v_ w_ ⟨y_,ab,av,H_⟩=>by subst ab; exact ⟨av,H.via H_⟩) ?_;intro dR H;refine s_val (x_pand (b:=ag) (r:=ah) rfl (fun hb=>gd_of (c:=ag) (by first | exact hb | (rw [hb]; rfl) | simp_all) (B ah)) rfl) ?_;refine kg 3 ?_;obtain ⟨al,cy,hM⟩:=M.e_bind hM;refine t_gcall (ag&&ah) (gy_t rfl) cf20 (B al) (fun _=>[ap,ak]) (fun hg=>lst2 (gd_of hg (ap)) (gd_of hg (ak))) H (fun hg=>(zac r6 fence (rdo 0) (H.os 0) (aC.app _) aM (M.e_opt cy hg) _ (H.give (A:=[]) rfl)).mono fun v_ w_ ⟨y_,ab,av,H_⟩=>by subst ab; exact ⟨av,H.via H_⟩) ?_;intro dS H;refine s_val (x_pand (b:=(ag&&ah)) (r:=al) rfl (fun hb=>gd_of (c:=(ag&&ah)) (by first | exact hb | (rw [hb]; rfl) | simp_all) (B al)) rfl) ?_;refine kg 1 ?_;obtain ⟨aA,cz,hM⟩:=M.e_bind hM;refine t_gcall ((ag&&ah)&&al) (gy_t rfl) cf10 (B aA) (fun _=>[]) (fun _=>rfl) H (fun hg=>(zar (M.e_opt cz hg) _ (H.give (A:=[]) rfl)).mono fun v_ w_ ⟨y_,ab,av,H_⟩=>by subst ab; exact ⟨av,H.via H_⟩) ?_;intro dT H;refine s_val (x_pand (b:=((ag&&ah)&&al)) (r:=aA) rfl (fun hb=>gd_of (c:=((ag&&ah)&&al)) (by first | exact hb | (rw [hb]; rfl) | simp_all) (B aA)) rfl) ?_;refine kg 2 ?_;replace H:=H.pk [];refine W.ret ?_
 have ab:=M.e_pure hM
 exact ⟨_,resE_tmp rfl,⟨(((ag&&ah)&&al)&&aA),ab,rfl,H⟩⟩

def zec (l:List (List Int)):(Nat × (List (List Int)))->M ((Nat × (List (List Int))) ⊕ ((List (List Int)) × (List (List Int)))):=fun (i,l2) =>
  bif decide ((i:Int)<(l.length:Int)) then (
  M.grd (decide ((i:Int)<(l.length:Int))) <|
  M.bind (zay (l.getD i ([]))) fun r2 =>
  M.grd (decide ((l2.length+([r2]).length)*24<=140737488355328)) <|
  M.pure (.inl (i+1,l2++([r2]))))
  else (
  M.pure (.inr (l2,l2)))
def zbY (l:List (List Int)):M (List (List Int)) :=
  M.bind (M.iter (zec l) (0,[])) fun (l3,l4) =>
  M.pure l4
theorem zeW {R:List Chunk} {ap:Cells} {ak:Value} (l:List (List Int)) (aq:Reads R ap) (au:Sl ap ak l) {r:(List (List Int))} (hM:(zbY l).Ends r) (w:World) (H:St w w [] R):Ret Tryz.prog 42 #[ak] w fun v w'=>∃ (y0:List (List Int)) (u0:Value) (rr1:List (Raw 0)) (av:Base),y0=r/\v=u0/\St w w' [cOwn (α:=Raw 0) 22 u0 rr1,cRo av] R/\RepR (α:=List Int) av.cells rr1 y0:=by
 refine ret_of_W Tryz.func42 rfl rfl rfl ?_;refine kg 14 ?_
 obtain ⟨aw,H⟩:=H.emptyE
 replace H:=H.nilOwn (α:=Raw 0) 22
 have aB:RepR (α:=List Int) (n:=0) aw.cells [] []:=.nil
 obtain ⟨aC,al,aD⟩:=M.e_bind hM
 obtain ⟨aU,al⟩:=M.e_iter al
 refine W.loop (fun m σ W=>∃ (i:Nat) (l2:List (List Int)) (ah:Value) (aa:List (Raw 0)) (B_l2:Base) (ρ:Env),σ=upds ρ [(0,ak),(3,ah),(4,I (i:Int))]/\M.iterN (zec l) m (i,l2)=some aC/\St w W [cOwn (α:=Raw 0) 22 ah aa,cRo B_l2] R/\RepR (α:=List Int) B_l2.cells aa l2) ?_ ?_
 ·exact ⟨_,0,[],(.slice none 0 0),[],aw,_,upds_of _ _ ⟨rfl,rfl,rfl,trivial⟩,al,H,aB⟩
 rintro aV σ aW ⟨i,l2,ah,aa,B_l2,ρ,rfl,ax,H,ae⟩
 obtain ⟨aE,aF,aX,hM,ay⟩:=M.e_iterN ax
 simp only [zec] at hM
 clear ax
 have aY:=(au).len_le
 refine kg 8 ?_
 refine W.cond (decide ((i:Int)<(l.length:Int))) rfl (fun ab=>?_) (fun ab=>?_)
 ·replace hM:=M.e_t hM ab
  replace ab:=dI ab
  obtain ⟨aZ,hM⟩:=M.e_gd hM;refine kg 8 ?_
  obtain ⟨am,aG,ai⟩:=List_at au (i:=(i:Int)) (by omega) (by omega)
  replace ai:Sl _ am (l.getD i ([])):=ai
  have a0:=ai.len_le
  refine s_val (x_ld (v:=am) rfl (ld_sc Sc22 (At.mono (aG) (aq.at H)))) ?_;obtain ⟨a4,aH,hM⟩:=M.e_bind hM;refine s_call cf13 [am] rfl (zaB (l.getD i ([])) (aq.app _) ai aH _ (H.gt 2)) ?_
  rintro vq a5 ⟨r2,ao,rfl,hvq,az⟩
  subst vq;(try dsimp only at hM);replace H:=H.bk az;clear az
  obtain ⟨a6,H⟩:=H.emptyE
  obtain ⟨a7,H,aI⟩:=H.freezeE (k:=1) rfl
  replace H:=H.nf
  have ag:=aI
  obtain ⟨aJ,H,a8,aK⟩:=H.joinE (i:=0) (j:=1) rfl rfl
  replace ag:=ag.mono aK
  obtain ⟨ac,aA⟩:∃ r:Raw 0,r.cs=[ao]:=⟨Raw.of [ao] rfl (by simp only [List.all_cons,List.all_nil,Bool.true_and,Bool.and_true,Sl.oc ag]; try rfl),rfl⟩
  have aL:RepR (α:=List Int) aJ.cells [ac] [r2]:=.cons (by rw [aA]; exact ⟨_,rfl,ag⟩)<|.nil
  refine t_bs (α:=Raw 0) T31 [ao] [ac] H rfl (.cons (by rw [show (Flat.enc ac:List Value)=ac.cs from rfl,aA]; exact Sl.cells ag) (Flat.rep_enc _ _)<|.nil) rfl rfl rfl ?_;intro aM a9 H;replace H:=H.nf;obtain ⟨ba,hM⟩:=M.e_gd hM
  have aj:=aL
  obtain ⟨aN,H,aO,aP⟩:=H.joinE (i:=5) (j:=1) rfl rfl
  replace ae:=ae.mono aO
  replace aj:=aj.mono aP
  have aQ:=ae.app aj
  refine t_app (α:=Raw 0) (k:=5) (l:=aa) (l2:=[ac]) (l':=aa++([ac])) (vy:=aM) T31 rfl H rfl rfl rfl (H.os 1) (H.ol 1) (rfl) (by have a_:=ae.len; have b_:=aj.len; (try simp only [List.length_nil] at *); first | omega | (rw [a_,b_]; omega)) ?_;intro aR bb H;replace H:=H.nf;refine kg 2 ?_;replace H:=H.pk [0,5,6];refine kg 5 ?_
  exact ⟨aE,aF,i+1,l2++([r2]),aR,aa++([ac]),aN,_,upds_of _ _ ⟨rfl,rfl,rfl,trivial⟩,M.e_inl hM ay,(H.pk [1,0]),aQ⟩
 replace hM:=M.e_f hM ab
 replace ab:=dI ab
 refine W.exit ?_
 have aS:=M.e_inr hM ay
 subst aS;replace hM:=aD;(try dsimp only at hM);refine kg 5 ?_;refine W.ret ?_
 have aT:=M.e_pure hM
 exact ⟨_,resE_tmp rfl,⟨l2,ah,aa,B_l2,aT,rfl,H,ae⟩⟩

end Go.Proofs.YtkclldpnmolljaaGreat
end
section
set_option maxRecDepth 100000
set_option maxHeartbeats 16000000
namespace Go.Proofs.YtkclldpnmolljaaGreat
open Go Go.Nm
attribute [local irreducible] gd execOp SL SLD SLT WR
def zdX (i:Int) (aa:List Int):M Bool :=
  M.bind (zak aa i) fun r2 =>
  M.pure r2
theorem zfs {R:List Chunk} {ac:Nat} {ae:Cells} {aa:Value} (i:Int) (ab:List Int) (ah:Reads R ae) (ai:Sl ae aa ab) (al:Has R (cBlk ac [aa] 22)) {r:Bool} (hM:(zdX i ab).Ends r) (w:World) (H:St w w [] R):Ret Tryz.prog 91 #[I i,Pq ac] w fun v w'=>∃ (y0:Bool),y0=r/\v=B y0/\St w w' [] R:=by
 refine ret_of_W Tryz.func91 rfl rfl rfl ?_;refine kg 8 ?_;obtain ⟨am,aj,hM⟩:=M.e_bind hM;refine s_call cf62 [aa,I i] rfl (zaq ab i (ah.app _) ai aj _ (H.gt 0)) ?_
 rintro vq ao ⟨r2,rfl,hvq,ag⟩
 subst vq;(try dsimp only at hM);replace H:=H.bk ag;clear ag;refine kg 2 ?_;refine W.ret ?_
 have ak:=M.e_pure hM
 exact ⟨_,resE_tmp rfl,⟨r2,ak,rfl,H⟩⟩

def zbl (i:Int) (aa:List Int):M Bool :=
  M.bind (zak aa i) fun r2 =>
  M.pure (!r2)
theorem zem {R:List Chunk} {ac:Nat} {ae:Cells} {aa:Value} (i:Int) (ab:List Int) (ah:Reads R ae) (ai:Sl ae aa ab) (al:Has R (cBlk ac [aa] 22)) {r:Bool} (hM:(zbl i ab).Ends r) (w:World) (H:St w w [] R):Ret Tryz.prog 92 #[I i,Pq ac] w fun v w'=>∃ (y0:Bool),y0=r/\v=B y0/\St w w' [] R:=by
 refine ret_of_W Tryz.func92 rfl rfl rfl ?_;refine kg 8 ?_;obtain ⟨am,aj,hM⟩:=M.e_bind hM;refine s_call cf62 [aa,I i] rfl (zaq ab i (ah.app _) ai aj _ (H.gt 0)) ?_
 rintro vq ao ⟨r2,rfl,hvq,ag⟩
 subst vq;(try dsimp only at hM);replace H:=H.bk ag;clear ag;refine kg 3 ?_;refine W.ret ?_
 have ak:=M.e_pure hM
 exact ⟨_,resE_tmp rfl,⟨(!r2),ak,rfl,H⟩⟩

def zeK (i:Int) (aa:List Work) (ab:List Int) (ac:Int->Option Bool) (ae:Int):M (Bool × (Int->Option Bool)) :=
  M.bind (zdt aa (fun ag=>zbl ag ab) ac i ae) fun (r2,ah) =>
  M.pure (r2.isEmpty,ah)
theorem zfD {R:List Chunk} {ak:Nat} {ac:Nat} {al:Nat} {am:Cells} {ao:Value} {ae:Nat} {ap:Cells} {aq:Value} {ag:Nat} {au:Nat} (i:Int) (ah:List Work) (aa:List Int) (ai:Int->Option Bool) (ab:Int) (ax:Reads R am) (ay:Sl am ao ah) (az:Has R (cBlk al [ao] 97)) (aA:Reads R ap) (aB:Sl ap aq aa) (aC:Has R (cBlk ae [aq] 22)) (aD:Has R (cBlk ac [Pq al,.func (.func 92) #[] #[Pq ae],.map (some ag)] 149)) (aP:Has R (cBlk ak [Pq ac] 108)) (aQ:Has R (cBlk au [I ab] 3)) {r:(Bool × (Int->Option Bool))} (hM:(zeK i ah aa ai ab).Ends r) (w:World) (H:St w w [cMap I B ag ai] R):Ret Tryz.prog 93 #[I i,Pq ak,Pq au] w fun v w'=>∃ (y0:Bool) (y1:Int->Option Bool),(y0,y1)=r/\v=B y0/\St w w' [cMap I B ag y1] R:=by
 refine ret_of_W Tryz.func93 rfl rfl rfl ?_;refine kg 9 ?_;obtain ⟨aR,aE,hM⟩:=M.e_bind hM;refine s_call cf72 [Pq ac,I i,I ab] rfl (zeO ah (fun aj=>zbl aj aa) ai i ab (ax.app _) ay (az.app _) ⟨92,[Pq ae],rfl,cf92,fun av aS aT aF aj aU aG aV aH aI=>by obtain rfl:=Arg.int aH; exact (zem aj aa (Reads.app (aA.app _) _) aB (Has.app (aC.app _) _) aI av (St.refl aG)).mono fun aF av ⟨aW,aJ,aK,aL⟩=>by subst aJ; exact ⟨aK,aL⟩⟩ (aD.app _) aE _ (H.gt 0)) ?_
 rintro vq aX ⟨r2,aM,aY,rfl,hvq,aw,aN⟩
 subst vq;(try dsimp only at hM);replace H:=H.bk aw;clear aw;refine s_val (x_eqnil (α:=Int) T22.und rfl rfl (H.os 0) aN) ?_;refine kg 2 ?_;refine W.ret ?_
 have aO:=M.e_pure hM
 exact ⟨_,resE_tmp rfl,⟨r2.isEmpty,aM,aO,rfl,(H.pk [1])⟩⟩

def zeS (x:Int) (aa:List Work) (ab:List Int) (ac:Int->Option Bool) (ae:Int):M (Bool × (Int->Option Bool)) :=
  M.bind (zeK x aa ab ac ae) fun (r2,ag) =>
  M.pure ((!r2),ag)
theorem zgq {R:List Chunk} {ah:Nat} {ai:Nat} {aj:Nat} {ak:Nat} {al:Cells} {am:Value} {ao:Nat} {ap:Cells} {aq:Value} {aa:Nat} {au:Nat} (x:Int) (ab:List Work) (ac:List Int) (ae:Int->Option Bool) (ag:Int) (aw:Reads R al) (ax:Sl al am ab) (ay:Has R (cBlk ak [am] 97)) (az:Reads R ap) (aA:Sl ap aq ac) (aB:Has R (cBlk ao [aq] 22)) (aC:Has R (cBlk aj [Pq ak,.func (.func 92) #[] #[Pq ao],.map (some aa)] 149)) (aD:Has R (cBlk ai [Pq aj] 108)) (aE:Has R (cBlk au [I ag] 3)) (aI:Has R (cBlk ah [.func (.func 93) #[] #[Pq ai,Pq au]] 103)) {r:(Bool × (Int->Option Bool))} (hM:(zeS x ab ac ae ag).Ends r) (w:World) (H:St w w [cMap I B aa ae] R):Ret Tryz.prog 108 #[I x,Pq ah] w fun v w'=>∃ (y0:Bool) (y1:Int->Option Bool),(y0,y1)=r/\v=B y0/\St w w' [cMap I B aa y1] R:=by
 refine ret_of_W Tryz.func108 rfl rfl rfl ?_;refine kg 8 ?_;obtain ⟨aJ,aF,hM⟩:=M.e_bind hM;refine s_callv (f:=93) rfl cf93 [I x] rfl (zfD x ab ac ae ag (aw.app _) ax (ay.app _) (az.app _) aA (aB.app _) (aC.app _) (aD.app _) (aE.app _) aF _ (H.gt 0)) ?_
 rintro vq aK ⟨r2,aG,rfl,hvq,av⟩
 subst vq;(try dsimp only at hM);replace H:=H.bk av;clear av;refine kg 3 ?_;refine W.ret ?_
 have aH:=M.e_pure hM
 exact ⟨_,resE_tmp rfl,⟨(!r2),aG,aH,rfl,H⟩⟩

def zcg (s:List Int) (ab:List Work) (ac:List Int) (ae:Int):((Int->Option Bool) × Nat)->M (((Int->Option Bool) × Nat) ⊕ ((Int × (Int->Option Bool)) ⊕ (Int->Option Bool))):=fun (mp,s2) =>
  bif decide ((s2:Int)<(s.length:Int)) then (
  M.grd (decide ((s2:Int)<(s.length:Int))) <|
  M.bind (zeS (s.getD s2 0) ab ac mp ae) fun (r2,aa) =>
  bif r2 then (
  M.pure (.inr (.inl ((s2:Int),aa))))
  else (
  M.pure (.inl (aa,s2+1))))
  else (
  M.pure (.inr (.inr mp)))
def ze5 (s:List Int) (aa:List Work) (ab:List Int) (ac:Int->Option Bool) (ae:Int):M (Int × (Int->Option Bool)) :=
  M.bind (M.iter (zcg s aa ab ae) (ac,0)) fun x_=>match x_ with
  | (.inl (s3,ag))=>(
  M.pure (s3,ag))
  | (.inr ah)=>(
  M.pure ((-1),ah))
theorem zfN {R:List Chunk} {ap:Cells} {ah:Value} {ai:Nat} {aq:Nat} {au:Nat} {av:Nat} {aw:Cells} {ax:Value} {ay:Nat} {az:Cells} {aA:Value} {ab:Nat} {aB:Nat} (s:List Int) (ac:List Work) (ae:List Int) (aj:Int->Option Bool) (ag:Int) (aX:Reads R ap) (aG:Sl ap ah s) (aH:Reads R aw) (aI:Sl aw ax ac) (aJ:Has R (cBlk av [ax] 97)) (aK:Reads R az) (aL:Sl az aA ae) (aM:Has R (cBlk ay [aA] 22)) (aN:Has R (cBlk au [Pq av,.func (.func 92) #[] #[Pq ay],.map (some ab)] 149)) (aO:Has R (cBlk aq [Pq au] 108)) (aP:Has R (cBlk aB [I ag] 3)) (aQ:Has R (cBlk ai [.func (.func 93) #[] #[Pq aq,Pq aB]] 103)) {r:(Int × (Int->Option Bool))} (hM:(ze5 s ac ae aj ag).Ends r) (w:World) (H:St w w [cMap I B ab aj] R):Ret Tryz.prog 60 #[ah,.func (.func 108) #[] #[Pq ai]] w fun v w'=>∃ (y0:Int) (y1:Int->Option Bool),(y0,y1)=r/\v=I y0/\St w w' [cMap I B ab y1] R:=by
 refine ret_of_W Tryz.func60 rfl rfl rfl ?_
 have aY:=(aG).len_le
 refine kg 12 ?_;obtain ⟨aR,ak,aC⟩:=M.e_bind hM
 obtain ⟨aZ,ak⟩:=M.e_iter ak
 refine W.loop (fun m σ W=>∃ (mp:Int->Option Bool) (s2:Nat) (ρ:Env),σ=upds ρ [(0,ah),(1,.func (.func 108) #[] #[Pq ai]),(7,I (s.length:Int)),(8,I (s2:Int))]/\M.iterN (zcg s ac ae ag) m (mp,s2)=some aR/\St w W [cMap I B ab mp] R) ?_ ?_
 ·exact ⟨_,aj,0,_,upds_of _ _ ⟨rfl,rfl,rfl,rfl,trivial⟩,ak,H⟩
 rintro a0 σ a4 ⟨mp,s2,ρ,rfl,aD,H⟩
 obtain ⟨aS,aT,a5,hM,al⟩:=M.e_iterN aD
 simp only [zcg] at hM
 clear aD;refine kg 5 ?_
 refine W.cond (decide ((s2:Int)<(s.length:Int))) rfl (fun aa=>?_) (fun aa=>?_)
 ·replace hM:=M.e_t hM aa
  replace aa:=dI aa
  obtain ⟨a6,hM⟩:=M.e_gd hM;refine kg 15 ?_;obtain ⟨a7,aU,hM⟩:=M.e_bind hM;refine s_callv (f:=108) rfl cf108 [I (s.getD s2 0)] rfl (zgq (s.getD s2 0) ac ae mp ag (aH.app _) aI (aJ.app _) (aK.app _) aL (aM.app _) (aN.app _) (aO.app _) (aP.app _) (aQ.app _) aU _ (H.gt 0)) ?_
  rintro vq a8 ⟨r2,aE,rfl,hvq,aF⟩
  subst vq;(try dsimp only at hM);replace H:=H.bk aF;clear aF;refine s_nil ?_
  refine W.cond r2 rfl (fun am=>?_) (fun am=>?_)
  ·replace hM:=M.e_t hM am;refine kg 5 ?_;refine W.ret ?_
   have aV:=M.e_inr hM al
   subst aV;replace hM:=aC;(try dsimp only at hM)
   have ao:=M.e_pure hM
   exact ⟨_,resE_tmp rfl,⟨(s2:Int),aE,ao,rfl,H⟩⟩
  replace hM:=M.e_f hM am;refine kg 5 ?_
  exact ⟨aS,aT,aE,s2+1,_,upds_of _ _ ⟨rfl,rfl,rfl,rfl,trivial⟩,M.e_inl hM al,H⟩
 replace hM:=M.e_f hM aa
 replace aa:=dI aa
 refine W.exit ?_
 have aW:=M.e_inr hM al
 subst aW;replace hM:=aC;(try dsimp only at hM);refine kg 4 ?_;refine W.ret ?_
 have ao:=M.e_pure hM
 exact ⟨_,resE_tmp rfl,⟨(-1),mp,ao,rfl,H⟩⟩

def zey (s:List Int) (aa:List Work) (ab:List Int) (ac:Int->Option Bool) (ae:Int):M (Bool × (Int->Option Bool)) :=
  M.bind (ze5 s aa ab ac ae) fun (r2,ag) =>
  M.pure ((decide (0<=r2)),ag)
theorem zfC {R:List Chunk} {aj:Cells} {aa:Value} {ab:Nat} {ak:Nat} {al:Nat} {am:Nat} {ao:Cells} {ap:Value} {aq:Nat} {au:Cells} {av:Value} {ac:Nat} {aw:Nat} (s:List Int) (ae:List Work) (ag:List Int) (ah:Int->Option Bool) (ai:Int) (ay:Reads R aj) (az:Sl aj aa s) (aA:Reads R ao) (aB:Sl ao ap ae) (aC:Has R (cBlk am [ap] 97)) (aD:Reads R au) (aE:Sl au av ag) (aF:Has R (cBlk aq [av] 22)) (aG:Has R (cBlk al [Pq am,.func (.func 92) #[] #[Pq aq],.map (some ac)] 149)) (aH:Has R (cBlk ak [Pq al] 108)) (aI:Has R (cBlk aw [I ai] 3)) (aJ:Has R (cBlk ab [.func (.func 93) #[] #[Pq ak,Pq aw]] 103)) {r:(Bool × (Int->Option Bool))} (hM:(zey s ae ag ah ai).Ends r) (w:World) (H:St w w [cMap I B ac ah] R):Ret Tryz.prog 90 #[aa,.func (.func 108) #[] #[Pq ab]] w fun v w'=>∃ (y0:Bool) (y1:Int->Option Bool),(y0,y1)=r/\v=B y0/\St w w' [cMap I B ac y1] R:=by
 refine ret_of_W Tryz.func90 rfl rfl rfl ?_;refine kg 8 ?_;obtain ⟨aN,aK,hM⟩:=M.e_bind hM;refine s_call cf60 [aa,.func (.func 108) #[] #[Pq ab]] rfl (zfN s ae ag ah ai (ay.app _) az (aA.app _) aB (aC.app _) (aD.app _) aE (aF.app _) (aG.app _) (aH.app _) (aI.app _) (aJ.app _) aK _ (H.gt 0)) ?_
 rintro vq aO ⟨r2,aL,rfl,hvq,ax⟩
 subst vq;(try dsimp only at hM);replace H:=H.bk ax;clear ax;refine kg 3 ?_;refine W.ret ?_
 have aM:=M.e_pure hM
 exact ⟨_,resE_tmp rfl,⟨(decide (0<=r2)),aL,aM,rfl,H⟩⟩

def zep (aa:List Work) (ab:List Int) (ac:Int->Option Bool) (ae:Int) (l:List Int):M (Bool × (Int->Option Bool)) :=
  M.bind (zey l aa ab ac ae) fun (r2,ag) =>
  M.pure ((!r2),ag)
theorem zgj {R:List Chunk} {aa:Nat} {ak:Nat} {al:Nat} {am:Cells} {ao:Value} {ap:Nat} {aq:Cells} {au:Value} {ab:Nat} {ac:Nat} {av:Cells} {ae:Value} (ag:List Work) (ah:List Int) (ai:Int->Option Bool) (aj:Int) (l:List Int) (ay:Reads R am) (az:Sl am ao ag) (aA:Has R (cBlk al [ao] 97)) (aB:Reads R aq) (aC:Sl aq au ah) (aD:Has R (cBlk ap [au] 22)) (aE:Has R (cBlk ak [Pq al,.func (.func 92) #[] #[Pq ap],.map (some ab)] 149)) (aF:Has R (cBlk aa [Pq ak] 108)) (aG:Has R (cBlk ac [I aj] 3)) (aH:Reads R av) (aI:Sl av ae l) {r:(Bool × (Int->Option Bool))} (hM:(zep ag ah ai aj l).Ends r) (w:World) (H:St w w [cMap I B ab ai] R):Ret Tryz.prog 64 #[.func (.func 93) #[] #[Pq aa,Pq ac],ae] w fun v w'=>∃ (y0:Bool) (y1:Int->Option Bool),(y0,y1)=r/\v=B y0/\St w w' [cMap I B ab y1] R:=by
 refine ret_of_W Tryz.func64 rfl rfl rfl ?_;refine kg 2 ?_;refine t_b1 (.func (.func 93) #[] #[Pq aa,Pq ac]) H rfl rfl ?_;intro aw aM H;refine kg 5 ?_;refine s_val (x_mf (fs:=[]) (cs:=[Pq aw]) rfl rfl) ?_;obtain ⟨aN,aJ,hM⟩:=M.e_bind hM;refine s_call cf90 [ae,.func (.func 108) #[] #[Pq aw]] rfl (zfC l ag ah ai aj (aH.app _) aI (ay.app _) az (aA.app _) (aB.app _) aC (aD.app _) (aE.app _) (aF.app _) (aG.app _) (Has.here (k:=0) rfl) aJ _ ((H.pk [1,0]).gt 1)) ?_
 rintro vq aO ⟨r2,aK,rfl,hvq,ax⟩
 subst vq;(try dsimp only at hM)
 replace H:=H.pk [1,0] |>.bk ax
 clear ax;refine kg 3 ?_;refine W.ret ?_
 have aL:=M.e_pure hM
 exact ⟨_,resE_tmp rfl,⟨(!r2),aK,aL,rfl,(H.pk [0])⟩⟩

def zeT (w_:List Work) (revised:List Int) (work:Int) (frozen:List Int):M (Bool × Int) :=
  M.bind (zby w_ revised work) fun x_=>match x_ with
  | (.inl r1)=>(
  bif r1==0 then (
  M.fail)
  else (
  bif r1 != 0 then (
  M.pure (false,r1))
  else (
  M.fail)))
  | (.inr ab)=>(
  bif ab==0 then (
  M.bind (zbF w_ frozen) fun r2 =>
  bif r2 != 0 then (
  M.pure (false,r2))
  else (
  M.bind (zak frozen work) fun r3 =>
  M.bind (M.opt (!r3) (zba frozen (fun aa=>zdX aa revised)) false) fun r4 =>
  bif (r3||r4) then (
  M.pure (false,7))
  else (
  M.bind (zcj w_ (fun aa=>zbl aa frozen)) fun ac =>
  M.bind (zep w_ frozen ac work revised) fun (r5,ae) =>
  M.pure (r5,0))))
  else (
  M.fail))
theorem zfJ {R:List Chunk} {aH:Cells} {ap:Value} {aI:Cells} {ah:Value} {aJ:Cells} {ac:Value} (w_:List Work) (revised:List Int) (work:Int) (frozen:List Int) (aq:Reads R aH) (au:Sl aH ap w_) (ax:Reads R aI) (av:Sl aI ah revised) (aj:Reads R aJ) (ai:Sl aJ ac frozen) {r:(Bool × Int)} (hM:(zeT w_ revised work frozen).Ends r) (w:World) (H:St w w [] R):Ret Tryz.prog 43 #[ap,ah,I work,ac] w fun v w'=>∃ (y0:Bool) (y1:Int),(y0,y1)=r/\v = .tuple #[B y0,I y1]/\St w w' [] R:=by
 refine ret_of_W Tryz.func43 rfl rfl rfl ?_;refine kg 2 ?_;refine t_box (v:=ah) (cs:=[ah]) H rfl (Sl.cells av) ?_;intro aw a7 H;refine t_b1 (I work) H rfl rfl ?_;intro aK a8 H;refine t_box (v:=ac) (cs:=[ac]) H rfl (Sl.cells ai) ?_;intro ay a9 H;refine kg 8 ?_;obtain ⟨ba,aN,hM⟩:=M.e_bind hM;refine s_call cf89 [ap,ah,I work] rfl (zca w_ revised work (aq.app _) au (ax.app _) av aN _ (H.gt 3)) ?_
 rintro vq bb (⟨r1,aO,hvq,aa⟩ | ⟨aP,aQ,aR,hvq,aa⟩)
 ·subst aO;subst vq;(try dsimp only at hM);replace H:=H.bk aa;clear aa;refine kg 12 ?_
  refine W.cond (r1==0) rfl (fun ak=>?_) (fun ak=>?_)
  ·replace hM:=M.e_t hM ak
   exact (M.e_fail hM).elim
  replace hM:=M.e_f hM ak
  replace ak:=dI ak
  refine kg 9 ?_
  refine W.cond (r1 != 0) rfl (fun al=>?_) (fun al=>?_)
  ·replace hM:=M.e_t hM al
   replace al:=dI al
   refine kg 6 ?_;replace H:=H.pk [];refine W.ret ?_
   have ab:=M.e_pure hM
   exact ⟨_,resE_tmp2 rfl,⟨false,r1,ab,rfl,H⟩⟩
  replace hM:=M.e_f hM al
  exact (M.e_fail hM).elim
 subst aR;subst vq;(try dsimp only at hM);replace H:=H.bk aa;clear aa;refine kg 12 ?_
 refine W.cond (aP==0) rfl (fun am=>?_) (fun am=>?_)
 ·replace hM:=M.e_t hM am
  replace am:=dI am
  refine kg 3 ?_;obtain ⟨bc,aS,hM⟩:=M.e_bind hM;refine s_call cf82 [ap,ac] rfl (zc6 w_ frozen (aq.app _) au (aj.app _) ai aS _ (H.gt 4)) ?_
  rintro vq bf ⟨r2,rfl,hvq,aa⟩
  subst vq;(try dsimp only at hM);replace H:=H.bk aa;clear aa;refine kg 10 ?_
  refine W.cond (r2 != 0) rfl (fun ae=>?_) (fun ae=>?_)
  ·replace hM:=M.e_t hM ae
   replace ae:=dI ae
   refine kg 6 ?_;replace H:=H.pk [];refine W.ret ?_
   have ab:=M.e_pure hM
   exact ⟨_,resE_tmp2 rfl,⟨false,r2,ab,rfl,H⟩⟩
  replace hM:=M.e_f hM ae
  replace ae:=dI ae
  refine kg 4 ?_;obtain ⟨bg,aT,hM⟩:=M.e_bind hM;refine s_call cf62 [ac,I work] rfl (zaq frozen work (aj.app _) ai aT _ (H.gt 4)) ?_
  rintro vq bh ⟨r3,rfl,hvq,aa⟩
  subst vq;(try dsimp only at hM);replace H:=H.bk aa;clear aa;refine kg 2 ?_;refine g_val (!r3) (gy_f rfl) (fun hg=>x_mf (fs:=[]) (cs:=[Pq aw]) rfl rfl) ?_;obtain ⟨r4,aU,hM⟩:=M.e_bind hM;refine t_gcall (!r3) (gy_f rfl) cf90 (B r4) (fun _=>[ac,.func (.func 91) #[] #[Pq aw]]) (fun hg=>lst2 (gd_of hg (ac)) (gd_of hg (.func (.func 91) #[] #[Pq aw]))) H (fun hg=>(zbM frozen (fun ag=>zdX ag revised) (aj.app _) ai ⟨91,[Pq aw],rfl,cf91,fun ao aV aW az ag aX aA aY aB aC=>by obtain rfl:=Arg.int aB; exact (zfs ag revised (Reads.app (ax.app _) _) av (Has.app (Has.here (k:=3) rfl) _) aC ao (St.refl aA)).mono fun az ao ⟨aZ,aD,aE,aF⟩=>by subst aD; exact ⟨aE,aF⟩⟩ (M.e_opt aU hg) _ (H.give (A:=[]) rfl)).mono fun v_ w_ ⟨y_,ab,a0,H_⟩=>by subst ab; exact ⟨a0,H.via H_⟩) ?_;intro bi H;refine s_val (x_por (b:=r3) (r:=r4) rfl rfl (fun hb=>gd_of (c:=!r3) (by first | exact hb | (rw [hb]; rfl) | simp_all) (B r4)))<|zA (B (r3||r4)) rfl<|s_nil ?_
  refine W.cond (r3||r4) rfl (fun aG=>?_) (fun aG=>?_)
  ·replace hM:=M.e_t hM aG;refine kg 5 ?_;replace H:=H.pk [];refine W.ret ?_
   have ab:=M.e_pure hM
   exact ⟨_,resE_tmp2 rfl,⟨false,7,ab,rfl,H⟩⟩
  replace hM:=M.e_f hM aG;refine kg 4 ?_;refine s_val (x_mf (fs:=[]) (cs:=[Pq ay]) rfl rfl) ?_;obtain ⟨bj,a4,hM⟩:=M.e_bind hM;refine s_call cf70 [Pq aQ,.func (.func 92) #[] #[Pq ay]] rfl (zew w_ (fun ag=>zbl ag frozen) (aq.app _) au (Has.here (k:=0) rfl) ⟨92,[Pq ay],rfl,cf92,fun ao aV aW az ag aX aA aY aB aC=>by obtain rfl:=Arg.int aB; exact (zem ag frozen (Reads.app (aj.app _) _) ai (Has.app (Has.here (k:=1) rfl) _) aC ao (St.refl aA)).mono fun az ao ⟨aZ,aD,aE,aF⟩=>by subst aD; exact ⟨aE,aF⟩⟩ a4 _ (H.gt 4)) ?_
  rintro vq bm ⟨a5,aL,bn,rfl,hvq,aa⟩
  subst vq;(try dsimp only at hM);replace H:=H.bk aa;clear aa;refine t_alloc (cs:=[.pointer none]) H Al108 rfl ?_;intro aM bo H;refine t_sw 0 0 [Pq aL] (Pq aL) H rfl rfl Sz108 rfl rfl rfl rfl ?_;intro bp H;refine kg 3 ?_;refine s_val (x_mf (fs:=[]) (cs:=[Pq aM,Pq aK]) rfl rfl) ?_;refine kg 1 ?_;obtain ⟨br,a6,hM⟩:=M.e_bind hM;refine s_call cf64 [.func (.func 93) #[] #[Pq aM,Pq aK],ah] rfl (zgj w_ frozen a5 work revised (aq.app _) au (Has.here (k:=2) rfl) (aj.app _) ai (Has.here (k:=3) rfl) (Has.here (k:=1) rfl) (Has.here (k:=0) rfl) (Has.here (k:=4) rfl) (ax.app _) av a6 _ ((H.pk [2,0,1,3,4,5,6]).gt 6)) ?_
  rintro vq bt ⟨r5,bu,rfl,hvq,aa⟩
  subst vq;(try dsimp only at hM)
  replace H:=H.pk [2,0,1,3,4,5,6] |>.bk aa
  clear aa;refine kg 3 ?_;replace H:=H.pk [];refine W.ret ?_
  have ab:=M.e_pure hM
  exact ⟨_,resE_tmp2 rfl,⟨r5,0,ab,rfl,H⟩⟩
 replace hM:=M.e_f hM am
 exact (M.e_fail hM).elim

def zbT (w_:List Work) (revised:List Int) (work:Int):M Int :=
  M.bind (za7 w_ revised) fun (r0,r1) =>
  bif r1 != 0 then (
  M.pure r1)
  else (
  M.bind (zao work 0 ((w_.length:Int)-1)) fun r2 =>
  bif r2 then (
  M.pure 2)
  else (
  M.bind (zad revised work) fun r3 =>
  bif r3 then (
  M.pure 8)
  else (
  M.pure 0)))
theorem zcY {R:List Chunk} {aj:Cells} {ag:Value} {ak:Cells} {ae:Value} (w_:List Work) (revised:List Int) (work:Int) (ap:Reads R aj) (al:Sl aj ag w_) (am:Reads R ak) (ao:Sl ak ae revised) {r:Int} (hM:(zbT w_ revised work).Ends r) (w:World) (H:St w w [] R):Ret Tryz.prog 94 #[ag,ae,I work] w fun v w'=>∃ (y0:Int),y0=r/\v=I y0/\St w w' [] R:=by
 refine ret_of_W Tryz.func94 rfl rfl rfl ?_;refine kg 9 ?_;obtain ⟨aw,aq,hM⟩:=M.e_bind hM;refine s_call cf36 [ag,ae] rfl (zbp w_ revised (ap.app _) al (am.app _) ao aq _ (H.gt 0)) ?_
 rintro vq ax ⟨r0,r1,ay,rfl,hvq,aa⟩
 subst vq;(try dsimp only at hM);replace H:=H.bk aa;clear aa;refine kg 11 ?_
 refine W.cond (r1 != 0) rfl (fun ab=>?_) (fun ab=>?_)
 ·replace hM:=M.e_t hM ab
  replace ab:=dI ab
  refine kg 5 ?_;refine W.ret ?_
  have ac:=M.e_pure hM
  exact ⟨_,resE_tmp rfl,⟨r1,ac,rfl,(H.pk [])⟩⟩
 replace hM:=M.e_f hM ab
 replace ab:=dI ab
 have az:=(al).len_le
 refine kg 8 ?_;obtain ⟨aA,au,hM⟩:=M.e_bind hM;refine s_call cf68 [I work,I 0,I ((w_.length:Int)-1)] rfl (zas work 0 ((w_.length:Int)-1) au _ (H.gt 1)) ?_
 rintro vq aB ⟨r2,rfl,hvq,aa⟩
 subst vq;(try dsimp only at hM);replace H:=H.bk aa;clear aa;refine s_nil ?_
 refine W.cond r2 rfl (fun ah=>?_) (fun ah=>?_)
 ·replace hM:=M.e_t hM ah;refine kg 4 ?_;refine W.ret ?_
  have ac:=M.e_pure hM
  exact ⟨_,resE_tmp rfl,⟨2,ac,rfl,(H.pk [])⟩⟩
 replace hM:=M.e_f hM ah;refine kg 6 ?_;obtain ⟨aC,av,hM⟩:=M.e_bind hM;refine s_call cf63 [ae,I work] rfl (zae revised work (am.app _) ao av _ (H.gt 1)) ?_
 rintro vq aD ⟨r3,rfl,hvq,aa⟩
 subst vq;(try dsimp only at hM);replace H:=H.bk aa;clear aa;refine s_nil ?_
 refine W.cond r3 rfl (fun ai=>?_) (fun ai=>?_)
 ·replace hM:=M.e_t hM ai;refine kg 4 ?_;refine W.ret ?_
  have ac:=M.e_pure hM
  exact ⟨_,resE_tmp rfl,⟨8,ac,rfl,(H.pk [])⟩⟩
 replace hM:=M.e_f hM ai;refine kg 5 ?_;refine W.ret ?_
 have ac:=M.e_pure hM
 exact ⟨_,resE_tmp rfl,⟨0,ac,rfl,(H.pk [])⟩⟩

def zdP (revised:List Int):((List Bool) × Nat)->M (((List Bool) × Nat) ⊕ ((List Bool) × (List Bool))):=fun (l,k) =>
  bif decide ((k:Int)<(revised.length:Int)) then (
  M.grd (decide ((k:Int)<(revised.length:Int))) <|
  M.grd (decide ((0:Int)<=(revised.getD k 0))&&decide ((revised.getD k 0)<(l.length:Int))) <|
  M.pure (.inl (l.set (Int.toNat (revised.getD k 0)) true,k+1)))
  else (
  M.pure (.inr (l,l)))
def zcp (w_:List Work) (frozen:List Int) (i:Nat):((List Bool) × Bool × Nat)->M (((List Bool) × Bool × Nat) ⊕ ((List Bool) × Bool × (List Bool))):=fun (l4,changed,k2) =>
  M.grd (decide ((i:Int)<(w_.length:Int))) <|
  bif decide ((k2:Int)<(((w_.getD i default).of).length:Int)) then (
  M.grd (decide ((k2:Int)<(((w_.getD i default).of).length:Int))) <|
  M.grd (decide ((0:Int)<=(((w_.getD i default).of).getD k2 0))&&decide ((((w_.getD i default).of).getD k2 0)<(l4.length:Int))) <|
  M.grd ((!(l4.getD (Int.toNat (((w_.getD i default).of).getD k2 0)) false)||(decide ((i:Int)<(l4.length:Int))))) <|
  M.bind (M.opt ((l4.getD (Int.toNat (((w_.getD i default).of).getD k2 0)) false)&&(!(l4.getD i false))) (zad frozen (i:Int)) false) fun r2 =>
  bif (((l4.getD (Int.toNat (((w_.getD i default).of).getD k2 0)) false)&&(!(l4.getD i false)))&&(!r2)) then (
  M.grd (decide ((i:Int)<(l4.length:Int))) <|
  M.pure (.inl (l4.set i true,true,k2+1)))
  else (
  M.pure (.inl (l4,changed,k2+1))))
  else (
  M.pure (.inr (l4,changed,l4)))
def zdN (w_:List Work) (frozen:List Int):((List Bool) × Bool × Nat)->M (((List Bool) × Bool × Nat) ⊕ ((List Bool) × Bool × (List Bool))):=fun (l7,changed3,i) =>
  bif decide ((i:Int)<(w_.length:Int)) then (
  M.bind (M.iter (zcp w_ frozen i) (l7,changed3,0)) fun (l5,changed2,l6) =>
  M.pure (.inl (l6,changed2,i+1)))
  else (
  M.pure (.inr (l7,changed3,l7)))
def zcZ (w_:List Work) (frozen:List Int):((List Bool) × Bool)->M (((List Bool) × Bool) ⊕ ((List Bool) × (List Bool))):=fun (aa,changed5) =>
  bif changed5 then (
  M.bind (M.iter (zdN w_ frozen) (aa,false,0)) fun (l8,changed4,l9) =>
  M.pure (.inl (l9,changed4)))
  else (
  M.pure (.inr (aa,aa)))
def zeg (w_:List Work) (revised:List Int) (work:Int) (frozen:List Int):M Bool :=
  M.grd (decide ((0:Int)<=(w_.length:Int))&&decide ((1:Int)*(w_.length:Int)<=281474976710656)&&decide ((w_.length:Int)<=(9223372036854775807:Int))) <|
  M.bind (M.iter (zdP revised) (List.replicate (w_.length) false,0)) fun (l2,l3) =>
  M.bind (M.iter (zcZ w_ frozen) (l3,true)) fun (ab,aa) =>
  M.grd (decide ((0:Int)<=work)&&decide (work<(aa.length:Int))) <|
  M.pure (!(aa.getD (Int.toNat work) false))
theorem zeQ {R:List Chunk} {aE:Cells} {ah:Value} {aF:Cells} {ap:Value} {aG:Cells} {aa:Value} (w_:List Work) (revised:List Int) (work:Int) (frozen:List Int) (aH:Reads R aE) (al:Sl aE ah w_) (br:Reads R aF) (aT:Sl aF ap revised) (aU:Reads R aG) (aV:Sl aG aa frozen) {r:Bool} (hM:(zeg w_ revised work frozen).Ends r) (w:World) (H:St w w [] R):Ret Tryz.prog 95 #[ah,ap,I work,aa] w fun v w'=>∃ (y0:Bool),y0=r/\v=B y0/\St w w' [] R:=by
 refine ret_of_W Tryz.func95 rfl rfl rfl ?_
 have bt:=(al).len_le
 obtain ⟨bu,hM⟩:=M.e_gd hM;refine kg 8 ?_;refine t_mk (α:=Bool) T92 false rfl (n:=(w_.length:Int)) H rfl rfl (by omega) (by omega) (by omega) ?_;intro aW bv H;replace H:=H.nf;refine kg 8 ?_;obtain ⟨aX,aq,aY⟩:=M.e_bind hM
 obtain ⟨au,aq⟩:=M.e_iter aq
 refine W.loop (fun m σ W=>∃ (l:List Bool) (k:Nat) (ai:Value) (ρ:Env),σ=upds ρ [(0,ah),(1,ap),(2,I work),(3,aa),(9,ai),(10,I (k:Int))]/\M.iterN (zdP revised) m (l,k)=some aX/\St w W [cOwn (α:=Bool) 4 ai l] R) ?_ ?_
 ·exact ⟨_,List.replicate (w_.length) false,0,aW,_,upds_of _ _ ⟨rfl,rfl,rfl,rfl,rfl,rfl,trivial⟩,aq,H⟩
 rintro bw σ bx ⟨l,k,ai,ρ,rfl,aI,H⟩
 obtain ⟨aZ,a0,bz,hM,aJ⟩:=M.e_iterN aI
 simp only [zdP] at hM
 clear aI
 have bA:=(aT).len_le
 refine kg 8 ?_
 refine W.cond (decide ((k:Int)<(revised.length:Int))) rfl (fun ab=>?_) (fun ab=>?_)
 ·replace hM:=M.e_t hM ab
  replace ab:=dI ab
  obtain ⟨bB,hM⟩:=M.e_gd hM;obtain ⟨bC,hM⟩:=M.e_gd hM;refine kg 10 ?_;refine t_ost (k:=0) (i:=revised.getD k 0) (l:=l) (l':=l.set (Int.toNat (revised.getD k 0)) true) (val:=B true) (L':=[cOwn (α:=Bool) 4 ai (l.set (Int.toNat (revised.getD k 0)) true)]) H rfl Sz4 (by omega) (by omega) true rfl rfl rfl rfl rfl ?_;intro bD H;refine kg 6 ?_
  exact ⟨aZ,a0,l.set (Int.toNat (revised.getD k 0)) true,k+1,ai,_,upds_of _ _ ⟨rfl,rfl,rfl,rfl,rfl,rfl,trivial⟩,M.e_inl hM aJ,H⟩
 replace hM:=M.e_f hM ab
 replace ab:=dI ab
 refine W.exit ?_
 have a4:=M.e_inr hM aJ
 subst a4;replace hM:=aY;(try dsimp only at hM);refine kg 6 ?_;obtain ⟨a5,av,a6⟩:=M.e_bind hM
 obtain ⟨au,av⟩:=M.e_iter av
 refine W.loop (fun m σ W=>∃ (aj:List Bool) (changed5:Bool) (am:Value) (ρ:Env),σ=upds ρ [(0,ah),(2,I work),(3,aa),(9,am),(11,B changed5)]/\M.iterN (zcZ w_ frozen) m (aj,changed5)=some a5/\St w W [cOwn (α:=Bool) 4 am aj] R) ?_ ?_
 ·exact ⟨_,l,true,ai,_,upds_of _ _ ⟨rfl,rfl,rfl,rfl,rfl,trivial⟩,av,H⟩
 rintro bE σ bF ⟨aj,changed5,am,ρ,rfl,aK,H⟩
 obtain ⟨a7,a8,bG,hM,aL⟩:=M.e_iterN aK
 simp only [zcZ] at hM
 clear aK;refine kg 5 ?_
 refine W.cond changed5 rfl (fun aw=>?_) (fun aw=>?_)
 ·replace hM:=M.e_t hM aw;refine kg 11 ?_;obtain ⟨a9,ax,ba⟩:=M.e_bind hM
  obtain ⟨au,ax⟩:=M.e_iter ax
  refine W.loop (fun m σ W=>∃ (l7:List Bool) (changed3:Bool) (i:Nat) (ak:Value) (ρ:Env),σ=upds ρ [(0,ah),(2,I work),(3,aa),(9,ak),(11,B changed3),(12,I (i:Int))]/\M.iterN (zdN w_ frozen) m (l7,changed3,i)=some a9/\St w W [cOwn (α:=Bool) 4 ak l7] R) ?_ ?_
  ·exact ⟨_,aj,false,0,am,_,upds_of _ _ ⟨rfl,rfl,rfl,rfl,rfl,rfl,trivial⟩,ax,H⟩
  rintro bH σ bI ⟨l7,changed3,i,ak,ρ,rfl,aM,H⟩
  obtain ⟨bb,bc,bJ,hM,aN⟩:=M.e_iterN aM
  simp only [zdN] at hM
  clear aM
  have bK:=(al).len_le
  refine kg 8 ?_
  refine W.cond (decide ((i:Int)<(w_.length:Int))) rfl (fun ac=>?_) (fun ac=>?_)
  ·replace hM:=M.e_t hM ac
   replace ac:=dI ac
   refine kg 8 ?_;obtain ⟨bf,ay,bg⟩:=M.e_bind hM
   obtain ⟨au,ay⟩:=M.e_iter ay
   refine W.loop (fun m σ W=>∃ (l4:List Bool) (changed:Bool) (k2:Nat) (ae:Value) (ρ:Env),σ=upds ρ [(0,ah),(2,I work),(3,aa),(9,ae),(11,B changed),(12,I (i:Int)),(13,I (k2:Int))]/\M.iterN (zcp w_ frozen i) m (l4,changed,k2)=some bf/\St w W [cOwn (α:=Bool) 4 ae l4] R) ?_ ?_
   ·exact ⟨_,l7,changed3,0,ak,_,upds_of _ _ ⟨rfl,rfl,rfl,rfl,rfl,rfl,rfl,trivial⟩,ay,H⟩
   rintro bL σ bM ⟨l4,changed,k2,ae,ρ,rfl,aO,H⟩
   obtain ⟨aP,aQ,bN,hM,az⟩:=M.e_iterN aO
   simp only [zcp] at hM
   clear aO;obtain ⟨bO,hM⟩:=M.e_gd hM;refine kg 8 ?_
   obtain ⟨aR,bh,ao⟩:=Work_at0 al (i:=(i:Int)) (by omega) (by omega)
   replace ao:Sl _ aR (w_.getD i default).of:=ao
   have bP:=ao.len_le
   refine s_val (x_ld (v:=aR) rfl (ld_sc Sc22 (At.mono (bh) (aH.at H)))) ?_
   have bQ:=(ao).len_le
   refine kg 3 ?_
   refine W.cond (decide ((k2:Int)<(((w_.getD i default).of).length:Int))) rfl (fun ag=>?_) (fun ag=>?_)
   ·replace hM:=M.e_t hM ag
    replace ag:=dI ag
    refine kg 10 ?_
    obtain ⟨aS,bi,aA⟩:=Work_at0 al (i:=(i:Int)) (by omega) (by omega)
    replace aA:Sl _ aS (w_.getD i default).of:=aA
    have bR:=aA.len_le
    refine s_val (x_ld (v:=aS) rfl (ld_sc Sc22 (At.mono (bi) (aH.at H)))) ?_;obtain ⟨bS,hM⟩:=M.e_gd hM;obtain ⟨bT,hM⟩:=M.e_gd hM;obtain ⟨aB,hM⟩:=M.e_grd hM
    replace aB:=M.imp_of aB
    simp only [Bool.and_eq_true,decide_eq_true_eq] at aB
    refine kg 11 ?_;refine s_val (x_pand (b:=l4.getD (Int.toNat (((w_.getD i default).of).getD k2 0)) false) (r:=!(l4.getD i false)) rfl (fun hb=>gd_of (c:=l4.getD (Int.toNat (((w_.getD i default).of).getD k2 0)) false) (by first | exact hb | (rw [hb]; rfl) | simp_all) (B (!(l4.getD i false)))) rfl) ?_;refine kg 3 ?_;obtain ⟨r2,bj,hM⟩:=M.e_bind hM;refine t_gcall ((l4.getD (Int.toNat (((w_.getD i default).of).getD k2 0)) false)&&(!(l4.getD i false))) (gy_t rfl) cf63 (B r2) (fun _=>[aa,I (i:Int)]) (fun hg=>lst2 (gd_of hg (aa)) (gd_of hg (I (i:Int)))) H (fun hg=>(zae frozen (i:Int) (aU.app _) aV (M.e_opt bj hg) _ (H.give (A:=[]) rfl)).mono fun v_ w_ ⟨y_,aC,bm,H_⟩=>by subst aC; exact ⟨bm,H.via H_⟩) ?_;intro bU H;refine kg 1 ?_;refine s_val (x_pand (b:=((l4.getD (Int.toNat (((w_.getD i default).of).getD k2 0)) false)&&(!(l4.getD i false)))) (r:=!r2) rfl (fun hb=>gd_of (c:=((l4.getD (Int.toNat (((w_.getD i default).of).getD k2 0)) false)&&(!(l4.getD i false)))) (by first | exact hb | (rw [hb]; rfl) | simp_all) (B (!r2))) rfl)<|s_nil ?_
    refine W.cond (((l4.getD (Int.toNat (((w_.getD i default).of).getD k2 0)) false)&&(!(l4.getD i false)))&&(!r2)) rfl (fun aD=>?_) (fun aD=>?_)
    ·replace hM:=M.e_t hM aD;obtain ⟨bV,hM⟩:=M.e_gd hM;refine kg 5 ?_;refine t_ost (k:=0) (i:=(i:Int)) (l:=l4) (l':=l4.set i true) (val:=B true) (L':=[cOwn (α:=Bool) 4 ae (l4.set i true)]) H rfl Sz4 (by omega) (by omega) true rfl rfl rfl rfl rfl ?_;intro bW H;refine kg 9 ?_
     exact ⟨aP,aQ,l4.set i true,true,k2+1,ae,_,upds_of _ _ ⟨rfl,rfl,rfl,rfl,rfl,rfl,rfl,trivial⟩,M.e_inl hM az,H⟩
    replace hM:=M.e_f hM aD;refine kg 6 ?_
    exact ⟨aP,aQ,l4,changed,k2+1,ae,_,upds_of _ _ ⟨rfl,rfl,rfl,rfl,rfl,rfl,rfl,trivial⟩,M.e_inl hM az,H⟩
   replace hM:=M.e_f hM ag
   replace ag:=dI ag
   refine W.exit ?_
   have bn:=M.e_inr hM az
   subst bn;replace hM:=bg;(try dsimp only at hM);refine kg 5 ?_
   exact ⟨bb,bc,l4,changed,i+1,ae,_,upds_of _ _ ⟨rfl,rfl,rfl,rfl,rfl,rfl,trivial⟩,M.e_inl hM aN,H⟩
  replace hM:=M.e_f hM ac
  replace ac:=dI ac
  refine W.exit ?_
  have bo:=M.e_inr hM aN
  subst bo;replace hM:=ba;(try dsimp only at hM)
  exact ⟨a7,a8,l7,changed3,ak,_,upds_of _ _ ⟨rfl,rfl,rfl,rfl,rfl,trivial⟩,M.e_inl hM aL,H⟩
 replace hM:=M.e_f hM aw;refine W.exit ?_
 have bp:=M.e_inr hM aL
 subst bp;replace hM:=a6;(try dsimp only at hM);obtain ⟨bX,hM⟩:=M.e_gd hM;refine kg 9 ?_;refine W.ret ?_
 have aC:=M.e_pure hM
 exact ⟨_,resE_tmp rfl,⟨(!(aj.getD (Int.toNat work) false)),aC,rfl,(H.pk [])⟩⟩

def zcn (revised:List Int) (work:Int) (frozen:List Int):Nat->M (Nat ⊕ (Unit ⊕ Unit)):=fun i =>
  bif decide ((i:Int)<(frozen.length:Int)) then (
  M.grd (decide ((i:Int)<(frozen.length:Int))) <|
  M.bind (M.opt (!((frozen.getD i 0)==work)) (zad revised (frozen.getD i 0)) false) fun r4 =>
  bif (((frozen.getD i 0)==work)||r4) then (
  M.pure (.inr (.inl ())))
  else (
  M.pure (.inl (i+1))))
  else (
  M.pure (.inr (.inr ())))
def zdE (w_:List Work) (revised:List Int) (work:Int) (frozen:List Int):M (Bool × Int) :=
  M.bind (zbT w_ revised work) fun r2 =>
  bif r2 != 0 then (
  M.pure (false,r2))
  else (
  M.bind (zbC w_ frozen) fun r3 =>
  bif r3 != 0 then (
  M.pure (false,r3))
  else (
  M.bind (M.iter (zcn revised work frozen) 0) fun x_=>match x_ with
  | (.inl (_:Unit))=>(
  M.pure (false,7))
  | (.inr (_:Unit))=>(
  M.bind (zeg w_ revised work frozen) fun r5 =>
  M.pure (r5,0))))
theorem ze3 {R:List Chunk} {aw:Cells} {ai:Value} {ax:Cells} {ac:Value} {ay:Cells} {aj:Value} (w_:List Work) (revised:List Int) (work:Int) (frozen:List Int) (ak:Reads R aw) (al:Sl aw ai w_) (am:Reads R ax) (ao:Sl ax ac revised) (az:Reads R ay) (ap:Sl ay aj frozen) {r:(Bool × Int)} (hM:(zdE w_ revised work frozen).Ends r) (w:World) (H:St w w [] R):Ret Tryz.prog 44 #[ai,ac,I work,aj] w fun v w'=>∃ (y0:Bool) (y1:Int),(y0,y1)=r/\v = .tuple #[B y0,I y1]/\St w w' [] R:=by
 refine ret_of_W Tryz.func44 rfl rfl rfl ?_;refine kg 11 ?_;obtain ⟨aM,aC,hM⟩:=M.e_bind hM;refine s_call cf94 [ai,ac,I work] rfl (zcY w_ revised work (ak.app _) al (am.app _) ao aC _ (H.gt 0)) ?_
 rintro vq aN ⟨r2,rfl,hvq,ab⟩
 subst vq;(try dsimp only at hM);replace H:=H.bk ab;clear ab;refine kg 7 ?_
 refine W.cond (r2 != 0) rfl (fun ae=>?_) (fun ae=>?_)
 ·replace hM:=M.e_t hM ae
  replace ae:=dI ae
  refine kg 6 ?_;refine W.ret ?_
  have aa:=M.e_pure hM
  exact ⟨_,resE_tmp2 rfl,⟨false,r2,aa,rfl,H⟩⟩
 replace hM:=M.e_f hM ae
 replace ae:=dI ae
 refine kg 6 ?_;obtain ⟨aO,aD,hM⟩:=M.e_bind hM;refine s_call cf81 [ai,aj] rfl (zb8 w_ frozen (ak.app _) al (az.app _) ap aD _ (H.gt 0)) ?_
 rintro vq aP ⟨r3,rfl,hvq,ab⟩
 subst vq;(try dsimp only at hM);replace H:=H.bk ab;clear ab;refine kg 7 ?_
 refine W.cond (r3 != 0) rfl (fun ag=>?_) (fun ag=>?_)
 ·replace hM:=M.e_t hM ag
  replace ag:=dI ag
  refine kg 6 ?_;refine W.ret ?_
  have aa:=M.e_pure hM
  exact ⟨_,resE_tmp2 rfl,⟨false,r3,aa,rfl,H⟩⟩
 replace hM:=M.e_f hM ag
 replace ag:=dI ag
 refine kg 7 ?_;obtain ⟨aE,aq,aA⟩:=M.e_bind hM
 obtain ⟨aQ,aq⟩:=M.e_iter aq
 refine W.loop (fun m σ W=>∃ (i:Nat) (ρ:Env),σ=upds ρ [(0,ai),(1,ac),(2,I work),(3,aj),(12,I (i:Int))]/\M.iterN (zcn revised work frozen) m i=some aE/\St w W [] R) ?_ ?_
 ·exact ⟨_,0,_,upds_of _ _ ⟨rfl,rfl,rfl,rfl,rfl,trivial⟩,aq,H⟩
 rintro aR σ aS ⟨i,ρ,rfl,aB,H⟩
 obtain ⟨aF,aG,aT,hM,au⟩:=M.e_iterN aB
 simp only [zcn] at hM
 clear aB
 have aU:=(ap).len_le
 refine kg 8 ?_
 refine W.cond (decide ((i:Int)<(frozen.length:Int))) rfl (fun ah=>?_) (fun ah=>?_)
 ·replace hM:=M.e_t hM ah
  replace ah:=dI ah
  obtain ⟨aV,hM⟩:=M.e_gd hM;refine kg 17 ?_;obtain ⟨r4,aH,hM⟩:=M.e_bind hM;refine t_gcall (!((frozen.getD i 0)==work)) (gy_f rfl) cf63 (B r4) (fun _=>[ac,I (frozen.getD i 0)]) (fun hg=>lst2 (gd_of hg (ac)) (gd_of hg (I (frozen.getD i 0)))) H (fun hg=>(zae revised (frozen.getD i 0) (am.app _) ao (M.e_opt aH hg) _ (H.give (A:=[]) rfl)).mono fun v_ w_ ⟨y_,aa,aI,H_⟩=>by subst aa; exact ⟨aI,H.via H_⟩) ?_;intro aW H;refine s_val (x_por (b:=(frozen.getD i 0)==work) (r:=r4) rfl rfl (fun hb=>gd_of (c:=!((frozen.getD i 0)==work)) (by first | exact hb | (rw [hb]; rfl) | simp_all) (B r4)))<|s_nil ?_
  refine W.cond (((frozen.getD i 0)==work)||r4) rfl (fun av=>?_) (fun av=>?_)
  ·replace hM:=M.e_t hM av;refine kg 5 ?_;refine W.ret ?_
   have aJ:=M.e_inr hM au
   subst aJ;replace hM:=aA;(try dsimp only at hM)
   have aa:=M.e_pure hM
   exact ⟨_,resE_tmp2 rfl,⟨false,7,aa,rfl,H⟩⟩
  replace hM:=M.e_f hM av;refine kg 6 ?_
  exact ⟨aF,aG,i+1,_,upds_of _ _ ⟨rfl,rfl,rfl,rfl,rfl,trivial⟩,M.e_inl hM au,H⟩
 replace hM:=M.e_f hM ah
 replace ah:=dI ah
 refine W.exit ?_
 have aK:=M.e_inr hM au
 subst aK;replace hM:=aA;(try dsimp only at hM);refine kg 6 ?_;obtain ⟨aX,aL,hM⟩:=M.e_bind hM;refine s_call cf95 [ai,ac,I work,aj] rfl (zeQ w_ revised work frozen (ak.app _) al (am.app _) ao (az.app _) ap aL _ (H.gt 0)) ?_
 rintro vq aY ⟨r5,rfl,hvq,ab⟩
 subst vq;(try dsimp only at hM);replace H:=H.bk ab;clear ab;refine kg 3 ?_;refine W.ret ?_
 have aa:=M.e_pure hM
 exact ⟨_,resE_tmp2 rfl,⟨r5,0,aa,rfl,H⟩⟩

def zcC (s:List (List Int)) (f:(List Int)->M Bool):Nat->M (Nat ⊕ (Int ⊕ Unit)):=fun s2 =>
  bif decide ((s2:Int)<(s.length:Int)) then (
  M.grd (decide ((s2:Int)<(s.length:Int))) <|
  M.bind (f (s.getD s2 ([]))) fun r2 =>
  bif r2 then (
  M.pure (.inr (.inl (s2:Int))))
  else (
  M.pure (.inl (s2+1))))
  else (
  M.pure (.inr (.inr ())))
def zeY (s:List (List Int)) (f:(List Int)->M Bool):M Int :=
  M.bind (M.iter (zcC s f) 0) fun x_=>match x_ with
  | (.inl s3)=>(
  M.pure s3)
  | (.inr (_:Unit))=>(
  M.pure (-1))
theorem zfz {R:List Chunk} {ak:Cells} {ac:Value} {ae:Value} (s:List (List Int)) (f:(List Int)->M Bool) (al:Reads R ak) (am:Sl ak ac s) (au:FnM Tryz.prog R ae f) {r:Int} (hM:(zeY s f).Ends r) (w:World) (H:St w w [] R):Ret Tryz.prog 129 #[ac,ae] w fun v w'=>∃ (y0:Int),y0=r/\v=I y0/\St w w' [] R:=by
 refine ret_of_W Tryz.func129 rfl rfl rfl ?_
 have aC:=(am).len_le
 refine kg 12 ?_;obtain ⟨av,ag,ao⟩:=M.e_bind hM
 obtain ⟨aD,ag⟩:=M.e_iter ag
 refine W.loop (fun m σ W=>∃ (s2:Nat) (ρ:Env),σ=upds ρ [(0,ac),(1,ae),(7,I (s.length:Int)),(8,I (s2:Int))]/\M.iterN (zcC s f) m s2=some av/\St w W [] R) ?_ ?_
 ·exact ⟨_,0,_,upds_of _ _ ⟨rfl,rfl,rfl,rfl,trivial⟩,ag,H⟩
 rintro aE σ aF ⟨s2,ρ,rfl,ap,H⟩
 obtain ⟨aw,ax,aG,hM,ah⟩:=M.e_iterN ap
 simp only [zcC] at hM
 clear ap;refine kg 5 ?_
 refine W.cond (decide ((s2:Int)<(s.length:Int))) rfl (fun aa=>?_) (fun aa=>?_)
 ·replace hM:=M.e_t hM aa
  replace aa:=dI aa
  obtain ⟨aH,hM⟩:=M.e_gd hM;refine kg 14 ?_
  obtain ⟨aq,ay,ab⟩:=List_at am (i:=(s2:Int)) (by omega) (by omega)
  replace ab:Sl _ aq (s.getD s2 ([])):=ab
  have aI:=ab.len_le
  refine s_val (x_ld (v:=aq) rfl (ld_sc Sc22 (At.mono (ay) (al.at H)))) ?_;obtain ⟨r2,az,hM⟩:=M.e_bind hM;refine t_callM H au rfl rfl (s.getD s2 ([])) (al.app _) (Arg.mkS ab) az ?_;intro aJ H;refine s_nil ?_
  refine W.cond r2 rfl (fun ai=>?_) (fun ai=>?_)
  ·replace hM:=M.e_t hM ai;refine kg 5 ?_;refine W.ret ?_
   have aA:=M.e_inr hM ah
   subst aA;replace hM:=ao;(try dsimp only at hM)
   have aj:=M.e_pure hM
   exact ⟨_,resE_tmp rfl,⟨(s2:Int),aj,rfl,H⟩⟩
  replace hM:=M.e_f hM ai;refine kg 5 ?_
  exact ⟨aw,ax,s2+1,_,upds_of _ _ ⟨rfl,rfl,rfl,rfl,trivial⟩,M.e_inl hM ah,H⟩
 replace hM:=M.e_f hM aa
 replace aa:=dI aa
 refine W.exit ?_
 have aB:=M.e_inr hM ah
 subst aB;replace hM:=ao;(try dsimp only at hM);refine kg 4 ?_;refine W.ret ?_
 have aj:=M.e_pure hM
 exact ⟨_,resE_tmp rfl,⟨(-1),aj,rfl,H⟩⟩

def zeH (s:List (List Int)) (f:(List Int)->M Bool):M Bool :=
  M.bind (zeY s f) fun r2 =>
  M.pure (decide (0<=r2))
theorem zfp {R:List Chunk} {ac:Cells} {aa:Value} {ab:Value} (s:List (List Int)) (f:(List Int)->M Bool) (ag:Reads R ac) (ah:Sl ac aa s) (ai:FnM Tryz.prog R ab f) {r:Bool} (hM:(zeH s f).Ends r) (w:World) (H:St w w [] R):Ret Tryz.prog 119 #[aa,ab] w fun v w'=>∃ (y0:Bool),y0=r/\v=B y0/\St w w' [] R:=by
 refine ret_of_W Tryz.func119 rfl rfl rfl ?_;refine kg 8 ?_;obtain ⟨al,aj,hM⟩:=M.e_bind hM;refine s_call cf129 [aa,ab] rfl (zfz s f (ag.app _) ah (ai.app _) aj _ (H.gt 0)) ?_
 rintro vq am ⟨r2,rfl,hvq,ae⟩
 subst vq;(try dsimp only at hM);replace H:=H.bk ae;clear ae;refine kg 3 ?_;refine W.ret ?_
 have ak:=M.e_pure hM
 exact ⟨_,resE_tmp rfl,⟨(decide (0<=r2)),ak,rfl,H⟩⟩

def zdZ (x:List Int) (aa:(List Int)->M Bool):M Bool :=
  M.bind (aa x) fun r2 =>
  M.pure (!r2)
theorem zga {R:List Chunk} {aa:Cells} {ab:Value} {ac:Nat} {ae:Value} (x:List Int) (ag:(List Int)->M Bool) (ah:Reads R aa) (ai:Sl aa ab x) (aj:FnM Tryz.prog R ae ag) (am:Has R (cBlk ac [ae] 106)) {r:Bool} (hM:(zdZ x ag).Ends r) (w:World) (H:St w w [] R):Ret Tryz.prog 120 #[ab,Pq ac] w fun v w'=>∃ (y0:Bool),y0=r/\v=B y0/\St w w' [] R:=by
 refine ret_of_W Tryz.func120 rfl rfl rfl ?_;refine kg 8 ?_;obtain ⟨r2,ak,hM⟩:=M.e_bind hM;refine t_callM H aj rfl rfl x (ah.app _) (Arg.mkS ai) ak ?_;intro ao H;refine kg 3 ?_;refine W.ret ?_
 have al:=M.e_pure hM
 exact ⟨_,resE_tmp rfl,⟨(!r2),al,rfl,H⟩⟩

def zeF (so:(List Int)->M Bool) (l:List (List Int)):M Bool :=
  M.bind (zeH l (fun aa=>zdZ aa so)) fun r2 =>
  M.pure (!r2)
theorem zgk {R:List Chunk} {aa:Value} {ag:Cells} {ab:Value} (so:(List Int)->M Bool) (l:List (List Int)) (ah:FnM Tryz.prog R aa so) (ak:Reads R ag) (al:Sl ag ab l) {r:Bool} (hM:(zeF so l).Ends r) (w:World) (H:St w w [] R):Ret Tryz.prog 96 #[aa,ab] w fun v w'=>∃ (y0:Bool),y0=r/\v=B y0/\St w w' [] R:=by
 refine ret_of_W Tryz.func96 rfl rfl rfl ?_;refine kg 2 ?_;refine t_box (v:=aa) (cs:=[aa]) H rfl (FnM.cells ah) ?_;intro ac aB H;refine kg 5 ?_;refine s_val (x_mf (fs:=[]) (cs:=[Pq ac]) rfl rfl) ?_;obtain ⟨aC,am,hM⟩:=M.e_bind hM;refine s_call cf119 [ab,.func (.func 120) #[] #[Pq ac]] rfl (zfp l (fun ae=>zdZ ae so) (ak.app _) al ⟨120,[Pq ac],rfl,cf120,fun ai aD aE ao ae aF ap aq au av=>by have aw:=Arg.list au; exact (zga ae so aq aw (FnM.app (ah.app _) _) (Has.app (Has.here (k:=0) rfl) _) av ai (St.refl ap)).mono fun ao ai ⟨aG,ax,ay,az⟩=>by subst ax; exact ⟨ay,az⟩⟩ am _ (H.gt 1)) ?_
 rintro vq aH ⟨r2,rfl,hvq,aj⟩
 subst vq;(try dsimp only at hM);replace H:=H.bk aj;clear aj;refine kg 3 ?_;refine W.ret ?_
 have aA:=M.e_pure hM
 exact ⟨_,resE_tmp rfl,⟨(!r2),aA,rfl,(H.pk [])⟩⟩

def zej (i:Int) (aa:List Work):M Bool :=
  M.bind (zal i 0 ((aa.length:Int)-1)) fun r2 =>
  M.pure r2
theorem zfI {R:List Chunk} {ab:Nat} {ac:Cells} {ae:Value} (i:Int) (aa:List Work) (ak:Reads R ac) (ah:Sl ac ae aa) (al:Has R (cBlk ab [ae] 23)) {r:Bool} (hM:(zej i aa).Ends r) (w:World) (H:St w w [] R):Ret Tryz.prog 98 #[I i,Pq ab] w fun v w'=>∃ (y0:Bool),y0=r/\v=B y0/\St w w' [] R:=by
 refine ret_of_W Tryz.func98 rfl rfl rfl ?_
 have am:=(ah).len_le
 refine kg 10 ?_;obtain ⟨ao,ai,hM⟩:=M.e_bind hM;refine s_call cf66 [I i,I 0,I ((aa.length:Int)-1)] rfl (zap i 0 ((aa.length:Int)-1) ai _ (H.gt 0)) ?_
 rintro vq ap ⟨r2,rfl,hvq,ag⟩
 subst vq;(try dsimp only at hM);replace H:=H.bk ag;clear ag;refine kg 2 ?_;refine W.ret ?_
 have aj:=M.e_pure hM
 exact ⟨_,resE_tmp rfl,⟨r2,aj,rfl,H⟩⟩

def zco (l:List Int) (aa:List Work):M Bool :=
  M.bind (zaC (fun ab=>zej ab aa) l) fun r2 =>
  M.pure r2
theorem zfq {R:List Chunk} {ag:Cells} {ac:Value} {aa:Nat} {ah:Cells} {ai:Value} (l:List Int) (ab:List Work) (al:Reads R ag) (am:Sl ag ac l) (ao:Reads R ah) (ap:Sl ah ai ab) (aq:Has R (cBlk aa [ai] 23)) {r:Bool} (hM:(zco l ab).Ends r) (w:World) (H:St w w [] R):Ret Tryz.prog 97 #[ac,Pq aa] w fun v w'=>∃ (y0:Bool),y0=r/\v=B y0/\St w w' [] R:=by
 refine ret_of_W Tryz.func97 rfl rfl rfl ?_;refine kg 6 ?_;refine s_val (x_mf (fs:=[]) (cs:=[Pq aa]) rfl rfl) ?_;refine kg 1 ?_;obtain ⟨aD,au,hM⟩:=M.e_bind hM;refine s_call cf64 [.func (.func 98) #[] #[Pq aa],ac] rfl (zaE (fun ae=>zej ae ab) l ⟨98,[Pq aa],rfl,cf98,fun aj aE aF av ae aG aw aH ax ay=>by obtain rfl:=Arg.int ax; exact (zfI ae ab (Reads.app (ao.app _) _) ap (Has.app (aq.app _) _) ay aj (St.refl aw)).mono fun av aj ⟨aI,az,aA,aB⟩=>by subst az; exact ⟨aA,aB⟩⟩ (al.app _) am au _ (H.gt 0)) ?_
 rintro vq aJ ⟨r2,rfl,hvq,ak⟩
 subst vq;(try dsimp only at hM);replace H:=H.bk ak;clear ak;refine kg 2 ?_;refine W.ret ?_
 have aC:=M.e_pure hM
 exact ⟨_,resE_tmp rfl,⟨r2,aC,rfl,H⟩⟩

def zcP (revised:List Int) (work:Int) (lines:List (List Int)) (s2:Nat):((List Bool) × Nat)->M (((List Bool) × Nat) ⊕ ((List Bool) ⊕ (List Bool))):=fun (ar,s) =>
  bif decide ((s:Int)<((((lines.getD s2 ([])).take (Int.toNat (((lines.getD s2 ([])).length:Int)-1))).drop 1).length:Int)) then (
  M.grd (decide ((s:Int)<((((lines.getD s2 ([])).take (Int.toNat (((lines.getD s2 ([])).length:Int)-1))).drop 1).length:Int))) <|
  M.grd (decide ((0:Int)<=((((lines.getD s2 ([])).take (Int.toNat (((lines.getD s2 ([])).length:Int)-1))).drop 1).getD s 0))&&decide (((((lines.getD s2 ([])).take (Int.toNat (((lines.getD s2 ([])).length:Int)-1))).drop 1).getD s 0)<(30:Int))) <|
  M.bind (M.opt (!((ar.getD (Int.toNat ((((lines.getD s2 ([])).take (Int.toNat (((lines.getD s2 ([])).length:Int)-1))).drop 1).getD s 0)) false)||(((((lines.getD s2 ([])).take (Int.toNat (((lines.getD s2 ([])).length:Int)-1))).drop 1).getD s 0)==work))) (zak revised ((((lines.getD s2 ([])).take (Int.toNat (((lines.getD s2 ([])).length:Int)-1))).drop 1).getD s 0)) false) fun r5 =>
  bif (((ar.getD (Int.toNat ((((lines.getD s2 ([])).take (Int.toNat (((lines.getD s2 ([])).length:Int)-1))).drop 1).getD s 0)) false)||(((((lines.getD s2 ([])).take (Int.toNat (((lines.getD s2 ([])).length:Int)-1))).drop 1).getD s 0)==work))||r5) then (
  M.pure (.inr (.inl ar)))
  else (
  M.pure (.inl (ar.set (Int.toNat ((((lines.getD s2 ([])).take (Int.toNat (((lines.getD s2 ([])).length:Int)-1))).drop 1).getD s 0)) true,s+1))))
  else (
  M.pure (.inr (.inr ar)))
def zcN (w_:List Work) (revised:List Int) (work:Int) (lines:List (List Int)):((List Bool) × Nat)->M (((List Bool) × Nat) ⊕ ((List Bool) ⊕ (List Bool))):=fun (aa,s2) =>
  bif decide ((s2:Int)<(lines.length:Int)) then (
  M.grd (decide ((s2:Int)<(lines.length:Int))) <|
  M.bind (M.opt (!(decide (((lines.getD s2 ([])).length:Int)<2))) (zd3 w_ (lines.getD s2 ([]))) false) fun r3 =>
  M.grd ((!(!((decide (((lines.getD s2 ([])).length:Int)<2))||(!r3)))||(decide (0<((lines.getD s2 ([])).length:Int))))) <|
  M.bind (M.opt (!((decide (((lines.getD s2 ([])).length:Int)<2))||(!r3))) (zak revised ((lines.getD s2 ([])).getD 0 0)) false) fun r4 =>
  M.grd ((!(!(((decide (((lines.getD s2 ([])).length:Int)<2))||(!r3))||(!r4)))||(decide ((0:Int)<=(((lines.getD s2 ([])).length:Int)-1))&&decide ((((lines.getD s2 ([])).length:Int)-1)<((lines.getD s2 ([])).length:Int))))) <|
  bif ((((decide (((lines.getD s2 ([])).length:Int)<2))||(!r3))||(!r4))||(((lines.getD s2 ([])).getD (Int.toNat (((lines.getD s2 ([])).length:Int)-1)) 0) != work)) then (
  M.pure (.inr (.inl aa)))
  else (
  M.grd (decide ((0:Int)<=1)&&decide (1<=(((lines.getD s2 ([])).length:Int)-1))&&decide ((((lines.getD s2 ([])).length:Int)-1)<=((lines.getD s2 ([])).length:Int))) <|
  M.bind (M.iter (zcP revised work lines s2) (aa,0)) fun x_=>match x_ with
  | (.inl ab)=>(
  M.pure (.inr (.inl ab)))
  | (.inr ac)=>(
  M.pure (.inl (ac,s2+1)))))
  else (
  M.pure (.inr (.inr aa)))
def zes (w_:List Work) (revised:List Int) (work:Int) (lines:List (List Int)):M (Bool × Int) :=
  M.bind (zby w_ revised work) fun x_=>match x_ with
  | (.inl r1)=>(
  bif r1 != 0 then (
  M.pure (false,r1))
  else (
  M.fail))
  | (.inr aa)=>(
  bif aa != 0 then (
  M.fail)
  else (
  bif decide (30<(lines.length:Int)) then (
  M.pure (false,3))
  else (
  M.bind (zeF (fun ab=>zco ab w_) lines) fun r2 =>
  bif !r2 then (
  M.pure (false,2))
  else (
  M.bind (M.iter (zcN w_ revised work lines) (List.replicate 30 false,0)) fun x_=>match x_ with
  | (.inl ac)=>(
  M.pure (false,0))
  | (.inr ae)=>(
  M.pure (true,0))))))
theorem zgd {R:List Chunk} {aT:Cells} {ai:Value} {aU:Cells} {ah:Value} {aV:Cells} {aw:Value} (w_:List Work) (revised:List Int) (work:Int) (lines:List (List Int)) (aG:Reads R aT) (aC:Sl aT ai w_) (aH:Reads R aU) (aI:Sl aU ah revised) (ax:Reads R aV) (aD:Sl aV aw lines) {r:(Bool × Int)} (hM:(zes w_ revised work lines).Ends r) (w:World) (H:St w w [] R):Ret Tryz.prog 45 #[ai,ah,I work,aw] w fun v w'=>∃ (y0:Bool) (y1:Int),(y0,y1)=r/\v = .tuple #[B y0,I y1]/\St w w' [] R:=by
 refine ret_of_W Tryz.func45 rfl rfl rfl ?_;refine kg 2 ?_;refine t_box (v:=ai) (cs:=[ai]) H rfl (Sl.cells aC) ?_;intro av bJ H;refine kg 8 ?_;obtain ⟨bK,a0,hM⟩:=M.e_bind hM;refine s_call cf89 [ai,ah,I work] rfl (zca w_ revised work (aG.app _) aC (aH.app _) aI a0 _ (H.gt 1)) ?_
 rintro vq bL (⟨r1,a4,hvq,aj⟩ | ⟨a5,ak,a6,hvq,aj⟩)
 ·subst a4;subst vq;(try dsimp only at hM);replace H:=H.bk aj;clear aj;refine kg 14 ?_
  refine W.cond (r1 != 0) rfl (fun ay=>?_) (fun ay=>?_)
  ·replace hM:=M.e_t hM ay
   replace ay:=dI ay
   refine kg 6 ?_;refine W.ret ?_
   have ac:=M.e_pure hM
   exact ⟨_,resE_tmp2 rfl,⟨false,r1,ac,rfl,(H.pk [])⟩⟩
  replace hM:=M.e_f hM ay
  exact (M.e_fail hM).elim
 subst a6;subst vq;(try dsimp only at hM);replace H:=H.bk aj;clear aj;refine kg 14 ?_
 refine W.cond (a5 != 0) rfl (fun az=>?_) (fun az=>?_)
 ·replace hM:=M.e_t hM az
  exact (M.e_fail hM).elim
 replace hM:=M.e_f hM az
 replace az:=dI az
 have bM:=(aD).len_le
 refine kg 7 ?_
 refine W.cond (decide (30<(lines.length:Int))) rfl (fun am=>?_) (fun am=>?_)
 ·replace hM:=M.e_t hM am
  replace am:=dI am
  refine kg 5 ?_;replace H:=H.pk [];refine W.ret ?_
  have ac:=M.e_pure hM
  exact ⟨_,resE_tmp2 rfl,⟨false,3,ac,rfl,H⟩⟩
 replace hM:=M.e_f hM am
 replace am:=dI am
 refine kg 2 ?_;refine s_val (x_mf (fs:=[]) (cs:=[Pq av]) rfl rfl) ?_;refine kg 1 ?_;obtain ⟨bN,a7,hM⟩:=M.e_bind hM;refine s_call cf96 [.func (.func 97) #[] #[Pq av],aw] rfl (zgk (fun aJ=>zco aJ w_) lines ⟨97,[Pq av],rfl,cf97,fun aW bO bP a8 aJ bQ a9 ba bb bc=>by have bf:=Arg.list bb; exact (zfq aJ w_ ba bf (Reads.app (aG.app _) _) aC (Has.app (Has.here (k:=1) rfl) _) bc aW (St.refl a9)).mono fun a8 aW ⟨bR,bg,bh,bi⟩=>by subst bg; exact ⟨bh,bi⟩⟩ (ax.app _) aD a7 _ (H.gt 2)) ?_
 rintro vq bS ⟨r2,rfl,hvq,aj⟩
 subst vq;(try dsimp only at hM);replace H:=H.bk aj;clear aj;refine kg 3 ?_
 refine W.cond (!r2) rfl (fun aK=>?_) (fun aK=>?_)
 ·replace hM:=M.e_t hM aK;refine kg 5 ?_;replace H:=H.pk [];refine W.ret ?_
  have ac:=M.e_pure hM
  exact ⟨_,resE_tmp2 rfl,⟨false,2,ac,rfl,H⟩⟩
 replace hM:=M.e_f hM aK;refine kg 3 ?_;refine t_alloc (cs:=encB (List.replicate 30 false)) H Al119 rfl ?_;intro al bT H
 have bj:(List.replicate 30 false).length=30:=by simp
 have bU:=(aD).len_le
 refine kg 9 ?_;obtain ⟨bm,aL,aM⟩:=M.e_bind hM
 obtain ⟨bn,aL⟩:=M.e_iter aL
 refine W.loop (fun m σ W=>∃ (aA:List Bool) (s2:Nat) (ρ:Env),σ=upds ρ [(1,ah),(2,I work),(10,Pq ak),(12,Pq al),(37,aw),(38,I (lines.length:Int)),(39,I (s2:Int))]/\M.iterN (zcN w_ revised work lines) m (aA,s2)=some bm/\St w W [cBlk al (encB aA) 119,cBlk ak [ai] 97,cBlk av [ai] 23] R/\aA.length=30) ?_ ?_
 ·exact ⟨_,List.replicate 30 false,0,_,upds_of _ _ ⟨rfl,rfl,rfl,rfl,rfl,rfl,rfl,trivial⟩,aL,H,bj⟩
 rintro bV σ bW ⟨aA,s2,ρ,rfl,aX,H,bo⟩
 obtain ⟨bp,br,bX,hM,aE⟩:=M.e_iterN aX
 simp only [zcN] at hM
 clear aX;refine kg 5 ?_
 refine W.cond (decide ((s2:Int)<(lines.length:Int))) rfl (fun ao=>?_) (fun ao=>?_)
 ·replace hM:=M.e_t hM ao
  replace ao:=dI ao
  obtain ⟨bY,hM⟩:=M.e_gd hM;refine kg 6 ?_
  obtain ⟨ab,bt,ag⟩:=List_at aD (i:=(s2:Int)) (by omega) (by omega)
  replace ag:Sl _ ab (lines.getD s2 ([])):=ag
  have bZ:=ag.len_le
  refine s_val (x_ld (v:=ab) rfl (ld_sc Sc22 (At.mono (bt) (ax.at H)))) ?_
  have b0:=(ag).len_le
  refine kg 11 ?_;obtain ⟨r3,bu,hM⟩:=M.e_bind hM;refine t_gcall (!(decide (((lines.getD s2 ([])).length:Int)<2))) (gy_f rfl) cf67 (B r3) (fun _=>[Pq ak,ab]) (fun hg=>lst2 (gd_of hg (Pq ak)) (gd_of hg (ab))) H (fun hg=>(zeR w_ (lines.getD s2 ([])) (aG.app _) aC (Has.here (k:=1) rfl) (ax.app _) ag (M.e_opt bu hg) _ (H.give (A:=[]) rfl)).mono fun v_ w_ ⟨y_,ac,aB,H_⟩=>by subst ac; exact ⟨aB,H.via H_⟩) ?_;intro b4 H;refine kg 1 ?_;refine s_val (x_por (b:=decide (((lines.getD s2 ([])).length:Int)<2)) (r:=!r3) rfl rfl (fun hb=>gd_of (c:=!(decide (((lines.getD s2 ([])).length:Int)<2))) (by first | exact hb | (rw [hb]; rfl) | simp_all) (B (!r3))))<|zM (B ((decide (((lines.getD s2 ([])).length:Int)<2))||(!r3))) rfl<|g_val (!((decide (((lines.getD s2 ([])).length:Int)<2))||(!r3))) (gy_f rfl) (fun hg=>x_mv (v:=ah) rfl)<|g_val (!((decide (((lines.getD s2 ([])).length:Int)<2))||(!r3))) (gy_f rfl) (fun hg=>x_mv (v:=ab) rfl) ?_;obtain ⟨ap,hM⟩:=M.e_grd hM
  replace ap:=M.imp_of ap
  simp only [Bool.and_eq_true,decide_eq_true_eq] at ap
  refine g_val (!((decide (((lines.getD s2 ([])).length:Int)<2))||(!r3))) (gy_f rfl) (fun hg=>x_ix (v:=vat ab 1 (Int.toNat 0)) (gd_of hg (ab)) rfl (Sl.ix (α:=Int) T22.und T22.size ag (by have aa:=ap.resolve_left (by rw [hg]; decide); first | exact aa | exact aa.1 | exact aa.2 | omega | (have ae:=hg; simp at ae; omega)) (by have aa:=ap.resolve_left (by rw [hg]; decide); first | exact aa | exact aa.1 | exact aa.2 | omega | (have ae:=hg; simp at ae; omega))))<|g_val (!((decide (((lines.getD s2 ([])).length:Int)<2))||(!r3))) (gy_f rfl) (fun hg=>x_ld (v:=I ((lines.getD s2 ([])).getD 0 0)) (gd_of hg (vat ab 1 (Int.toNat 0))) (ld_sc Sc3 (At.mono (Int_at ag (i:=0) (by have aa:=ap.resolve_left (by rw [hg]; decide); first | exact aa | exact aa.1 | exact aa.2 | omega | (have ae:=hg; simp at ae; omega)) (by have aa:=ap.resolve_left (by rw [hg]; decide); first | exact aa | exact aa.1 | exact aa.2 | omega | (have ae:=hg; simp at ae; omega))) (ax.at H)))) ?_;obtain ⟨r4,bv,hM⟩:=M.e_bind hM;refine t_gcall (!((decide (((lines.getD s2 ([])).length:Int)<2))||(!r3))) (gy_f rfl) cf62 (B r4) (fun _=>[ah,I ((lines.getD s2 ([])).getD 0 0)]) (fun hg=>lst2 (gd_of hg (ah)) (gd_of hg (I ((lines.getD s2 ([])).getD 0 0)))) H (fun hg=>(zaq revised ((lines.getD s2 ([])).getD 0 0) (aH.app _) aI (M.e_opt bv hg) _ (H.give (A:=[]) rfl)).mono fun v_ w_ ⟨y_,ac,aB,H_⟩=>by subst ac; exact ⟨aB,H.via H_⟩) ?_;intro b5 H;refine g_val (!((decide (((lines.getD s2 ([])).length:Int)<2))||(!r3))) (gy_f rfl) (fun hg=>x_not (b:=r4) (gd_of hg (B r4)))<|s_val (x_por (b:=((decide (((lines.getD s2 ([])).length:Int)<2))||(!r3))) (r:=!r4) rfl rfl (fun hb=>gd_of (c:=!((decide (((lines.getD s2 ([])).length:Int)<2))||(!r3))) (by first | exact hb | (rw [hb]; rfl) | simp_all) (B (!r4))))<|zM (B (((decide (((lines.getD s2 ([])).length:Int)<2))||(!r3))||(!r4))) rfl<|g_val (!(((decide (((lines.getD s2 ([])).length:Int)<2))||(!r3))||(!r4))) (gy_f rfl) (fun hg=>x_mv (v:=ab) rfl)<|g_val (!(((decide (((lines.getD s2 ([])).length:Int)<2))||(!r3))||(!r4))) (gy_f rfl) (fun hg=>x_mv (v:=ab) rfl) ?_
  have b6:=(ag).len_le
  refine g_val (!(((decide (((lines.getD s2 ([])).length:Int)<2))||(!r3))||(!r4))) (gy_f rfl) (fun hg=>x_lenS T22.und (gd_of hg (ab)) ag)<|g_val (!(((decide (((lines.getD s2 ([])).length:Int)<2))||(!r3))||(!r4))) (gy_f rfl) (fun hg=>x_ari (r:=((lines.getD s2 ([])).length:Int)-1) (gd_of hg (I ((lines.getD s2 ([])).length:Int))) rfl rfl (by first | omega | (have ae:=hg; simp at ae; omega))) ?_;obtain ⟨aq,hM⟩:=M.e_grd hM
  replace aq:=M.imp_of aq
  simp only [Bool.and_eq_true,decide_eq_true_eq] at aq
  refine g_val (!(((decide (((lines.getD s2 ([])).length:Int)<2))||(!r3))||(!r4))) (gy_f rfl) (fun hg=>x_ix (v:=vat ab 1 (Int.toNat (((lines.getD s2 ([])).length:Int)-1))) (gd_of hg (ab)) (gd_of hg (I (((lines.getD s2 ([])).length:Int)-1))) (Sl.ix (α:=Int) T22.und T22.size ag (by have aa:=aq.resolve_left (by rw [hg]; decide); first | exact aa | exact aa.1 | exact aa.2 | omega | (have ae:=hg; simp at ae; omega)) (by have aa:=aq.resolve_left (by rw [hg]; decide); first | exact aa | exact aa.1 | exact aa.2 | omega | (have ae:=hg; simp at ae; omega))))<|g_val (!(((decide (((lines.getD s2 ([])).length:Int)<2))||(!r3))||(!r4))) (gy_f rfl) (fun hg=>x_ld (v:=I ((lines.getD s2 ([])).getD (Int.toNat (((lines.getD s2 ([])).length:Int)-1)) 0)) (gd_of hg (vat ab 1 (Int.toNat (((lines.getD s2 ([])).length:Int)-1)))) (ld_sc Sc3 (At.mono (Int_at ag (i:=((lines.getD s2 ([])).length:Int)-1) (by have aa:=aq.resolve_left (by rw [hg]; decide); first | exact aa | exact aa.1 | exact aa.2 | omega | (have ae:=hg; simp at ae; omega)) (by have aa:=aq.resolve_left (by rw [hg]; decide); first | exact aa | exact aa.1 | exact aa.2 | omega | (have ae:=hg; simp at ae; omega))) (ax.at H))))<|g_val (!(((decide (((lines.getD s2 ([])).length:Int)<2))||(!r3))||(!r4))) (gy_f rfl) (fun hg=>x_mv (v:=I work) rfl)<|g_val (!(((decide (((lines.getD s2 ([])).length:Int)<2))||(!r3))||(!r4))) (gy_f rfl) (fun hg=>x_cmp (kd:=.i64) (r:=((lines.getD s2 ([])).getD (Int.toNat (((lines.getD s2 ([])).length:Int)-1)) 0) != work) (gd_of hg (I ((lines.getD s2 ([])).getD (Int.toNat (((lines.getD s2 ([])).length:Int)-1)) 0))) (gd_of hg (I work)) rfl)<|s_val (x_por (b:=(((decide (((lines.getD s2 ([])).length:Int)<2))||(!r3))||(!r4))) (r:=((lines.getD s2 ([])).getD (Int.toNat (((lines.getD s2 ([])).length:Int)-1)) 0) != work) rfl rfl (fun hb=>gd_of (c:=!(((decide (((lines.getD s2 ([])).length:Int)<2))||(!r3))||(!r4))) (by first | exact hb | (rw [hb]; rfl) | simp_all) (B (((lines.getD s2 ([])).getD (Int.toNat (((lines.getD s2 ([])).length:Int)-1)) 0) != work))))<|s_nil ?_
  refine W.cond ((((decide (((lines.getD s2 ([])).length:Int)<2))||(!r3))||(!r4))||(((lines.getD s2 ([])).getD (Int.toNat (((lines.getD s2 ([])).length:Int)-1)) 0) != work)) rfl (fun aN=>?_) (fun aN=>?_)
  ·replace hM:=M.e_t hM aN;refine kg 5 ?_;refine W.ret ?_
   have bw:=M.e_inr hM aE
   subst bw;replace hM:=aM;(try dsimp only at hM)
   have ac:=M.e_pure hM
   exact ⟨_,resE_tmp2 rfl,⟨false,0,ac,rfl,(H.pk [])⟩⟩
  replace hM:=M.e_f hM aN
  have b7:=(ag).len_le
  obtain ⟨b8,hM⟩:=M.e_gd hM;refine kg 7 ?_
  obtain ⟨aO,bx,aP⟩:=sl_lohi T22.und T22.size ag (i:=1) (j:=((lines.getD s2 ([])).length:Int)-1) (by omega) (by omega) (by omega)
  replace aP:Sl _ aO (((lines.getD s2 ([])).take (Int.toNat (((lines.getD s2 ([])).length:Int)-1))).drop 1):=aP
  refine s_val (x_sl (v:=ab) (u:=aO) (lo':=some (I 1)) (hi':=some (I (((lines.getD s2 ([])).length:Int)-1))) (mx':=none) rfl rfl rfl rfl (bx _)) ?_
  have b9:=(aP).len_le
  refine kg 4 ?_;obtain ⟨bz,aQ,aY⟩:=M.e_bind hM
  obtain ⟨bn,aQ⟩:=M.e_iter aQ
  refine W.loop (fun m σ W=>∃ (ar:List Bool) (s:Nat) (ρ:Env),σ=upds ρ [(1,ah),(2,I work),(10,Pq ak),(12,Pq al),(37,aw),(38,I (lines.length:Int)),(39,I (s2:Int)),(47,gd (!(decide (((lines.getD s2 ([])).length:Int)<2))) (Pq ak)),(48,gd (!(decide (((lines.getD s2 ([])).length:Int)<2))) ab),(49,gd (!(decide (((lines.getD s2 ([])).length:Int)<2))) (B r3)),(50,gd (!(decide (((lines.getD s2 ([])).length:Int)<2))) (B (!r3))),(53,gd (!((decide (((lines.getD s2 ([])).length:Int)<2))||(!r3))) ah),(54,gd (!((decide (((lines.getD s2 ([])).length:Int)<2))||(!r3))) ab),(55,gd (!((decide (((lines.getD s2 ([])).length:Int)<2))||(!r3))) (vat ab 1 (Int.toNat 0))),(56,gd (!((decide (((lines.getD s2 ([])).length:Int)<2))||(!r3))) (I ((lines.getD s2 ([])).getD 0 0))),(57,gd (!((decide (((lines.getD s2 ([])).length:Int)<2))||(!r3))) (B r4)),(58,gd (!((decide (((lines.getD s2 ([])).length:Int)<2))||(!r3))) (B (!r4))),(61,gd (!(((decide (((lines.getD s2 ([])).length:Int)<2))||(!r3))||(!r4))) ab),(62,gd (!(((decide (((lines.getD s2 ([])).length:Int)<2))||(!r3))||(!r4))) ab),(63,gd (!(((decide (((lines.getD s2 ([])).length:Int)<2))||(!r3))||(!r4))) (I ((lines.getD s2 ([])).length:Int))),(64,gd (!(((decide (((lines.getD s2 ([])).length:Int)<2))||(!r3))||(!r4))) (I (((lines.getD s2 ([])).length:Int)-1))),(65,gd (!(((decide (((lines.getD s2 ([])).length:Int)<2))||(!r3))||(!r4))) (vat ab 1 (Int.toNat (((lines.getD s2 ([])).length:Int)-1)))),(66,gd (!(((decide (((lines.getD s2 ([])).length:Int)<2))||(!r3))||(!r4))) (I ((lines.getD s2 ([])).getD (Int.toNat (((lines.getD s2 ([])).length:Int)-1)) 0))),(67,gd (!(((decide (((lines.getD s2 ([])).length:Int)<2))||(!r3))||(!r4))) (I work)),(68,gd (!(((decide (((lines.getD s2 ([])).length:Int)<2))||(!r3))||(!r4))) (B (((lines.getD s2 ([])).getD (Int.toNat (((lines.getD s2 ([])).length:Int)-1)) 0) != work))),(74,aO),(75,I ((((lines.getD s2 ([])).take (Int.toNat (((lines.getD s2 ([])).length:Int)-1))).drop 1).length:Int)),(76,I (s:Int))]/\M.iterN (zcP revised work lines s2) m (ar,s)=some bz/\St w W [cBlk al (encB ar) 119,cBlk ak [ai] 97,cBlk av [ai] 23] R/\ar.length=30) ?_ ?_
  ·exact ⟨_,aA,0,_,upds_of _ _ ⟨rfl,rfl,rfl,rfl,rfl,rfl,rfl,rfl,rfl,rfl,rfl,rfl,rfl,rfl,rfl,rfl,rfl,rfl,rfl,rfl,rfl,rfl,rfl,rfl,rfl,rfl,rfl,rfl,trivial⟩,aQ,H,bo⟩
  rintro ca σ cb ⟨ar,s,ρ,rfl,aZ,H,aF⟩
  obtain ⟨bA,bB,cc,hM,aR⟩:=M.e_iterN aZ
  simp only [zcP] at hM
  clear aZ;refine kg 5 ?_
  refine W.cond (decide ((s:Int)<((((lines.getD s2 ([])).take (Int.toNat (((lines.getD s2 ([])).length:Int)-1))).drop 1).length:Int))) rfl (fun au=>?_) (fun au=>?_)
  ·replace hM:=M.e_t hM au
   replace au:=dI au
   obtain ⟨cd,hM⟩:=M.e_gd hM;obtain ⟨ce,hM⟩:=M.e_gd hM;refine kg 13 ?_;refine s_val (x_ix (v:=.pointer (some ⟨al,0+Int.toNat ((((lines.getD s2 ([])).take (Int.toNat (((lines.getD s2 ([])).length:Int)-1))).drop 1).getD s 0),none⟩)) rfl rfl (run_indexArr Tryz.underlying119 Sz4 (by omega) (by omega)))<|s_val (x_ld (v:=B (ar.getD (Int.toNat ((((lines.getD s2 ([])).take (Int.toNat (((lines.getD s2 ([])).length:Int)-1))).drop 1).getD s 0)) false)) rfl (ldArr Sc4 (H.bl 0) (by omega) (by have bC:=aF; omega))) ?_;refine kg 4 ?_;refine s_val (x_por (b:=ar.getD (Int.toNat ((((lines.getD s2 ([])).take (Int.toNat (((lines.getD s2 ([])).length:Int)-1))).drop 1).getD s 0)) false) (r:=((((lines.getD s2 ([])).take (Int.toNat (((lines.getD s2 ([])).length:Int)-1))).drop 1).getD s 0)==work) rfl rfl (fun hb=>gd_of (c:=!(ar.getD (Int.toNat ((((lines.getD s2 ([])).take (Int.toNat (((lines.getD s2 ([])).length:Int)-1))).drop 1).getD s 0)) false)) (by first | exact hb | (rw [hb]; rfl) | simp_all) (B (((((lines.getD s2 ([])).take (Int.toNat (((lines.getD s2 ([])).length:Int)-1))).drop 1).getD s 0)==work))))<|zM (B ((ar.getD (Int.toNat ((((lines.getD s2 ([])).take (Int.toNat (((lines.getD s2 ([])).length:Int)-1))).drop 1).getD s 0)) false)||(((((lines.getD s2 ([])).take (Int.toNat (((lines.getD s2 ([])).length:Int)-1))).drop 1).getD s 0)==work))) rfl<|g_val (!((ar.getD (Int.toNat ((((lines.getD s2 ([])).take (Int.toNat (((lines.getD s2 ([])).length:Int)-1))).drop 1).getD s 0)) false)||(((((lines.getD s2 ([])).take (Int.toNat (((lines.getD s2 ([])).length:Int)-1))).drop 1).getD s 0)==work))) (gy_f rfl) (fun hg=>x_mv (v:=ah) rfl)<|g_val (!((ar.getD (Int.toNat ((((lines.getD s2 ([])).take (Int.toNat (((lines.getD s2 ([])).length:Int)-1))).drop 1).getD s 0)) false)||(((((lines.getD s2 ([])).take (Int.toNat (((lines.getD s2 ([])).length:Int)-1))).drop 1).getD s 0)==work))) (gy_f rfl) (fun hg=>x_mv (v:=I ((((lines.getD s2 ([])).take (Int.toNat (((lines.getD s2 ([])).length:Int)-1))).drop 1).getD s 0)) rfl) ?_;obtain ⟨r5,bD,hM⟩:=M.e_bind hM;refine t_gcall (!((ar.getD (Int.toNat ((((lines.getD s2 ([])).take (Int.toNat (((lines.getD s2 ([])).length:Int)-1))).drop 1).getD s 0)) false)||(((((lines.getD s2 ([])).take (Int.toNat (((lines.getD s2 ([])).length:Int)-1))).drop 1).getD s 0)==work))) (gy_f rfl) cf62 (B r5) (fun _=>[ah,I ((((lines.getD s2 ([])).take (Int.toNat (((lines.getD s2 ([])).length:Int)-1))).drop 1).getD s 0)]) (fun hg=>lst2 (gd_of hg (ah)) (gd_of hg (I ((((lines.getD s2 ([])).take (Int.toNat (((lines.getD s2 ([])).length:Int)-1))).drop 1).getD s 0)))) H (fun hg=>(zaq revised ((((lines.getD s2 ([])).take (Int.toNat (((lines.getD s2 ([])).length:Int)-1))).drop 1).getD s 0) (aH.app _) aI (M.e_opt bD hg) _ (H.give (A:=[]) rfl)).mono fun v_ w_ ⟨y_,ac,aB,H_⟩=>by subst ac; exact ⟨aB,H.via H_⟩) ?_;intro cf H;refine s_val (x_por (b:=((ar.getD (Int.toNat ((((lines.getD s2 ([])).take (Int.toNat (((lines.getD s2 ([])).length:Int)-1))).drop 1).getD s 0)) false)||(((((lines.getD s2 ([])).take (Int.toNat (((lines.getD s2 ([])).length:Int)-1))).drop 1).getD s 0)==work))) (r:=r5) rfl rfl (fun hb=>gd_of (c:=!((ar.getD (Int.toNat ((((lines.getD s2 ([])).take (Int.toNat (((lines.getD s2 ([])).length:Int)-1))).drop 1).getD s 0)) false)||(((((lines.getD s2 ([])).take (Int.toNat (((lines.getD s2 ([])).length:Int)-1))).drop 1).getD s 0)==work))) (by first | exact hb | (rw [hb]; rfl) | simp_all) (B r5)))<|s_nil ?_
   refine W.cond (((ar.getD (Int.toNat ((((lines.getD s2 ([])).take (Int.toNat (((lines.getD s2 ([])).length:Int)-1))).drop 1).getD s 0)) false)||(((((lines.getD s2 ([])).take (Int.toNat (((lines.getD s2 ([])).length:Int)-1))).drop 1).getD s 0)==work))||r5) rfl (fun aS=>?_) (fun aS=>?_)
   ·replace hM:=M.e_t hM aS;refine kg 5 ?_;refine W.ret ?_
    have bE:=M.e_inr hM aR
    subst bE;replace hM:=aY;(try dsimp only at hM)
    have bF:=M.e_inr hM aE
    subst bF;replace hM:=aM;(try dsimp only at hM)
    have ac:=M.e_pure hM
    exact ⟨_,resE_tmp2 rfl,⟨false,0,ac,rfl,(H.pk [])⟩⟩
   replace hM:=M.e_f hM aS;refine kg 3 ?_;refine s_val (x_ix (v:=.pointer (some ⟨al,0+Int.toNat ((((lines.getD s2 ([])).take (Int.toNat (((lines.getD s2 ([])).length:Int)-1))).drop 1).getD s 0),none⟩)) rfl rfl (run_indexArr Tryz.underlying119 Sz4 (by omega) (by omega))) ?_;refine t_stArr (k:=0) (b:=al) (l:=ar) (l':=ar.set (Int.toNat ((((lines.getD s2 ([])).take (Int.toNat (((lines.getD s2 ([])).length:Int)-1))).drop 1).getD s 0)) true) (i:=(((lines.getD s2 ([])).take (Int.toNat (((lines.getD s2 ([])).length:Int)-1))).drop 1).getD s 0) (v:=true) (L':=[cBlk al (encB (ar.set (Int.toNat ((((lines.getD s2 ([])).take (Int.toNat (((lines.getD s2 ([])).length:Int)-1))).drop 1).getD s 0)) true)) 119,cBlk ak [ai] 97,cBlk av [ai] 23]) H rfl rfl rfl Sz4 (by omega) (by have bC:=aF; omega) rfl rfl ?_;intro cg H
   have bG:(ar.set (Int.toNat ((((lines.getD s2 ([])).take (Int.toNat (((lines.getD s2 ([])).length:Int)-1))).drop 1).getD s 0)) true).length=30:=List.length_set.trans aF
   refine kg 5 ?_
   exact ⟨bA,bB,ar.set (Int.toNat ((((lines.getD s2 ([])).take (Int.toNat (((lines.getD s2 ([])).length:Int)-1))).drop 1).getD s 0)) true,s+1,_,upds_of _ _ ⟨rfl,rfl,rfl,rfl,rfl,rfl,rfl,rfl,rfl,rfl,rfl,rfl,rfl,rfl,rfl,rfl,rfl,rfl,rfl,rfl,rfl,rfl,rfl,rfl,rfl,rfl,rfl,rfl,trivial⟩,M.e_inl hM aR,H,bG⟩
  replace hM:=M.e_f hM au
  replace au:=dI au
  refine W.exit ?_
  have bH:=M.e_inr hM aR
  subst bH;replace hM:=aY;(try dsimp only at hM);refine kg 4 ?_
  exact ⟨bp,br,ar,s2+1,_,upds_of _ _ ⟨rfl,rfl,rfl,rfl,rfl,rfl,rfl,trivial⟩,M.e_inl hM aE,H,aF⟩
 replace hM:=M.e_f hM ao
 replace ao:=dI ao
 refine W.exit ?_
 have bI:=M.e_inr hM aE
 subst bI;replace hM:=aM;(try dsimp only at hM);replace H:=H.pk [];refine kg 5 ?_;refine W.ret ?_
 have ac:=M.e_pure hM
 exact ⟨_,resE_tmp2 rfl,⟨true,0,ac,rfl,H⟩⟩

end Go.Proofs.YtkclldpnmolljaaGreat
end
section
set_option maxRecDepth 100000
set_option maxHeartbeats 16000000
namespace Go.Proofs.YtkclldpnmolljaaGreat
open Go Go.Nm
attribute [local irreducible] gd execOp SL SLD SLT WR
def zcH (w_:List Work) (lines:List (List Int)) (k:Nat):Nat->M (Nat ⊕ (Unit ⊕ Unit)):=fun i =>
  M.grd (decide ((k:Int)<(lines.length:Int))) <|
  bif decide ((i:Int)<((lines.getD k ([])).length:Int)) then (
  M.grd (decide ((i:Int)<((lines.getD k ([])).length:Int))) <|
  M.bind (zao ((lines.getD k ([])).getD i 0) 0 ((w_.length:Int)-1)) fun r3 =>
  bif r3 then (
  M.pure (.inr (.inl ())))
  else (
  M.pure (.inl (i+1))))
  else (
  M.pure (.inr (.inr ())))
def zcz (w_:List Work) (lines:List (List Int)):Nat->M (Nat ⊕ (Unit ⊕ Unit)):=fun k =>
  bif decide ((k:Int)<(lines.length:Int)) then (
  M.bind (M.iter (zcH w_ lines k) 0) fun x_=>match x_ with
  | (.inl (_:Unit))=>(
  M.pure (.inr (.inl ())))
  | (.inr (_:Unit))=>(
  M.pure (.inl (k+1))))
  else (
  M.pure (.inr (.inr ())))
def zdR (lines:List (List Int)) (k2 i2:Nat):Nat->M (Nat ⊕ (Unit ⊕ Unit)):=fun m2 =>
  bif decide ((m2:Int)<(k2:Int)) then (
  M.grd ((!(decide ((i2:Int)<(((lines.getD k2 ([])).length:Int)-1)))||(decide ((m2:Int)<(lines.length:Int))))) <|
  M.bind (M.opt (decide ((i2:Int)<(((lines.getD k2 ([])).length:Int)-1))) (zad (lines.getD m2 ([])) ((lines.getD k2 ([])).getD i2 0)) false) fun r7 =>
  bif ((decide ((i2:Int)<(((lines.getD k2 ([])).length:Int)-1)))&&r7) then (
  M.pure (.inr (.inl ())))
  else (
  M.grd (decide ((-9223372036854775808:Int)<=((m2:Int)+1))&&decide (((m2:Int)+1)<=(9223372036854775807:Int))) <|
  M.pure (.inl (m2+1))))
  else (
  M.pure (.inr (.inr ())))
def zek (revised:List Int) (lines:List (List Int)) (k2:Nat):Nat->M (Nat ⊕ (Unit ⊕ Unit)):=fun i2 =>
  bif decide ((i2:Int)<((lines.getD k2 ([])).length:Int)) then (
  M.grd (decide ((i2:Int)<((lines.getD k2 ([])).length:Int))) <|
  M.bind (zad revised ((lines.getD k2 ([])).getD i2 0)) fun r6 =>
  bif r6 then (
  M.pure (.inr (.inl ())))
  else (
  M.bind (M.iter (zdR lines k2 i2) 0) fun x_=>match x_ with
  | (.inl (_:Unit))=>(
  M.pure (.inr (.inl ())))
  | (.inr (_:Unit))=>(
  M.pure (.inl (i2+1)))))
  else (
  M.pure (.inr (.inr ())))
def zd4 (w_:List Work) (revised:List Int) (work:Int) (lines:List (List Int)):Nat->M (Nat ⊕ (Unit ⊕ Unit)):=fun k2 =>
  bif decide ((k2:Int)<(lines.length:Int)) then (
  M.grd (decide ((k2:Int)<(lines.length:Int))) <|
  M.bind (M.opt (!(decide (((lines.getD k2 ([])).length:Int)<2))) (zb6 w_ (lines.getD k2 ([]))) false) fun r4 =>
  M.grd ((!(!((decide (((lines.getD k2 ([])).length:Int)<2))||(!r4)))||(decide (0<((lines.getD k2 ([])).length:Int))))) <|
  M.bind (M.opt (!((decide (((lines.getD k2 ([])).length:Int)<2))||(!r4))) (zad revised ((lines.getD k2 ([])).getD 0 0)) false) fun r5 =>
  M.grd ((!(!(((decide (((lines.getD k2 ([])).length:Int)<2))||(!r4))||(!r5)))||(decide ((0:Int)<=(((lines.getD k2 ([])).length:Int)-1))&&decide ((((lines.getD k2 ([])).length:Int)-1)<((lines.getD k2 ([])).length:Int))))) <|
  bif ((((decide (((lines.getD k2 ([])).length:Int)<2))||(!r4))||(!r5))||(((lines.getD k2 ([])).getD (Int.toNat (((lines.getD k2 ([])).length:Int)-1)) 0) != work)) then (
  M.pure (.inr (.inl ())))
  else (
  M.bind (M.iter (zek revised lines k2) 1) fun x_=>match x_ with
  | (.inl (_:Unit))=>(
  M.pure (.inr (.inl ())))
  | (.inr (_:Unit))=>(
  M.pure (.inl (k2+1)))))
  else (
  M.pure (.inr (.inr ())))
def zdT (w_:List Work) (revised:List Int) (work:Int) (lines:List (List Int)):M (Bool × Int) :=
  M.bind (zbT w_ revised work) fun r2 =>
  bif r2 != 0 then (
  M.pure (false,r2))
  else (
  bif decide (30<(lines.length:Int)) then (
  M.pure (false,3))
  else (
  M.bind (M.iter (zcz w_ lines) 0) fun x_=>match x_ with
  | (.inl (_:Unit))=>(
  M.pure (false,2))
  | (.inr (_:Unit))=>(
  M.bind (M.iter (zd4 w_ revised work lines) 0) fun x_=>match x_ with
  | (.inl (_:Unit))=>(
  M.pure (false,0))
  | (.inr (_:Unit))=>(
  M.pure (true,0)))))
theorem ze6 {R:List Chunk} {a0:Cells} {ai:Value} {a4:Cells} {ag:Value} {a5:Cells} {aj:Value} (w_:List Work) (revised:List Int) (work:Int) (lines:List (List Int)) (a6:Reads R a0) (aI:Sl a0 ai w_) (aJ:Reads R a4) (aK:Sl a4 ag revised) (ak:Reads R a5) (am:Sl a5 aj lines) {r:(Bool × Int)} (hM:(zdT w_ revised work lines).Ends r) (w:World) (H:St w w [] R):Ret Tryz.prog 46 #[ai,ag,I work,aj] w fun v w'=>∃ (y0:Bool) (y1:Int),(y0,y1)=r/\v = .tuple #[B y0,I y1]/\St w w' [] R:=by
 refine ret_of_W Tryz.func46 rfl rfl rfl ?_;refine kg 11 ?_;obtain ⟨b0,bj,hM⟩:=M.e_bind hM;refine s_call cf94 [ai,ag,I work] rfl (zcY w_ revised work (a6.app _) aI (aJ.app _) aK bj _ (H.gt 0)) ?_
 rintro vq b4 ⟨r2,rfl,hvq,al⟩
 subst vq;(try dsimp only at hM);replace H:=H.bk al;clear al;refine kg 7 ?_
 refine W.cond (r2 != 0) rfl (fun ao=>?_) (fun ao=>?_)
 ·replace hM:=M.e_t hM ao
  replace ao:=dI ao
  refine kg 6 ?_;refine W.ret ?_
  have ae:=M.e_pure hM
  exact ⟨_,resE_tmp2 rfl,⟨false,r2,ae,rfl,H⟩⟩
 replace hM:=M.e_f hM ao
 replace ao:=dI ao
 have b5:=(am).len_le
 refine kg 8 ?_
 refine W.cond (decide (30<(lines.length:Int))) rfl (fun ap=>?_) (fun ap=>?_)
 ·replace hM:=M.e_t hM ap
  replace ap:=dI ap
  refine kg 5 ?_;refine W.ret ?_
  have ae:=M.e_pure hM
  exact ⟨_,resE_tmp2 rfl,⟨false,3,ae,rfl,H⟩⟩
 replace hM:=M.e_f hM ap
 replace ap:=dI ap
 refine kg 7 ?_;obtain ⟨bm,aL,a7⟩:=M.e_bind hM
 obtain ⟨aD,aL⟩:=M.e_iter aL
 refine W.loop (fun m σ W=>∃ (k:Nat) (ρ:Env),σ=upds ρ [(0,ai),(1,ag),(2,I work),(3,aj),(11,I (k:Int))]/\M.iterN (zcz w_ lines) m k=some bm/\St w W [] R) ?_ ?_
 ·exact ⟨_,0,_,upds_of _ _ ⟨rfl,rfl,rfl,rfl,rfl,trivial⟩,aL,H⟩
 rintro b6 σ b7 ⟨k,ρ,rfl,a8,H⟩
 obtain ⟨bn,bo,b8,hM,aM⟩:=M.e_iterN a8
 simp only [zcz] at hM
 clear a8
 have b9:=(am).len_le
 refine kg 8 ?_
 refine W.cond (decide ((k:Int)<(lines.length:Int))) rfl (fun aq=>?_) (fun aq=>?_)
 ·replace hM:=M.e_t hM aq
  replace aq:=dI aq
  refine kg 8 ?_;obtain ⟨bp,aN,a9⟩:=M.e_bind hM
  obtain ⟨aD,aN⟩:=M.e_iter aN
  refine W.loop (fun m σ W=>∃ (i:Nat) (ρ:Env),σ=upds ρ [(0,ai),(1,ag),(2,I work),(3,aj),(11,I (k:Int)),(12,I (i:Int))]/\M.iterN (zcH w_ lines k) m i=some bp/\St w W [] R) ?_ ?_
  ·exact ⟨_,0,_,upds_of _ _ ⟨rfl,rfl,rfl,rfl,rfl,rfl,trivial⟩,aN,H⟩
  rintro ca σ cb ⟨i,ρ,rfl,ba,H⟩
  obtain ⟨br,bt,cc,hM,aO⟩:=M.e_iterN ba
  simp only [zcH] at hM
  clear ba;obtain ⟨cd,hM⟩:=M.e_gd hM;refine kg 7 ?_
  obtain ⟨bb,bu,aE⟩:=List_at am (i:=(k:Int)) (by omega) (by omega)
  replace aE:Sl _ bb (lines.getD k ([])):=aE
  have ce:=aE.len_le
  refine s_val (x_ld (v:=bb) rfl (ld_sc Sc22 (At.mono (bu) (ak.at H)))) ?_
  have cf:=(aE).len_le
  refine kg 3 ?_
  refine W.cond (decide ((i:Int)<((lines.getD k ([])).length:Int))) rfl (fun au=>?_) (fun au=>?_)
  ·replace hM:=M.e_t hM au
   replace au:=dI au
   refine kg 8 ?_
   obtain ⟨bc,bv,aP⟩:=List_at am (i:=(k:Int)) (by omega) (by omega)
   replace aP:Sl _ bc (lines.getD k ([])):=aP
   have cg:=aP.len_le
   refine s_val (x_ld (v:=bc) rfl (ld_sc Sc22 (At.mono (bv) (ak.at H)))) ?_;obtain ⟨ch,hM⟩:=M.e_gd hM
   have ci:=(aI).len_le
   refine kg 6 ?_;obtain ⟨cj,bw,hM⟩:=M.e_bind hM;refine s_call cf68 [I ((lines.getD k ([])).getD i 0),I 0,I ((w_.length:Int)-1)] rfl (zas ((lines.getD k ([])).getD i 0) 0 ((w_.length:Int)-1) bw _ (H.gt 0)) ?_
   rintro vq ck ⟨r3,rfl,hvq,al⟩
   subst vq;(try dsimp only at hM);replace H:=H.bk al;clear al;refine s_nil ?_
   refine W.cond r3 rfl (fun aQ=>?_) (fun aQ=>?_)
   ·replace hM:=M.e_t hM aQ;refine kg 5 ?_;refine W.ret ?_
    have bx:=M.e_inr hM aO
    subst bx;replace hM:=a9;(try dsimp only at hM)
    have bz:=M.e_inr hM aM
    subst bz;replace hM:=a7;(try dsimp only at hM)
    have ae:=M.e_pure hM
    exact ⟨_,resE_tmp2 rfl,⟨false,2,ae,rfl,H⟩⟩
   replace hM:=M.e_f hM aQ;refine kg 6 ?_
   exact ⟨br,bt,i+1,_,upds_of _ _ ⟨rfl,rfl,rfl,rfl,rfl,rfl,trivial⟩,M.e_inl hM aO,H⟩
  replace hM:=M.e_f hM au
  replace au:=dI au
  refine W.exit ?_
  have bA:=M.e_inr hM aO
  subst bA;replace hM:=a9;(try dsimp only at hM);refine kg 5 ?_
  exact ⟨bn,bo,k+1,_,upds_of _ _ ⟨rfl,rfl,rfl,rfl,rfl,trivial⟩,M.e_inl hM aM,H⟩
 replace hM:=M.e_f hM aq
 replace aq:=dI aq
 refine W.exit ?_
 have bB:=M.e_inr hM aM
 subst bB;replace hM:=a7;(try dsimp only at hM);refine kg 6 ?_;obtain ⟨bC,aR,aF⟩:=M.e_bind hM
 obtain ⟨aD,aR⟩:=M.e_iter aR
 refine W.loop (fun m σ W=>∃ (k2:Nat) (ρ:Env),σ=upds ρ [(0,ai),(1,ag),(2,I work),(3,aj),(13,I (k2:Int))]/\M.iterN (zd4 w_ revised work lines) m k2=some bC/\St w W [] R) ?_ ?_
 ·exact ⟨_,0,_,upds_of _ _ ⟨rfl,rfl,rfl,rfl,rfl,trivial⟩,aR,H⟩
 rintro cl σ cm ⟨k2,ρ,rfl,bf,H⟩
 obtain ⟨bD,bE,cn,hM,aA⟩:=M.e_iterN bf
 simp only [zd4] at hM
 clear bf
 have co:=(am).len_le
 refine kg 8 ?_
 refine W.cond (decide ((k2:Int)<(lines.length:Int))) rfl (fun av=>?_) (fun av=>?_)
 ·replace hM:=M.e_t hM av
  replace av:=dI av
  obtain ⟨cp,hM⟩:=M.e_gd hM;refine kg 8 ?_
  obtain ⟨ab,bF,ah⟩:=List_at am (i:=(k2:Int)) (by omega) (by omega)
  replace ah:Sl _ ab (lines.getD k2 ([])):=ah
  have cq:=ah.len_le
  refine s_val (x_ld (v:=ab) rfl (ld_sc Sc22 (At.mono (bF) (ak.at H)))) ?_
  have cr:=(ah).len_le
  refine kg 11 ?_;obtain ⟨r4,bG,hM⟩:=M.e_bind hM;refine t_gcall (!(decide (((lines.getD k2 ([])).length:Int)<2))) (gy_f rfl) cf69 (B r4) (fun _=>[ai,ab]) (fun hg=>lst2 (gd_of hg (ai)) (gd_of hg (ab))) H (fun hg=>(zeo w_ (lines.getD k2 ([])) (a6.app _) aI (ak.app _) ah (M.e_opt bG hg) _ (H.give (A:=[]) rfl)).mono fun v_ w_ ⟨y_,ae,aB,H_⟩=>by subst ae; exact ⟨aB,H.via H_⟩) ?_;intro ct H;refine kg 1 ?_;refine s_val (x_por (b:=decide (((lines.getD k2 ([])).length:Int)<2)) (r:=!r4) rfl rfl (fun hb=>gd_of (c:=!(decide (((lines.getD k2 ([])).length:Int)<2))) (by first | exact hb | (rw [hb]; rfl) | simp_all) (B (!r4))))<|zM (B ((decide (((lines.getD k2 ([])).length:Int)<2))||(!r4))) rfl<|g_val (!((decide (((lines.getD k2 ([])).length:Int)<2))||(!r4))) (gy_f rfl) (fun hg=>x_mv (v:=ag) rfl)<|g_val (!((decide (((lines.getD k2 ([])).length:Int)<2))||(!r4))) (gy_f rfl) (fun hg=>x_mv (v:=ab) rfl) ?_;obtain ⟨aw,hM⟩:=M.e_grd hM
  replace aw:=M.imp_of aw
  simp only [Bool.and_eq_true,decide_eq_true_eq] at aw
  refine g_val (!((decide (((lines.getD k2 ([])).length:Int)<2))||(!r4))) (gy_f rfl) (fun hg=>x_ix (v:=vat ab 1 (Int.toNat 0)) (gd_of hg (ab)) rfl (Sl.ix (α:=Int) T22.und T22.size ah (by have aa:=aw.resolve_left (by rw [hg]; decide); first | exact aa | exact aa.1 | exact aa.2 | omega | (have ac:=hg; simp at ac; omega)) (by have aa:=aw.resolve_left (by rw [hg]; decide); first | exact aa | exact aa.1 | exact aa.2 | omega | (have ac:=hg; simp at ac; omega))))<|g_val (!((decide (((lines.getD k2 ([])).length:Int)<2))||(!r4))) (gy_f rfl) (fun hg=>x_ld (v:=I ((lines.getD k2 ([])).getD 0 0)) (gd_of hg (vat ab 1 (Int.toNat 0))) (ld_sc Sc3 (At.mono (Int_at ah (i:=0) (by have aa:=aw.resolve_left (by rw [hg]; decide); first | exact aa | exact aa.1 | exact aa.2 | omega | (have ac:=hg; simp at ac; omega)) (by have aa:=aw.resolve_left (by rw [hg]; decide); first | exact aa | exact aa.1 | exact aa.2 | omega | (have ac:=hg; simp at ac; omega))) (ak.at H)))) ?_;obtain ⟨r5,bH,hM⟩:=M.e_bind hM;refine t_gcall (!((decide (((lines.getD k2 ([])).length:Int)<2))||(!r4))) (gy_f rfl) cf63 (B r5) (fun _=>[ag,I ((lines.getD k2 ([])).getD 0 0)]) (fun hg=>lst2 (gd_of hg (ag)) (gd_of hg (I ((lines.getD k2 ([])).getD 0 0)))) H (fun hg=>(zae revised ((lines.getD k2 ([])).getD 0 0) (aJ.app _) aK (M.e_opt bH hg) _ (H.give (A:=[]) rfl)).mono fun v_ w_ ⟨y_,ae,aB,H_⟩=>by subst ae; exact ⟨aB,H.via H_⟩) ?_;intro cu H;refine g_val (!((decide (((lines.getD k2 ([])).length:Int)<2))||(!r4))) (gy_f rfl) (fun hg=>x_not (b:=r5) (gd_of hg (B r5)))<|s_val (x_por (b:=((decide (((lines.getD k2 ([])).length:Int)<2))||(!r4))) (r:=!r5) rfl rfl (fun hb=>gd_of (c:=!((decide (((lines.getD k2 ([])).length:Int)<2))||(!r4))) (by first | exact hb | (rw [hb]; rfl) | simp_all) (B (!r5))))<|zM (B (((decide (((lines.getD k2 ([])).length:Int)<2))||(!r4))||(!r5))) rfl<|g_val (!(((decide (((lines.getD k2 ([])).length:Int)<2))||(!r4))||(!r5))) (gy_f rfl) (fun hg=>x_mv (v:=ab) rfl)<|g_val (!(((decide (((lines.getD k2 ([])).length:Int)<2))||(!r4))||(!r5))) (gy_f rfl) (fun hg=>x_mv (v:=ab) rfl) ?_
  have cv:=(ah).len_le
  refine g_val (!(((decide (((lines.getD k2 ([])).length:Int)<2))||(!r4))||(!r5))) (gy_f rfl) (fun hg=>x_lenS T22.und (gd_of hg (ab)) ah)<|g_val (!(((decide (((lines.getD k2 ([])).length:Int)<2))||(!r4))||(!r5))) (gy_f rfl) (fun hg=>x_ari (r:=((lines.getD k2 ([])).length:Int)-1) (gd_of hg (I ((lines.getD k2 ([])).length:Int))) rfl rfl (by first | omega | (have ac:=hg; simp at ac; omega))) ?_;obtain ⟨ax,hM⟩:=M.e_grd hM
  replace ax:=M.imp_of ax
  simp only [Bool.and_eq_true,decide_eq_true_eq] at ax
  refine g_val (!(((decide (((lines.getD k2 ([])).length:Int)<2))||(!r4))||(!r5))) (gy_f rfl) (fun hg=>x_ix (v:=vat ab 1 (Int.toNat (((lines.getD k2 ([])).length:Int)-1))) (gd_of hg (ab)) (gd_of hg (I (((lines.getD k2 ([])).length:Int)-1))) (Sl.ix (α:=Int) T22.und T22.size ah (by have aa:=ax.resolve_left (by rw [hg]; decide); first | exact aa | exact aa.1 | exact aa.2 | omega | (have ac:=hg; simp at ac; omega)) (by have aa:=ax.resolve_left (by rw [hg]; decide); first | exact aa | exact aa.1 | exact aa.2 | omega | (have ac:=hg; simp at ac; omega))))<|g_val (!(((decide (((lines.getD k2 ([])).length:Int)<2))||(!r4))||(!r5))) (gy_f rfl) (fun hg=>x_ld (v:=I ((lines.getD k2 ([])).getD (Int.toNat (((lines.getD k2 ([])).length:Int)-1)) 0)) (gd_of hg (vat ab 1 (Int.toNat (((lines.getD k2 ([])).length:Int)-1)))) (ld_sc Sc3 (At.mono (Int_at ah (i:=((lines.getD k2 ([])).length:Int)-1) (by have aa:=ax.resolve_left (by rw [hg]; decide); first | exact aa | exact aa.1 | exact aa.2 | omega | (have ac:=hg; simp at ac; omega)) (by have aa:=ax.resolve_left (by rw [hg]; decide); first | exact aa | exact aa.1 | exact aa.2 | omega | (have ac:=hg; simp at ac; omega))) (ak.at H))))<|g_val (!(((decide (((lines.getD k2 ([])).length:Int)<2))||(!r4))||(!r5))) (gy_f rfl) (fun hg=>x_mv (v:=I work) rfl)<|g_val (!(((decide (((lines.getD k2 ([])).length:Int)<2))||(!r4))||(!r5))) (gy_f rfl) (fun hg=>x_cmp (kd:=.i64) (r:=((lines.getD k2 ([])).getD (Int.toNat (((lines.getD k2 ([])).length:Int)-1)) 0) != work) (gd_of hg (I ((lines.getD k2 ([])).getD (Int.toNat (((lines.getD k2 ([])).length:Int)-1)) 0))) (gd_of hg (I work)) rfl)<|s_val (x_por (b:=(((decide (((lines.getD k2 ([])).length:Int)<2))||(!r4))||(!r5))) (r:=((lines.getD k2 ([])).getD (Int.toNat (((lines.getD k2 ([])).length:Int)-1)) 0) != work) rfl rfl (fun hb=>gd_of (c:=!(((decide (((lines.getD k2 ([])).length:Int)<2))||(!r4))||(!r5))) (by first | exact hb | (rw [hb]; rfl) | simp_all) (B (((lines.getD k2 ([])).getD (Int.toNat (((lines.getD k2 ([])).length:Int)-1)) 0) != work))))<|s_nil ?_
  refine W.cond ((((decide (((lines.getD k2 ([])).length:Int)<2))||(!r4))||(!r5))||(((lines.getD k2 ([])).getD (Int.toNat (((lines.getD k2 ([])).length:Int)-1)) 0) != work)) rfl (fun aS=>?_) (fun aS=>?_)
  ·replace hM:=M.e_t hM aS;refine kg 5 ?_;refine W.ret ?_
   have bI:=M.e_inr hM aA
   subst bI;replace hM:=aF;(try dsimp only at hM)
   have ae:=M.e_pure hM
   exact ⟨_,resE_tmp2 rfl,⟨false,0,ae,rfl,H⟩⟩
  replace hM:=M.e_f hM aS;refine kg 6 ?_;obtain ⟨bJ,aT,aU⟩:=M.e_bind hM
  obtain ⟨aD,aT⟩:=M.e_iter aT
  refine W.loop (fun m σ W=>∃ (i2:Nat) (ρ:Env),σ=upds ρ [(0,ai),(1,ag),(2,I work),(3,aj),(13,I (k2:Int)),(14,ab),(15,I (i2:Int)),(67,gd (!(decide (((lines.getD k2 ([])).length:Int)<2))) ai),(68,gd (!(decide (((lines.getD k2 ([])).length:Int)<2))) ab),(69,gd (!(decide (((lines.getD k2 ([])).length:Int)<2))) (B r4)),(70,gd (!(decide (((lines.getD k2 ([])).length:Int)<2))) (B (!r4))),(73,gd (!((decide (((lines.getD k2 ([])).length:Int)<2))||(!r4))) ag),(74,gd (!((decide (((lines.getD k2 ([])).length:Int)<2))||(!r4))) ab),(75,gd (!((decide (((lines.getD k2 ([])).length:Int)<2))||(!r4))) (vat ab 1 (Int.toNat 0))),(76,gd (!((decide (((lines.getD k2 ([])).length:Int)<2))||(!r4))) (I ((lines.getD k2 ([])).getD 0 0))),(77,gd (!((decide (((lines.getD k2 ([])).length:Int)<2))||(!r4))) (B r5)),(78,gd (!((decide (((lines.getD k2 ([])).length:Int)<2))||(!r4))) (B (!r5))),(81,gd (!(((decide (((lines.getD k2 ([])).length:Int)<2))||(!r4))||(!r5))) ab),(82,gd (!(((decide (((lines.getD k2 ([])).length:Int)<2))||(!r4))||(!r5))) ab),(83,gd (!(((decide (((lines.getD k2 ([])).length:Int)<2))||(!r4))||(!r5))) (I ((lines.getD k2 ([])).length:Int))),(84,gd (!(((decide (((lines.getD k2 ([])).length:Int)<2))||(!r4))||(!r5))) (I (((lines.getD k2 ([])).length:Int)-1))),(85,gd (!(((decide (((lines.getD k2 ([])).length:Int)<2))||(!r4))||(!r5))) (vat ab 1 (Int.toNat (((lines.getD k2 ([])).length:Int)-1)))),(86,gd (!(((decide (((lines.getD k2 ([])).length:Int)<2))||(!r4))||(!r5))) (I ((lines.getD k2 ([])).getD (Int.toNat (((lines.getD k2 ([])).length:Int)-1)) 0))),(87,gd (!(((decide (((lines.getD k2 ([])).length:Int)<2))||(!r4))||(!r5))) (I work)),(88,gd (!(((decide (((lines.getD k2 ([])).length:Int)<2))||(!r4))||(!r5))) (B (((lines.getD k2 ([])).getD (Int.toNat (((lines.getD k2 ([])).length:Int)-1)) 0) != work)))]/\M.iterN (zek revised lines k2) m i2=some bJ/\St w W [] R) ?_ ?_
  ·exact ⟨_,1,_,upds_of _ _ ⟨rfl,rfl,rfl,rfl,rfl,rfl,rfl,rfl,rfl,rfl,rfl,rfl,rfl,rfl,rfl,rfl,rfl,rfl,rfl,rfl,rfl,rfl,rfl,rfl,rfl,trivial⟩,aT,H⟩
  rintro cw σ cx ⟨i2,ρ,rfl,bg,H⟩
  obtain ⟨bK,bL,cy,hM,aG⟩:=M.e_iterN bg
  simp only [zek] at hM
  clear bg
  have cz:=(ah).len_le
  refine kg 8 ?_
  refine W.cond (decide ((i2:Int)<((lines.getD k2 ([])).length:Int))) rfl (fun ay=>?_) (fun ay=>?_)
  ·replace hM:=M.e_t hM ay
   replace ay:=dI ay
   obtain ⟨cA,hM⟩:=M.e_gd hM;refine kg 11 ?_;obtain ⟨cB,bM,hM⟩:=M.e_bind hM;refine s_call cf63 [ag,I ((lines.getD k2 ([])).getD i2 0)] rfl (zae revised ((lines.getD k2 ([])).getD i2 0) (aJ.app _) aK bM _ (H.gt 0)) ?_
   rintro vq cC ⟨r6,rfl,hvq,al⟩
   subst vq;(try dsimp only at hM);replace H:=H.bk al;clear al;refine s_nil ?_
   refine W.cond r6 rfl (fun aV=>?_) (fun aV=>?_)
   ·replace hM:=M.e_t hM aV;refine kg 5 ?_;refine W.ret ?_
    have bN:=M.e_inr hM aG
    subst bN;replace hM:=aU;(try dsimp only at hM)
    have bO:=M.e_inr hM aA
    subst bO;replace hM:=aF;(try dsimp only at hM)
    have ae:=M.e_pure hM
    exact ⟨_,resE_tmp2 rfl,⟨false,0,ae,rfl,H⟩⟩
   replace hM:=M.e_f hM aV;refine kg 6 ?_;obtain ⟨bP,aW,bh⟩:=M.e_bind hM
   obtain ⟨aD,aW⟩:=M.e_iter aW
   refine W.loop (fun m σ W=>∃ (m2:Nat) (ρ:Env),σ=upds ρ [(0,ai),(1,ag),(2,I work),(3,aj),(13,I (k2:Int)),(14,ab),(15,I (i2:Int)),(16,I (m2:Int)),(67,gd (!(decide (((lines.getD k2 ([])).length:Int)<2))) ai),(68,gd (!(decide (((lines.getD k2 ([])).length:Int)<2))) ab),(69,gd (!(decide (((lines.getD k2 ([])).length:Int)<2))) (B r4)),(70,gd (!(decide (((lines.getD k2 ([])).length:Int)<2))) (B (!r4))),(73,gd (!((decide (((lines.getD k2 ([])).length:Int)<2))||(!r4))) ag),(74,gd (!((decide (((lines.getD k2 ([])).length:Int)<2))||(!r4))) ab),(75,gd (!((decide (((lines.getD k2 ([])).length:Int)<2))||(!r4))) (vat ab 1 (Int.toNat 0))),(76,gd (!((decide (((lines.getD k2 ([])).length:Int)<2))||(!r4))) (I ((lines.getD k2 ([])).getD 0 0))),(77,gd (!((decide (((lines.getD k2 ([])).length:Int)<2))||(!r4))) (B r5)),(78,gd (!((decide (((lines.getD k2 ([])).length:Int)<2))||(!r4))) (B (!r5))),(81,gd (!(((decide (((lines.getD k2 ([])).length:Int)<2))||(!r4))||(!r5))) ab),(82,gd (!(((decide (((lines.getD k2 ([])).length:Int)<2))||(!r4))||(!r5))) ab),(83,gd (!(((decide (((lines.getD k2 ([])).length:Int)<2))||(!r4))||(!r5))) (I ((lines.getD k2 ([])).length:Int))),(84,gd (!(((decide (((lines.getD k2 ([])).length:Int)<2))||(!r4))||(!r5))) (I (((lines.getD k2 ([])).length:Int)-1))),(85,gd (!(((decide (((lines.getD k2 ([])).length:Int)<2))||(!r4))||(!r5))) (vat ab 1 (Int.toNat (((lines.getD k2 ([])).length:Int)-1)))),(86,gd (!(((decide (((lines.getD k2 ([])).length:Int)<2))||(!r4))||(!r5))) (I ((lines.getD k2 ([])).getD (Int.toNat (((lines.getD k2 ([])).length:Int)-1)) 0))),(87,gd (!(((decide (((lines.getD k2 ([])).length:Int)<2))||(!r4))||(!r5))) (I work)),(88,gd (!(((decide (((lines.getD k2 ([])).length:Int)<2))||(!r4))||(!r5))) (B (((lines.getD k2 ([])).getD (Int.toNat (((lines.getD k2 ([])).length:Int)-1)) 0) != work)))]/\M.iterN (zdR lines k2 i2) m m2=some bP/\St w W [] R) ?_ ?_
   ·exact ⟨_,0,_,upds_of _ _ ⟨rfl,rfl,rfl,rfl,rfl,rfl,rfl,rfl,rfl,rfl,rfl,rfl,rfl,rfl,rfl,rfl,rfl,rfl,rfl,rfl,rfl,rfl,rfl,rfl,rfl,rfl,trivial⟩,aW,H⟩
   rintro cD σ cE ⟨m2,ρ,rfl,bi,H⟩
   obtain ⟨bQ,bR,cF,hM,aX⟩:=M.e_iterN bi
   simp only [zdR] at hM
   clear bi;refine kg 7 ?_
   refine W.cond (decide ((m2:Int)<(k2:Int))) rfl (fun az=>?_) (fun az=>?_)
   ·replace hM:=M.e_t hM az
    replace az:=dI az
    refine kg 4 ?_;refine W.draw (fun W=>St w W [] R) [(0,true),(1,true),(2,true),(3,true),(4,true),(5,true),(6,true),(7,true),(8,true),(9,true),(10,true),(11,true),(12,true),(13,true),(14,false),(15,true)] mixed (by decide +kernel) rfl ?_;intro cG ac;replace H:=H.ext ac;clear ac
    refine ⟨(H.pk []),?_⟩
    have cH:=(ah).len_le
    obtain ⟨aC,hM⟩:=M.e_grd hM
    replace aC:=M.imp_of aC
    simp only [Bool.and_eq_true,decide_eq_true_eq] at aC
    refine kg 9 ?_
    obtain ⟨aH,bS,aY⟩:=gd_ex (c:=decide ((i2:Int)<(((lines.getD k2 ([])).length:Int)-1))) fun hg=>List_at am (i:=(m2:Int)) (by have aa:=aC.resolve_left (by rw [hg]; decide); first | exact aa | exact aa.1 | exact aa.2 | omega | (have ac:=hg; simp at ac; omega)) (by have aa:=aC.resolve_left (by rw [hg]; decide); first | exact aa | exact aa.1 | exact aa.2 | omega | (have ac:=hg; simp at ac; omega))
    replace aY:(decide ((i2:Int)<(((lines.getD k2 ([])).length:Int)-1)))=true->Sl _ aH (lines.getD m2 ([])):=aY
    refine d_qg (decide ((i2:Int)<(((lines.getD k2 ([])).length:Int)-1))) rfl (gy_t rfl) (fun hg=>(fun w' H=>x_ld (v:=aH) (gd_of hg (vat aj 1 (Int.toNat (m2:Int)))) (ld_sc Sc22 (At.mono (bS hg) (ak.at H))))) ?_;refine kg 4 ?_;refine d_l rfl ?_;obtain ⟨r7,bT,hM⟩:=M.e_bind hM;refine t_gcall (decide ((i2:Int)<(((lines.getD k2 ([])).length:Int)-1))) (gy_t rfl) cf63 (B r7) (fun _=>[aH,I ((lines.getD k2 ([])).getD i2 0)]) (fun hg=>lst2 (gd_of hg (aH)) (gd_of hg (I ((lines.getD k2 ([])).getD i2 0)))) H (fun hg=>(zae (lines.getD m2 ([])) ((lines.getD k2 ([])).getD i2 0) (ak.app _) (aY hg) (M.e_opt bT hg) _ (H.give (A:=[]) rfl)).mono fun v_ w_ ⟨y_,ae,aB,H_⟩=>by subst ae; exact ⟨aB,H.via H_⟩) ?_;intro cI H
    refine s_nil ⟨(H.pk []),?_⟩
    refine d_q rfl (fun w' H=>x_pand (b:=decide ((i2:Int)<(((lines.getD k2 ([])).length:Int)-1))) (r:=r7) rfl (fun hb=>gd_of (c:=decide ((i2:Int)<(((lines.getD k2 ([])).length:Int)-1))) (by first | exact hb | (rw [hb]; rfl) | simp_all) (B r7)) rfl) ?_;refine d_nil ?_
    refine W.cond ((decide ((i2:Int)<(((lines.getD k2 ([])).length:Int)-1)))&&r7) rfl (fun aZ=>?_) (fun aZ=>?_)
    ·replace hM:=M.e_t hM aZ;refine kg 5 ?_;refine W.ret ?_
     have bU:=M.e_inr hM aX
     subst bU;replace hM:=bh;(try dsimp only at hM)
     have bV:=M.e_inr hM aG
     subst bV;replace hM:=aU;(try dsimp only at hM)
     have bW:=M.e_inr hM aA
     subst bW;replace hM:=aF;(try dsimp only at hM)
     have ae:=M.e_pure hM
     exact ⟨_,resE_tmp2 rfl,⟨false,0,ae,rfl,H⟩⟩
    replace hM:=M.e_f hM aZ;obtain ⟨cJ,hM⟩:=M.e_gd hM;refine kg 6 ?_
    exact ⟨bQ,bR,m2+1,_,upds_of _ _ ⟨rfl,rfl,rfl,rfl,rfl,rfl,rfl,rfl,rfl,rfl,rfl,rfl,rfl,rfl,rfl,rfl,rfl,rfl,rfl,rfl,rfl,rfl,rfl,rfl,rfl,rfl,trivial⟩,M.e_inl hM aX,H⟩
   replace hM:=M.e_f hM az
   replace az:=dI az
   refine W.exit ?_
   have bX:=M.e_inr hM aX
   subst bX;replace hM:=bh;(try dsimp only at hM);refine kg 5 ?_
   exact ⟨bK,bL,i2+1,_,upds_of _ _ ⟨rfl,rfl,rfl,rfl,rfl,rfl,rfl,rfl,rfl,rfl,rfl,rfl,rfl,rfl,rfl,rfl,rfl,rfl,rfl,rfl,rfl,rfl,rfl,rfl,rfl,trivial⟩,M.e_inl hM aG,H⟩
  replace hM:=M.e_f hM ay
  replace ay:=dI ay
  refine W.exit ?_
  have bY:=M.e_inr hM aG
  subst bY;replace hM:=aU;(try dsimp only at hM);refine kg 5 ?_
  exact ⟨bD,bE,k2+1,_,upds_of _ _ ⟨rfl,rfl,rfl,rfl,rfl,trivial⟩,M.e_inl hM aA,H⟩
 replace hM:=M.e_f hM av
 replace av:=dI av
 refine W.exit ?_
 have bZ:=M.e_inr hM aA
 subst bZ;replace hM:=aF;(try dsimp only at hM);refine kg 5 ?_;refine W.ret ?_
 have ae:=M.e_pure hM
 exact ⟨_,resE_tmp2 rfl,⟨true,0,ae,rfl,H⟩⟩

def zb9 (w_:List Work) (set:Nat):(Nat × (List Int))->M ((Nat × (List Int)) ⊕ ((List Int) × (List Int))):=fun (i,l) =>
  bif decide ((i:Int)<(w_.length:Int)) then (
  M.grd (decide (0<=(i:Int))&&decide ((i:Int)<=(62:Int))) <|
  M.grd (decide (0<=((set:Int) / 2 ^ i))&&decide (((set:Int) / 2 ^ i)<=(9223372036854775807:Int))) <|
  bif (((set:Int) / 2 ^ i) % 2)==1 then (
  M.grd (decide ((l.length+([(i:Int)]).length)*8<=140737488355328)) <|
  M.pure (.inl (i+1,l++([(i:Int)]))))
  else (
  M.pure (.inl (i+1,l))))
  else (
  M.pure (.inr (l,l)))
def zed (revised l3:List Int):(Bool × Nat)->M ((Bool × Nat) ⊕ Bool):=fun (allowed,k) =>
  bif decide ((k:Int)<(revised.length:Int)) then (
  M.grd ((!allowed||(decide ((k:Int)<(revised.length:Int))))) <|
  M.bind (M.opt allowed (zad l3 (revised.getD k 0)) false) fun r4 =>
  M.pure (.inl ((allowed&&(!r4)),k+1)))
  else (
  M.pure (.inr allowed))
def zdx (w_:List Work) (revised:List Int) (work:Int):(Nat × Int)->M ((Nat × Int) ⊕ Int):=fun (set,best) =>
  M.grd (decide (0<=(w_.length:Int))&&decide ((w_.length:Int)<=(62:Int))&&decide ((-9223372036854775808:Int)<=(1*2 ^ (w_.length)))&&decide ((1*2 ^ (w_.length))<=(9223372036854775807:Int))) <|
  bif decide ((set:Int)<(1*2 ^ (w_.length))) then (
  M.bind (M.iter (zb9 w_ set) (0,[])) fun (l2,l3) =>
  M.bind (zad l3 work) fun r3 =>
  bif (r3||((best != (-1))&&(decide (best<=(l3.length:Int))))) then (
  M.grd (decide ((-9223372036854775808:Int)<=((set:Int)+1))&&decide (((set:Int)+1)<=(9223372036854775807:Int))) <|
  M.pure (.inl (set+1,best)))
  else (
  M.bind (M.iter (zed revised l3) (true,0)) fun allowed2 =>
  M.bind (M.opt allowed2 (zeg w_ revised work l3) false) fun r5 =>
  bif (allowed2&&r5) then (
  M.grd (decide ((-9223372036854775808:Int)<=((set:Int)+1))&&decide (((set:Int)+1)<=(9223372036854775807:Int))) <|
  M.pure (.inl (set+1,(l3.length:Int))))
  else (
  M.grd (decide ((-9223372036854775808:Int)<=((set:Int)+1))&&decide (((set:Int)+1)<=(9223372036854775807:Int))) <|
  M.pure (.inl (set+1,best)))))
  else (
  M.pure (.inr best))
def zeC (w_:List Work) (revised:List Int) (work:Int):M (Int × Int) :=
  M.bind (zbT w_ revised work) fun r2 =>
  bif r2 != 0 then (
  M.pure (0,r2))
  else (
  M.bind (M.iter (zdx w_ revised work) (0,-1)) fun best2 =>
  bif best2==(-1) then (
  M.pure (0,5))
  else (
  M.pure (best2,0)))
theorem zfE {R:List Chunk} {aE:Cells} {ac:Value} {aF:Cells} {ae:Value} (w_:List Work) (revised:List Int) (work:Int) (aG:Reads R aE) (ao:Sl aE ac w_) (aH:Reads R aF) (aq:Sl aF ae revised) {r:(Int × Int)} (hM:(zeC w_ revised work).Ends r) (w:World) (H:St w w [] R):Ret Tryz.prog 47 #[ac,ae,I work] w fun v w'=>∃ (y0:Int) (y1:Int),(y0,y1)=r/\v = .tuple #[I y0,I y1]/\St w w' [] R:=by
 refine ret_of_W Tryz.func47 rfl rfl rfl ?_;refine kg 11 ?_;obtain ⟨a9,aP,hM⟩:=M.e_bind hM;refine s_call cf94 [ac,ae,I work] rfl (zcY w_ revised work (aG.app _) ao (aH.app _) aq aP _ (H.gt 0)) ?_
 rintro vq ba ⟨r2,rfl,hvq,am⟩
 subst vq;(try dsimp only at hM);replace H:=H.bk am;clear am;refine kg 7 ?_
 refine W.cond (r2 != 0) rfl (fun ag=>?_) (fun ag=>?_)
 ·replace hM:=M.e_t hM ag
  replace ag:=dI ag
  refine kg 6 ?_;refine W.ret ?_
  have ab:=M.e_pure hM
  exact ⟨_,resE_tmp2 rfl,⟨0,r2,ab,rfl,H⟩⟩
 replace hM:=M.e_f hM ag
 replace ag:=dI ag
 refine kg 11 ?_;obtain ⟨aQ,au,aR⟩:=M.e_bind hM
 obtain ⟨aI,au⟩:=M.e_iter au
 refine W.loop (fun m σ W=>∃ (set:Nat) (best:Int) (ρ:Env),σ=upds ρ [(0,ac),(1,ae),(2,I work),(9,I best),(10,I (set:Int))]/\M.iterN (zdx w_ revised work) m (set,best)=some aQ/\St w W [] R) ?_ ?_
 ·exact ⟨_,0,-1,_,upds_of _ _ ⟨rfl,rfl,rfl,rfl,rfl,trivial⟩,au,H⟩
 rintro bb σ bc ⟨set,best,ρ,rfl,aJ,H⟩
 obtain ⟨av,aw,bf,hM,ap⟩:=M.e_iterN aJ
 simp only [zdx] at hM
 clear aJ
 have bg:=(ao).len_le
 obtain ⟨bh,hM⟩:=M.e_gd hM;refine kg 6 ?_;refine s_val (x_shl (a:=1) (b:=(w_.length:Int)) (n:=(w_.length)) rfl rfl (by omega)) ?_;refine kg 2 ?_
 refine W.cond (decide ((set:Int)<(1*2 ^ (w_.length)))) rfl (fun ah=>?_) (fun ah=>?_)
 ·replace hM:=M.e_t hM ah
  replace ah:=dI ah
  refine kg 13 ?_
  replace H:=H.nilOwn (α:=Int) 3
  obtain ⟨aS,ax,aT⟩:=M.e_bind hM
  obtain ⟨aI,ax⟩:=M.e_iter ax
  refine W.loop (fun m σ W=>∃ (i:Nat) (l:List Int) (aa:Value) (ρ:Env),σ=upds ρ [(0,ac),(1,ae),(2,I work),(9,I best),(10,I (set:Int)),(11,aa),(12,I (i:Int))]/\M.iterN (zb9 w_ set) m (i,l)=some aS/\St w W [cOwn (α:=Int) 3 aa l] R) ?_ ?_
  ·exact ⟨_,0,[],(.slice none 0 0),_,upds_of _ _ ⟨rfl,rfl,rfl,rfl,rfl,rfl,rfl,trivial⟩,ax,H⟩
  rintro bi σ bj ⟨i,l,aa,ρ,rfl,aK,H⟩
  obtain ⟨aL,aM,bm,hM,ay⟩:=M.e_iterN aK
  simp only [zb9] at hM
  clear aK
  have bn:=(ao).len_le
  refine kg 8 ?_
  refine W.cond (decide ((i:Int)<(w_.length:Int))) rfl (fun ai=>?_) (fun ai=>?_)
  ·replace hM:=M.e_t hM ai
   replace ai:=dI ai
   obtain ⟨bo,hM⟩:=M.e_gd hM;refine kg 7 ?_;refine s_val (x_shr (a:=(set:Int)) (b:=(i:Int)) (n:=i) rfl rfl (by omega)) ?_;obtain ⟨bp,hM⟩:=M.e_gd hM;refine s_val (x_and1 (a:=(set:Int) / 2 ^ i) rfl rfl (by omega)) ?_;refine kg 2 ?_
   refine W.cond ((((set:Int) / 2 ^ i) % 2)==1) rfl (fun aj=>?_) (fun aj=>?_)
   ·replace hM:=M.e_t hM aj
    replace aj:=dI aj
    refine kg 3 ?_;refine t_bs (α:=Int) T22 [I (i:Int)] [(i:Int)] H rfl (.cons rfl (Flat.rep_enc _ (i:Int))<|.nil) rfl rfl rfl ?_;intro aU br H;obtain ⟨bt,hM⟩:=M.e_gd hM;refine t_app (α:=Int) (k:=1) (l:=l) (l2:=[(i:Int)]) (l':=l++([(i:Int)])) (vy:=aU) T22 rfl H rfl rfl rfl (H.os 0) (H.ol 0) (rfl) (by first | omega | (simp only [List.length_nil] at *; omega)) ?_;intro aV bu H;replace H:=H.nf;refine kg 7 ?_
    exact ⟨aL,aM,i+1,l++([(i:Int)]),aV,_,upds_of _ _ ⟨rfl,rfl,rfl,rfl,rfl,rfl,rfl,trivial⟩,M.e_inl hM ay,(H.pk [1])⟩
   replace hM:=M.e_f hM aj
   replace aj:=dI aj
   refine kg 6 ?_
   exact ⟨aL,aM,i+1,l,aa,_,upds_of _ _ ⟨rfl,rfl,rfl,rfl,rfl,rfl,rfl,trivial⟩,M.e_inl hM ay,H⟩
  replace hM:=M.e_f hM ai
  replace ai:=dI ai
  refine W.exit ?_
  have aW:=M.e_inr hM ay
  subst aW;replace hM:=aT;(try dsimp only at hM);refine kg 5 ?_;obtain ⟨bv,aX,hM⟩:=M.e_bind hM;refine s_call cf63 [aa,I work] rfl (zae l work (rdo 0) (H.os 0) aX _ (H.gt 1)) ?_
  rintro vq bw ⟨r3,rfl,hvq,am⟩
  subst vq;(try dsimp only at hM);replace H:=H.bk am;clear am;refine kg 8 ?_;refine g_val (!r3) (gy_f rfl) (fun hg=>x_pand (b:=best != (-1)) (r:=decide (best<=(l.length:Int))) (gd_of hg (B (best != (-1)))) (fun hb=>gd_of (c:=((!r3)&&(best != (-1)))) (by first | exact hb | (rw [hb]; rfl) | simp_all) (B (decide (best<=(l.length:Int))))) rfl)<|s_val (x_por (b:=r3) (r:=((best != (-1))&&(decide (best<=(l.length:Int))))) rfl rfl (fun hb=>gd_of (c:=!r3) (by first | exact hb | (rw [hb]; rfl) | simp_all) (B ((best != (-1))&&(decide (best<=(l.length:Int)))))))<|s_nil ?_
  refine W.cond (r3||((best != (-1))&&(decide (best<=(l.length:Int))))) rfl (fun az=>?_) (fun az=>?_)
  ·replace hM:=M.e_t hM az;refine W.exit ?_;obtain ⟨bx,hM⟩:=M.e_gd hM;refine kg 5 ?_
   exact ⟨av,aw,set+1,best,_,upds_of _ _ ⟨rfl,rfl,rfl,rfl,rfl,trivial⟩,M.e_inl hM ap,(H.pk [])⟩
  replace hM:=M.e_f hM az;refine kg 11 ?_;obtain ⟨aY,aA,aZ⟩:=M.e_bind hM
  obtain ⟨aI,aA⟩:=M.e_iter aA
  refine W.loop (fun m σ W=>∃ (allowed:Bool) (k:Nat) (ρ:Env),σ=upds ρ [(0,ac),(1,ae),(2,I work),(9,I best),(10,I (set:Int)),(11,aa),(13,B allowed),(14,I (k:Int)),(48,gd (!r3) (I best)),(49,gd (!r3) (B (best != (-1)))),(50,gd (!r3) (B (best != (-1)))),(51,gd ((!r3)&&(best != (-1))) aa),(52,gd ((!r3)&&(best != (-1))) (I (l.length:Int))),(53,gd ((!r3)&&(best != (-1))) (I best)),(54,gd ((!r3)&&(best != (-1))) (B (decide (best<=(l.length:Int))))),(55,gd (!r3) (B ((best != (-1))&&(decide (best<=(l.length:Int))))))]/\M.iterN (zed revised l) m (allowed,k)=some aY/\St w W [cOwn (α:=Int) 3 aa l] R) ?_ ?_
  ·exact ⟨_,true,0,_,upds_of _ _ ⟨rfl,rfl,rfl,rfl,rfl,rfl,rfl,rfl,rfl,rfl,rfl,rfl,rfl,rfl,rfl,rfl,trivial⟩,aA,H⟩
  rintro bz σ bA ⟨allowed,k,ρ,rfl,aN,H⟩
  obtain ⟨a0,a4,bB,hM,aO⟩:=M.e_iterN aN
  simp only [zed] at hM
  clear aN
  have bC:=(aq).len_le
  refine kg 8 ?_
  refine W.cond (decide ((k:Int)<(revised.length:Int))) rfl (fun ak=>?_) (fun ak=>?_)
  ·replace hM:=M.e_t hM ak
   replace ak:=dI ak
   obtain ⟨aB,hM⟩:=M.e_grd hM
   replace aB:=M.imp_of aB
   simp only [Bool.and_eq_true,decide_eq_true_eq] at aB
   refine kg 11 ?_;obtain ⟨r4,a5,hM⟩:=M.e_bind hM;refine t_gcall allowed (gy_t rfl) cf63 (B r4) (fun _=>[aa,I (revised.getD k 0)]) (fun hg=>lst2 (gd_of hg (aa)) (gd_of hg (I (revised.getD k 0)))) H (fun hg=>(zae l (revised.getD k 0) (rdo 0) (H.os 0) (M.e_opt a5 hg) _ (H.give (A:=[]) rfl)).mono fun v_ w_ ⟨y_,ab,aC,H_⟩=>by subst ab; exact ⟨aC,H.via H_⟩) ?_;intro bD H;refine kg 1 ?_;refine s_val (x_pand (b:=allowed) (r:=!r4) rfl (fun hb=>gd_of (c:=allowed) (by first | exact hb | (rw [hb]; rfl) | simp_all) (B (!r4))) rfl) ?_;refine kg 7 ?_
   exact ⟨a0,a4,(allowed&&(!r4)),k+1,_,upds_of _ _ ⟨rfl,rfl,rfl,rfl,rfl,rfl,rfl,rfl,rfl,rfl,rfl,rfl,rfl,rfl,rfl,rfl,trivial⟩,M.e_inl hM aO,H⟩
  replace hM:=M.e_f hM ak
  replace ak:=dI ak
  refine W.exit ?_
  have a6:=M.e_inr hM aO
  subst a6;replace hM:=aZ;(try dsimp only at hM);refine kg 8 ?_;obtain ⟨r5,a7,hM⟩:=M.e_bind hM;refine t_gcall allowed (gy_t rfl) cf95 (B r5) (fun _=>[ac,ae,I work,aa]) (fun hg=>lst4 (gd_of hg (ac)) (gd_of hg (ae)) (gd_of hg (I work)) (gd_of hg (aa))) H (fun hg=>(zeQ w_ revised work l (aG.app _) ao (aH.app _) aq (rdo 0) (H.os 0) (M.e_opt a7 hg) _ (H.give (A:=[]) rfl)).mono fun v_ w_ ⟨y_,ab,aC,H_⟩=>by subst ab; exact ⟨aC,H.via H_⟩) ?_;intro bE H;refine s_val (x_pand (b:=allowed) (r:=r5) rfl (fun hb=>gd_of (c:=allowed) (by first | exact hb | (rw [hb]; rfl) | simp_all) (B r5)) rfl)<|s_nil ?_
  refine W.cond (allowed&&r5) rfl (fun aD=>?_) (fun aD=>?_)
  ·replace hM:=M.e_t hM aD
   have bF:=((H.os 0)).len_le
   obtain ⟨bG,hM⟩:=M.e_gd hM;refine kg 10 ?_
   exact ⟨av,aw,set+1,(l.length:Int),_,upds_of _ _ ⟨rfl,rfl,rfl,rfl,rfl,trivial⟩,M.e_inl hM ap,(H.pk [])⟩
  replace hM:=M.e_f hM aD;obtain ⟨bH,hM⟩:=M.e_gd hM;refine kg 6 ?_
  exact ⟨av,aw,set+1,best,_,upds_of _ _ ⟨rfl,rfl,rfl,rfl,rfl,trivial⟩,M.e_inl hM ap,(H.pk [])⟩
 replace hM:=M.e_f hM ah
 replace ah:=dI ah
 refine W.exit ?_
 have a8:=M.e_inr hM ap
 subst a8;replace hM:=aR;(try dsimp only at hM);refine kg 6 ?_
 refine W.cond (best==(-1)) rfl (fun al=>?_) (fun al=>?_)
 ·replace hM:=M.e_t hM al
  replace al:=dI al
  refine kg 5 ?_;refine W.ret ?_
  have ab:=M.e_pure hM
  exact ⟨_,resE_tmp2 rfl,⟨0,5,ab,rfl,H⟩⟩
 replace hM:=M.e_f hM al
 replace al:=dI al
 refine kg 7 ?_;refine W.ret ?_
 have ab:=M.e_pure hM
 exact ⟨_,resE_tmp2 rfl,⟨best,0,ab,rfl,H⟩⟩

def zdO (a b:List (List Int)):Nat->M (Nat ⊕ (Unit ⊕ Unit)):=fun i =>
  bif decide ((i:Int)<(a.length:Int)) then (
  M.grd (decide ((i:Int)<(a.length:Int))) <|
  M.grd (decide ((i:Int)<(b.length:Int))) <|
  M.bind (zab (a.getD i ([])) (b.getD i ([]))) fun r2 =>
  bif !r2 then (
  M.pure (.inr (.inl ())))
  else (
  M.pure (.inl (i+1))))
  else (
  M.pure (.inr (.inr ())))
def zeq (a b:List (List Int)):M Bool :=
  bif (a.length:Int) != (b.length:Int) then (
  M.pure false)
  else (
  M.bind (M.iter (zdO a b) 0) fun x_=>match x_ with
  | (.inl (_:Unit))=>(
  M.pure false)
  | (.inr (_:Unit))=>(
  M.pure true))
theorem zf4 {R:List Chunk} {aq:Cells} {ah:Value} {au:Cells} {ai:Value} (a:List (List Int)) (b:List (List Int)) (av:Reads R aq) (aj:Sl aq ah a) (aw:Reads R au) (ax:Sl au ai b) {r:Bool} (hM:(zeq a b).Ends r) (w:World) (H:St w w [] R):Ret Tryz.prog 50 #[ah,ai] w fun v w'=>∃ (y0:Bool),y0=r/\v=B y0/\St w w' [] R:=by
 refine ret_of_W Tryz.func50 rfl rfl rfl ?_
 have aK:=(aj).len_le
 have aL:=(ax).len_le
 refine kg 13 ?_
 refine W.cond ((a.length:Int) != (b.length:Int)) rfl (fun aa=>?_) (fun aa=>?_)
 ·replace hM:=M.e_t hM aa
  replace aa:=dI aa
  refine kg 4 ?_;refine W.ret ?_
  have ac:=M.e_pure hM
  exact ⟨_,resE_tmp rfl,⟨false,ac,rfl,H⟩⟩
 replace hM:=M.e_f hM aa
 replace aa:=dI aa
 refine kg 7 ?_;obtain ⟨aC,ak,ay⟩:=M.e_bind hM
 obtain ⟨aM,ak⟩:=M.e_iter ak
 refine W.loop (fun m σ W=>∃ (i:Nat) (ρ:Env),σ=upds ρ [(0,ah),(1,ai),(5,I (i:Int))]/\M.iterN (zdO a b) m i=some aC/\St w W [] R) ?_ ?_
 ·exact ⟨_,0,_,upds_of _ _ ⟨rfl,rfl,rfl,trivial⟩,ak,H⟩
 rintro aN σ aO ⟨i,ρ,rfl,az,H⟩
 obtain ⟨aD,aE,aP,hM,al⟩:=M.e_iterN az
 simp only [zdO] at hM
 clear az
 have aQ:=(aj).len_le
 refine kg 8 ?_
 refine W.cond (decide ((i:Int)<(a.length:Int))) rfl (fun ab=>?_) (fun ab=>?_)
 ·replace hM:=M.e_t hM ab
  replace ab:=dI ab
  refine kg 4 ?_;refine W.draw (fun W=>St w W [] R) [(0,true),(1,true),(2,true),(3,true),(4,true),(5,true),(6,true),(7,true),(8,false),(9,true)] mixed (by decide +kernel) rfl ?_;intro aR aA;replace H:=H.ext aA;clear aA
  refine ⟨(H.pk []),?_⟩
  obtain ⟨aS,hM⟩:=M.e_gd hM;refine kg 3 ?_
  obtain ⟨am,aF,ae⟩:=List_at aj (i:=(i:Int)) (by omega) (by omega)
  replace ae:Sl _ am (a.getD i ([])):=ae
  have aT:=ae.len_le
  refine d_q rfl (fun w' H=>x_ld (v:=am) rfl (ld_sc Sc22 (At.mono (aF) (av.at H)))) ?_;obtain ⟨aU,hM⟩:=M.e_gd hM;refine kg 3 ?_
  obtain ⟨ao,aG,ag⟩:=List_at ax (i:=(i:Int)) (by omega) (by omega)
  replace ag:Sl _ ao (b.getD i ([])):=ag
  have aV:=ag.len_le
  refine d_q rfl (fun w' H=>x_ld (v:=ao) rfl (ld_sc Sc22 (At.mono (aG) (aw.at H))))<|d_l rfl ?_;obtain ⟨aW,aH,hM⟩:=M.e_bind hM;refine s_call cf20 [am,ao] rfl (zac (a.getD i ([])) (b.getD i ([])) (av.app _) ae (aw.app _) ag aH _ (H.gt 0)) ?_
  rintro vq aX ⟨r2,rfl,hvq,aB⟩
  subst vq;(try dsimp only at hM);replace H:=H.bk aB;clear aB
  refine s_nil ⟨(H.pk []),?_⟩
  refine kg 2 ?_
  refine W.cond (!r2) rfl (fun ap=>?_) (fun ap=>?_)
  ·replace hM:=M.e_t hM ap;refine kg 4 ?_;refine W.ret ?_
   have aI:=M.e_inr hM al
   subst aI;replace hM:=ay;(try dsimp only at hM)
   have ac:=M.e_pure hM
   exact ⟨_,resE_tmp rfl,⟨false,ac,rfl,H⟩⟩
  replace hM:=M.e_f hM ap;refine kg 6 ?_
  exact ⟨aD,aE,i+1,_,upds_of _ _ ⟨rfl,rfl,rfl,trivial⟩,M.e_inl hM al,H⟩
 replace hM:=M.e_f hM ab
 replace ab:=dI ab
 refine W.exit ?_
 have aJ:=M.e_inr hM al
 subst aJ;replace hM:=ay;(try dsimp only at hM);refine kg 4 ?_;refine W.ret ?_
 have ac:=M.e_pure hM
 exact ⟨_,resE_tmp rfl,⟨true,ac,rfl,H⟩⟩

def zbu (w_:List Work) (revised frozen:List Int) (lines:List (List Int)) (r5:List Work) (r6 r7:List Int) (r8:List (List Int)):M Bool :=
  M.bind (zaI r5 w_) fun aa =>
  M.bind (M.opt aa (zab r6 revised) false) fun ab =>
  M.bind (M.opt (aa&&ab) (zab r7 frozen) false) fun ac =>
  M.bind (M.opt ((aa&&ab)&&ac) (zeq r8 lines) false) fun ae =>
  M.bind (M.opt (((aa&&ab)&&ac)&&ae) (zam) false) fun ag =>
  M.pure ((((aa&&ab)&&ac)&&ae)&&ag)
def zbL (w_:List Work) (revised:List Int) (work:Int) (frozen:List Int) (lines:List (List Int)) (r5:List Work) (r6 r7:List Int) (r8:List (List Int)) (ac ae:Int):M Bool :=
  M.bind (zcS r5 r6 work) fun (aa,ab) =>
  bif ((ab != ae)||((aa.length:Int) != ac)) then (
  M.pure false)
  else (
  bif ab==0 then (
  M.bind (zag w_) fun ag =>
  M.bind (zdT ag revised work aa) fun (ah,ai) =>
  bif ((ai != 0)||(!ah)) then (
  M.pure false)
  else (
  zbu w_ revised frozen lines r5 r6 r7 r8))
  else (
  zbu w_ revised frozen lines r5 r6 r7 r8))
def zbP (w_:List Work) (revised:List Int) (work:Int) (frozen:List Int) (lines:List (List Int)):M Bool :=
  M.bind (zbY lines) fun r2 =>
  M.grd (decide ((r2.length+([revised,frozen]).length)*24<=140737488355328)) <|
  M.bind (za2 w_ (r2++([revised,frozen]))) fun r3 =>
  bif (((!r3)||((decide (9<(w_.length:Int)))&&(decide ((w_.length:Int)<=30))))||(decide (35<(lines.length:Int)))) then (
  M.bind (zam) fun r4 =>
  M.pure r4)
  else (
  M.bind (zbf w_) fun r5 =>
  M.bind (zay revised) fun r6 =>
  M.bind (zay frozen) fun r7 =>
  M.bind (zbY lines) fun r8 =>
  M.bind (zeT r5 r6 work r7) fun (r0,r1) =>
  M.bind (zag w_) fun r9 =>
  M.bind (zdE r9 revised work frozen) fun (ag,ah) =>
  bif ((r0 != ag)||(r1 != ah)) then (
  M.pure false)
  else (
  M.bind (zes r5 r6 work r8) fun (ai,aj) =>
  M.bind (zag w_) fun ak =>
  M.bind (zdT ak revised work lines) fun (al,am) =>
  bif ((ai != al)||(aj != am)) then (
  M.pure false)
  else (
  M.bind (zag w_) fun ao =>
  M.bind (zeC ao revised work) fun (aa,ab) =>
  M.bind (zbO r5 r6 work) fun (ac,ae) =>
  bif ((ae != ab)||((ac.length:Int) != aa)) then (
  M.pure false)
  else (
  bif ae==0 then (
  M.bind (zag w_) fun ap =>
  M.bind (zdE ap revised work ac) fun (aq,au) =>
  bif ((au != 0)||(!aq)) then (
  M.pure false)
  else (
  zbL w_ revised work frozen lines r5 r6 r7 r8 aa ab))
  else (
  zbL w_ revised work frozen lines r5 r6 r7 r8 aa ab)))))
theorem zaf {R:List Chunk} {bi:Cells} {aj:Value} {aW:Cells} {ae:Value} {aX:Cells} {ak:Value} {bj:Cells} {al:Value} (w_:List Work) (revised:List Int) (work:Int) (frozen:List Int) (lines:List (List Int)) (ac:Reads R bi) (am:Sl bi aj w_) (ag:Reads R aW) (aw:Sl aW ae revised) (ao:Reads R aX) (aP:Sl aX ak frozen) (aQ:Reads R bj) (aF:Sl bj al lines) {r:Bool} (hM:(zbP w_ revised work frozen lines).Ends r) (w:World) (H:St w w [] R):Ret Tryz.prog 8 #[aj,ae,I work,ak,al] w fun v w'=>∃ (y0:Bool),y0=r/\v=B y0/\St w w' [] R:=by
 refine ret_of_W Tryz.func8 rfl rfl rfl ?_;refine kg 9 ?_;obtain ⟨cn,bz,hM⟩:=M.e_bind hM;refine s_call cf42 [al] rfl (zeW lines (aQ.app _) aF bz _ (H.gt 0)) ?_
 rintro vq co ⟨r2,cp,bm,cq,rfl,hvq,aa,aG⟩
 subst vq;(try dsimp only at hM);replace H:=H.bk aa;clear aa;refine kg 2 ?_
 obtain ⟨aY,H⟩:=H.emptyE
 have ay:=aw
 replace ay:=ay.mono (Cells.sup_l _ aY.cells)
 have aJ:=aP
 replace ay:=ay.mono (Cells.sup_monoL (Cells.sup_l _ _) ((Reads.sup ag ao).at H) (roLe _ (H.get (k:=0) rfl)))
 replace aJ:=aJ.mono ((Cells.sup_r (ag.at H) (ao.at H)).trans (Cells.sup_l _ aY.cells))
 obtain ⟨aH,bn⟩:∃ r:Raw 0,r.cs=[ae]:=⟨Raw.of [ae] rfl (by simp only [List.all_cons,List.all_nil,Bool.true_and,Bool.and_true,Sl.oc ay]; try rfl),rfl⟩
 obtain ⟨aI,bo⟩:∃ r:Raw 0,r.cs=[ak]:=⟨Raw.of [ak] rfl (by simp only [List.all_cons,List.all_nil,Bool.true_and,Bool.and_true,Sl.oc aJ]; try rfl),rfl⟩
 have bA:RepR (α:=List Int) (Cells.sup (Cells.sup aW aX) aY.cells) [aH,aI] [revised,frozen]:=.cons (by rw [bn]; exact ⟨_,rfl,ay⟩)<|.cons (by rw [bo]; exact ⟨_,rfl,aJ⟩)<|.nil
 refine t_bs (α:=Raw 0) T31 [ae,ak] [aH,aI] H rfl (.cons (by rw [show (Flat.enc aH:List Value)=aH.cs from rfl,bn]; exact Sl.cells ay) (Flat.rep_enc _ _)<|.cons (by rw [show (Flat.enc aI:List Value)=aI.cs from rfl,bo]; exact Sl.cells aJ) (Flat.rep_enc _ _)<|.nil) rfl rfl rfl ?_;intro bB cr H;replace H:=H.nf;obtain ⟨ct,hM⟩:=M.e_gd hM
 have aR:=bA
 replace aG:=aG.mono (Cells.sup_r ((Reads.sup ag ao).at H) (roLe _ (H.get (k:=3) rfl)))
 obtain ⟨cu,H,bC,bD⟩:=H.joinE (i:=3) (j:=1) rfl rfl
 replace aG:=aG.mono (Cells.sup_mono bC ((Reads.sup ag ao).at H) (roLe _ (H.get (k:=0) rfl)))
 replace aR:=aR.mono (Cells.sup_mono bD ((Reads.sup ag ao).at H) (roLe _ (H.get (k:=0) rfl)))
 have bE:=aG.app aR
 refine t_app (α:=Raw 0) (k:=3) (l:=bm) (l2:=[aH,aI]) (l':=bm++([aH,aI])) (vy:=bB) T31 rfl H rfl rfl rfl (H.os 1) (H.ol 1) (rfl) (by have a_:=aG.len; have b_:=aR.len; (try simp only [List.length_nil] at *); first | omega | (rw [a_,b_]; omega)) ?_;intro bF cv H;replace H:=H.nf;obtain ⟨cw,bG,hM⟩:=M.e_bind hM;refine s_call cf11 [aj,bF] rfl (zbG w_ (r2++([revised,frozen])) (ac.app _) am (Reads.sup (rdo 3) (Reads.sup ((Reads.sup ag ao).app _) (Reads.of (k:=0) rfl roLe))) (rowSl rfl (H.get (k:=3) rfl) (Cells.sup_le ((Reads.sup ag ao).at H) (roLe _ (H.get (k:=0) rfl))) bE) bG _ (H.gt 5)) ?_
 rintro vq cx ⟨r3,rfl,hvq,aa⟩
 subst vq;(try dsimp only at hM);replace H:=H.bk aa;clear aa
 have cy:=(am).len_le
 have cz:=(am).len_le
 refine kg 9 ?_;refine g_val (!(!r3)) (gy_f rfl) (fun hg=>x_pand (b:=decide (9<(w_.length:Int))) (r:=decide ((w_.length:Int)<=30)) (gd_of hg (B (decide (9<(w_.length:Int))))) (fun hb=>gd_of (c:=((!(!r3))&&(decide (9<(w_.length:Int))))) (by first | exact hb | (rw [hb]; rfl) | simp_all) (B (decide ((w_.length:Int)<=30)))) rfl)<|s_val (x_por (b:=!r3) (r:=((decide (9<(w_.length:Int)))&&(decide ((w_.length:Int)<=30)))) rfl rfl (fun hb=>gd_of (c:=!(!r3)) (by first | exact hb | (rw [hb]; rfl) | simp_all) (B ((decide (9<(w_.length:Int)))&&(decide ((w_.length:Int)<=30))))))<|zM (B ((!r3)||((decide (9<(w_.length:Int)))&&(decide ((w_.length:Int)<=30))))) rfl<|g_val (!((!r3)||((decide (9<(w_.length:Int)))&&(decide ((w_.length:Int)<=30))))) (gy_f rfl) (fun hg=>x_mv (v:=al) rfl) ?_
 have cA:=(aF).len_le
 refine g_val (!((!r3)||((decide (9<(w_.length:Int)))&&(decide ((w_.length:Int)<=30))))) (gy_f rfl) (fun hg=>x_lenS T31.und (gd_of hg (al)) aF)<|g_val (!((!r3)||((decide (9<(w_.length:Int)))&&(decide ((w_.length:Int)<=30))))) (gy_f rfl) (fun hg=>x_cmp (kd:=.i64) (r:=decide (35<(lines.length:Int))) (gd_of hg (I (lines.length:Int))) rfl rfl)<|s_val (x_por (b:=((!r3)||((decide (9<(w_.length:Int)))&&(decide ((w_.length:Int)<=30))))) (r:=decide (35<(lines.length:Int))) rfl rfl (fun hb=>gd_of (c:=!((!r3)||((decide (9<(w_.length:Int)))&&(decide ((w_.length:Int)<=30))))) (by first | exact hb | (rw [hb]; rfl) | simp_all) (B (decide (35<(lines.length:Int))))))<|s_nil ?_;replace H:=H.pk []
 refine W.cond (((!r3)||((decide (9<(w_.length:Int)))&&(decide ((w_.length:Int)<=30))))||(decide (35<(lines.length:Int)))) rfl (fun aZ=>?_) (fun aZ=>?_)
 ·replace hM:=M.e_t hM aZ;refine kg 2 ?_;obtain ⟨cB,bH,hM⟩:=M.e_bind hM;refine s_call cf10 [] rfl (zar bH _ (H.gt 0)) ?_
  rintro vq cC ⟨r4,rfl,hvq,aa⟩
  subst vq;(try dsimp only at hM);replace H:=H.bk aa;clear aa;refine kg 2 ?_;refine W.ret ?_
  have ab:=M.e_pure hM
  exact ⟨_,resE_tmp rfl,⟨r4,ab,rfl,H⟩⟩
 replace hM:=M.e_f hM aZ;refine kg 4 ?_;obtain ⟨cD,bI,hM⟩:=M.e_bind hM;refine s_call cf12 [aj] rfl (zbD w_ (ac.app _) am bI _ (H.gt 0)) ?_
 rintro vq cE ⟨r5,au,bp,br,rfl,hvq,aa,aK⟩
 subst vq;(try dsimp only at hM);replace H:=H.bk aa;clear aa;refine kg 1 ?_;obtain ⟨cF,bJ,hM⟩:=M.e_bind hM;refine s_call cf13 [ae] rfl (zaB revised (ag.app _) aw bJ _ (H.gt 2)) ?_
 rintro vq cG ⟨r6,ap,rfl,hvq,aa⟩
 subst vq;(try dsimp only at hM);replace H:=H.bk aa;clear aa;refine kg 1 ?_;obtain ⟨cH,bK,hM⟩:=M.e_bind hM;refine s_call cf13 [ak] rfl (zaB frozen (ao.app _) aP bK _ (H.gt 3)) ?_
 rintro vq cI ⟨r7,az,rfl,hvq,aa⟩
 subst vq;(try dsimp only at hM);replace H:=H.bk aa;clear aa;refine kg 1 ?_;obtain ⟨cJ,bL,hM⟩:=M.e_bind hM;refine s_call cf42 [al] rfl (zeW lines (aQ.app _) aF bL _ (H.gt 4)) ?_
 rintro vq cK ⟨r8,aA,bt,bu,rfl,hvq,aa,bv⟩
 subst vq;(try dsimp only at hM);replace H:=H.bk aa;clear aa;refine kg 11 ?_;obtain ⟨cL,bM,hM⟩:=M.e_bind hM;refine s_call cf43 [au,ap,I work,az] rfl (zfJ r5 r6 work r7 (Reads.sup (rdo 4) (Reads.sup (ac.app _) (Reads.of (k:=5) rfl roLe))) (rowSl rfl (H.get (k:=4) rfl) (Cells.sup_le (ac.at H) (roLe _ (H.get (k:=5) rfl))) aK) (rdo 3) (H.os 3) (rdo 2) (H.os 2) bM _ (H.gt 6)) ?_
 rintro vq cM ⟨r0,r1,rfl,hvq,aa⟩
 subst vq;(try dsimp only at hM);replace H:=H.bk aa;clear aa;refine kg 9 ?_;obtain ⟨cN,bN,hM⟩:=M.e_bind hM;refine s_call cf15 [aj] rfl (zah w_ (ac.app _) am bN _ (H.gt 6)) ?_
 rintro vq cO ⟨r9,bO,cP,cQ,rfl,hvq,aa,bP⟩
 subst vq;(try dsimp only at hM);replace H:=H.bk aa;clear aa;refine kg 3 ?_;obtain ⟨cR,bQ,hM⟩:=M.e_bind hM;refine s_call cf44 [bO,ae,I work,ak] rfl (ze3 r9 revised work frozen (Reads.sup (rdo 0) (Reads.of (k:=1) rfl roLe)) (rowSl rfl (H.get (k:=0) rfl) (roLe _ (H.get (k:=1) rfl)) bP) (ag.app _) aw (ao.app _) aP bQ _ (H.gt 8)) ?_
 rintro vq cS ⟨aL,a0,rfl,hvq,aa⟩
 subst vq;(try dsimp only at hM);replace H:=H.bk aa;clear aa;refine kg 6 ?_;replace H:=H.pk [2,3,4,5,6,7];refine kg 5 ?_;refine s_val (x_eqb (a:=r0) (b:=aL) (r:=(r0 != aL)) rfl rfl Tryz.underlying4 rfl) ?_;refine kg 4 ?_;refine s_val (x_por (b:=(r0 != aL)) (r:=r1 != a0) rfl rfl (fun hb=>gd_of (c:=!(r0 != aL)) (by first | exact hb | (rw [hb]; rfl) | simp_all) (B (r1 != a0))))<|s_nil ?_
 refine W.cond ((r0 != aL)||(r1 != a0)) rfl (fun a4=>?_) (fun a4=>?_)
 ·replace hM:=M.e_t hM a4;refine kg 4 ?_;replace H:=H.pk [];refine W.ret ?_
  have ab:=M.e_pure hM
  exact ⟨_,resE_tmp rfl,⟨false,ab,rfl,H⟩⟩
 replace hM:=M.e_f hM a4;refine kg 7 ?_;obtain ⟨cT,bR,hM⟩:=M.e_bind hM;refine s_call cf45 [au,ap,I work,aA] rfl (zgd r5 r6 work r8 (Reads.sup (rdo 4) (Reads.sup (ac.app _) (Reads.of (k:=5) rfl roLe))) (rowSl rfl (H.get (k:=4) rfl) (Cells.sup_le (ac.at H) (roLe _ (H.get (k:=5) rfl))) aK) (rdo 3) (H.os 3) (Reads.sup (rdo 0) (Reads.of (k:=1) rfl roLe)) (rowSl rfl (H.get (k:=0) rfl) (roLe _ (H.get (k:=1) rfl)) bv) bR _ (H.gt 6)) ?_
 rintro vq cU ⟨aM,a5,rfl,hvq,aa⟩
 subst vq;(try dsimp only at hM);replace H:=H.bk aa;clear aa;refine kg 9 ?_;obtain ⟨cV,bS,hM⟩:=M.e_bind hM;refine s_call cf15 [aj] rfl (zah w_ (ac.app _) am bS _ (H.gt 6)) ?_
 rintro vq cW ⟨bT,bU,cX,cY,rfl,hvq,aa,bV⟩
 subst vq;(try dsimp only at hM);replace H:=H.bk aa;clear aa;refine kg 3 ?_;obtain ⟨cZ,bW,hM⟩:=M.e_bind hM;refine s_call cf46 [bU,ae,I work,al] rfl (ze6 bT revised work lines (Reads.sup (rdo 0) (Reads.of (k:=1) rfl roLe)) (rowSl rfl (H.get (k:=0) rfl) (roLe _ (H.get (k:=1) rfl)) bV) (ag.app _) aw (aQ.app _) aF bW _ (H.gt 8)) ?_
 rintro vq c0 ⟨aN,a6,rfl,hvq,aa⟩
 subst vq;(try dsimp only at hM);replace H:=H.bk aa;clear aa;refine kg 6 ?_;replace H:=H.pk [2,3,4,5,6,7];refine kg 5 ?_;refine s_val (x_eqb (a:=aM) (b:=aN) (r:=(aM != aN)) rfl rfl Tryz.underlying4 rfl) ?_;refine kg 4 ?_;refine s_val (x_por (b:=(aM != aN)) (r:=a5 != a6) rfl rfl (fun hb=>gd_of (c:=!(aM != aN)) (by first | exact hb | (rw [hb]; rfl) | simp_all) (B (a5 != a6))))<|s_nil ?_
 refine W.cond ((aM != aN)||(a5 != a6)) rfl (fun a7=>?_) (fun a7=>?_)
 ·replace hM:=M.e_t hM a7;refine kg 4 ?_;replace H:=H.pk [];refine W.ret ?_
  have ab:=M.e_pure hM
  exact ⟨_,resE_tmp rfl,⟨false,ab,rfl,H⟩⟩
 replace hM:=M.e_f hM a7;refine kg 4 ?_;obtain ⟨c3,bX,hM⟩:=M.e_bind hM;refine s_call cf15 [aj] rfl (zah w_ (ac.app _) am bX _ (H.gt 6)) ?_
 rintro vq c4 ⟨bY,bZ,c6,c7,rfl,hvq,aa,b0⟩
 subst vq;(try dsimp only at hM);replace H:=H.bk aa;clear aa;refine kg 2 ?_;obtain ⟨c8,b4,hM⟩:=M.e_bind hM;refine s_call cf47 [bZ,ae,I work] rfl (zfE bY revised work (Reads.sup (rdo 0) (Reads.of (k:=1) rfl roLe)) (rowSl rfl (H.get (k:=0) rfl) (roLe _ (H.get (k:=1) rfl)) b0) (ag.app _) aw b4 _ (H.gt 8)) ?_
 rintro vq c9 ⟨ax,av,rfl,hvq,aa⟩
 subst vq;(try dsimp only at hM);replace H:=H.bk aa;clear aa;refine kg 6 ?_;replace H:=H.pk [2,3,4,5,6,7];refine kg 5 ?_;obtain ⟨da,b5,hM⟩:=M.e_bind hM;refine s_call cf48 [au,ap,I work] rfl (zbX r5 r6 work (Reads.sup (rdo 4) (Reads.sup (ac.app _) (Reads.of (k:=5) rfl roLe))) (rowSl rfl (H.get (k:=4) rfl) (Cells.sup_le (ac.at H) (roLe _ (H.get (k:=5) rfl))) aK) (rdo 3) (H.os 3) b5 _ (H.gt 6)) ?_
 rintro vq db ⟨aS,aT,b6,rfl,hvq,aa⟩
 subst vq;(try dsimp only at hM);replace H:=H.bk aa;clear aa;refine kg 17 ?_;refine s_val (x_por (b:=aT != av) (r:=(aS.length:Int) != ax) rfl rfl (fun hb=>gd_of (c:=!(aT != av)) (by first | exact hb | (rw [hb]; rfl) | simp_all) (B ((aS.length:Int) != ax))))<|s_nil ?_
 refine W.cond ((aT != av)||((aS.length:Int) != ax)) rfl (fun a8=>?_) (fun a8=>?_)
 ·replace hM:=M.e_t hM a8;refine kg 4 ?_;replace H:=H.pk [];refine W.ret ?_
  have ab:=M.e_pure hM
  exact ⟨_,resE_tmp rfl,⟨false,ab,rfl,H⟩⟩
 replace hM:=M.e_f hM a8;refine W.skip ?_;refine W.seqJ (fun σ W=>∃ (ρ:Env),σ=upds ρ [(0,aj),(1,ae),(2,I work),(3,ak),(4,al),(11,au),(12,ap),(13,az),(14,aA),(18,I av),(19,I ax)]/\(zbL w_ revised work frozen lines r5 r6 r7 r8 ax av).Ends r/\St w W [cOwn (α:=Raw 0) 22 aA bt,cRo bu,cOwn (α:=Int) 3 az r7,cOwn (α:=Int) 3 ap r6,cOwn (α:=Raw 2) 34 au bp,cRo br] R) ?_ ?_
 ·skip
  refine kg 5 ?_
  refine W.cond (aT==0) rfl (fun aB=>?_) (fun aB=>?_)
  ·replace hM:=M.e_t hM aB
   replace aB:=dI aB
   refine kg 3 ?_;obtain ⟨dc,b7,hM⟩:=M.e_bind hM;refine s_call cf15 [aj] rfl (zah w_ (ac.app _) am b7 _ (H.gt 7)) ?_
   rintro vq dd ⟨b8,b9,dg,dh,rfl,hvq,aa,ca⟩
   subst vq;(try dsimp only at hM);replace H:=H.bk aa;clear aa;refine kg 3 ?_;obtain ⟨di,cb,hM⟩:=M.e_bind hM;refine s_call cf44 [b9,ae,I work,b6] rfl (ze3 b8 revised work aS (Reads.sup (rdo 0) (Reads.of (k:=1) rfl roLe)) (rowSl rfl (H.get (k:=0) rfl) (roLe _ (H.get (k:=1) rfl)) ca) (ag.app _) aw (rdo 2) (H.os 2) cb _ (H.gt 9)) ?_
   rintro vq dj ⟨a9,ba,rfl,hvq,aa⟩
   subst vq;(try dsimp only at hM);replace H:=H.bk aa;clear aa;refine kg 6 ?_;replace H:=H.pk [3,4,5,6,7,8];refine kg 7 ?_;refine s_val (x_por (b:=ba != 0) (r:=!a9) rfl rfl (fun hb=>gd_of (c:=!(ba != 0)) (by first | exact hb | (rw [hb]; rfl) | simp_all) (B (!a9))))<|s_nil ?_
   refine W.cond ((ba != 0)||(!a9)) rfl (fun bb=>?_) (fun bb=>?_)
   ·replace hM:=M.e_t hM bb;refine kg 4 ?_;replace H:=H.pk [];refine W.ret ?_
    have ab:=M.e_pure hM
    exact ⟨_,resE_tmp rfl,⟨false,ab,rfl,H⟩⟩
   replace hM:=M.e_f hM bb;refine W.skip ?_
   exact ⟨_,upds_of _ _ ⟨rfl,rfl,rfl,rfl,rfl,rfl,rfl,rfl,rfl,rfl,rfl,trivial⟩,hM,H⟩
  replace hM:=M.e_f hM aB
  replace aB:=dI aB
  refine W.skip ?_
  exact ⟨_,upds_of _ _ ⟨rfl,rfl,rfl,rfl,rfl,rfl,rfl,rfl,rfl,rfl,rfl,trivial⟩,hM,(H.pk [1,2,3,4,5,6])⟩
 rintro _ dk ⟨ρ,rfl,hM,H⟩
 unfold zbL at hM
 refine kg 5 ?_;obtain ⟨dl,cc,hM⟩:=M.e_bind hM;refine s_call cf49 [au,ap,I work] rfl (zfl r5 r6 work (Reads.sup (rdo 4) (Reads.sup (ac.app _) (Reads.of (k:=5) rfl roLe))) (rowSl rfl (H.get (k:=4) rfl) (Cells.sup_le (ac.at H) (roLe _ (H.get (k:=5) rfl))) aK) (rdo 3) (H.os 3) cc _ (H.gt 6)) ?_
 rintro vq dm ⟨aU,aO,bw,dp,dq,rfl,hvq,aa,bx⟩
 subst vq;(try dsimp only at hM);replace H:=H.bk aa;clear aa;refine kg 14 ?_;refine g_val (!(aO != av)) (gy_f rfl) (fun hg=>x_lenS T31.und (gd_of hg (bw)) (rowSl rfl (H.get (k:=0) rfl) (roLe _ (H.get (k:=1) rfl)) bx)) ?_;refine kg 2 ?_;refine s_val (x_por (b:=aO != av) (r:=(aU.length:Int) != ax) rfl rfl (fun hb=>gd_of (c:=!(aO != av)) (by first | exact hb | (rw [hb]; rfl) | simp_all) (B ((aU.length:Int) != ax))))<|s_nil ?_
 refine W.cond ((aO != av)||((aU.length:Int) != ax)) rfl (fun bc=>?_) (fun bc=>?_)
 ·replace hM:=M.e_t hM bc;refine kg 4 ?_;replace H:=H.pk [];refine W.ret ?_
  have ab:=M.e_pure hM
  exact ⟨_,resE_tmp rfl,⟨false,ab,rfl,H⟩⟩
 replace hM:=M.e_f hM bc;refine W.skip ?_;refine W.seqJ (fun σ W=>∃ (ρ:Env),σ=upds ρ [(0,aj),(1,ae),(3,ak),(4,al),(11,au),(12,ap),(13,az),(14,aA)]/\(zbu w_ revised frozen lines r5 r6 r7 r8).Ends r/\St w W [cOwn (α:=Raw 0) 22 aA bt,cRo bu,cOwn (α:=Int) 3 az r7,cOwn (α:=Int) 3 ap r6,cOwn (α:=Raw 2) 34 au bp,cRo br] R) ?_ ?_
 ·skip
  refine kg 5 ?_
  refine W.cond (aO==0) rfl (fun aC=>?_) (fun aC=>?_)
  ·replace hM:=M.e_t hM aC
   replace aC:=dI aC
   refine kg 3 ?_;obtain ⟨dr,cd,hM⟩:=M.e_bind hM;refine s_call cf15 [aj] rfl (zah w_ (ac.app _) am cd _ (H.gt 8)) ?_
   rintro vq dt ⟨ce,cf,du,dv,rfl,hvq,aa,cg⟩
   subst vq;(try dsimp only at hM);replace H:=H.bk aa;clear aa;refine kg 3 ?_;obtain ⟨dw,ch,hM⟩:=M.e_bind hM;refine s_call cf46 [cf,ae,I work,bw] rfl (ze6 ce revised work aU (Reads.sup (rdo 0) (Reads.of (k:=1) rfl roLe)) (rowSl rfl (H.get (k:=0) rfl) (roLe _ (H.get (k:=1) rfl)) cg) (ag.app _) aw (Reads.sup (rdo 2) (Reads.of (k:=3) rfl roLe)) (rowSl rfl (H.get (k:=2) rfl) (roLe _ (H.get (k:=3) rfl)) bx) ch _ (H.gt 10)) ?_
   rintro vq dx ⟨bf,bg,rfl,hvq,aa⟩
   subst vq;(try dsimp only at hM);replace H:=H.bk aa;clear aa;refine kg 6 ?_;replace H:=H.pk [4,5,6,7,8,9];refine kg 7 ?_;refine s_val (x_por (b:=bg != 0) (r:=!bf) rfl rfl (fun hb=>gd_of (c:=!(bg != 0)) (by first | exact hb | (rw [hb]; rfl) | simp_all) (B (!bf))))<|s_nil ?_
   refine W.cond ((bg != 0)||(!bf)) rfl (fun bh=>?_) (fun bh=>?_)
   ·replace hM:=M.e_t hM bh;refine kg 4 ?_;replace H:=H.pk [];refine W.ret ?_
    have ab:=M.e_pure hM
    exact ⟨_,resE_tmp rfl,⟨false,ab,rfl,H⟩⟩
   replace hM:=M.e_f hM bh;refine W.skip ?_
   exact ⟨_,upds_of _ _ ⟨rfl,rfl,rfl,rfl,rfl,rfl,rfl,rfl,trivial⟩,hM,H⟩
  replace hM:=M.e_f hM aC
  replace aC:=dI aC
  refine W.skip ?_
  exact ⟨_,upds_of _ _ ⟨rfl,rfl,rfl,rfl,rfl,rfl,rfl,rfl,trivial⟩,hM,(H.pk [2,3,4,5,6,7])⟩
 rintro _ dy ⟨ρ,rfl,hM,H⟩
 unfold zbu at hM
 refine kg 4 ?_;obtain ⟨dz,ci,hM⟩:=M.e_bind hM;refine s_call cf25 [au,aj] rfl (zbc r5 w_ (Reads.sup (rdo 4) (Reads.sup (ac.app _) (Reads.of (k:=5) rfl roLe))) (rowSl rfl (H.get (k:=4) rfl) (Cells.sup_le (ac.at H) (roLe _ (H.get (k:=5) rfl))) aK) (ac.app _) am ci _ (H.gt 6)) ?_
 rintro vq dA ⟨ah,rfl,hvq,aa⟩
 subst vq;(try dsimp only at hM);replace H:=H.bk aa;clear aa;refine kg 3 ?_;obtain ⟨ai,cj,hM⟩:=M.e_bind hM;refine t_gcall ah (gy_t rfl) cf20 (B ai) (fun _=>[ap,ae]) (fun hg=>lst2 (gd_of hg (ap)) (gd_of hg (ae))) H (fun hg=>(zac r6 revised (rdo 3) (H.os 3) (ag.app _) aw (M.e_opt cj hg) _ (H.give (A:=[]) rfl)).mono fun v_ w_ ⟨y_,ab,aD,H_⟩=>by subst ab; exact ⟨aD,H.via H_⟩) ?_;intro dB H;refine s_val (x_pand (b:=ah) (r:=ai) rfl (fun hb=>gd_of (c:=ah) (by first | exact hb | (rw [hb]; rfl) | simp_all) (B ai)) rfl) ?_;refine kg 3 ?_;obtain ⟨aq,ck,hM⟩:=M.e_bind hM;refine t_gcall (ah&&ai) (gy_t rfl) cf20 (B aq) (fun _=>[az,ak]) (fun hg=>lst2 (gd_of hg (az)) (gd_of hg (ak))) H (fun hg=>(zac r7 frozen (rdo 2) (H.os 2) (ao.app _) aP (M.e_opt ck hg) _ (H.give (A:=[]) rfl)).mono fun v_ w_ ⟨y_,ab,aD,H_⟩=>by subst ab; exact ⟨aD,H.via H_⟩) ?_;intro dC H;refine s_val (x_pand (b:=(ah&&ai)) (r:=aq) rfl (fun hb=>gd_of (c:=(ah&&ai)) (by first | exact hb | (rw [hb]; rfl) | simp_all) (B aq)) rfl) ?_;refine kg 3 ?_;obtain ⟨aE,cl,hM⟩:=M.e_bind hM;refine t_gcall ((ah&&ai)&&aq) (gy_t rfl) cf50 (B aE) (fun _=>[aA,al]) (fun hg=>lst2 (gd_of hg (aA)) (gd_of hg (al))) H (fun hg=>(zf4 r8 lines (Reads.sup (rdo 0) (Reads.of (k:=1) rfl roLe)) (rowSl rfl (H.get (k:=0) rfl) (roLe _ (H.get (k:=1) rfl)) bv) (aQ.app _) aF (M.e_opt cl hg) _ (H.give (A:=[]) rfl)).mono fun v_ w_ ⟨y_,ab,aD,H_⟩=>by subst ab; exact ⟨aD,H.via H_⟩) ?_;intro dD H;refine s_val (x_pand (b:=((ah&&ai)&&aq)) (r:=aE) rfl (fun hb=>gd_of (c:=((ah&&ai)&&aq)) (by first | exact hb | (rw [hb]; rfl) | simp_all) (B aE)) rfl) ?_;refine kg 1 ?_;obtain ⟨aV,cm,hM⟩:=M.e_bind hM;refine t_gcall (((ah&&ai)&&aq)&&aE) (gy_t rfl) cf10 (B aV) (fun _=>[]) (fun _=>rfl) H (fun hg=>(zar (M.e_opt cm hg) _ (H.give (A:=[]) rfl)).mono fun v_ w_ ⟨y_,ab,aD,H_⟩=>by subst ab; exact ⟨aD,H.via H_⟩) ?_;intro dE H;refine s_val (x_pand (b:=(((ah&&ai)&&aq)&&aE)) (r:=aV) rfl (fun hb=>gd_of (c:=(((ah&&ai)&&aq)&&aE)) (by first | exact hb | (rw [hb]; rfl) | simp_all) (B aV)) rfl) ?_;refine kg 2 ?_;replace H:=H.pk [];refine W.ret ?_
 have ab:=M.e_pure hM
 exact ⟨_,resE_tmp rfl,⟨((((ah&&ai)&&aq)&&aE)&&aV),ab,rfl,H⟩⟩

end Go.Proofs.YtkclldpnmolljaaGreat
end
namespace Go.Proofs.YtkclldpnmolljaaGreat
open Go Go.Nm
set_option maxRecDepth 100000 in
set_option maxHeartbeats 16000000 in
theorem zgv {R:List Chunk} (w:World) (H:St w w [] R):Ret Tryz.prog 4 #[] w fun v w'=>∃ (v1z v3z v5z v7z:Value) (rw27z rw28z rw29z rw30z rw31z rw32z:Raw 2),rw27z.cs=[.slice none 0 0,I 1,I 5]/\rw28z.cs=[.slice none 0 0,I 1,I 6]/\rw29z.cs=[v1z,I 1,I 10]/\rw30z.cs=[v3z,I 1,I 30]/\rw31z.cs=[v5z,I 1,I 20]/\rw32z.cs=[v7z,I 1,I 1]/\St w w' [cOwn (α:=Raw 2) 34 v [rw27z,rw28z,rw29z,rw30z,rw31z,rw32z],cOwn (α:=Int) 3 v7z [(4:Int)],cOwn (α:=Int) 3 v5z [(2:Int),(3:Int)],cOwn (α:=Int) 3 v3z [(1:Int)],cOwn (α:=Int) 3 v1z [(0:Int),(1:Int)]] R:=by
 refine ret_of_W Tryz.func4 rfl rfl rfl ?_
 refine W.seq ?_
 refine W.region rfl ?_
 refine zA (.slice none 0 0) rfl ?_
 refine s_nil ?_
 refine W.seq ?_
 refine W.region rfl ?_
 refine s_val (x_bld (ps:=[(1,I 1),(2,I 5)]) (zs:=[.slice none 0 0,I 0,I 0]) (L':=[.slice none 0 0,I 1,I 5]) rfl Tryz.underlying34 Al34 rfl (Bd34 Tryz.underlying34) (.cons (cs:=[I 1]) rfl rfl rfl rfl rfl<|.cons (cs:=[I 5]) rfl rfl rfl rfl rfl<|.nil)) ?_
 refine s_val (x_bld (ps:=[(1,I 1),(2,I 6)]) (zs:=[.slice none 0 0,I 0,I 0]) (L':=[.slice none 0 0,I 1,I 6]) rfl Tryz.underlying34 Al34 rfl (Bd34 Tryz.underlying34) (.cons (cs:=[I 1]) rfl rfl rfl rfl rfl<|.cons (cs:=[I 6]) rfl rfl rfl rfl rfl<|.nil)) ?_
 refine t_bs (α:=Int) T22 [I 0,I 1] [(0:Int),(1:Int)] H rfl (.cons rfl (Flat.rep_enc _ (0:Int))<|.cons rfl (Flat.rep_enc _ (1:Int))<|.nil) rfl rfl rfl ?_
 intro v1z w2z H
 refine s_val (x_bld (ps:=[(0,v1z),(1,I 1),(2,I 10)]) (zs:=[.slice none 0 0,I 0,I 0]) (L':=[v1z,I 1,I 10]) rfl Tryz.underlying34 Al34 rfl (Bd34 Tryz.underlying34) (.cons (cs:=[v1z]) (Sl.cells (H.os 0)) rfl rfl rfl rfl<|.cons (cs:=[I 1]) rfl rfl rfl rfl rfl<|.cons (cs:=[I 10]) rfl rfl rfl rfl rfl<|.nil)) ?_
 refine t_bs (α:=Int) T22 [I 1] [(1:Int)] H rfl (.cons rfl (Flat.rep_enc _ (1:Int))<|.nil) rfl rfl rfl ?_
 intro v3z w4z H
 refine s_val (x_bld (ps:=[(0,v3z),(1,I 1),(2,I 30)]) (zs:=[.slice none 0 0,I 0,I 0]) (L':=[v3z,I 1,I 30]) rfl Tryz.underlying34 Al34 rfl (Bd34 Tryz.underlying34) (.cons (cs:=[v3z]) (Sl.cells (H.os 0)) rfl rfl rfl rfl<|.cons (cs:=[I 1]) rfl rfl rfl rfl rfl<|.cons (cs:=[I 30]) rfl rfl rfl rfl rfl<|.nil)) ?_
 refine t_bs (α:=Int) T22 [I 2,I 3] [(2:Int),(3:Int)] H rfl (.cons rfl (Flat.rep_enc _ (2:Int))<|.cons rfl (Flat.rep_enc _ (3:Int))<|.nil) rfl rfl rfl ?_
 intro v5z w6z H
 refine s_val (x_bld (ps:=[(0,v5z),(1,I 1),(2,I 20)]) (zs:=[.slice none 0 0,I 0,I 0]) (L':=[v5z,I 1,I 20]) rfl Tryz.underlying34 Al34 rfl (Bd34 Tryz.underlying34) (.cons (cs:=[v5z]) (Sl.cells (H.os 0)) rfl rfl rfl rfl<|.cons (cs:=[I 1]) rfl rfl rfl rfl rfl<|.cons (cs:=[I 20]) rfl rfl rfl rfl rfl<|.nil)) ?_
 refine t_bs (α:=Int) T22 [I 4] [(4:Int)] H rfl (.cons rfl (Flat.rep_enc _ (4:Int))<|.nil) rfl rfl rfl ?_
 intro v7z w8z H
 refine s_val (x_bld (ps:=[(0,v7z),(1,I 1),(2,I 1)]) (zs:=[.slice none 0 0,I 0,I 0]) (L':=[v7z,I 1,I 1]) rfl Tryz.underlying34 Al34 rfl (Bd34 Tryz.underlying34) (.cons (cs:=[v7z]) (Sl.cells (H.os 0)) rfl rfl rfl rfl<|.cons (cs:=[I 1]) rfl rfl rfl rfl rfl<|.cons (cs:=[I 1]) rfl rfl rfl rfl rfl<|.nil)) ?_
 obtain ⟨rw27z,hrw_rw27z⟩:∃ r:Raw 2,r.cs=[.slice none 0 0,I 1,I 5]:=⟨Raw.of [.slice none 0 0,I 1,I 5] rfl rfl,rfl⟩
 obtain ⟨rw28z,hrw_rw28z⟩:∃ r:Raw 2,r.cs=[.slice none 0 0,I 1,I 6]:=⟨Raw.of [.slice none 0 0,I 1,I 6] rfl rfl,rfl⟩
 obtain ⟨rw29z,hrw_rw29z⟩:∃ r:Raw 2,r.cs=[v1z,I 1,I 10]:=⟨Raw.of [v1z,I 1,I 10] rfl (by simp only [List.all_cons,List.all_nil,Bool.true_and,Bool.and_true,Sl.oc (H.os 3)]; try rfl),rfl⟩
 obtain ⟨rw30z,hrw_rw30z⟩:∃ r:Raw 2,r.cs=[v3z,I 1,I 30]:=⟨Raw.of [v3z,I 1,I 30] rfl (by simp only [List.all_cons,List.all_nil,Bool.true_and,Bool.and_true,Sl.oc (H.os 2)]; try rfl),rfl⟩
 obtain ⟨rw31z,hrw_rw31z⟩:∃ r:Raw 2,r.cs=[v5z,I 1,I 20]:=⟨Raw.of [v5z,I 1,I 20] rfl (by simp only [List.all_cons,List.all_nil,Bool.true_and,Bool.and_true,Sl.oc (H.os 1)]; try rfl),rfl⟩
 obtain ⟨rw32z,hrw_rw32z⟩:∃ r:Raw 2,r.cs=[v7z,I 1,I 1]:=⟨Raw.of [v7z,I 1,I 1] rfl (by simp only [List.all_cons,List.all_nil,Bool.true_and,Bool.and_true,Sl.oc (H.os 0)]; try rfl),rfl⟩
 refine t_bs (α:=Raw 2) T23 [.agg #[.slice none 0 0,I 1,I 5],.agg #[.slice none 0 0,I 1,I 6],.agg #[v1z,I 1,I 10],.agg #[v3z,I 1,I 30],.agg #[v5z,I 1,I 20],.agg #[v7z,I 1,I 1]] [rw27z,rw28z,rw29z,rw30z,rw31z,rw32z] H rfl (.cons (by rw [show (Flat.enc rw27z:List Value)=rw27z.cs from rfl,hrw_rw27z]; rfl) (Flat.rep_enc _ _)<|.cons (by rw [show (Flat.enc rw28z:List Value)=rw28z.cs from rfl,hrw_rw28z]; rfl) (Flat.rep_enc _ _)<|.cons (by rw [show (Flat.enc rw29z:List Value)=rw29z.cs from rfl,hrw_rw29z]; rfl) (Flat.rep_enc _ _)<|.cons (by rw [show (Flat.enc rw30z:List Value)=rw30z.cs from rfl,hrw_rw30z]; rfl) (Flat.rep_enc _ _)<|.cons (by rw [show (Flat.enc rw31z:List Value)=rw31z.cs from rfl,hrw_rw31z]; rfl) (Flat.rep_enc _ _)<|.cons (by rw [show (Flat.enc rw32z:List Value)=rw32z.cs from rfl,hrw_rw32z]; rfl) (Flat.rep_enc _ _)<|.nil) rfl rfl rfl ?_
 intro v34z w35z H
 refine zA v34z rfl ?_
 refine s_nil ?_
 refine W.ret ?_
 exact ⟨_,resE_tmp rfl,⟨v1z,v3z,v5z,v7z,rw27z,rw28z,rw29z,rw30z,rw31z,rw32z,hrw_rw27z,hrw_rw28z,hrw_rw29z,hrw_rw30z,hrw_rw31z,hrw_rw32z,H⟩⟩
end Go.Proofs.YtkclldpnmolljaaGreat
namespace Go.Nm
open Go
theorem lst5 {a a' b b' c c' d d' e e':Value} (h1:a=a') (h2:b=b') (h3:c=c') (h4:d=d') (h5:e=e'):[a,b,c,d,e]=[a',b',c',d',e']:=by rw [h1,h2,h3,h4,h5]
end Go.Nm
namespace Go.Nm
open Go
structure Pk where
  day:Int
  stage:Int
deriving DecidableEq,Inhabited
instance:Flat Pk where
  rep _ cs x:=cs=[I x.day,I x.stage]
  sz:=2
  agg:=true
  sz_pos:=by decide
  len:=fun h=>by subst h; rfl
  mono:=fun _ h=>h
  one:=fun h v hv=>by subst h; simp at hv; rcases hv with rfl | rfl <;> rfl
  enc x:=[I x.day,I x.stage]
  rep_iff:=Iff.rfl
structure Yr where
  year:Int
  lo:Int
  hi:Int
deriving DecidableEq,Inhabited
instance:Flat Yr where
  rep _ cs x:=cs=[I x.year,I x.lo,I x.hi]
  sz:=3
  agg:=true
  sz_pos:=by decide
  len:=fun h=>by subst h; rfl
  mono:=fun _ h=>h
  one:=fun h v hv=>by subst h; simp at hv; rcases hv with rfl | rfl | rfl <;> rfl
  enc x:=[I x.year,I x.lo,I x.hi]
  rep_iff:=Iff.rfl
structure Old10 where
  src:Int
  dst:Int
  stage:Int
  passed:List Int
deriving DecidableEq,Inhabited
instance:Elt Old10 where
  rep C cs x:=∃ sv3,cs=[I x.src,I x.dst,I x.stage,sv3]/\Sl C sv3 x.passed
  sz:=4
  agg:=true
  sz_pos:=by decide
  len:=fun ⟨_,h,_⟩=>by subst h; rfl
  mono:=fun hle ⟨sv3,h,hs3⟩=>⟨sv3,h,hs3.mono hle⟩
  one:=fun ⟨sv3,h,hs3⟩ v hv=>by
    subst h; simp at hv
    rcases hv with rfl | rfl | rfl | rfl
    · rfl
    · rfl
    · rfl
    · exact sl_one hs3
structure Span where
  lo:Int
  hi:Int
deriving DecidableEq,Inhabited
instance:Flat Span where
  rep _ cs x:=cs=[I x.lo,I x.hi]
  sz:=2
  agg:=true
  sz_pos:=by decide
  len:=fun h=>by subst h; rfl
  mono:=fun _ h=>h
  one:=fun h v hv=>by subst h; simp at hv; rcases hv with rfl | rfl <;> rfl
  enc x:=[I x.lo,I x.hi]
  rep_iff:=Iff.rfl
structure Rto where
  num:Int
  den:Int
deriving DecidableEq,Inhabited
instance:Flat Rto where
  rep _ cs x:=cs=[I x.num,I x.den]
  sz:=2
  agg:=true
  sz_pos:=by decide
  len:=fun h=>by subst h; rfl
  mono:=fun _ h=>h
  one:=fun h v hv=>by subst h; simp at hv; rcases hv with rfl | rfl <;> rfl
  enc x:=[I x.num,I x.den]
  rep_iff:=Iff.rfl
structure FRow where
  stage:Int
  carry:Int
deriving DecidableEq,Inhabited
instance:Flat FRow where
  rep _ cs x:=cs=[I x.stage,I x.carry]
  sz:=2
  agg:=true
  sz_pos:=by decide
  len:=fun h=>by subst h; rfl
  mono:=fun _ h=>h
  one:=fun h v hv=>by subst h; simp at hv; rcases hv with rfl | rfl <;> rfl
  enc x:=[I x.stage,I x.carry]
  rep_iff:=Iff.rfl
structure Sect where
  place:Int
  rows:List FRow
deriving DecidableEq,Inhabited
instance:Elt Sect where
  rep C cs x:=∃ sv1,cs=[I x.place,sv1]/\Sl C sv1 x.rows
  sz:=2
  agg:=true
  sz_pos:=by decide
  len:=fun ⟨_,h,_⟩=>by subst h; rfl
  mono:=fun hle ⟨sv1,h,hs1⟩=>⟨sv1,h,hs1.mono hle⟩
  one:=fun ⟨sv1,h,hs1⟩ v hv=>by
    subst h; simp at hv
    rcases hv with rfl | rfl
    · rfl
    · exact sl_one hs1
structure Mrk where
  place:Int
  lo:Int
  hi:Int
deriving DecidableEq,Inhabited
instance:Flat Mrk where
  rep _ cs x:=cs=[I x.place,I x.lo,I x.hi]
  sz:=3
  agg:=true
  sz_pos:=by decide
  len:=fun h=>by subst h; rfl
  mono:=fun _ h=>h
  one:=fun h v hv=>by subst h; simp at hv; rcases hv with rfl | rfl | rfl <;> rfl
  enc x:=[I x.place,I x.lo,I x.hi]
  rep_iff:=Iff.rfl
structure Rch where
  up:Int
  down:Int
  lo:Int
  hi:Int
  narrow:Bool
deriving DecidableEq,Inhabited
instance:Flat Rch where
  rep _ cs x:=cs=[I x.up,I x.down,I x.lo,I x.hi,B x.narrow]
  sz:=5
  agg:=true
  sz_pos:=by decide
  len:=fun h=>by subst h; rfl
  mono:=fun _ h=>h
  one:=fun h v hv=>by subst h; simp at hv; rcases hv with rfl | rfl | rfl | rfl | rfl <;> rfl
  enc x:=[I x.up,I x.down,I x.lo,I x.hi,B x.narrow]
  rep_iff:=Iff.rfl
structure Cas where
  up:Int
  down:Int
  roughup:Int
  roughdown:Int
deriving DecidableEq,Inhabited
instance:Flat Cas where
  rep _ cs x:=cs=[I x.up,I x.down,I x.roughup,I x.roughdown]
  sz:=4
  agg:=true
  sz_pos:=by decide
  len:=fun h=>by subst h; rfl
  mono:=fun _ h=>h
  one:=fun h v hv=>by subst h; simp at hv; rcases hv with rfl | rfl | rfl | rfl <;> rfl
  enc x:=[I x.up,I x.down,I x.roughup,I x.roughdown]
  rep_iff:=Iff.rfl
structure Spot where
  sec:Int
  stage:Int
deriving DecidableEq,Inhabited
instance:Flat Spot where
  rep _ cs x:=cs=[I x.sec,I x.stage]
  sz:=2
  agg:=true
  sz_pos:=by decide
  len:=fun h=>by subst h; rfl
  mono:=fun _ h=>h
  one:=fun h v hv=>by subst h; simp at hv; rcases hv with rfl | rfl <;> rfl
  enc x:=[I x.sec,I x.stage]
  rep_iff:=Iff.rfl
end Go.Nm
namespace Go.Nm
open Go
def noGotoD (Q:PostD):PostD
  | .goto _,_,_,_=>False
  | e,Ds,σ,w=>Q e Ds σ w
theorem WD.scope {P:Program} {n:Nat} {Q:PostD} {σ:Env} {w:World} {Ds:List Nat} {c:Code} (h:WD P n Ds c (noGotoD Q) σ w):WD P n Ds (.scope c) Q σ w:=by
  intro a ha
  refine (wpIn_wide (n:=0)).2 (wp_scope_straight (wp_mono ((wpIn_wide (n:=0)).1 (h a ha)) ?_))
  rintro e a' w' ⟨d,s,hs,h'⟩
  cases e with
  | goto l=>exact h'.elim
  | _=>exact ⟨d,s,hs,h'⟩
section
variable {P:Program} {w:World} {σ:Env} {d:Nat} {ty:TypeId} {pos:String} {af:Array Edge} {g:Option (Nat × Bool)}
/-! ### Values of any type, and what type they are of -/
end
end Go.Nm
namespace Go.Nm
open Go
section
variable {P:Program} {w:World} {σ:Env} {d:Nat} {ty:TypeId} {pos:String} {af:Array Edge} {g:Option (Nat × Bool)}
end
end Go.Nm
namespace Go.Nm
open Go
section
variable {P:Program} {w:World}
end
theorem frozenLe {α:Type} [Flat α] {e:TypeId} {v:Value} {l:List α} {w:World} (h:(cOwn e v l).ok w):(rowC v (l.flatMap Flat.enc)).Le (Base.cells ⟨w,fun b=>v.ownBlock=some b⟩):=fun a x hx=>by
  have h1:=ownLe w h a x hx
  unfold Base.cells
  rw [if_pos ?_]
  · exact h1
  · unfold rowC at hx
    split at hx
    · rename_i p _ _
      split at hx
      · rename_i ha
        rw [ha]; rfl
      · cases hx
    · cases hx
theorem St.freezeV {α:Type} [Flat α] {w0 w:World} {L R:List Chunk} (H:St w0 w L R) {k:Nat} {e:TypeId} {v:Value} {l:List α} (hk:L[k]?=some (cOwn e v l)):∃ B,St w0 w (L.set k (cRo B)) R/\Sl B.cells v l/\(rowC v (l.flatMap Flat.enc)).Le B.cells :=
  ⟨_,H.freeze hk rfl,frozenSl (H.get hk),frozenLe (H.get hk)⟩
end Go.Nm
section
set_option maxRecDepth 100000
set_option maxHeartbeats 16000000
namespace Go.Proofs.YtkclldpnmolljaaGreat
open Go Go.Nm
abbrev vl28:List Int:=[(-2:Int),(-1:Int),(0:Int),(1:Int),(2:Int),(3:Int),(4:Int),(5:Int),(6:Int),(7:Int),(8:Int),(9:Int),(10:Int),(20:Int),(26:Int),(29:Int),(30:Int),(31:Int),(9999:Int),(10000:Int),(10001:Int),(999999:Int),(1000000:Int),(1000001:Int),(1000002:Int),(1000003:Int),(9223372036854775807:Int),(-9223372036854775808:Int)]
def zaa (s4:Nat) (l:List Work) (l2:List Int) (s s2:Int) (l3:List Note) (l4:List Pub) (l5 l6 l7:List Int) (s3:Int) (l8:List (List Int)):M (Nat ⊕ (Unit ⊕ Unit)) :=
  M.bind (M.opt (decide ((s4:Int)<8)) (zbm l l2 s s2) false) fun r2 =>
  M.bind (M.opt ((!((decide ((s4:Int)<8))&&(!r2)))&&(decide ((s4:Int)<14))) (zai l l3 l4) false) fun r3 =>
  M.bind (M.opt (!(((decide ((s4:Int)<8))&&(!r2))||((decide ((s4:Int)<14))&&(!r3)))) (zbB l l5 l6) false) fun r4 =>
  M.bind (M.opt (!((((decide ((s4:Int)<8))&&(!r2))||((decide ((s4:Int)<14))&&(!r3)))||(!r4))) (zbP l l5 s3 l7 l8) false) fun r5 =>
  bif (((((decide ((s4:Int)<8))&&(!r2))||((decide ((s4:Int)<14))&&(!r3)))||(!r4))||(!r5)) then (
  M.pure (.inr (.inl ())))
  else (
  M.pure (.inl (s4+1)))
def zdf (s5:Nat):Nat->M (Nat ⊕ (Unit ⊕ Unit)):=fun s4 =>
  bif decide ((s4:Int)<21) then (
  M.grd (decide (2<(([(⟨([]),(1:Int),(5:Int)⟩:Work),(⟨([]),(1:Int),(6:Int)⟩:Work),(⟨([(0:Int),(1:Int)]),(1:Int),(10:Int)⟩:Work),(⟨([(1:Int)]),(1:Int),(30:Int)⟩:Work),(⟨([(2:Int),(3:Int)]),(1:Int),(20:Int)⟩:Work),(⟨([(4:Int)]),(1:Int),(1:Int)⟩:Work)]).length:Int))) <|
  M.grd (decide (0<(([(0:Int),(1:Int)]).length:Int))) <|
  M.grd (decide (3<(([(⟨([]),(1:Int),(5:Int)⟩:Work),(⟨([]),(1:Int),(6:Int)⟩:Work),(⟨([(0:Int),(1:Int)]),(1:Int),(10:Int)⟩:Work),(⟨([(1:Int)]),(1:Int),(30:Int)⟩:Work),(⟨([(2:Int),(3:Int)]),(1:Int),(20:Int)⟩:Work),(⟨([(4:Int)]),(1:Int),(1:Int)⟩:Work)]).length:Int))) <|
  M.grd (decide (0<(([(1:Int)]).length:Int))) <|
  M.grd (decide (4<(([(⟨([]),(1:Int),(5:Int)⟩:Work),(⟨([]),(1:Int),(6:Int)⟩:Work),(⟨([(0:Int),(1:Int)]),(1:Int),(10:Int)⟩:Work),(⟨([(1:Int)]),(1:Int),(30:Int)⟩:Work),(⟨([(2:Int),(3:Int)]),(1:Int),(20:Int)⟩:Work),(⟨([(4:Int)]),(1:Int),(1:Int)⟩:Work)]).length:Int))) <|
  M.grd (decide (1<(([(2:Int),(3:Int)]).length:Int))) <|
  M.grd (decide (1<(([(1:Int),(3:Int),(4:Int)]).length:Int))) <|
  M.grd (decide (0<(([(⟨(0:Int),(3:Int),(8:Int)⟩:Note),(⟨(0:Int),(2:Int),(7:Int)⟩:Note),(⟨(1:Int),(0:Int),(9:Int)⟩:Note)]).length:Int))) <|
  M.grd (decide (1<(([(⟨(0:Int),(3:Int),(8:Int)⟩:Note),(⟨(0:Int),(2:Int),(7:Int)⟩:Note),(⟨(1:Int),(0:Int),(9:Int)⟩:Note)]).length:Int))) <|
  M.grd (decide (2<(([(⟨(0:Int),(3:Int),(8:Int)⟩:Note),(⟨(0:Int),(2:Int),(7:Int)⟩:Note),(⟨(1:Int),(0:Int),(9:Int)⟩:Note)]).length:Int))) <|
  M.grd (decide (0<(([(⟨(2:Int),(26:Int)⟩:Pub),(⟨(3:Int),(10:Int)⟩:Pub)]).length:Int))) <|
  M.grd (decide (1<(([(⟨(2:Int),(26:Int)⟩:Pub),(⟨(3:Int),(10:Int)⟩:Pub)]).length:Int))) <|
  M.grd (decide (1<(([(0:Int),(1:Int)]).length:Int))) <|
  M.grd (decide (2<(([(0:Int),(2:Int),(4:Int),(5:Int)]).length:Int))) <|
  M.grd (decide (0<(([(2:Int),(3:Int)]).length:Int))) <|
  M.grd (decide (0<(([[(1:Int),(2:Int),(4:Int)],[(1:Int),(3:Int),(4:Int)]]).length:Int))) <|
  M.grd (decide (1<(([(1:Int),(2:Int),(4:Int)]).length:Int))) <|
  M.grd (decide (1<(([[(1:Int),(2:Int),(4:Int)],[(1:Int),(3:Int),(4:Int)]]).length:Int))) <|
  M.grd (decide (0<(([(1:Int),(3:Int),(4:Int)]).length:Int))) <|
  bif (s4:Int)==0 then (
  M.grd (decide ((s4:Int)<(21:Int))) <|
  zaa s4 ([(⟨([]),(1:Int),(5:Int)⟩:Work),(⟨([]),(1:Int),(6:Int)⟩:Work),(⟨(([(0:Int),(1:Int)]).set 0 ((vl28).getD s5 0:Int)),(1:Int),(10:Int)⟩:Work),(⟨([(1:Int)]),(1:Int),(30:Int)⟩:Work),(⟨([(2:Int),(3:Int)]),(1:Int),(20:Int)⟩:Work),(⟨([(4:Int)]),(1:Int),(1:Int)⟩:Work)]) ([(1:Int),(3:Int),(4:Int)]) 0 5 ([(⟨(0:Int),(3:Int),(8:Int)⟩:Note),(⟨(0:Int),(2:Int),(7:Int)⟩:Note),(⟨(1:Int),(0:Int),(9:Int)⟩:Note)]) ([(⟨(2:Int),(26:Int)⟩:Pub),(⟨(3:Int),(10:Int)⟩:Pub)]) ([(0:Int),(1:Int)]) ([(0:Int),(2:Int),(4:Int),(5:Int)]) ([(2:Int),(3:Int)]) 4 ([[(1:Int),(2:Int),(4:Int)],[(1:Int),(3:Int),(4:Int)]]))
  else (
  bif (s4:Int)==1 then (
  M.grd (decide ((s4:Int)<(21:Int))) <|
  zaa s4 ([(⟨([]),(1:Int),(5:Int)⟩:Work),(⟨([]),(1:Int),(6:Int)⟩:Work),(⟨([(0:Int),(1:Int)]),(1:Int),(10:Int)⟩:Work),(⟨(([(1:Int)]).set 0 ((vl28).getD s5 0:Int)),(1:Int),(30:Int)⟩:Work),(⟨([(2:Int),(3:Int)]),(1:Int),(20:Int)⟩:Work),(⟨([(4:Int)]),(1:Int),(1:Int)⟩:Work)]) ([(1:Int),(3:Int),(4:Int)]) 0 5 ([(⟨(0:Int),(3:Int),(8:Int)⟩:Note),(⟨(0:Int),(2:Int),(7:Int)⟩:Note),(⟨(1:Int),(0:Int),(9:Int)⟩:Note)]) ([(⟨(2:Int),(26:Int)⟩:Pub),(⟨(3:Int),(10:Int)⟩:Pub)]) ([(0:Int),(1:Int)]) ([(0:Int),(2:Int),(4:Int),(5:Int)]) ([(2:Int),(3:Int)]) 4 ([[(1:Int),(2:Int),(4:Int)],[(1:Int),(3:Int),(4:Int)]]))
  else (
  bif (s4:Int)==2 then (
  M.grd (decide ((s4:Int)<(21:Int))) <|
  zaa s4 ([(⟨([]),(1:Int),(5:Int)⟩:Work),(⟨([]),(1:Int),(6:Int)⟩:Work),(⟨([(0:Int),(1:Int)]),(1:Int),(10:Int)⟩:Work),(⟨([(1:Int)]),(1:Int),(30:Int)⟩:Work),(⟨(([(2:Int),(3:Int)]).set 1 ((vl28).getD s5 0:Int)),(1:Int),(20:Int)⟩:Work),(⟨([(4:Int)]),(1:Int),(1:Int)⟩:Work)]) ([(1:Int),(3:Int),(4:Int)]) 0 5 ([(⟨(0:Int),(3:Int),(8:Int)⟩:Note),(⟨(0:Int),(2:Int),(7:Int)⟩:Note),(⟨(1:Int),(0:Int),(9:Int)⟩:Note)]) ([(⟨(2:Int),(26:Int)⟩:Pub),(⟨(3:Int),(10:Int)⟩:Pub)]) ([(0:Int),(1:Int)]) ([(0:Int),(2:Int),(4:Int),(5:Int)]) ([(2:Int),(3:Int)]) 4 ([[(1:Int),(2:Int),(4:Int)],[(1:Int),(3:Int),(4:Int)]]))
  else (
  bif (s4:Int)==3 then (
  M.grd (decide ((s4:Int)<(21:Int))) <|
  zaa s4 ([(⟨([]),(1:Int),(5:Int)⟩:Work),(⟨([]),(1:Int),(6:Int)⟩:Work),(⟨([(0:Int),(1:Int)]),((vl28).getD s5 0:Int),(10:Int)⟩:Work),(⟨([(1:Int)]),(1:Int),(30:Int)⟩:Work),(⟨([(2:Int),(3:Int)]),(1:Int),(20:Int)⟩:Work),(⟨([(4:Int)]),(1:Int),(1:Int)⟩:Work)]) ([(1:Int),(3:Int),(4:Int)]) 0 5 ([(⟨(0:Int),(3:Int),(8:Int)⟩:Note),(⟨(0:Int),(2:Int),(7:Int)⟩:Note),(⟨(1:Int),(0:Int),(9:Int)⟩:Note)]) ([(⟨(2:Int),(26:Int)⟩:Pub),(⟨(3:Int),(10:Int)⟩:Pub)]) ([(0:Int),(1:Int)]) ([(0:Int),(2:Int),(4:Int),(5:Int)]) ([(2:Int),(3:Int)]) 4 ([[(1:Int),(2:Int),(4:Int)],[(1:Int),(3:Int),(4:Int)]]))
  else (
  bif (s4:Int)==4 then (
  M.grd (decide ((s4:Int)<(21:Int))) <|
  zaa s4 ([(⟨([]),(1:Int),(5:Int)⟩:Work),(⟨([]),(1:Int),(6:Int)⟩:Work),(⟨([(0:Int),(1:Int)]),(1:Int),(10:Int)⟩:Work),(⟨([(1:Int)]),(1:Int),((vl28).getD s5 0:Int)⟩:Work),(⟨([(2:Int),(3:Int)]),(1:Int),(20:Int)⟩:Work),(⟨([(4:Int)]),(1:Int),(1:Int)⟩:Work)]) ([(1:Int),(3:Int),(4:Int)]) 0 5 ([(⟨(0:Int),(3:Int),(8:Int)⟩:Note),(⟨(0:Int),(2:Int),(7:Int)⟩:Note),(⟨(1:Int),(0:Int),(9:Int)⟩:Note)]) ([(⟨(2:Int),(26:Int)⟩:Pub),(⟨(3:Int),(10:Int)⟩:Pub)]) ([(0:Int),(1:Int)]) ([(0:Int),(2:Int),(4:Int),(5:Int)]) ([(2:Int),(3:Int)]) 4 ([[(1:Int),(2:Int),(4:Int)],[(1:Int),(3:Int),(4:Int)]]))
  else (
  bif (s4:Int)==5 then (
  M.grd (decide ((s4:Int)<(21:Int))) <|
  zaa s4 ([(⟨([]),(1:Int),(5:Int)⟩:Work),(⟨([]),(1:Int),(6:Int)⟩:Work),(⟨([(0:Int),(1:Int)]),(1:Int),(10:Int)⟩:Work),(⟨([(1:Int)]),(1:Int),(30:Int)⟩:Work),(⟨([(2:Int),(3:Int)]),(1:Int),(20:Int)⟩:Work),(⟨([(4:Int)]),(1:Int),(1:Int)⟩:Work)]) (([(1:Int),(3:Int),(4:Int)]).set 1 ((vl28).getD s5 0:Int)) 0 5 ([(⟨(0:Int),(3:Int),(8:Int)⟩:Note),(⟨(0:Int),(2:Int),(7:Int)⟩:Note),(⟨(1:Int),(0:Int),(9:Int)⟩:Note)]) ([(⟨(2:Int),(26:Int)⟩:Pub),(⟨(3:Int),(10:Int)⟩:Pub)]) ([(0:Int),(1:Int)]) ([(0:Int),(2:Int),(4:Int),(5:Int)]) ([(2:Int),(3:Int)]) 4 ([[(1:Int),(2:Int),(4:Int)],[(1:Int),(3:Int),(4:Int)]]))
  else (
  bif (s4:Int)==6 then (
  M.grd (decide ((s4:Int)<(21:Int))) <|
  zaa s4 ([(⟨([]),(1:Int),(5:Int)⟩:Work),(⟨([]),(1:Int),(6:Int)⟩:Work),(⟨([(0:Int),(1:Int)]),(1:Int),(10:Int)⟩:Work),(⟨([(1:Int)]),(1:Int),(30:Int)⟩:Work),(⟨([(2:Int),(3:Int)]),(1:Int),(20:Int)⟩:Work),(⟨([(4:Int)]),(1:Int),(1:Int)⟩:Work)]) ([(1:Int),(3:Int),(4:Int)]) ((vl28).getD s5 0) 5 ([(⟨(0:Int),(3:Int),(8:Int)⟩:Note),(⟨(0:Int),(2:Int),(7:Int)⟩:Note),(⟨(1:Int),(0:Int),(9:Int)⟩:Note)]) ([(⟨(2:Int),(26:Int)⟩:Pub),(⟨(3:Int),(10:Int)⟩:Pub)]) ([(0:Int),(1:Int)]) ([(0:Int),(2:Int),(4:Int),(5:Int)]) ([(2:Int),(3:Int)]) 4 ([[(1:Int),(2:Int),(4:Int)],[(1:Int),(3:Int),(4:Int)]]))
  else (
  bif (s4:Int)==7 then (
  M.grd (decide ((s4:Int)<(21:Int))) <|
  zaa s4 ([(⟨([]),(1:Int),(5:Int)⟩:Work),(⟨([]),(1:Int),(6:Int)⟩:Work),(⟨([(0:Int),(1:Int)]),(1:Int),(10:Int)⟩:Work),(⟨([(1:Int)]),(1:Int),(30:Int)⟩:Work),(⟨([(2:Int),(3:Int)]),(1:Int),(20:Int)⟩:Work),(⟨([(4:Int)]),(1:Int),(1:Int)⟩:Work)]) ([(1:Int),(3:Int),(4:Int)]) 0 ((vl28).getD s5 0) ([(⟨(0:Int),(3:Int),(8:Int)⟩:Note),(⟨(0:Int),(2:Int),(7:Int)⟩:Note),(⟨(1:Int),(0:Int),(9:Int)⟩:Note)]) ([(⟨(2:Int),(26:Int)⟩:Pub),(⟨(3:Int),(10:Int)⟩:Pub)]) ([(0:Int),(1:Int)]) ([(0:Int),(2:Int),(4:Int),(5:Int)]) ([(2:Int),(3:Int)]) 4 ([[(1:Int),(2:Int),(4:Int)],[(1:Int),(3:Int),(4:Int)]]))
  else (
  bif (s4:Int)==8 then (
  M.grd (decide ((s4:Int)<(21:Int))) <|
  zaa s4 ([(⟨([]),(1:Int),(5:Int)⟩:Work),(⟨([]),(1:Int),(6:Int)⟩:Work),(⟨([(0:Int),(1:Int)]),(1:Int),(10:Int)⟩:Work),(⟨([(1:Int)]),(1:Int),(30:Int)⟩:Work),(⟨([(2:Int),(3:Int)]),(1:Int),(20:Int)⟩:Work),(⟨([(4:Int)]),(1:Int),(1:Int)⟩:Work)]) ([(1:Int),(3:Int),(4:Int)]) 0 5 (([(⟨(0:Int),(3:Int),(8:Int)⟩:Note),(⟨(0:Int),(2:Int),(7:Int)⟩:Note),(⟨(1:Int),(0:Int),(9:Int)⟩:Note)]).set 0 ({ (([(⟨(0:Int),(3:Int),(8:Int)⟩:Note),(⟨(0:Int),(2:Int),(7:Int)⟩:Note),(⟨(1:Int),(0:Int),(9:Int)⟩:Note)]).getD 0 default) with work:=(vl28).getD s5 0 })) ([(⟨(2:Int),(26:Int)⟩:Pub),(⟨(3:Int),(10:Int)⟩:Pub)]) ([(0:Int),(1:Int)]) ([(0:Int),(2:Int),(4:Int),(5:Int)]) ([(2:Int),(3:Int)]) 4 ([[(1:Int),(2:Int),(4:Int)],[(1:Int),(3:Int),(4:Int)]]))
  else (
  bif (s4:Int)==9 then (
  M.grd (decide ((s4:Int)<(21:Int))) <|
  zaa s4 ([(⟨([]),(1:Int),(5:Int)⟩:Work),(⟨([]),(1:Int),(6:Int)⟩:Work),(⟨([(0:Int),(1:Int)]),(1:Int),(10:Int)⟩:Work),(⟨([(1:Int)]),(1:Int),(30:Int)⟩:Work),(⟨([(2:Int),(3:Int)]),(1:Int),(20:Int)⟩:Work),(⟨([(4:Int)]),(1:Int),(1:Int)⟩:Work)]) ([(1:Int),(3:Int),(4:Int)]) 0 5 (([(⟨(0:Int),(3:Int),(8:Int)⟩:Note),(⟨(0:Int),(2:Int),(7:Int)⟩:Note),(⟨(1:Int),(0:Int),(9:Int)⟩:Note)]).set 1 ({ (([(⟨(0:Int),(3:Int),(8:Int)⟩:Note),(⟨(0:Int),(2:Int),(7:Int)⟩:Note),(⟨(1:Int),(0:Int),(9:Int)⟩:Note)]).getD 1 default) with version:=(vl28).getD s5 0 })) ([(⟨(2:Int),(26:Int)⟩:Pub),(⟨(3:Int),(10:Int)⟩:Pub)]) ([(0:Int),(1:Int)]) ([(0:Int),(2:Int),(4:Int),(5:Int)]) ([(2:Int),(3:Int)]) 4 ([[(1:Int),(2:Int),(4:Int)],[(1:Int),(3:Int),(4:Int)]]))
  else (
  bif (s4:Int)==10 then (
  M.grd (decide ((s4:Int)<(21:Int))) <|
  zaa s4 ([(⟨([]),(1:Int),(5:Int)⟩:Work),(⟨([]),(1:Int),(6:Int)⟩:Work),(⟨([(0:Int),(1:Int)]),(1:Int),(10:Int)⟩:Work),(⟨([(1:Int)]),(1:Int),(30:Int)⟩:Work),(⟨([(2:Int),(3:Int)]),(1:Int),(20:Int)⟩:Work),(⟨([(4:Int)]),(1:Int),(1:Int)⟩:Work)]) ([(1:Int),(3:Int),(4:Int)]) 0 5 (([(⟨(0:Int),(3:Int),(8:Int)⟩:Note),(⟨(0:Int),(2:Int),(7:Int)⟩:Note),(⟨(1:Int),(0:Int),(9:Int)⟩:Note)]).set 0 ({ (([(⟨(0:Int),(3:Int),(8:Int)⟩:Note),(⟨(0:Int),(2:Int),(7:Int)⟩:Note),(⟨(1:Int),(0:Int),(9:Int)⟩:Note)]).getD 0 default) with value:=(vl28).getD s5 0 })) ([(⟨(2:Int),(26:Int)⟩:Pub),(⟨(3:Int),(10:Int)⟩:Pub)]) ([(0:Int),(1:Int)]) ([(0:Int),(2:Int),(4:Int),(5:Int)]) ([(2:Int),(3:Int)]) 4 ([[(1:Int),(2:Int),(4:Int)],[(1:Int),(3:Int),(4:Int)]]))
  else (
  bif (s4:Int)==11 then (
  M.grd (decide ((s4:Int)<(21:Int))) <|
  zaa s4 ([(⟨([]),(1:Int),(5:Int)⟩:Work),(⟨([]),(1:Int),(6:Int)⟩:Work),(⟨([(0:Int),(1:Int)]),(1:Int),(10:Int)⟩:Work),(⟨([(1:Int)]),(1:Int),(30:Int)⟩:Work),(⟨([(2:Int),(3:Int)]),(1:Int),(20:Int)⟩:Work),(⟨([(4:Int)]),(1:Int),(1:Int)⟩:Work)]) ([(1:Int),(3:Int),(4:Int)]) 0 5 (([(⟨(0:Int),(3:Int),(8:Int)⟩:Note),(⟨(0:Int),(2:Int),(7:Int)⟩:Note),(⟨(1:Int),(0:Int),(9:Int)⟩:Note)]).set 2 ({ (([(⟨(0:Int),(3:Int),(8:Int)⟩:Note),(⟨(0:Int),(2:Int),(7:Int)⟩:Note),(⟨(1:Int),(0:Int),(9:Int)⟩:Note)]).getD 2 default) with value:=(vl28).getD s5 0 })) ([(⟨(2:Int),(26:Int)⟩:Pub),(⟨(3:Int),(10:Int)⟩:Pub)]) ([(0:Int),(1:Int)]) ([(0:Int),(2:Int),(4:Int),(5:Int)]) ([(2:Int),(3:Int)]) 4 ([[(1:Int),(2:Int),(4:Int)],[(1:Int),(3:Int),(4:Int)]]))
  else (
  bif (s4:Int)==12 then (
  M.grd (decide ((s4:Int)<(21:Int))) <|
  zaa s4 ([(⟨([]),(1:Int),(5:Int)⟩:Work),(⟨([]),(1:Int),(6:Int)⟩:Work),(⟨([(0:Int),(1:Int)]),(1:Int),(10:Int)⟩:Work),(⟨([(1:Int)]),(1:Int),(30:Int)⟩:Work),(⟨([(2:Int),(3:Int)]),(1:Int),(20:Int)⟩:Work),(⟨([(4:Int)]),(1:Int),(1:Int)⟩:Work)]) ([(1:Int),(3:Int),(4:Int)]) 0 5 ([(⟨(0:Int),(3:Int),(8:Int)⟩:Note),(⟨(0:Int),(2:Int),(7:Int)⟩:Note),(⟨(1:Int),(0:Int),(9:Int)⟩:Note)]) (([(⟨(2:Int),(26:Int)⟩:Pub),(⟨(3:Int),(10:Int)⟩:Pub)]).set 0 ({ (([(⟨(2:Int),(26:Int)⟩:Pub),(⟨(3:Int),(10:Int)⟩:Pub)]).getD 0 default) with work:=(vl28).getD s5 0 })) ([(0:Int),(1:Int)]) ([(0:Int),(2:Int),(4:Int),(5:Int)]) ([(2:Int),(3:Int)]) 4 ([[(1:Int),(2:Int),(4:Int)],[(1:Int),(3:Int),(4:Int)]]))
  else (
  bif (s4:Int)==13 then (
  M.grd (decide ((s4:Int)<(21:Int))) <|
  zaa s4 ([(⟨([]),(1:Int),(5:Int)⟩:Work),(⟨([]),(1:Int),(6:Int)⟩:Work),(⟨([(0:Int),(1:Int)]),(1:Int),(10:Int)⟩:Work),(⟨([(1:Int)]),(1:Int),(30:Int)⟩:Work),(⟨([(2:Int),(3:Int)]),(1:Int),(20:Int)⟩:Work),(⟨([(4:Int)]),(1:Int),(1:Int)⟩:Work)]) ([(1:Int),(3:Int),(4:Int)]) 0 5 ([(⟨(0:Int),(3:Int),(8:Int)⟩:Note),(⟨(0:Int),(2:Int),(7:Int)⟩:Note),(⟨(1:Int),(0:Int),(9:Int)⟩:Note)]) (([(⟨(2:Int),(26:Int)⟩:Pub),(⟨(3:Int),(10:Int)⟩:Pub)]).set 1 ({ (([(⟨(2:Int),(26:Int)⟩:Pub),(⟨(3:Int),(10:Int)⟩:Pub)]).getD 1 default) with value:=(vl28).getD s5 0 })) ([(0:Int),(1:Int)]) ([(0:Int),(2:Int),(4:Int),(5:Int)]) ([(2:Int),(3:Int)]) 4 ([[(1:Int),(2:Int),(4:Int)],[(1:Int),(3:Int),(4:Int)]]))
  else (
  bif (s4:Int)==14 then (
  M.grd (decide ((s4:Int)<(21:Int))) <|
  zaa s4 ([(⟨([]),(1:Int),(5:Int)⟩:Work),(⟨([]),(1:Int),(6:Int)⟩:Work),(⟨([(0:Int),(1:Int)]),(1:Int),(10:Int)⟩:Work),(⟨([(1:Int)]),(1:Int),(30:Int)⟩:Work),(⟨([(2:Int),(3:Int)]),(1:Int),(20:Int)⟩:Work),(⟨([(4:Int)]),(1:Int),(1:Int)⟩:Work)]) ([(1:Int),(3:Int),(4:Int)]) 0 5 ([(⟨(0:Int),(3:Int),(8:Int)⟩:Note),(⟨(0:Int),(2:Int),(7:Int)⟩:Note),(⟨(1:Int),(0:Int),(9:Int)⟩:Note)]) ([(⟨(2:Int),(26:Int)⟩:Pub),(⟨(3:Int),(10:Int)⟩:Pub)]) (([(0:Int),(1:Int)]).set 0 ((vl28).getD s5 0:Int)) ([(0:Int),(2:Int),(4:Int),(5:Int)]) ([(2:Int),(3:Int)]) 4 ([[(1:Int),(2:Int),(4:Int)],[(1:Int),(3:Int),(4:Int)]]))
  else (
  bif (s4:Int)==15 then (
  M.grd (decide ((s4:Int)<(21:Int))) <|
  zaa s4 ([(⟨([]),(1:Int),(5:Int)⟩:Work),(⟨([]),(1:Int),(6:Int)⟩:Work),(⟨([(0:Int),(1:Int)]),(1:Int),(10:Int)⟩:Work),(⟨([(1:Int)]),(1:Int),(30:Int)⟩:Work),(⟨([(2:Int),(3:Int)]),(1:Int),(20:Int)⟩:Work),(⟨([(4:Int)]),(1:Int),(1:Int)⟩:Work)]) ([(1:Int),(3:Int),(4:Int)]) 0 5 ([(⟨(0:Int),(3:Int),(8:Int)⟩:Note),(⟨(0:Int),(2:Int),(7:Int)⟩:Note),(⟨(1:Int),(0:Int),(9:Int)⟩:Note)]) ([(⟨(2:Int),(26:Int)⟩:Pub),(⟨(3:Int),(10:Int)⟩:Pub)]) (([(0:Int),(1:Int)]).set 1 ((vl28).getD s5 0:Int)) ([(0:Int),(2:Int),(4:Int),(5:Int)]) ([(2:Int),(3:Int)]) 4 ([[(1:Int),(2:Int),(4:Int)],[(1:Int),(3:Int),(4:Int)]]))
  else (
  bif (s4:Int)==16 then (
  M.grd (decide ((s4:Int)<(21:Int))) <|
  zaa s4 ([(⟨([]),(1:Int),(5:Int)⟩:Work),(⟨([]),(1:Int),(6:Int)⟩:Work),(⟨([(0:Int),(1:Int)]),(1:Int),(10:Int)⟩:Work),(⟨([(1:Int)]),(1:Int),(30:Int)⟩:Work),(⟨([(2:Int),(3:Int)]),(1:Int),(20:Int)⟩:Work),(⟨([(4:Int)]),(1:Int),(1:Int)⟩:Work)]) ([(1:Int),(3:Int),(4:Int)]) 0 5 ([(⟨(0:Int),(3:Int),(8:Int)⟩:Note),(⟨(0:Int),(2:Int),(7:Int)⟩:Note),(⟨(1:Int),(0:Int),(9:Int)⟩:Note)]) ([(⟨(2:Int),(26:Int)⟩:Pub),(⟨(3:Int),(10:Int)⟩:Pub)]) ([(0:Int),(1:Int)]) (([(0:Int),(2:Int),(4:Int),(5:Int)]).set 2 ((vl28).getD s5 0:Int)) ([(2:Int),(3:Int)]) 4 ([[(1:Int),(2:Int),(4:Int)],[(1:Int),(3:Int),(4:Int)]]))
  else (
  bif (s4:Int)==17 then (
  M.grd (decide ((s4:Int)<(21:Int))) <|
  zaa s4 ([(⟨([]),(1:Int),(5:Int)⟩:Work),(⟨([]),(1:Int),(6:Int)⟩:Work),(⟨([(0:Int),(1:Int)]),(1:Int),(10:Int)⟩:Work),(⟨([(1:Int)]),(1:Int),(30:Int)⟩:Work),(⟨([(2:Int),(3:Int)]),(1:Int),(20:Int)⟩:Work),(⟨([(4:Int)]),(1:Int),(1:Int)⟩:Work)]) ([(1:Int),(3:Int),(4:Int)]) 0 5 ([(⟨(0:Int),(3:Int),(8:Int)⟩:Note),(⟨(0:Int),(2:Int),(7:Int)⟩:Note),(⟨(1:Int),(0:Int),(9:Int)⟩:Note)]) ([(⟨(2:Int),(26:Int)⟩:Pub),(⟨(3:Int),(10:Int)⟩:Pub)]) ([(0:Int),(1:Int)]) ([(0:Int),(2:Int),(4:Int),(5:Int)]) (([(2:Int),(3:Int)]).set 0 ((vl28).getD s5 0:Int)) 4 ([[(1:Int),(2:Int),(4:Int)],[(1:Int),(3:Int),(4:Int)]]))
  else (
  bif (s4:Int)==18 then (
  M.grd (decide ((s4:Int)<(21:Int))) <|
  zaa s4 ([(⟨([]),(1:Int),(5:Int)⟩:Work),(⟨([]),(1:Int),(6:Int)⟩:Work),(⟨([(0:Int),(1:Int)]),(1:Int),(10:Int)⟩:Work),(⟨([(1:Int)]),(1:Int),(30:Int)⟩:Work),(⟨([(2:Int),(3:Int)]),(1:Int),(20:Int)⟩:Work),(⟨([(4:Int)]),(1:Int),(1:Int)⟩:Work)]) ([(1:Int),(3:Int),(4:Int)]) 0 5 ([(⟨(0:Int),(3:Int),(8:Int)⟩:Note),(⟨(0:Int),(2:Int),(7:Int)⟩:Note),(⟨(1:Int),(0:Int),(9:Int)⟩:Note)]) ([(⟨(2:Int),(26:Int)⟩:Pub),(⟨(3:Int),(10:Int)⟩:Pub)]) ([(0:Int),(1:Int)]) ([(0:Int),(2:Int),(4:Int),(5:Int)]) ([(2:Int),(3:Int)]) ((vl28).getD s5 0) ([[(1:Int),(2:Int),(4:Int)],[(1:Int),(3:Int),(4:Int)]]))
  else (
  bif (s4:Int)==19 then (
  M.grd (decide ((s4:Int)<(21:Int))) <|
  zaa s4 ([(⟨([]),(1:Int),(5:Int)⟩:Work),(⟨([]),(1:Int),(6:Int)⟩:Work),(⟨([(0:Int),(1:Int)]),(1:Int),(10:Int)⟩:Work),(⟨([(1:Int)]),(1:Int),(30:Int)⟩:Work),(⟨([(2:Int),(3:Int)]),(1:Int),(20:Int)⟩:Work),(⟨([(4:Int)]),(1:Int),(1:Int)⟩:Work)]) ([(1:Int),(3:Int),(4:Int)]) 0 5 ([(⟨(0:Int),(3:Int),(8:Int)⟩:Note),(⟨(0:Int),(2:Int),(7:Int)⟩:Note),(⟨(1:Int),(0:Int),(9:Int)⟩:Note)]) ([(⟨(2:Int),(26:Int)⟩:Pub),(⟨(3:Int),(10:Int)⟩:Pub)]) ([(0:Int),(1:Int)]) ([(0:Int),(2:Int),(4:Int),(5:Int)]) ([(2:Int),(3:Int)]) 4 ([([(1:Int),(2:Int),(4:Int)]).set 1 ((vl28).getD s5 0:Int),[(1:Int),(3:Int),(4:Int)]]))
  else (
  bif (s4:Int)==20 then (
  M.grd (decide ((s4:Int)<(21:Int))) <|
  zaa s4 ([(⟨([]),(1:Int),(5:Int)⟩:Work),(⟨([]),(1:Int),(6:Int)⟩:Work),(⟨([(0:Int),(1:Int)]),(1:Int),(10:Int)⟩:Work),(⟨([(1:Int)]),(1:Int),(30:Int)⟩:Work),(⟨([(2:Int),(3:Int)]),(1:Int),(20:Int)⟩:Work),(⟨([(4:Int)]),(1:Int),(1:Int)⟩:Work)]) ([(1:Int),(3:Int),(4:Int)]) 0 5 ([(⟨(0:Int),(3:Int),(8:Int)⟩:Note),(⟨(0:Int),(2:Int),(7:Int)⟩:Note),(⟨(1:Int),(0:Int),(9:Int)⟩:Note)]) ([(⟨(2:Int),(26:Int)⟩:Pub),(⟨(3:Int),(10:Int)⟩:Pub)]) ([(0:Int),(1:Int)]) ([(0:Int),(2:Int),(4:Int),(5:Int)]) ([(2:Int),(3:Int)]) 4 ([[(1:Int),(2:Int),(4:Int)],([(1:Int),(3:Int),(4:Int)]).set 0 ((vl28).getD s5 0:Int)]))
  else (
  M.fail))))))))))))))))))))))
  else (
  M.pure (.inr (.inr ())))
def zev  : Nat->M (Nat ⊕ (Unit ⊕ Unit)):=fun s5 =>
  bif decide ((s5:Int)<((vl28).length:Int)) then (
  M.grd (decide ((s5:Int)<((vl28).length:Int))) <|
  M.bind (M.iter (zdf s5) 0) fun x_=>match x_ with
  | (.inl (_:Unit))=>(
  M.pure (.inr (.inl ())))
  | (.inr (_:Unit))=>(
  M.pure (.inl (s5+1))))
  else (
  M.pure (.inr (.inr ())))
def zeA (s8 s7:Nat):(Nat × (List Int))->M ((Nat × (List Int)) ⊕ ((List Int) × (List Int))):=fun (s6,l9) =>
  bif decide ((s6:Int)<6) then (
  M.grd ((!((((s6:Int) != (s7:Int))&&(decide ((s6:Int)<(2+((s8:Int) % 4)))))&&((decide ((s6:Int)<(s7:Int)))||(((s8:Int) % 7)==0)))||(decide ((-9223372036854775808:Int)<=(3*(s7:Int)))&&decide ((3*(s7:Int))<=(9223372036854775807:Int))))) <|
  M.grd ((!((((s6:Int) != (s7:Int))&&(decide ((s6:Int)<(2+((s8:Int) % 4)))))&&((decide ((s6:Int)<(s7:Int)))||(((s8:Int) % 7)==0)))||(decide ((-9223372036854775808:Int)<=((3*(s7:Int))+(s6:Int)))&&decide (((3*(s7:Int))+(s6:Int))<=(9223372036854775807:Int))))) <|
  M.grd ((!((((s6:Int) != (s7:Int))&&(decide ((s6:Int)<(2+((s8:Int) % 4)))))&&((decide ((s6:Int)<(s7:Int)))||(((s8:Int) % 7)==0)))||(decide ((-9223372036854775808:Int)<=(((3*(s7:Int))+(s6:Int))+1))&&decide ((((3*(s7:Int))+(s6:Int))+1)<=(9223372036854775807:Int))))) <|
  M.grd ((!((((s6:Int) != (s7:Int))&&(decide ((s6:Int)<(2+((s8:Int) % 4)))))&&((decide ((s6:Int)<(s7:Int)))||(((s8:Int) % 7)==0)))||(decide (0<=(s8:Int))&&decide ((s8:Int)<=(9223372036854775807:Int))&&decide ((0:Int)<(((3*(s7:Int))+(s6:Int))+1))))) <|
  M.grd ((!((((s6:Int) != (s7:Int))&&(decide ((s6:Int)<(2+((s8:Int) % 4)))))&&((decide ((s6:Int)<(s7:Int)))||(((s8:Int) % 7)==0)))||(decide ((0:Int)<=((s8:Int) / (((3*(s7:Int))+(s6:Int))+1)))&&decide ((0:Int)<3)))) <|
  bif (((((s6:Int) != (s7:Int))&&(decide ((s6:Int)<(2+((s8:Int) % 4)))))&&((decide ((s6:Int)<(s7:Int)))||(((s8:Int) % 7)==0)))&&((((s8:Int) / (((3*(s7:Int))+(s6:Int))+1)) % 3)==0)) then (
  M.grd (decide ((l9.length+([(s6:Int)]).length)*8<=140737488355328)) <|
  M.pure (.inl (s6+1,l9++([(s6:Int)]))))
  else (
  M.pure (.inl (s6+1,l9))))
  else (
  M.pure (.inr (l9,l9)))
def zer (s8:Nat):(Nat × (List Work))->M ((Nat × (List Work)) ⊕ ((List Work) × (List Work))):=fun (s7,aa) =>
  bif decide ((s7:Int)<(2+((s8:Int) % 4))) then (
  M.grd (decide ((-9223372036854775808:Int)<=((s7:Int)+2))&&decide (((s7:Int)+2)<=(9223372036854775807:Int))) <|
  M.grd (decide (0<=(s8:Int))&&decide ((s8:Int)<=(9223372036854775807:Int))&&decide ((0:Int)<((s7:Int)+2))) <|
  M.grd (decide ((0:Int)<=((s8:Int) / ((s7:Int)+2)))&&decide ((0:Int)<4)) <|
  M.bind (M.iter (zeA s8 s7) (0,[])) fun (ac,ab) =>
  M.grd (decide ((aa.length+([(⟨ab,((s8:Int) % 5:Int),(((s8:Int) / ((s7:Int)+2)) % 4:Int)⟩:Work)]).length)*40<=140737488355328)) <|
  M.grd (decide ((-9223372036854775808:Int)<=((s7:Int)+1))&&decide (((s7:Int)+1)<=(9223372036854775807:Int))) <|
  M.pure (.inl (s7+1,aa++([(⟨ab,((s8:Int) % 5:Int),(((s8:Int) / ((s7:Int)+2)) % 4:Int)⟩:Work)]))))
  else (
  M.pure (.inr (aa,aa)))
def zaX (s8:Nat) (r8 r9:Bool):M (Nat ⊕ (Unit ⊕ Unit)) :=
  bif ((!r8)||(!r9)) then (
  M.pure (.inr (.inl ())))
  else (
  M.pure (.inl (s8+1)))
def zd5  : Nat->M (Nat ⊕ (Unit ⊕ Unit)):=fun s8 =>
  bif decide ((s8:Int)<1500) then (
  M.grd (decide ((0:Int)<=(s8:Int))&&decide ((0:Int)<4)) <|
  M.grd (decide ((-9223372036854775808:Int)<=(2+((s8:Int) % 4)))&&decide ((2+((s8:Int) % 4))<=(9223372036854775807:Int))) <|
  M.bind (M.iter (zer s8) (0,[])) fun (ab,aa) =>
  M.grd (decide (0<=(s8:Int))&&decide ((s8:Int)<=(9223372036854775807:Int))&&decide ((0:Int)<3)) <|
  M.grd (decide ((0:Int)<=((s8:Int) / 3))&&decide ((0:Int)<3)) <|
  M.grd (decide ((0:Int)<=((s8:Int) / 2))&&decide ((0:Int)<4)) <|
  M.grd (decide ((0:Int)<=((s8:Int) / 5))&&decide ((0:Int)<5)) <|
  M.grd (decide ((-9223372036854775808:Int)<=(1+((s8:Int) % 3)))&&decide ((1+((s8:Int) % 3))<=(9223372036854775807:Int))) <|
  M.grd (decide ((0:Int)<=(1+((s8:Int) % 3)))&&decide ((1+((s8:Int) % 3))<=(([((s8:Int) % 5:Int),(((s8:Int) / 5) % 5:Int),(((s8:Int) / 3) % 6:Int)]).length:Int))) <|
  M.grd (decide ((0:Int)<=((s8:Int) / 6))&&decide ((0:Int)<6)) <|
  M.bind (zbm aa (([((s8:Int) % 5:Int),(((s8:Int) / 5) % 5:Int),(((s8:Int) / 3) % 6:Int)]).take (Int.toNat (1+((s8:Int) % 3)))) ((s8:Int) % 6) (((s8:Int) / 6) % 6)) fun r6 =>
  M.grd ((!(!(!r6))||(decide ((0:Int)<=((s8:Int) / 9))&&decide ((0:Int)<9)))) <|
  M.bind (M.opt (!(!r6)) (zai aa ([(⟨(0:Int),((s8:Int) % 3:Int),((s8:Int) % 7:Int)⟩:Note),(⟨((s8:Int) % 3:Int),(((s8:Int) / 3) % 3:Int),(((s8:Int) / 2) % 4:Int)⟩:Note),(⟨(0:Int),(1:Int),(5:Int)⟩:Note)]) ([(⟨((s8:Int) % 4:Int),((s8:Int) % 9:Int)⟩:Pub),(⟨(1:Int),(((s8:Int) / 9) % 9:Int)⟩:Pub)])) false) fun r7 =>
  bif ((!r6)||(!r7)) then (
  M.pure (.inr (.inl ())))
  else (
  M.grd (decide ((-9223372036854775808:Int)<=(1+((s8:Int) % 2)))&&decide ((1+((s8:Int) % 2))<=(9223372036854775807:Int))) <|
  M.grd (decide ((-9223372036854775808:Int)<=(1+(((s8:Int) / 2) % 2)))&&decide ((1+(((s8:Int) / 2) % 2))<=(9223372036854775807:Int))) <|
  M.grd (decide ((-9223372036854775808:Int)<=(2+(((s8:Int) / 3) % 4)))&&decide ((2+(((s8:Int) / 3) % 4))<=(9223372036854775807:Int))) <|
  M.grd (decide ((0:Int)<=(1+(((s8:Int) / 2) % 2)))&&decide ((1+(((s8:Int) / 2) % 2))<=(([(0:Int),(1+((s8:Int) % 2):Int)]).length:Int))) <|
  M.grd (decide ((0:Int)<=((s8:Int) % 3))&&decide (((s8:Int) % 3)<=(2+(((s8:Int) / 3) % 4)))&&decide ((2+(((s8:Int) / 3) % 4))<=(([(0:Int),(1:Int),(2:Int),(3:Int),(4:Int)]).length:Int))) <|
  M.bind (zbB aa (([(0:Int),(1+((s8:Int) % 2):Int)]).take (Int.toNat (1+(((s8:Int) / 2) % 2)))) ((([(0:Int),(1:Int),(2:Int),(3:Int),(4:Int)]).take (Int.toNat (2+(((s8:Int) / 3) % 4)))).drop (Int.toNat ((s8:Int) % 3)))) fun r8 =>
  M.grd ((!(!(!r8))||(decide ((-9223372036854775808:Int)<=(((aa.length:Int)-1)-((s8:Int) % 2)))&&decide ((((aa.length:Int)-1)-((s8:Int) % 2))<=(9223372036854775807:Int))))) <|
  M.grd ((!(!(!r8))||(decide ((0:Int)<=((s8:Int) % 4))&&decide (((s8:Int) % 4)<=(([(1:Int),(2:Int),(3:Int)]).length:Int))))) <|
  M.grd ((!(!(!r8))||(decide ((0:Int)<=((s8:Int) % 3))&&decide (((s8:Int) % 3)<=(([[(0:Int),((aa.length:Int)-1:Int)],[(0:Int),(2:Int),((aa.length:Int)-1:Int)]]).length:Int))))) <|
  M.bind (M.opt (!(!r8)) (zbP aa (([(0:Int),(1+((s8:Int) % 2):Int)]).take (Int.toNat (1+(((s8:Int) / 2) % 2)))) (((aa.length:Int)-1)-((s8:Int) % 2)) (([(1:Int),(2:Int),(3:Int)]).take (Int.toNat ((s8:Int) % 4))) (([[(0:Int),((aa.length:Int)-1:Int)],[(0:Int),(2:Int),((aa.length:Int)-1:Int)]]).take (Int.toNat ((s8:Int) % 3)))) false) fun r9 =>
  zaX s8 r8 r9))
  else (
  M.pure (.inr (.inr ())))
def zeN (s9:Nat):((List Work) × Nat)->M (((List Work) × Nat) ⊕ ((List Work) × (List Work))):=fun (aa,i) =>
  bif decide ((i:Int)<(s9:Int)) then (
  M.grd (decide ((-9223372036854775808:Int)<=((i:Int)-1))&&decide (((i:Int)-1)<=(9223372036854775807:Int))) <|
  M.grd (decide ((i:Int)<(aa.length:Int))) <|
  M.grd (decide ((i:Int)<((aa.set i ({ (aa.getD i default) with of:=([((i:Int)-1:Int)]) })).length:Int))) <|
  M.pure (.inl ((aa.set i ({ (aa.getD i default) with of:=([((i:Int)-1:Int)]) })).set i ({ ((aa.set i ({ (aa.getD i default) with of:=([((i:Int)-1:Int)]) })).getD i default) with minutes:=(10000:Int) }),i+1)))
  else (
  M.pure (.inr (aa,aa)))
def zde  : Nat->M (Nat ⊕ (Unit ⊕ Unit)):=fun s9 =>
  bif decide ((s9:Int)<36) then (
  M.grd (decide ((0:Int)<=(s9:Int))&&decide ((40:Int)*(s9:Int)<=281474976710656)&&decide ((s9:Int)<=(9223372036854775807:Int))) <|
  M.bind (M.iter (zeN s9) (List.replicate s9 (default:Work),1)) fun (aj,aa) =>
  M.grd (decide ((-9223372036854775808:Int)<=((s9:Int)-1))&&decide (((s9:Int)-1)<=(9223372036854775807:Int))) <|
  M.bind (zbm aa ([(0:Int),(1:Int),(2:Int)]) 0 ((s9:Int)-1)) fun ab =>
  M.bind (M.opt (!(!ab)) (zai aa ([]:List Note) ([]:List Pub)) false) fun ac =>
  M.bind (M.opt (!((!ab)||(!ac))) (zbB aa ([(0:Int)]) ([]:List Int)) false) fun ae =>
  M.grd ((!(!(((!ab)||(!ac))||(!ae)))||(decide ((0:Int)<=(s9:Int))&&decide ((24:Int)*(s9:Int)<=281474976710656)&&decide ((s9:Int)<=(9223372036854775807:Int))))) <|
  M.bind (M.opt (!(((!ab)||(!ac))||(!ae))) (zbP aa ([(0:Int)]) ((s9:Int)-1) ([]:List Int) (List.replicate s9 ([]:List Int))) false) fun ah =>
  bif ((((!ab)||(!ac))||(!ae))||(!ah)) then (
  M.pure (.inr (.inl ())))
  else (
  M.grd (decide ((0:Int)<=8)&&decide ((40:Int)*8<=281474976710656)&&decide (8<=(9223372036854775807:Int))) <|
  M.grd (decide ((0:Int)<=(min (s9:Int) 7))&&decide ((min (s9:Int) 7)<=(([(0:Int),(1:Int),(2:Int),(3:Int),(4:Int),(5:Int),(6:Int)]).length:Int))) <|
  M.grd (decide (((List.replicate 8 (default:Work)).length+([(⟨(([(0:Int),(1:Int),(2:Int),(3:Int),(4:Int),(5:Int),(6:Int)]).take (Int.toNat (min (s9:Int) 7))),(0:Int),(0:Int)⟩:Work)]).length)*40<=140737488355328)) <|
  M.bind (zbv aa) fun ag =>
  M.bind (M.opt (!((ag==0) != ((decide (0<(s9:Int)))&&(decide ((s9:Int)<31))))) (zbv ((List.replicate 8 (default:Work))++([(⟨(([(0:Int),(1:Int),(2:Int),(3:Int),(4:Int),(5:Int),(6:Int)]).take (Int.toNat (min (s9:Int) 7))),(0:Int),(0:Int)⟩:Work)]))) 0) fun ai =>
  bif (((ag==0) != ((decide (0<(s9:Int)))&&(decide ((s9:Int)<31))))||((ai==0) != (decide ((s9:Int)<6)))) then (
  M.pure (.inr (.inl ())))
  else (
  M.pure (.inl (s9+1)))))
  else (
  M.pure (.inr (.inr ())))
def zc3  : M Bool :=
  M.bind (M.iter (zev) 0) fun x_=>match x_ with
  | (.inl (_:Unit))=>(
  M.pure false)
  | (.inr (_:Unit))=>(
  M.bind (M.iter (zd5) 0) fun x_=>match x_ with
  | (.inl (_:Unit))=>(
  M.pure false)
  | (.inr (_:Unit))=>(
  M.bind (M.iter (zde) 0) fun x_=>match x_ with
  | (.inl (_:Unit))=>(
  M.pure false)
  | (.inr (_:Unit))=>(
  M.grd (decide ((0:Int)<=201)&&decide ((24:Int)*201<=281474976710656)&&decide (201<=(9223372036854775807:Int))) <|
  M.grd (decide ((0:Int)<=201)&&decide ((16:Int)*201<=281474976710656)&&decide (201<=(9223372036854775807:Int))) <|
  M.bind (zaj) fun ah =>
  M.bind (zai ah (List.replicate 201 (default:Note)) ([]:List Pub)) fun aa =>
  M.grd ((!aa||(decide (1<=((List.replicate 201 (default:Note)).length:Int))))) <|
  bif aa then (
  M.bind (zaj) fun ai =>
  M.bind (M.opt aa (zai ai ((List.replicate 201 (default:Note)).drop 1) (List.replicate 201 (default:Pub))) false) fun ab =>
  M.grd ((!(aa&&ab)||(decide (1<=((List.replicate 201 (default:Note)).length:Int))))) <|
  M.grd ((!(aa&&ab)||(decide (1<=((List.replicate 201 (default:Pub)).length:Int))))) <|
  bif (aa&&ab) then (
  M.bind (zaj) fun ag =>
  M.bind (M.opt (aa&&ab) (zai ag ((List.replicate 201 (default:Note)).drop 1) ((List.replicate 201 (default:Pub)).drop 1)) false) fun ac =>
  M.bind (M.opt ((aa&&ab)&&ac) (zam) false) fun ae =>
  M.pure (((aa&&ab)&&ac)&&ae))
  else (
  M.bind (M.opt (aa&&ab) (zai ([]:List Work) ((List.replicate 201 (default:Note)).drop 1) ((List.replicate 201 (default:Pub)).drop 1)) false) fun ac =>
  M.bind (M.opt ((aa&&ab)&&ac) (zam) false) fun ae =>
  M.pure (((aa&&ab)&&ac)&&ae)))
  else (
  M.bind (M.opt aa (zai ([]:List Work) ((List.replicate 201 (default:Note)).drop 1) (List.replicate 201 (default:Pub))) false) fun ab =>
  M.grd ((!(aa&&ab)||(decide (1<=((List.replicate 201 (default:Note)).length:Int))))) <|
  M.grd ((!(aa&&ab)||(decide (1<=((List.replicate 201 (default:Pub)).length:Int))))) <|
  bif (aa&&ab) then (
  M.bind (zaj) fun ag =>
  M.bind (M.opt (aa&&ab) (zai ag ((List.replicate 201 (default:Note)).drop 1) ((List.replicate 201 (default:Pub)).drop 1)) false) fun ac =>
  M.bind (M.opt ((aa&&ab)&&ac) (zam) false) fun ae =>
  M.pure (((aa&&ab)&&ac)&&ae))
  else (
  M.bind (M.opt (aa&&ab) (zai ([]:List Work) ((List.replicate 201 (default:Note)).drop 1) ((List.replicate 201 (default:Pub)).drop 1)) false) fun ac =>
  M.bind (M.opt ((aa&&ab)&&ac) (zam) false) fun ae =>
  M.pure (((aa&&ab)&&ac)&&ae))))))
end Go.Proofs.YtkclldpnmolljaaGreat
end
