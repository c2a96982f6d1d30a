/- Part 3 of the texts on which the proof rests. Conditions: none. -/
import Derived.Test.YtdmdhmineljlhaaGreatProg
import Derived.Ground.NamesProg
import Derived.Shelf.Bits.Mul64
import Derived.Test.YtdmdhmineljlhaaGreatZA2
set_option linter.unusedVariables false
set_option linter.unusedSimpArgs false
set_option linter.unusedSectionVars false
section
set_option maxRecDepth 100000
set_option maxHeartbeats 16000000
namespace Go.Proofs.YtdmdhmineljlhaaGreat
open Go Go.Nm
attribute [local irreducible] gd execOp SL SLD SLT WR
def zb7 (l:List Pk) (i apart:Int):Int->M (Int ⊕ Int):=fun s =>
  M.grd ((!(decide (s<(l.length:Int)))||(decide ((0:Int)<=s)&&decide (s<(l.length:Int))))) <|
  M.grd ((!(decide (s<(l.length:Int)))||(decide ((0:Int)<=i)&&decide (i<(l.length:Int))))) <|
  M.grd ((!(decide (s<(l.length:Int)))||(decide ((-9223372036854775808:Int)<=(((l.getD (Int.toNat i) default).day)+apart))&&decide ((((l.getD (Int.toNat i) default).day)+apart)<=(9223372036854775807:Int))))) <|
  bif ((decide (s<(l.length:Int)))&&(decide (((l.getD (Int.toNat s) default).day)<(((l.getD (Int.toNat i) default).day)+apart)))) then (
  M.grd (decide ((-9223372036854775808:Int)<=(s+1))&&decide ((s+1)<=(9223372036854775807:Int))) <|
  M.pure (.inl (s+1)))
  else (
  M.pure (.inr s))
def zcK (l:List Pk) (i apart:Int):M Int :=
  M.bind (M.iter (zb7 l i apart) i) fun s2 =>
  M.pure s2
theorem zdE {R:List Chunk} {ai:Cells} {aa:Value} (l:List Pk) (i:Int) (apart:Int) (aw:Reads R ai) (am:Sl ai aa l) {r:Int} (hM:(zcK l i apart).Ends r) (w:World) (H:St w w [] R):Ret Tryz.prog 68 #[aa,I i,I apart] w fun v w'=>∃ (y0:Int),y0=r/\v=I y0/\St w w' [] R:=by
 refine ret_of_W Tryz.func68 rfl rfl rfl ?_;refine kg 11 ?_;obtain ⟨ao,ab,ap⟩:=M.e_bind hM
 obtain ⟨ax,ab⟩:=M.e_iter ab
 refine W.loop (fun m σ W=>∃ (s:Int) (ρ:Env),σ=upds ρ [(0,aa),(1,I i),(2,I apart),(7,I s)]/\M.iterN (zb7 l i apart) m s=some ao/\St w W [] R) ?_ ?_
 ·exact ⟨_,i,_,upds_of _ _ ⟨rfl,rfl,rfl,rfl,trivial⟩,ab,H⟩
 rintro ay σ az ⟨s,ρ,rfl,aj,H⟩
 obtain ⟨aq,ar,aA,hM,ak⟩:=M.e_iterN aj
 simp only [zb7] at hM
 clear aj;refine kg 2 ?_;refine W.draw (fun W=>St w W [] R) [(0,true),(1,true),(2,true),(3,true),(4,true),(5,true),(6,true),(7,true),(8,true),(9,true),(10,true),(11,true),(12,true),(13,true),(14,true),(15,true),(16,true),(17,true),(18,true)] mixed (by decide +kernel) rfl ?_;intro aB al;replace H:=H.ext al;clear al
 refine ⟨(H.pk []),?_⟩
 have aC:=(am).len_le
 obtain ⟨ac,hM⟩:=M.e_grd hM
 replace ac:=M.imp_of ac
 simp only [Bool.and_eq_true,decide_eq_true_eq] at ac
 obtain ⟨ae,hM⟩:=M.e_grd hM
 replace ae:=M.imp_of ae
 simp only [Bool.and_eq_true,decide_eq_true_eq] at ae
 obtain ⟨ag,hM⟩:=M.e_grd hM
 replace ag:=M.imp_of ag
 simp only [Bool.and_eq_true,decide_eq_true_eq] at ag
 refine kg 18 ?_;refine d_q rfl (fun w' H=>x_pand (b:=decide (s<(l.length:Int))) (r:=decide (((l.getD (Int.toNat s) default).day)<(((l.getD (Int.toNat i) default).day)+apart))) rfl (fun hb=>gd_of (c:=decide (s<(l.length:Int))) (by first | exact hb | (rw [hb]; rfl) | simp_all) (B (decide (((l.getD (Int.toNat s) default).day)<(((l.getD (Int.toNat i) default).day)+apart))))) rfl) ?_;refine d_nil ?_
 refine W.cond ((decide (s<(l.length:Int)))&&(decide (((l.getD (Int.toNat s) default).day)<(((l.getD (Int.toNat i) default).day)+apart)))) rfl (fun ah=>?_) (fun ah=>?_)
 ·replace hM:=M.e_t hM ah;obtain ⟨aD,hM⟩:=M.e_gd hM;refine kg 7 ?_
  exact ⟨aq,ar,s+1,_,upds_of _ _ ⟨rfl,rfl,rfl,rfl,trivial⟩,M.e_inl hM ak,H⟩
 replace hM:=M.e_f hM ah;refine W.exit ?_
 have au:=M.e_inr hM ak
 subst au;replace hM:=ap;(try dsimp only at hM);refine kg 5 ?_;refine W.ret ?_
 have av:=M.e_pure hM
 exact ⟨_,resE_tmp rfl,⟨s,av,rfl,H⟩⟩

def zco (dues:List Int) (s2:Nat) (r4:Int):(Int × Nat)->M ((Int × Nat) ⊕ Int):=fun (has,s) =>
  bif decide ((s:Int)<(((dues.take (Int.toNat r4)).drop s2).length:Int)) then (
  M.grd (decide ((s:Int)<(((dues.take (Int.toNat r4)).drop s2).length:Int))) <|
  M.grd (decide ((-9223372036854775808:Int)<=(has+(((dues.take (Int.toNat r4)).drop s2).getD s 0)))&&decide ((has+(((dues.take (Int.toNat r4)).drop s2).getD s 0))<=(9223372036854775807:Int))) <|
  M.pure (.inl (has+(((dues.take (Int.toNat r4)).drop s2).getD s 0),s+1)))
  else (
  M.pure (.inr has))
def zb1 (l:List Pk) (apart threshold:Int) (dues:List Int):(Int × Nat)->M ((Int × Nat) ⊕ (Unit ⊕ Int)):=fun (sum,s2) =>
  bif decide ((s2:Int)<(l.length:Int)) then (
  M.grd (decide ((s2:Int)<(l.length:Int))) <|
  M.grd (decide ((s2:Int)<(dues.length:Int))) <|
  M.grd (decide ((-9223372036854775808:Int)<=(sum+(dues.getD s2 0)))&&decide ((sum+(dues.getD s2 0))<=(9223372036854775807:Int))) <|
  M.bind (zcK l (s2:Int) apart) fun r4 =>
  M.grd (decide ((0:Int)<=(s2:Int))&&decide ((s2:Int)<=r4)&&decide (r4<=(dues.length:Int))) <|
  M.bind (M.iter (zco dues s2 r4) (0,0)) fun has2 =>
  M.grd (decide ((-9223372036854775808:Int)<=(((l.getD s2 default).stage)-threshold))&&decide ((((l.getD s2 default).stage)-threshold)<=(9223372036854775807:Int))) <|
  bif decide (has2<(((l.getD s2 default).stage)-threshold)) then (
  M.pure (.inr (.inl ())))
  else (
  M.pure (.inl (sum+(dues.getD s2 0),s2+1))))
  else (
  M.pure (.inr (.inr sum)))
def zcb (l:List Pk) (apart threshold worth:Int) (dues:List Int):M (Bool × Int) :=
  M.bind (zbp l apart threshold) fun r2 =>
  bif r2 != 0 then (
  M.pure (false,r2))
  else (
  bif (dues.length:Int) != (l.length:Int) then (
  M.pure (false,2))
  else (
  M.bind (zaQ dues (fun aa=>zb2 aa)) fun r3 =>
  bif !r3 then (
  M.pure (false,4))
  else (
  M.bind (M.iter (zb1 l apart threshold dues) (0,0)) fun x_=>match x_ with
  | (.inl (_:Unit))=>(
  M.pure (false,0))
  | (.inr sum2)=>(
  M.pure ((decide (sum2<=worth)),0)))))
theorem zc5 {R:List Chunk} {ax:Cells} {ab:Value} {ay:Cells} {ak:Value} (l:List Pk) (apart:Int) (threshold:Int) (worth:Int) (dues:List Int) (az:Reads R ax) (al:Sl ax ab l) (aG:Reads R ay) (am:Sl ay ak dues) {r:(Bool × Int)} (hM:(zcb l apart threshold worth dues).Ends r) (w:World) (H:St w w [] R):Ret Tryz.prog 34 #[ab,I apart,I threshold,I worth,ak] w fun v w'=>∃ (y0:Bool) (y1:Int),(y0,y1)=r/\v = .tuple #[B y0,I y1]/\St w w' [] R:=by
 refine ret_of_W Tryz.func34 rfl rfl rfl ?_;refine kg 11 ?_;obtain ⟨ba,aH,hM⟩:=M.e_bind hM;refine s_call cf59 [ab,I apart,I threshold] rfl (zb4 l apart threshold (az.app _) al aH _ (H.gt 0)) ?_
 rintro vq bb ⟨r2,rfl,hvq,ac⟩
 subst vq;(try dsimp only at hM);replace H:=H.bk ac;clear ac;refine kg 7 ?_
 refine W.cond (r2 != 0) rfl (fun ae=>?_) (fun ae=>?_)
 ·replace hM:=M.e_t hM ae
  replace ae:=dI ae
  refine kg 6 ?_;refine W.ret ?_
  have aa:=M.e_pure hM
  exact ⟨_,resE_tmp2 rfl,⟨false,r2,aa,rfl,H⟩⟩
 replace hM:=M.e_f hM ae
 replace ae:=dI ae
 have bc:=(am).len_le
 have bf:=(al).len_le
 refine kg 12 ?_
 refine W.cond ((dues.length:Int) != (l.length:Int)) rfl (fun ag=>?_) (fun ag=>?_)
 ·replace hM:=M.e_t hM ag
  replace ag:=dI ag
  refine kg 5 ?_;refine W.ret ?_
  have aa:=M.e_pure hM
  exact ⟨_,resE_tmp2 rfl,⟨false,2,aa,rfl,H⟩⟩
 replace hM:=M.e_f hM ag
 replace ag:=dI ag
 refine kg 3 ?_;obtain ⟨bg,aI,hM⟩:=M.e_bind hM;refine s_call cf23 [ak,.func (.func 67) #[] #[]] rfl (zcX dues (fun ao=>zb2 ao) (aG.app _) am ⟨67,[],rfl,cf67,fun aA bh bi aJ ao bj aK bm aL aM=>by obtain rfl:=Arg.int aL; exact (zd8 ao aM aA (St.refl aK)).mono fun aJ aA ⟨bn,aN,aO,aP⟩=>by subst aN; exact ⟨aO,aP⟩⟩ aI _ (H.gt 0)) ?_
 rintro vq bo ⟨r3,rfl,hvq,ac⟩
 subst vq;(try dsimp only at hM);replace H:=H.bk ac;clear ac;refine kg 3 ?_
 refine W.cond (!r3) rfl (fun ap=>?_) (fun ap=>?_)
 ·replace hM:=M.e_t hM ap;refine kg 5 ?_;refine W.ret ?_
  have aa:=M.e_pure hM
  exact ⟨_,resE_tmp2 rfl,⟨false,4,aa,rfl,H⟩⟩
 replace hM:=M.e_f hM ap
 have bp:=(al).len_le
 refine kg 13 ?_;obtain ⟨aQ,aq,aB⟩:=M.e_bind hM
 obtain ⟨aR,aq⟩:=M.e_iter aq
 refine W.loop (fun m σ W=>∃ (sum:Int) (s2:Nat) (ρ:Env),σ=upds ρ [(0,ab),(1,I apart),(2,I threshold),(3,I worth),(4,ak),(13,I sum),(36,ab),(37,I (l.length:Int)),(38,I (s2:Int))]/\M.iterN (zb1 l apart threshold dues) m (sum,s2)=some aQ/\St w W [] R) ?_ ?_
 ·exact ⟨_,0,0,_,upds_of _ _ ⟨rfl,rfl,rfl,rfl,rfl,rfl,rfl,rfl,rfl,trivial⟩,aq,H⟩
 rintro br σ bt ⟨sum,s2,ρ,rfl,aC,H⟩
 obtain ⟨aS,aT,bu,hM,ar⟩:=M.e_iterN aC
 simp only [zb1] at hM
 clear aC;refine kg 5 ?_
 refine W.cond (decide ((s2:Int)<(l.length:Int))) rfl (fun ah=>?_) (fun ah=>?_)
 ·replace hM:=M.e_t hM ah
  replace ah:=dI ah
  obtain ⟨bv,hM⟩:=M.e_gd hM;refine kg 8 ?_;refine t_alloc (cs:=[I 0,I 0]) H Al129 rfl ?_;intro aD bw H;refine kg 1 ?_;refine t_sw 0 0 [I ((l.getD s2 default).day),I ((l.getD s2 default).stage)] (.agg #[I ((l.getD s2 default).day),I ((l.getD s2 default).stage)]) H rfl rfl Sz129 rfl rfl rfl rfl ?_;intro bx H;obtain ⟨bz,hM⟩:=M.e_gd hM;obtain ⟨bA,hM⟩:=M.e_gd hM;refine kg 23 ?_;obtain ⟨bB,aU,hM⟩:=M.e_bind hM;refine s_call cf68 [ab,I (s2:Int),I apart] rfl (zdE l (s2:Int) apart (az.app _) al aU _ (H.gt 1)) ?_
  rintro vq bC ⟨r4,rfl,hvq,ac⟩
  subst vq;(try dsimp only at hM);replace H:=H.bk ac;clear ac;obtain ⟨bD,hM⟩:=M.e_gd hM
  obtain ⟨au,aV,av⟩:=sl_lohi T27.und T27.size am (i:=(s2:Int)) (j:=r4) (by omega) (by omega) (by omega)
  replace av:Sl _ au ((dues.take (Int.toNat r4)).drop s2):=av
  refine s_val (x_sl (v:=ak) (u:=au) (lo':=some (I (s2:Int))) (hi':=some (I r4)) (mx':=none) rfl rfl rfl rfl (aV _)) ?_
  have bE:=(av).len_le
  refine kg 4 ?_;obtain ⟨aW,aw,aX⟩:=M.e_bind hM
  obtain ⟨aR,aw⟩:=M.e_iter aw
  refine W.loop (fun m σ W=>∃ (has:Int) (s:Nat) (ρ:Env),σ=upds ρ [(0,ab),(1,I apart),(2,I threshold),(3,I worth),(4,ak),(13,I (sum+(dues.getD s2 0))),(15,Pq aD),(16,I has),(36,ab),(37,I (l.length:Int)),(38,I (s2:Int)),(55,au),(56,I (((dues.take (Int.toNat r4)).drop s2).length:Int)),(57,I (s:Int))]/\M.iterN (zco dues s2 r4) m (has,s)=some aW/\St w W [cBlk aD [I ((l.getD s2 default).day),I ((l.getD s2 default).stage)] 129] R) ?_ ?_
  ·exact ⟨_,0,0,_,upds_of _ _ ⟨rfl,rfl,rfl,rfl,rfl,rfl,rfl,rfl,rfl,rfl,rfl,rfl,rfl,rfl,trivial⟩,aw,H⟩
  rintro bF σ bG ⟨has,s,ρ,rfl,aE,H⟩
  obtain ⟨aY,aZ,bH,hM,aF⟩:=M.e_iterN aE
  simp only [zco] at hM
  clear aE;refine kg 5 ?_
  refine W.cond (decide ((s:Int)<(((dues.take (Int.toNat r4)).drop s2).length:Int))) rfl (fun ai=>?_) (fun ai=>?_)
  ·replace hM:=M.e_t hM ai
   replace ai:=dI ai
   obtain ⟨bI,hM⟩:=M.e_gd hM;obtain ⟨bJ,hM⟩:=M.e_gd hM;refine kg 19 ?_
   exact ⟨aY,aZ,has+(((dues.take (Int.toNat r4)).drop s2).getD s 0),s+1,_,upds_of _ _ ⟨rfl,rfl,rfl,rfl,rfl,rfl,rfl,rfl,rfl,rfl,rfl,rfl,rfl,rfl,trivial⟩,M.e_inl hM aF,H⟩
  replace hM:=M.e_f hM ai
  replace ai:=dI ai
  refine W.exit ?_
  have a6:=M.e_inr hM aF
  subst a6;replace hM:=aX;(try dsimp only at hM);obtain ⟨bK,hM⟩:=M.e_gd hM;refine kg 9 ?_
  refine W.cond (decide (has<(((l.getD s2 default).stage)-threshold))) rfl (fun aj=>?_) (fun aj=>?_)
  ·replace hM:=M.e_t hM aj
   replace aj:=dI aj
   refine kg 5 ?_;refine W.ret ?_
   have a7:=M.e_inr hM ar
   subst a7;replace hM:=aB;(try dsimp only at hM)
   have aa:=M.e_pure hM
   exact ⟨_,resE_tmp2 rfl,⟨false,0,aa,rfl,(H.pk [])⟩⟩
  replace hM:=M.e_f hM aj
  replace aj:=dI aj
  refine kg 5 ?_
  exact ⟨aS,aT,sum+(dues.getD s2 0),s2+1,_,upds_of _ _ ⟨rfl,rfl,rfl,rfl,rfl,rfl,rfl,rfl,rfl,trivial⟩,M.e_inl hM ar,(H.pk [])⟩
 replace hM:=M.e_f hM ah
 replace ah:=dI ah
 refine W.exit ?_
 have a8:=M.e_inr hM ar
 subst a8;replace hM:=aB;(try dsimp only at hM);refine kg 8 ?_;refine W.ret ?_
 have aa:=M.e_pure hM
 exact ⟨_,resE_tmp2 rfl,⟨(decide (sum<=worth)),0,aa,rfl,H⟩⟩

def zcw (a b:List Int):Nat->M (Nat ⊕ (Unit ⊕ Unit)):=fun i =>
  bif decide ((i:Int)<(a.length:Int)) then (
  M.grd (decide ((i:Int)<(a.length:Int))) <|
  M.grd (decide ((i:Int)<(b.length:Int))) <|
  bif (a.getD i 0) != (b.getD i 0) then (
  M.pure (.inr (.inl ())))
  else (
  M.pure (.inl (i+1))))
  else (
  M.pure (.inr (.inr ())))
def zcP (a b:List Int):M Bool :=
  bif (a.length:Int) != (b.length:Int) then (
  M.pure false)
  else (
  M.bind (M.iter (zcw a b) 0) fun x_=>match x_ with
  | (.inl (_:Unit))=>(
  M.pure false)
  | (.inr (_:Unit))=>(
  M.pure true))
theorem zdZ {R:List Chunk} {ak:Cells} {ag:Value} {al:Cells} {ah:Value} (a:List Int) (b:List Int) (az:Reads R ak) (am:Sl ak ag a) (aA:Reads R al) (ar:Sl al ah b) {r:Bool} (hM:(zcP a b).Ends r) (w:World) (H:St w w [] R):Ret Tryz.prog 35 #[ag,ah] w fun v w'=>∃ (y0:Bool),y0=r/\v=B y0/\St w w' [] R:=by
 refine ret_of_W Tryz.func35 rfl rfl rfl ?_
 have aB:=(am).len_le
 have aC:=(ar).len_le
 refine kg 13 ?_
 refine W.cond ((a.length:Int) != (b.length:Int)) rfl (fun aa=>?_) (fun aa=>?_)
 ·replace hM:=M.e_t hM aa
  replace aa:=dI aa
  refine kg 4 ?_;refine W.ret ?_
  have ae:=M.e_pure hM
  exact ⟨_,resE_tmp rfl,⟨false,ae,rfl,H⟩⟩
 replace hM:=M.e_f hM aa
 replace aa:=dI aa
 refine kg 7 ?_;obtain ⟨au,ai,ao⟩:=M.e_bind hM
 obtain ⟨aD,ai⟩:=M.e_iter ai
 refine W.loop (fun m σ W=>∃ (i:Nat) (ρ:Env),σ=upds ρ [(0,ag),(1,ah),(5,I (i:Int))]/\M.iterN (zcw a b) m i=some au/\St w W [] R) ?_ ?_
 ·exact ⟨_,0,_,upds_of _ _ ⟨rfl,rfl,rfl,trivial⟩,ai,H⟩
 rintro aE σ aF ⟨i,ρ,rfl,ap,H⟩
 obtain ⟨av,aw,aG,hM,aj⟩:=M.e_iterN ap
 simp only [zcw] at hM
 clear ap
 have aH:=(am).len_le
 refine kg 8 ?_
 refine W.cond (decide ((i:Int)<(a.length:Int))) rfl (fun ab=>?_) (fun ab=>?_)
 ·replace hM:=M.e_t hM ab
  replace ab:=dI ab
  refine kg 4 ?_;refine W.draw (fun W=>St w W [] R) [(0,true),(1,true),(2,true),(3,true),(4,true),(5,true),(6,true),(7,true),(8,true)] mixed (by decide +kernel) rfl ?_;intro aI aq;replace H:=H.ext aq;clear aq
  refine ⟨(H.pk []),?_⟩
  obtain ⟨aJ,hM⟩:=M.e_gd hM;obtain ⟨aK,hM⟩:=M.e_gd hM;refine kg 10 ?_
  refine W.cond ((a.getD i 0) != (b.getD i 0)) rfl (fun ac=>?_) (fun ac=>?_)
  ·replace hM:=M.e_t hM ac
   replace ac:=dI ac
   refine kg 4 ?_;refine W.ret ?_
   have ax:=M.e_inr hM aj
   subst ax;replace hM:=ao;(try dsimp only at hM)
   have ae:=M.e_pure hM
   exact ⟨_,resE_tmp rfl,⟨false,ae,rfl,H⟩⟩
  replace hM:=M.e_f hM ac
  replace ac:=dI ac
  refine kg 6 ?_
  exact ⟨av,aw,i+1,_,upds_of _ _ ⟨rfl,rfl,rfl,trivial⟩,M.e_inl hM aj,H⟩
 replace hM:=M.e_f hM ab
 replace ab:=dI ab
 refine W.exit ?_
 have ay:=M.e_inr hM aj
 subst ay;replace hM:=ao;(try dsimp only at hM);refine kg 4 ?_;refine W.ret ?_
 have ae:=M.e_pure hM
 exact ⟨_,resE_tmp rfl,⟨true,ae,rfl,H⟩⟩

def zaS  : M ((List Yr) × (List Old10) × Int × Int) :=
  M.pure (([(⟨(1905:Int),(400:Int),(420:Int)⟩:Yr),(⟨(1906:Int),(250:Int),(250:Int)⟩:Yr)]),([(⟨(1900:Int),(1904:Int),(500:Int),([(1902:Int)])⟩:Old10)]),1900,1909)
theorem zbH {R:List Chunk}    {r:((List Yr) × (List Old10) × Int × Int)} (hM:(zaS).Ends r) (w:World) (H:St w w [] R):Ret Tryz.prog 36 #[] w fun v w'=>∃ (y0:List Yr) (y1:List Old10) (y2:Int) (y3:Int) (u0:Value) (u1:Value) (rr2:List (Raw 3)) (ai:Base),(y0,y1,y2,y3)=r/\v = .agg #[u0,u1,I y2,I y3]/\St w w' [cOwn (α:=Yr) 46 u0 y0,cOwn (α:=Raw 3) 120 u1 rr2,cRo ai] R/\RepR (α:=Old10) ai.cells rr2 y1:=by
 refine ret_of_W Tryz.func36 rfl rfl rfl ?_;refine kg 2 ?_;refine t_alloc (cs:=[.slice none 0 0,.slice none 0 0,I 0,I 0]) H Al26 rfl ?_;intro aq ar H;refine kg 3 ?_;refine s_val (x_bld (ps:=[(0,I 400),(1,I 420)]) (zs:=[I 0,I 0]) (L':=[I 400,I 420]) rfl Tryz.underlying31 Al31 rfl (Bd31 Tryz.underlying31) (.cons (cs:=[I 400]) rfl rfl rfl rfl rfl<|.cons (cs:=[I 420]) rfl rfl rfl rfl rfl<|.nil))<|s_val (x_bld (ps:=[(0,I 1905),(1,.agg #[I 400,I 420])]) (zs:=[I 0,I 0,I 0]) (L':=[I 1905,I 400,I 420]) rfl Tryz.underlying46 Al46 rfl (Bd46 Tryz.underlying46) (.cons (cs:=[I 1905]) rfl rfl rfl rfl rfl<|.cons (cs:=[I 400,I 420]) rfl rfl rfl rfl rfl<|.nil))<|s_val (x_bld (ps:=[(0,I 250),(1,I 250)]) (zs:=[I 0,I 0]) (L':=[I 250,I 250]) rfl Tryz.underlying31 Al31 rfl (Bd31 Tryz.underlying31) (.cons (cs:=[I 250]) rfl rfl rfl rfl rfl<|.cons (cs:=[I 250]) rfl rfl rfl rfl rfl<|.nil))<|s_val (x_bld (ps:=[(0,I 1906),(1,.agg #[I 250,I 250])]) (zs:=[I 0,I 0,I 0]) (L':=[I 1906,I 250,I 250]) rfl Tryz.underlying46 Al46 rfl (Bd46 Tryz.underlying46) (.cons (cs:=[I 1906]) rfl rfl rfl rfl rfl<|.cons (cs:=[I 250,I 250]) rfl rfl rfl rfl rfl<|.nil)) ?_;refine t_bs (α:=Yr) T23 [.agg #[I 1905,I 400,I 420],.agg #[I 1906,I 250,I 250]] [(⟨(1905:Int),(400:Int),(420:Int)⟩:Yr),(⟨(1906:Int),(250:Int),(250:Int)⟩:Yr)] H rfl (.cons rfl (Flat.rep_enc _ (⟨(1905:Int),(400:Int),(420:Int)⟩:Yr))<|.cons rfl (Flat.rep_enc _ (⟨(1906:Int),(250:Int),(250:Int)⟩:Yr))<|.nil) rfl rfl rfl ?_;intro aa au H;refine t_bs (α:=Int) T27 [I 1902] [(1902:Int)] H rfl (.cons rfl (Flat.rep_enc _ (1902:Int))<|.nil) rfl rfl rfl ?_;intro ac av H;refine s_val (x_bld (ps:=[(0,I 1900),(1,I 1904),(2,I 500),(3,ac)]) (zs:=[I 0,I 0,I 0,.slice none 0 0]) (L':=[I 1900,I 1904,I 500,ac]) rfl Tryz.underlying120 Al120 rfl (Bd120 Tryz.underlying120) (.cons (cs:=[I 1900]) rfl rfl rfl rfl rfl<|.cons (cs:=[I 1904]) rfl rfl rfl rfl rfl<|.cons (cs:=[I 500]) rfl rfl rfl rfl rfl<|.cons (cs:=[ac]) (Sl.cells (H.os 0)) rfl rfl rfl rfl<|.nil)) ?_
 obtain ⟨aw,H⟩:=H.emptyE
 obtain ⟨ax,H,al⟩:=H.freezeE (k:=1) rfl
 replace H:=H.nf
 have ag:=al
 obtain ⟨aj,H,ay,am⟩:=H.joinE (i:=0) (j:=1) rfl rfl
 replace ag:=ag.mono am
 obtain ⟨ae,ak⟩:∃ r:Raw 3,r.cs=[I 1900,I 1904,I 500,ac]:=⟨Raw.of [I 1900,I 1904,I 500,ac] rfl (by simp only [List.all_cons,List.all_nil,Bool.true_and,Bool.and_true,Sl.oc ag]; try rfl),rfl⟩
 have ah:RepR (α:=Old10) aj.cells [ae] [(⟨(1900:Int),(1904:Int),(500:Int),([(1902:Int)])⟩:Old10)]:=.cons (by rw [ak]; exact ⟨_,rfl,ag⟩)<|.nil
 refine t_bs (α:=Raw 3) T24 [.agg #[I 1900,I 1904,I 500,ac]] [ae] H rfl (.cons (by rw [show (Flat.enc ae:List Value)=ae.cs from rfl,ak]; rfl) (Flat.rep_enc _ _)<|.nil) rfl rfl rfl ?_;intro ab az H;replace H:=H.nf;refine s_val (x_bld (ps:=[(2,I 1900),(3,I 1909),(0,aa),(1,ab)]) (zs:=[.slice none 0 0,.slice none 0 0,I 0,I 0]) (L':=[aa,ab,I 1900,I 1909]) rfl Tryz.underlying26 Al26 rfl (Bd26 Tryz.underlying26) (.cons (cs:=[I 1900]) rfl rfl rfl rfl rfl<|.cons (cs:=[I 1909]) rfl rfl rfl rfl rfl<|.cons (cs:=[aa]) (Sl.cells (H.os 4)) rfl rfl rfl rfl<|.cons (cs:=[ab]) (Sl.cells (rowSl rfl (H.get (k:=0) rfl) (roLe _ (H.get (k:=1) rfl)) ah)) rfl rfl rfl rfl<|.nil)) ?_;refine t_sw 5 0 [aa,ab,I 1900,I 1909] (.agg #[aa,ab,I 1900,I 1909]) H rfl rfl Sz26 rfl rfl rfl (by simp only [List.all_cons,List.all_nil,Bool.true_and,Bool.and_true,Sl.oc (H.os 4),Sl.oc (rowSl rfl (H.get (k:=0) rfl) (roLe _ (H.get (k:=1) rfl)) ah)]; try rfl) ?_;intro aA H;refine s_nil ?_;replace H:=H.pk [0,1,4,5];refine W.ret ?_
 have ao:=(H.bl 3)
 have ap:=M.e_pure hM
 exact ⟨_,(resE_of1 (v:=.agg #[aa,ab,I 1900,I 1909]) rfl (.cell (v:=.agg #[aa,ab,I 1900,I 1909]) rfl (run_loadVar_ag (ds:=[aa,ab,I 1900,I 1909]) Ag26 Sz26 ao rfl rfl)<|.nil)),⟨([(⟨(1905:Int),(400:Int),(420:Int)⟩:Yr),(⟨(1906:Int),(250:Int),(250:Int)⟩:Yr)]),([(⟨(1900:Int),(1904:Int),(500:Int),([(1902:Int)])⟩:Old10)]),1900,1909,aa,ab,[ae],aj,ap,rfl,(H.pk [2,0,1]),ah⟩⟩

def zcu  : (Int × Int)->M ((Int × Int) ⊕ Int):=fun (a,b) =>
  bif b != 0 then (
  M.grd (decide ((0:Int)<=a)&&decide ((0:Int)<b)) <|
  M.pure (.inl (b,a % b)))
  else (
  M.pure (.inr a))
def zcd (n aa:Int):M (Int × Int) :=
  M.bind (M.iter (zcu) (n,aa)) fun a2 =>
  M.grd (decide (0<=n)&&decide (n<=(9223372036854775807:Int))&&decide ((0:Int)<a2)) <|
  M.grd (decide (0<=aa)&&decide (aa<=(9223372036854775807:Int))&&decide ((0:Int)<a2)) <|
  M.pure ((n / a2),(aa / a2))
theorem zc3 {R:List Chunk}  (n:Int) (aa:Int)  {r:(Int × Int)} (hM:(zcd n aa).Ends r) (w:World) (H:St w w [] R):Ret Tryz.prog 69 #[I n,I aa] w fun v w'=>∃ (y0:Int) (y1:Int),(y0,y1)=r/\v = .agg #[I y0,I y1]/\St w w' [] R:=by
 refine ret_of_W Tryz.func69 rfl rfl rfl ?_;refine kg 2 ?_;refine t_alloc (cs:=[I 0,I 0]) H Al101 rfl ?_;intro ae ar H;refine kg 10 ?_;obtain ⟨aj,ag,ak⟩:=M.e_bind hM
 obtain ⟨au,ag⟩:=M.e_iter ag
 refine W.loop (fun m σ W=>∃ (a:Int) (b:Int) (ρ:Env),σ=upds ρ [(0,I n),(1,I aa),(4,Pq ae),(5,I a),(6,I b)]/\M.iterN (zcu) m (a,b)=some aj/\St w W [cBlk ae [I 0,I 0] 101] R) ?_ ?_
 ·exact ⟨_,n,aa,_,upds_of _ _ ⟨rfl,rfl,rfl,rfl,rfl,trivial⟩,ag,H⟩
 rintro av σ aw ⟨a,b,ρ,rfl,ah,H⟩
 obtain ⟨al,am,ax,hM,ai⟩:=M.e_iterN ah
 simp only [zcu] at hM
 clear ah;refine kg 6 ?_
 refine W.cond (b != 0) rfl (fun ab=>?_) (fun ab=>?_)
 ·replace hM:=M.e_t hM ab
  replace ab:=dI ab
  refine kg 2 ?_;refine W.draw (fun W=>St w W [cBlk ae [I 0,I 0] 101] R) [(0,true),(1,true),(2,true),(3,true),(4,true),(5,true)] mixed (by decide +kernel) rfl ?_;intro ay ac;replace H:=H.ext ac;clear ac
  refine ⟨(H.pk [0]),?_⟩
  obtain ⟨az,hM⟩:=M.e_gd hM;refine kg 3 ?_;refine d_q rfl (fun w' H=>x_rem' (a:=a) (b:=b) rfl rfl (by omega)) ?_;refine kg 3 ?_
  exact ⟨al,am,b,a % b,_,upds_of _ _ ⟨rfl,rfl,rfl,rfl,rfl,trivial⟩,M.e_inl hM ai,H⟩
 replace hM:=M.e_f hM ab
 replace ab:=dI ab
 refine W.exit ?_
 have ao:=M.e_inr hM ai
 subst ao;replace hM:=ak;(try dsimp only at hM);refine W.seq ?_;refine W.draw (fun W=>St w W [] R) [(0,true),(1,true),(2,true),(3,true),(4,true),(5,true),(6,true),(7,false)] mixed (by decide +kernel) rfl ?_;intro aA ac;replace H:=H.ext ac;clear ac
 refine ⟨(H.pk []),?_⟩
 obtain ⟨aB,hM⟩:=M.e_gd hM;obtain ⟨aC,hM⟩:=M.e_gd hM;refine kg 6 ?_;refine d_q rfl (fun w' H=>x_bld (ps:=[(0,I (n / a)),(1,I (aa / a))]) (zs:=[I 0,I 0]) (L':=[I (n / a),I (aa / a)]) rfl Tryz.underlying101 Al101 rfl (Bd101 Tryz.underlying101) (.cons (cs:=[I (n / a)]) rfl rfl rfl rfl rfl<|.cons (cs:=[I (aa / a)]) rfl rfl rfl rfl rfl<|.nil))<|d_l rfl ?_;refine t_sw 0 0 [I (n / a),I (aa / a)] (.agg #[I (n / a),I (aa / a)]) H rfl rfl Sz101 rfl rfl rfl rfl ?_;intro aD H
 refine s_nil ⟨(H.pk []),?_⟩
 refine d_nil ?_;refine W.ret ?_
 have ap:=(H.bl 0)
 have aq:=M.e_pure hM
 exact ⟨_,(resE_of1 (v:=.agg #[I (n / a),I (aa / a)]) rfl (.cell (v:=.agg #[I (n / a),I (aa / a)]) rfl (run_loadVar_ag (ds:=[I (n / a),I (aa / a)]) Ag101 Sz101 ap rfl rfl)<|.nil)),⟨(n / a),(aa / a),aq,rfl,(H.pk [])⟩⟩

def zcI (ac:List Yr) (ae:List Old10) (aa ab stage:Int):M (Int × Int × Int × Int × Int) :=
  M.bind (zaj ac ae aa ab aa ab stage) fun (ag,ah,r1) =>
  bif r1 != 0 then (
  M.pure (0,0,0,0,r1))
  else (
  M.grd (decide ((-9223372036854775808:Int)<=(ab-aa))&&decide ((ab-aa)<=(9223372036854775807:Int))) <|
  M.grd (decide ((-9223372036854775808:Int)<=((ab-aa)+1))&&decide (((ab-aa)+1)<=(9223372036854775807:Int))) <|
  M.bind (zcd ag ((ab-aa)+1)) fun (r0,ai) =>
  M.bind (zcd ah ((ab-aa)+1)) fun (aj,ak) =>
  M.pure (r0,ai,aj,ak,0))
theorem zdh {R:List Chunk} {au:Cells} {ah:Value} {av:Cells} {ai:Value} (aq:List Yr) (ar:List Old10) (aa:Int) (ab:Int) (stage:Int) (ay:Reads R au) (az:Sl au ah aq) (aA:Reads R av) (aB:Sl av ai ar) {r:(Int × Int × Int × Int × Int)} (hM:(zcI aq ar aa ab stage).Ends r) (w:World) (H:St w w [] R):Ret Tryz.prog 37 #[.agg #[ah,ai,I aa,I ab],I stage] w fun v w'=>∃ (y0:Int) (y1:Int) (y2:Int) (y3:Int) (y4:Int),(y0,y1,y2,y3,y4)=r/\v = .tuple #[.agg #[I y0,I y1],.agg #[I y2,I y3],I y4]/\St w w' [] R:=by
 refine ret_of_W Tryz.func37 rfl rfl rfl ?_;refine kg 2 ?_;refine t_bx [ah,ai,I aa,I ab] H rfl ?_;intro aw aN H;refine t_alloc (cs:=[I 0,I 0]) H Al101 rfl ?_;intro aO aP H;refine t_alloc (cs:=[I 0,I 0]) H Al101 rfl ?_;intro aQ aR H;refine kg 10 ?_;obtain ⟨aS,aC,hM⟩:=M.e_bind hM;refine s_call cf9 [.agg #[ah,ai,I aa,I ab],I aa,I ab,I stage] rfl (zbU aq ar aa ab aa ab stage (ay.app _) az (aA.app _) aB aC _ (H.gt 3)) ?_
 rintro vq aT ⟨aj,ak,r1,rfl,hvq,ac⟩
 subst vq;(try dsimp only at hM);replace H:=H.bk ac;clear ac;refine kg 3 ?_;refine t_alloc (cs:=[I 0,I 0]) H Al31 rfl ?_;intro ax aU H;refine t_sw 0 0 [I aj,I ak] (.agg #[I aj,I ak]) H rfl rfl Sz31 rfl rfl rfl rfl ?_;intro aV H;refine kg 8 ?_
 refine W.cond (r1 != 0) rfl (fun ae=>?_) (fun ae=>?_)
 ·replace hM:=M.e_t hM ae
  replace ae:=dI ae
  refine W.seq ?_;refine W.drawT (fun W=>St w W [cBlk ax [I aj,I ak] 31,cBlk aw [ah,ai,I aa,I ab] 26] R) (.q 2 (.l2 0 (.l2 1 (.l 3 (.l 4 (.q 5 .nil))) 3 (.l 1 (.l 4 (.q 5 .nil)))) 1 (.l 0 (.l 3 (.l 4 (.q 5 .nil)))))) mixed (by decide +kernel) rfl ?_;intro aW ap;replace H:=H.ext ap;clear ap
  refine ⟨(H.pk [0,3]),?_⟩
  refine kg 1 ?_;refine t_l2 rfl rfl ?_ ?_
  ·skip
   refine kg 1 ?_
   refine s_nil ⟨(H.pk [0,3]),?_⟩
   refine t_l2 rfl rfl ?_ ?_
   ·skip
    refine kg 1 ?_
    refine s_nil ⟨(H.pk [0,3]),?_⟩
    refine t_l rfl ?_;refine t_sw 2 0 [I 0,I 0] (.agg #[I 0,I 0]) H rfl rfl Sz101 rfl rfl rfl rfl ?_;intro aX H
    refine s_nil ⟨(H.pk [0,3]),?_⟩
    refine t_l rfl ?_;refine t_sw 1 0 [I 0,I 0] (.agg #[I 0,I 0]) H rfl rfl Sz101 rfl rfl rfl rfl ?_;intro aY H
    refine s_nil ⟨(H.pk [0,3]),?_⟩
    refine kg 2 ?_;replace H:=H.pk [1,2];refine W.ret ?_
    have aD:=(H.bl 1)
    have aE:=(H.bl 0)
    have ag:=M.e_pure hM
    exact ⟨_,(resE_ofn (vs:=[.agg #[I 0,I 0],.agg #[I 0,I 0],I r1]) rfl rfl (.cell (v:=.agg #[I 0,I 0]) rfl (run_loadVar_ag (ds:=[I 0,I 0]) Ag101 Sz101 aD rfl rfl)<|.cell (v:=.agg #[I 0,I 0]) rfl (run_loadVar_ag (ds:=[I 0,I 0]) Ag101 Sz101 aE rfl rfl)<|.tmp (v:=I r1) rfl<|.nil)),⟨0,0,0,0,r1,ag,rfl,(H.pk [])⟩⟩
   skip
   refine t_sw 2 0 [I 0,I 0] (.agg #[I 0,I 0]) H rfl rfl Sz101 rfl rfl rfl rfl ?_;intro aZ H
   refine s_nil ⟨(H.pk [0,3]),?_⟩
   refine t_l rfl ?_;refine kg 1 ?_
   refine s_nil ⟨(H.pk [0,3]),?_⟩
   refine t_l rfl ?_;refine t_sw 1 0 [I 0,I 0] (.agg #[I 0,I 0]) H rfl rfl Sz101 rfl rfl rfl rfl ?_;intro a6 H
   refine s_nil ⟨(H.pk [0,3]),?_⟩
   refine kg 2 ?_;replace H:=H.pk [1,2];refine W.ret ?_
   have aF:=(H.bl 1)
   have aG:=(H.bl 0)
   have ag:=M.e_pure hM
   exact ⟨_,(resE_ofn (vs:=[.agg #[I 0,I 0],.agg #[I 0,I 0],I r1]) rfl rfl (.cell (v:=.agg #[I 0,I 0]) rfl (run_loadVar_ag (ds:=[I 0,I 0]) Ag101 Sz101 aF rfl rfl)<|.cell (v:=.agg #[I 0,I 0]) rfl (run_loadVar_ag (ds:=[I 0,I 0]) Ag101 Sz101 aG rfl rfl)<|.tmp (v:=I r1) rfl<|.nil)),⟨0,0,0,0,r1,ag,rfl,(H.pk [])⟩⟩
  skip
  refine kg 1 ?_
  refine s_nil ⟨(H.pk [0,3]),?_⟩
  refine t_l rfl ?_;refine kg 1 ?_
  refine s_nil ⟨(H.pk [0,3]),?_⟩
  refine t_l rfl ?_;refine t_sw 2 0 [I 0,I 0] (.agg #[I 0,I 0]) H rfl rfl Sz101 rfl rfl rfl rfl ?_;intro a7 H
  refine s_nil ⟨(H.pk [0,3]),?_⟩
  refine t_l rfl ?_;refine t_sw 1 0 [I 0,I 0] (.agg #[I 0,I 0]) H rfl rfl Sz101 rfl rfl rfl rfl ?_;intro a8 H
  refine s_nil ⟨(H.pk [0,3]),?_⟩
  refine kg 2 ?_;replace H:=H.pk [1,2];refine W.ret ?_
  have aH:=(H.bl 1)
  have aI:=(H.bl 0)
  have ag:=M.e_pure hM
  exact ⟨_,(resE_ofn (vs:=[.agg #[I 0,I 0],.agg #[I 0,I 0],I r1]) rfl rfl (.cell (v:=.agg #[I 0,I 0]) rfl (run_loadVar_ag (ds:=[I 0,I 0]) Ag101 Sz101 aH rfl rfl)<|.cell (v:=.agg #[I 0,I 0]) rfl (run_loadVar_ag (ds:=[I 0,I 0]) Ag101 Sz101 aI rfl rfl)<|.tmp (v:=I r1) rfl<|.nil)),⟨0,0,0,0,r1,ag,rfl,(H.pk [])⟩⟩
 replace hM:=M.e_f hM ae
 replace ae:=dI ae
 obtain ⟨ba,hM⟩:=M.e_gd hM;obtain ⟨bb,hM⟩:=M.e_gd hM;refine kg 12 ?_;refine W.draw (fun W=>St w W [cBlk ax [I aj,I ak] 31,cBlk aw [ah,ai,I aa,I ab] 26] R) [(0,true),(1,true),(2,true),(4,true),(5,true),(6,true),(3,false),(7,false),(8,false),(9,false),(10,true)] mixed (by decide +kernel) rfl ?_;intro bc ap;replace H:=H.ext ap;clear ap
 refine ⟨(H.pk [0,3]),?_⟩
 refine kg 6 ?_;refine d_l rfl ?_;obtain ⟨bf,aJ,hM⟩:=M.e_bind hM;refine s_call cf69 [I aj,I ((ab-aa)+1)] rfl (zc3 aj ((ab-aa)+1) aJ _ (H.gt 4)) ?_
 rintro vq bg ⟨r0,al,rfl,hvq,ac⟩
 subst vq;(try dsimp only at hM);replace H:=H.bk ac;clear ac
 refine s_nil ⟨(H.pk [0,3]),?_⟩
 refine d_l rfl ?_;obtain ⟨bh,aK,hM⟩:=M.e_bind hM;refine s_call cf69 [I ak,I ((ab-aa)+1)] rfl (zc3 ak ((ab-aa)+1) aK _ (H.gt 4)) ?_
 rintro vq bi ⟨am,ao,rfl,hvq,ac⟩
 subst vq;(try dsimp only at hM);replace H:=H.bk ac;clear ac
 refine s_nil ⟨(H.pk [0,3]),?_⟩
 refine d_l rfl ?_;refine t_sw 2 0 [I r0,I al] (.agg #[I r0,I al]) H rfl rfl Sz101 rfl rfl rfl rfl ?_;intro bj H
 refine s_nil ⟨(H.pk [0,3]),?_⟩
 refine d_l rfl ?_;refine t_sw 1 0 [I am,I ao] (.agg #[I am,I ao]) H rfl rfl Sz101 rfl rfl rfl rfl ?_;intro bm H
 refine s_nil ⟨(H.pk [0,3]),?_⟩
 refine kg 2 ?_;replace H:=H.pk [1,2];refine W.ret ?_
 have aL:=(H.bl 1)
 have aM:=(H.bl 0)
 have ag:=M.e_pure hM
 exact ⟨_,(resE_ofn (vs:=[.agg #[I r0,I al],.agg #[I am,I ao],I 0]) rfl rfl (.cell (v:=.agg #[I r0,I al]) rfl (run_loadVar_ag (ds:=[I r0,I al]) Ag101 Sz101 aL rfl rfl)<|.cell (v:=.agg #[I am,I ao]) rfl (run_loadVar_ag (ds:=[I am,I ao]) Ag101 Sz101 aM rfl rfl)<|.tmp (v:=I 0) rfl<|.nil)),⟨r0,al,am,ao,0,ag,rfl,(H.pk [])⟩⟩

def zaC  : (List Int)->(Int × Span)->M ((List Int) ⊕ Unit):=fun l (x2,x3) =>
  M.bind (zcs x3) fun r2 =>
  M.grd (decide ((l.length+([(r2:Int)]).length)*8<=140737488355328)) <|
  M.pure (.inl (l++([(r2:Int)])))
def zcq (ab:List Yr) (ac:List Old10) (ae ag:Int) (ah:List (Int × Span)) (ai aj aa:Int):M Int :=
  M.bind (zai ab ac ae ag ah ai aj) fun (ak,al) =>
  M.bind (zal (M.yl zaC) (.inl ([])) ak al ab ac ae ag ah) fun x_=>match x_ with
  | .inl l=>(
  M.grd (decide (l.length<=1000000)) <|
  M.grd (decide ((-9223372036854775808:Int)<=(((isort l).length:Int)-aa))&&decide ((((isort l).length:Int)-aa)<=(9223372036854775807:Int))) <|
  M.grd (decide ((0:Int)<=(((isort l).length:Int)-aa))&&decide ((((isort l).length:Int)-aa)<((isort l).length:Int))) <|
  M.pure ((isort l).getD (Int.toNat (((isort l).length:Int)-aa)) 0))
  | .inr _=>M.fail
theorem zdu {R:List Chunk} {aM:Nat} {ag:Nat} {aN:Cells} {aO:Value} {aP:Cells} {aQ:Value} {aR:Nat} {aS:Nat} {aT:Nat} {aU:Nat} (au:List Yr) (av:List Old10) (aw:Int) (ax:Int) (ay:List (Int × Span)) (az:Int) (aA:Int) (aH:Int) (aB:Reads R aN) (aI:Sl aN aO au) (aC:Reads R aP) (aJ:Sl aP aQ av) (aD:Has R (cMl I encSp aR ay)) (aE:Has R (cBlk ag [aO,aQ,I aw,I ax,.map (some aR)] 118)) (aV:Has R (cBlk aM [Pq ag] 76)) (aW:Has R (cBlk aS [I az] 3)) (aX:Has R (cBlk aT [I aA] 3)) (aY:Has R (cBlk aU [I aH] 3)) {r:Int} (hM:(zcq au av aw ax ay az aA aH).Ends r) (w:World) (H:St w w [] R):Ret Tryz.prog 70 #[.agg #[.func (.func 57) #[] #[]],Pq aM,Pq aS,Pq aT,Pq aU] w fun v w'=>∃ (y0:Int),y0=r/\v=I y0/\St w w' [] R:=by
 refine ret_of_WD Tryz.func70 rfl rfl rfl ?_
 replace H:St w w [cMk ([])] R:=H.mk0
 have bw:=aI.len_le
 have bx:=aJ.len_le
 unfold zcq at hM
 refine WD.seq<|WD.of<|W.region rfl ?_;refine t_bx [.func (.func 57) #[] #[]] H rfl ?_;intro am bz H;refine kg 2 ?_;refine WD.seq<|WD.of<|W.region rfl ?_;refine t_alloc (cs:=[.slice none 0 0]) H Al27 rfl ?_;intro ac bA H;refine s_nil<|WD.seq<|WD.seq<|WD.of ?_;refine kg 4 ?_;obtain ⟨bB,bc,hM⟩:=M.e_bind hM;refine s_call cf26 [Pq ag,I az,I aA] rfl (zbd au av aw ax ay az aA (aB.app _) aI (aC.app _) aJ (aD.app _) (aE.app _) bc _ (H.gt 3)) ?_
 rintro vq bC ⟨ah,ai,aj,ak,al,rfl,hvq,ab⟩
 subst vq;(try dsimp only at hM);replace H:=H.bk ab;clear ab;refine s_nil<|WD.block ?_
 replace H:=H.nilOwn (α:=Int) 3
 obtain ⟨bD,bf,hM⟩:=M.e_bind hM;refine WD.range (L:=[cOwn (α:=Int) 3 (.slice none 0 0) ([]),cBlk ac [(.slice none 0 0)] 27,cBlk aj [I ah] 3,cBlk ak [I ai] 3,cBlk al [Pq ag] 76,cBlk am [.func (.func 57) #[] #[]] 89]) [Pq aj,Pq ak,Pq al] (H.pk [6,0,4,1,2,3,5]) rfl cf55 ?_;intro aF ao aK bg aL H
 have hYC:YieldC Tryz.prog ([cMk (ao :: ([])),cBlk aj [I ah] 3,cBlk ak [I ai] 3,cBlk al [Pq ag] 76,cBlk am [.func (.func 57) #[] #[]] 89]++R) arISpan (yJ aF aK (fun l aG=>∃ (aa:Value),aG=[cOwn (α:=Int) 3 aa l,cBlk ac [aa] 27]) (fun (_:Unit) _=>False) (fun _=>.ret)) (.func (.yield aF) #[] #[]) (M.yl zaC):=by
  refine YieldC.mk2 aL (fun l aG=>∃ (aa:Value),aG=[cOwn (α:=Int) 3 aa l,cBlk ac [aa] 27]) (fun (_:Unit) _=>False) (fun _=>.ret) zaC (by rintro l _ h_; obtain ⟨_,rfl⟩:=h_; rfl) (fun _ _ h_=>h_.elim) rfl (arISpan_len rfl) ?_;intro C_ bE x_ bh
  obtain ⟨x2,x3⟩:=x_
  obtain rfl:=bh
  intro w R ae aG s_ r bi hM H
  skip
  obtain ⟨l,bj⟩:∃ y_,y_=s_:=⟨_,rfl⟩
  subst bj
  obtain ⟨aa,rfl⟩:=bi
  replace H:=H.nf;refine W.region rfl ?_;refine t_alloc (cs:=[I 0,I 0]) H Al31 rfl ?_;intro aZ bF H;refine t_sw 0 0 [I x3.lo,I x3.hi] (.agg #[I x3.lo,I x3.hi]) H rfl rfl Sz31 rfl rfl rfl rfl ?_;intro bG H;refine s_nil ?_
  refine ⟨rfl,[cBlk aZ [I x3.lo,I x3.hi] 31],H.pick [0,1,2,3,4,5,6,7] (by decide) rfl,?_⟩
  clear H ae
  intro w R ae H
  replace aB:=aB.sub ae
  replace aC:=aC.sub ae
  replace aD:=aD.sub ae
  replace aE:=aE.sub ae
  replace aV:=aV.sub ae
  replace aW:=aW.sub ae
  replace aX:=aX.sub ae
  replace aY:=aY.sub ae
  replace hM:(zaC l (x2,x3)).Ends r:=hM
  simp only [zaC] at hM
  replace H:=H.nf;refine W.block ?_;refine W.drawT (fun W=>St w W [cBlk aZ [I x3.lo,I x3.hi] 31,cMk (ao :: ([])),cBlk aj [I ah] 3,cBlk ak [I ai] 3,cBlk al [Pq ag] 76,cBlk am [.func (.func 57) #[] #[]] 89] R) (.q 1 (.q 2 (.q 3 (.l2 0 (.l 4 (.l 5 (.l 6 (.l 7 .nil)))) 4 (.l2 0 (.l 5 (.l 6 (.l 7 .nil))) 5 (.l 0 (.l 6 (.l 7 .nil)))))))) mixed (by decide +kernel) rfl ?_;intro bH a6;replace H:=H.ext a6;clear a6
  refine ⟨(H.pk [0,3,4,5,6,7]),?_⟩
  refine kg 3 ?_;refine t_l2 rfl rfl ?_ ?_
  ·skip
   refine kg 1 ?_
   have bI:=Sl.cells (H.os 1)
   have bJ:=Sl.oc (H.os 1)
   refine s_nil ⟨(H.pk [0,3,4,5,6,7]),?_⟩
   refine t_l rfl ?_;obtain ⟨bK,bm,hM⟩:=M.e_bind hM;refine s_callv (f:=57) rfl cf57 [.agg #[I x3.lo,I x3.hi]] rfl (zck x3 bm _ (H.gt 8)) ?_
   rintro vq bL ⟨r2,rfl,hvq,ab⟩
   subst vq;(try dsimp only at hM);replace H:=H.bk ab;clear ab
   refine s_nil ⟨(H.pk [0,3,4,5,6,7]),?_⟩
   refine t_l rfl ?_;refine t_bs (α:=Int) T27 [I r2] [(r2:Int)] H rfl (.cons rfl (Flat.rep_enc _ (r2:Int))<|.nil) rfl rfl rfl ?_;intro bn bM H
   have bN:=Sl.cells (H.os 0)
   have bO:=Sl.oc (H.os 0)
   refine s_nil ⟨(H.pk [1,4,5,6,7,8]),?_⟩
   refine t_l rfl ?_;obtain ⟨bP,hM⟩:=M.e_gd hM;refine t_app (α:=Int) (k:=2) (l:=l) (l2:=[(r2:Int)]) (l':=l++([(r2:Int)])) (vy:=bn) T27 rfl H rfl rfl rfl (H.os 0) (H.ol 0) (rfl) (by first | omega | (simp only [List.length_nil] at *; omega)) ?_;intro ap bQ H;replace H:=H.nf
   have bR:=Sl.cells (H.os 2)
   have bS:=Sl.oc (H.os 2)
   refine s_nil ⟨(H.pk [1,4,5,6,7,8]),?_⟩
   refine t_l rfl ?_;refine t_sw 3 0 [ap] ap H rfl rfl Sz27 (Sl.cells (H.os 2)) rfl rfl (by simp only [List.all_cons,List.all_nil,Bool.true_and,Bool.and_true,Sl.oc (H.os 2)]; try rfl) ?_;intro bT H
   refine s_nil ⟨(H.pk [1,4,5,6,7,8]),?_⟩
   refine t_nil ?_
   exact ⟨l++([(r2:Int)]),[cOwn (α:=Int) 3 ap (l++([(r2:Int)])),cBlk ac [ap] 27],(M.e_pure hM).symm,⟨ap,rfl⟩,H.pick [2,3,4,5,6,7,8] (by decide) rfl⟩
  skip
  obtain ⟨bU,bo,hM⟩:=M.e_bind hM;refine s_callv (f:=57) rfl cf57 [.agg #[I x3.lo,I x3.hi]] rfl (zck x3 bo _ (H.gt 8)) ?_
  rintro vq bV ⟨r2,rfl,hvq,ab⟩
  subst vq;(try dsimp only at hM);replace H:=H.bk ab;clear ab
  have bW:=Sl.cells (H.os 1)
  have bX:=Sl.oc (H.os 1)
  refine s_nil ⟨(H.pk [0,3,4,5,6,7]),?_⟩
  obtain ⟨bY,hM⟩:=M.e_gd hM;refine t_l2 rfl rfl ?_ ?_
  ·skip
   refine kg 1 ?_
   refine s_nil ⟨(H.pk [0,3,4,5,6,7]),?_⟩
   refine t_l rfl ?_;refine t_bs (α:=Int) T27 [I r2] [(r2:Int)] H rfl (.cons rfl (Flat.rep_enc _ (r2:Int))<|.nil) rfl rfl rfl ?_;intro bp bZ H
   have b3:=Sl.cells (H.os 0)
   have b4:=Sl.oc (H.os 0)
   refine s_nil ⟨(H.pk [1,4,5,6,7,8]),?_⟩
   refine t_l rfl ?_;refine t_app (α:=Int) (k:=2) (l:=l) (l2:=[(r2:Int)]) (l':=l++([(r2:Int)])) (vy:=bp) T27 rfl H rfl rfl rfl (H.os 0) (H.ol 0) (rfl) (by first | omega | (simp only [List.length_nil] at *; omega)) ?_;intro aq b6 H;replace H:=H.nf
   have b7:=Sl.cells (H.os 2)
   have b8:=Sl.oc (H.os 2)
   refine s_nil ⟨(H.pk [1,4,5,6,7,8]),?_⟩
   refine t_l rfl ?_;refine t_sw 3 0 [aq] aq H rfl rfl Sz27 (Sl.cells (H.os 2)) rfl rfl (by simp only [List.all_cons,List.all_nil,Bool.true_and,Bool.and_true,Sl.oc (H.os 2)]; try rfl) ?_;intro b9 H
   refine s_nil ⟨(H.pk [1,4,5,6,7,8]),?_⟩
   refine t_nil ?_
   exact ⟨l++([(r2:Int)]),[cOwn (α:=Int) 3 aq (l++([(r2:Int)])),cBlk ac [aq] 27],(M.e_pure hM).symm,⟨aq,rfl⟩,H.pick [2,3,4,5,6,7,8] (by decide) rfl⟩
  skip
  refine t_bs (α:=Int) T27 [I r2] [(r2:Int)] H rfl (.cons rfl (Flat.rep_enc _ (r2:Int))<|.nil) rfl rfl rfl ?_;intro br ca H
  have cb:=Sl.cells (H.os 0)
  have cc:=Sl.oc (H.os 0)
  refine s_nil ⟨(H.pk [1,4,5,6,7,8]),?_⟩
  refine t_l rfl ?_;refine kg 1 ?_
  refine s_nil ⟨(H.pk [1,4,5,6,7,8]),?_⟩
  refine t_l rfl ?_;refine t_app (α:=Int) (k:=2) (l:=l) (l2:=[(r2:Int)]) (l':=l++([(r2:Int)])) (vy:=br) T27 rfl H rfl rfl rfl (H.os 0) (H.ol 0) (rfl) (by first | omega | (simp only [List.length_nil] at *; omega)) ?_;intro ar cd H;replace H:=H.nf
  have ce:=Sl.cells (H.os 2)
  have cf:=Sl.oc (H.os 2)
  refine s_nil ⟨(H.pk [1,4,5,6,7,8]),?_⟩
  refine t_l rfl ?_;refine t_sw 3 0 [ar] ar H rfl rfl Sz27 (Sl.cells (H.os 2)) rfl rfl (by simp only [List.all_cons,List.all_nil,Bool.true_and,Bool.and_true,Sl.oc (H.os 2)]; try rfl) ?_;intro cg H
  refine s_nil ⟨(H.pk [1,4,5,6,7,8]),?_⟩
  refine t_nil ?_
  exact ⟨l++([(r2:Int)]),[cOwn (α:=Int) 3 ar (l++([(r2:Int)])),cBlk ac [ar] 27],(M.e_pure hM).symm,⟨ar,rfl⟩,H.pick [2,3,4,5,6,7,8] (by decide) rfl⟩
 replace H:St w bg (cAll (cObj aF (.loop aK) :: [cOwn (α:=Int) 3 (.slice none 0 0) ([]),cBlk ac [(.slice none 0 0)] 27]) :: [cMk (ao :: ([])),cBlk aj [I ah] 3,cBlk ak [I ai] 3,cBlk al [Pq ag] 76,cBlk am [.func (.func 57) #[] #[]] 89]) R:=St.bundleB (A:=cObj aF (.loop aK) :: [cOwn (α:=Int) 3 (.slice none 0 0) ([]),cBlk ac [(.slice none 0 0)] 27]) (T:=[cMk (ao :: ([])),cBlk aj [I ah] 3,cBlk ak [I ai] 3,cBlk al [Pq ag] 76,cBlk am [.func (.func 57) #[] #[]] 89]) rfl (H.pk [0,2,3,1,4,5,6,7])
 refine (za7 (M.yl zaC) (.inl ([])) ah ai au av aw ax ay hYC ⟨_,rfl,⟨(.slice none 0 0),rfl⟩⟩ (Has.here (k:=1) rfl) (Has.here (k:=2) rfl) (aB.app _) aI (aC.app _) aJ (aD.app _) (aE.app _) (Has.here (k:=3) rfl) bf _ (H.gt 5)).mono ?_
 rintro vq ch ⟨bt,ci,rfl,hvq,ab,a7⟩
 replace H:=H.back ab rfl
 clear ab hYC
 rcases bt with l | _
 ·(try dsimp only at hM)
  obtain ⟨_,rfl,aa,rfl⟩:=a7
  refine ⟨_,[cOwn (α:=Int) 3 aa l,cBlk ac [aa] 27,cBlk aj [I ah] 3,cBlk ak [I ai] 3,cBlk al [Pq ag] 76,cBlk am [.func (.func 57) #[] #[]] 89],H.unbundle.pick [0,3,1,2,4,5,6,7] (by decide) rfl,aL.nb,?_⟩
  intro cj H
  rw [aL.pd]
  replace H:=H.nf
  try simp only []
  replace H:=H.pk [0,1,2];refine WD.seq<|WD.of ?_;obtain ⟨ck,hM⟩:=M.e_gd hM;refine kg 2 ?_;refine s_call cf71 [aa] rfl (sort_any (H.get (k:=1) rfl) (by omega)) ?_
  rintro _ bu ⟨rfl,a8,ba,bb⟩
  replace H:St w bu [cMk (ao :: ([])),cOwn (α:=Int) 3 aa (isort l),cBlk ac [aa] 27] R:=H.sorted (k:=1) rfl a8 ba bb rfl
  clear a8 ba bb
  refine s_nil<|WD.seq<|WD.of ?_
  have cl:=((H.os 1)).len_le
  obtain ⟨cm,hM⟩:=M.e_gd hM;obtain ⟨cn,hM⟩:=M.e_gd hM;refine kg 10 ?_;replace H:=H.pk [0];refine WD.of ?_;refine W.ret ?_;refine bodyD_r (H.pk [0]) ?_;intro co H;replace H:=H.nf
  have bv:=M.e_pure hM
  exact ⟨_,resE_tmp rfl,⟨((isort l).getD (Int.toNat (((isort l).length:Int)-aH)) 0),bv,rfl,H⟩⟩
 obtain ⟨_,_,h_⟩:=a7; exact h_.elim

def zaN  : (List Int)->(Int × Span)->M ((List Int) ⊕ Unit):=fun l (x2,x3) =>
  M.bind (zbB x3) fun r2 =>
  M.grd (decide ((l.length+([(r2:Int)]).length)*8<=140737488355328)) <|
  M.pure (.inl (l++([(r2:Int)])))
def zci (ab:List Yr) (ac:List Old10) (ae ag:Int) (ah:List (Int × Span)) (ai aj aa:Int):M Int :=
  M.bind (zai ab ac ae ag ah ai aj) fun (ak,al) =>
  M.bind (zal (M.yl zaN) (.inl ([])) ak al ab ac ae ag ah) fun x_=>match x_ with
  | .inl l=>(
  M.grd (decide (l.length<=1000000)) <|
  M.grd (decide ((-9223372036854775808:Int)<=(((isort l).length:Int)-aa))&&decide ((((isort l).length:Int)-aa)<=(9223372036854775807:Int))) <|
  M.grd (decide ((0:Int)<=(((isort l).length:Int)-aa))&&decide ((((isort l).length:Int)-aa)<((isort l).length:Int))) <|
  M.pure ((isort l).getD (Int.toNat (((isort l).length:Int)-aa)) 0))
  | .inr _=>M.fail
theorem zdw {R:List Chunk} {aM:Nat} {ag:Nat} {aN:Cells} {aO:Value} {aP:Cells} {aQ:Value} {aR:Nat} {aS:Nat} {aT:Nat} {aU:Nat} (au:List Yr) (av:List Old10) (aw:Int) (ax:Int) (ay:List (Int × Span)) (az:Int) (aA:Int) (aH:Int) (aB:Reads R aN) (aI:Sl aN aO au) (aC:Reads R aP) (aJ:Sl aP aQ av) (aD:Has R (cMl I encSp aR ay)) (aE:Has R (cBlk ag [aO,aQ,I aw,I ax,.map (some aR)] 118)) (aV:Has R (cBlk aM [Pq ag] 76)) (aW:Has R (cBlk aS [I az] 3)) (aX:Has R (cBlk aT [I aA] 3)) (aY:Has R (cBlk aU [I aH] 3)) {r:Int} (hM:(zci au av aw ax ay az aA aH).Ends r) (w:World) (H:St w w [] R):Ret Tryz.prog 70 #[.agg #[.func (.func 58) #[] #[]],Pq aM,Pq aS,Pq aT,Pq aU] w fun v w'=>∃ (y0:Int),y0=r/\v=I y0/\St w w' [] R:=by
 refine ret_of_WD Tryz.func70 rfl rfl rfl ?_
 replace H:St w w [cMk ([])] R:=H.mk0
 have bw:=aI.len_le
 have bx:=aJ.len_le
 unfold zci at hM
 refine WD.seq<|WD.of<|W.region rfl ?_;refine t_bx [.func (.func 58) #[] #[]] H rfl ?_;intro am bz H;refine kg 2 ?_;refine WD.seq<|WD.of<|W.region rfl ?_;refine t_alloc (cs:=[.slice none 0 0]) H Al27 rfl ?_;intro ac bA H;refine s_nil<|WD.seq<|WD.seq<|WD.of ?_;refine kg 4 ?_;obtain ⟨bB,bc,hM⟩:=M.e_bind hM;refine s_call cf26 [Pq ag,I az,I aA] rfl (zbd au av aw ax ay az aA (aB.app _) aI (aC.app _) aJ (aD.app _) (aE.app _) bc _ (H.gt 3)) ?_
 rintro vq bC ⟨ah,ai,aj,ak,al,rfl,hvq,ab⟩
 subst vq;(try dsimp only at hM);replace H:=H.bk ab;clear ab;refine s_nil<|WD.block ?_
 replace H:=H.nilOwn (α:=Int) 3
 obtain ⟨bD,bf,hM⟩:=M.e_bind hM;refine WD.range (L:=[cOwn (α:=Int) 3 (.slice none 0 0) ([]),cBlk ac [(.slice none 0 0)] 27,cBlk aj [I ah] 3,cBlk ak [I ai] 3,cBlk al [Pq ag] 76,cBlk am [.func (.func 58) #[] #[]] 89]) [Pq aj,Pq ak,Pq al] (H.pk [6,0,4,1,2,3,5]) rfl cf55 ?_;intro aF ao aK bg aL H
 have hYC:YieldC Tryz.prog ([cMk (ao :: ([])),cBlk aj [I ah] 3,cBlk ak [I ai] 3,cBlk al [Pq ag] 76,cBlk am [.func (.func 58) #[] #[]] 89]++R) arISpan (yJ aF aK (fun l aG=>∃ (aa:Value),aG=[cOwn (α:=Int) 3 aa l,cBlk ac [aa] 27]) (fun (_:Unit) _=>False) (fun _=>.ret)) (.func (.yield aF) #[] #[]) (M.yl zaN):=by
  refine YieldC.mk2 aL (fun l aG=>∃ (aa:Value),aG=[cOwn (α:=Int) 3 aa l,cBlk ac [aa] 27]) (fun (_:Unit) _=>False) (fun _=>.ret) zaN (by rintro l _ h_; obtain ⟨_,rfl⟩:=h_; rfl) (fun _ _ h_=>h_.elim) rfl (arISpan_len rfl) ?_;intro C_ bE x_ bh
  obtain ⟨x2,x3⟩:=x_
  obtain rfl:=bh
  intro w R ae aG s_ r bi hM H
  skip
  obtain ⟨l,bj⟩:∃ y_,y_=s_:=⟨_,rfl⟩
  subst bj
  obtain ⟨aa,rfl⟩:=bi
  replace H:=H.nf;refine W.region rfl ?_;refine t_alloc (cs:=[I 0,I 0]) H Al31 rfl ?_;intro aZ bF H;refine t_sw 0 0 [I x3.lo,I x3.hi] (.agg #[I x3.lo,I x3.hi]) H rfl rfl Sz31 rfl rfl rfl rfl ?_;intro bG H;refine s_nil ?_
  refine ⟨rfl,[cBlk aZ [I x3.lo,I x3.hi] 31],H.pick [0,1,2,3,4,5,6,7] (by decide) rfl,?_⟩
  clear H ae
  intro w R ae H
  replace aB:=aB.sub ae
  replace aC:=aC.sub ae
  replace aD:=aD.sub ae
  replace aE:=aE.sub ae
  replace aV:=aV.sub ae
  replace aW:=aW.sub ae
  replace aX:=aX.sub ae
  replace aY:=aY.sub ae
  replace hM:(zaN l (x2,x3)).Ends r:=hM
  simp only [zaN] at hM
  replace H:=H.nf;refine W.block ?_;refine W.drawT (fun W=>St w W [cBlk aZ [I x3.lo,I x3.hi] 31,cMk (ao :: ([])),cBlk aj [I ah] 3,cBlk ak [I ai] 3,cBlk al [Pq ag] 76,cBlk am [.func (.func 58) #[] #[]] 89] R) (.q 1 (.q 2 (.q 3 (.l2 0 (.l 4 (.l 5 (.l 6 (.l 7 .nil)))) 4 (.l2 0 (.l 5 (.l 6 (.l 7 .nil))) 5 (.l 0 (.l 6 (.l 7 .nil)))))))) mixed (by decide +kernel) rfl ?_;intro bH a6;replace H:=H.ext a6;clear a6
  refine ⟨(H.pk [0,3,4,5,6,7]),?_⟩
  refine kg 3 ?_;refine t_l2 rfl rfl ?_ ?_
  ·skip
   refine kg 1 ?_
   have bI:=Sl.cells (H.os 1)
   have bJ:=Sl.oc (H.os 1)
   refine s_nil ⟨(H.pk [0,3,4,5,6,7]),?_⟩
   refine t_l rfl ?_;obtain ⟨bK,bm,hM⟩:=M.e_bind hM;refine s_callv (f:=58) rfl cf58 [.agg #[I x3.lo,I x3.hi]] rfl (zbX x3 bm _ (H.gt 8)) ?_
   rintro vq bL ⟨r2,rfl,hvq,ab⟩
   subst vq;(try dsimp only at hM);replace H:=H.bk ab;clear ab
   refine s_nil ⟨(H.pk [0,3,4,5,6,7]),?_⟩
   refine t_l rfl ?_;refine t_bs (α:=Int) T27 [I r2] [(r2:Int)] H rfl (.cons rfl (Flat.rep_enc _ (r2:Int))<|.nil) rfl rfl rfl ?_;intro bn bM H
   have bN:=Sl.cells (H.os 0)
   have bO:=Sl.oc (H.os 0)
   refine s_nil ⟨(H.pk [1,4,5,6,7,8]),?_⟩
   refine t_l rfl ?_;obtain ⟨bP,hM⟩:=M.e_gd hM;refine t_app (α:=Int) (k:=2) (l:=l) (l2:=[(r2:Int)]) (l':=l++([(r2:Int)])) (vy:=bn) T27 rfl H rfl rfl rfl (H.os 0) (H.ol 0) (rfl) (by first | omega | (simp only [List.length_nil] at *; omega)) ?_;intro ap bQ H;replace H:=H.nf
   have bR:=Sl.cells (H.os 2)
   have bS:=Sl.oc (H.os 2)
   refine s_nil ⟨(H.pk [1,4,5,6,7,8]),?_⟩
   refine t_l rfl ?_;refine t_sw 3 0 [ap] ap H rfl rfl Sz27 (Sl.cells (H.os 2)) rfl rfl (by simp only [List.all_cons,List.all_nil,Bool.true_and,Bool.and_true,Sl.oc (H.os 2)]; try rfl) ?_;intro bT H
   refine s_nil ⟨(H.pk [1,4,5,6,7,8]),?_⟩
   refine t_nil ?_
   exact ⟨l++([(r2:Int)]),[cOwn (α:=Int) 3 ap (l++([(r2:Int)])),cBlk ac [ap] 27],(M.e_pure hM).symm,⟨ap,rfl⟩,H.pick [2,3,4,5,6,7,8] (by decide) rfl⟩
  skip
  obtain ⟨bU,bo,hM⟩:=M.e_bind hM;refine s_callv (f:=58) rfl cf58 [.agg #[I x3.lo,I x3.hi]] rfl (zbX x3 bo _ (H.gt 8)) ?_
  rintro vq bV ⟨r2,rfl,hvq,ab⟩
  subst vq;(try dsimp only at hM);replace H:=H.bk ab;clear ab
  have bW:=Sl.cells (H.os 1)
  have bX:=Sl.oc (H.os 1)
  refine s_nil ⟨(H.pk [0,3,4,5,6,7]),?_⟩
  obtain ⟨bY,hM⟩:=M.e_gd hM;refine t_l2 rfl rfl ?_ ?_
  ·skip
   refine kg 1 ?_
   refine s_nil ⟨(H.pk [0,3,4,5,6,7]),?_⟩
   refine t_l rfl ?_;refine t_bs (α:=Int) T27 [I r2] [(r2:Int)] H rfl (.cons rfl (Flat.rep_enc _ (r2:Int))<|.nil) rfl rfl rfl ?_;intro bp bZ H
   have b3:=Sl.cells (H.os 0)
   have b4:=Sl.oc (H.os 0)
   refine s_nil ⟨(H.pk [1,4,5,6,7,8]),?_⟩
   refine t_l rfl ?_;refine t_app (α:=Int) (k:=2) (l:=l) (l2:=[(r2:Int)]) (l':=l++([(r2:Int)])) (vy:=bp) T27 rfl H rfl rfl rfl (H.os 0) (H.ol 0) (rfl) (by first | omega | (simp only [List.length_nil] at *; omega)) ?_;intro aq b6 H;replace H:=H.nf
   have b7:=Sl.cells (H.os 2)
   have b8:=Sl.oc (H.os 2)
   refine s_nil ⟨(H.pk [1,4,5,6,7,8]),?_⟩
   refine t_l rfl ?_;refine t_sw 3 0 [aq] aq H rfl rfl Sz27 (Sl.cells (H.os 2)) rfl rfl (by simp only [List.all_cons,List.all_nil,Bool.true_and,Bool.and_true,Sl.oc (H.os 2)]; try rfl) ?_;intro b9 H
   refine s_nil ⟨(H.pk [1,4,5,6,7,8]),?_⟩
   refine t_nil ?_
   exact ⟨l++([(r2:Int)]),[cOwn (α:=Int) 3 aq (l++([(r2:Int)])),cBlk ac [aq] 27],(M.e_pure hM).symm,⟨aq,rfl⟩,H.pick [2,3,4,5,6,7,8] (by decide) rfl⟩
  skip
  refine t_bs (α:=Int) T27 [I r2] [(r2:Int)] H rfl (.cons rfl (Flat.rep_enc _ (r2:Int))<|.nil) rfl rfl rfl ?_;intro br ca H
  have cb:=Sl.cells (H.os 0)
  have cc:=Sl.oc (H.os 0)
  refine s_nil ⟨(H.pk [1,4,5,6,7,8]),?_⟩
  refine t_l rfl ?_;refine kg 1 ?_
  refine s_nil ⟨(H.pk [1,4,5,6,7,8]),?_⟩
  refine t_l rfl ?_;refine t_app (α:=Int) (k:=2) (l:=l) (l2:=[(r2:Int)]) (l':=l++([(r2:Int)])) (vy:=br) T27 rfl H rfl rfl rfl (H.os 0) (H.ol 0) (rfl) (by first | omega | (simp only [List.length_nil] at *; omega)) ?_;intro ar cd H;replace H:=H.nf
  have ce:=Sl.cells (H.os 2)
  have cf:=Sl.oc (H.os 2)
  refine s_nil ⟨(H.pk [1,4,5,6,7,8]),?_⟩
  refine t_l rfl ?_;refine t_sw 3 0 [ar] ar H rfl rfl Sz27 (Sl.cells (H.os 2)) rfl rfl (by simp only [List.all_cons,List.all_nil,Bool.true_and,Bool.and_true,Sl.oc (H.os 2)]; try rfl) ?_;intro cg H
  refine s_nil ⟨(H.pk [1,4,5,6,7,8]),?_⟩
  refine t_nil ?_
  exact ⟨l++([(r2:Int)]),[cOwn (α:=Int) 3 ar (l++([(r2:Int)])),cBlk ac [ar] 27],(M.e_pure hM).symm,⟨ar,rfl⟩,H.pick [2,3,4,5,6,7,8] (by decide) rfl⟩
 replace H:St w bg (cAll (cObj aF (.loop aK) :: [cOwn (α:=Int) 3 (.slice none 0 0) ([]),cBlk ac [(.slice none 0 0)] 27]) :: [cMk (ao :: ([])),cBlk aj [I ah] 3,cBlk ak [I ai] 3,cBlk al [Pq ag] 76,cBlk am [.func (.func 58) #[] #[]] 89]) R:=St.bundleB (A:=cObj aF (.loop aK) :: [cOwn (α:=Int) 3 (.slice none 0 0) ([]),cBlk ac [(.slice none 0 0)] 27]) (T:=[cMk (ao :: ([])),cBlk aj [I ah] 3,cBlk ak [I ai] 3,cBlk al [Pq ag] 76,cBlk am [.func (.func 58) #[] #[]] 89]) rfl (H.pk [0,2,3,1,4,5,6,7])
 refine (za7 (M.yl zaN) (.inl ([])) ah ai au av aw ax ay hYC ⟨_,rfl,⟨(.slice none 0 0),rfl⟩⟩ (Has.here (k:=1) rfl) (Has.here (k:=2) rfl) (aB.app _) aI (aC.app _) aJ (aD.app _) (aE.app _) (Has.here (k:=3) rfl) bf _ (H.gt 5)).mono ?_
 rintro vq ch ⟨bt,ci,rfl,hvq,ab,a7⟩
 replace H:=H.back ab rfl
 clear ab hYC
 rcases bt with l | _
 ·(try dsimp only at hM)
  obtain ⟨_,rfl,aa,rfl⟩:=a7
  refine ⟨_,[cOwn (α:=Int) 3 aa l,cBlk ac [aa] 27,cBlk aj [I ah] 3,cBlk ak [I ai] 3,cBlk al [Pq ag] 76,cBlk am [.func (.func 58) #[] #[]] 89],H.unbundle.pick [0,3,1,2,4,5,6,7] (by decide) rfl,aL.nb,?_⟩
  intro cj H
  rw [aL.pd]
  replace H:=H.nf
  try simp only []
  replace H:=H.pk [0,1,2];refine WD.seq<|WD.of ?_;obtain ⟨ck,hM⟩:=M.e_gd hM;refine kg 2 ?_;refine s_call cf71 [aa] rfl (sort_any (H.get (k:=1) rfl) (by omega)) ?_
  rintro _ bu ⟨rfl,a8,ba,bb⟩
  replace H:St w bu [cMk (ao :: ([])),cOwn (α:=Int) 3 aa (isort l),cBlk ac [aa] 27] R:=H.sorted (k:=1) rfl a8 ba bb rfl
  clear a8 ba bb
  refine s_nil<|WD.seq<|WD.of ?_
  have cl:=((H.os 1)).len_le
  obtain ⟨cm,hM⟩:=M.e_gd hM;obtain ⟨cn,hM⟩:=M.e_gd hM;refine kg 10 ?_;replace H:=H.pk [0];refine WD.of ?_;refine W.ret ?_;refine bodyD_r (H.pk [0]) ?_;intro co H;replace H:=H.nf
  have bv:=M.e_pure hM
  exact ⟨_,resE_tmp rfl,⟨((isort l).getD (Int.toNat (((isort l).length:Int)-aH)) 0),bv,rfl,H⟩⟩
 obtain ⟨_,_,h_⟩:=a7; exact h_.elim

def zc9 (ac:List Yr) (ae:List Old10) (aj ak aa ab times:Int):M (Int × Int × Int) :=
  M.bind (zbg ac ae aj ak aa ab times 1 (wr64 ((wr64 (ab-aa))+1))) fun x_=>match x_ with
  | (.inl r1)=>(
  bif r1 != 0 then (
  M.pure (0,0,r1))
  else (
  M.fail))
  | (.inr (ag,ah,ai,al))=>(
  bif al != 0 then (
  M.fail)
  else (
  M.bind (zcr) fun (_:Unit) =>
  M.bind (zcq ac ae ag ah ai aa ab times) fun r2 =>
  M.bind (zbJ) fun (_:Unit) =>
  M.bind (zci ac ae ag ah ai aa ab times) fun r3 =>
  M.pure (r2,r3,0)))
theorem zdR {R:List Chunk} {av:Cells} {al:Value} {aw:Cells} {am:Value} (ae:List Yr) (ag:List Old10) (ah:Int) (ai:Int) (ab:Int) (ac:Int) (times:Int) (ao:Reads R av) (ap:Sl av al ae) (aq:Reads R aw) (ar:Sl aw am ag) {r:(Int × Int × Int)} (hM:(zc9 ae ag ah ai ab ac times).Ends r) (w:World) (H:St w w [] R):Ret Tryz.prog 38 #[.agg #[al,am,I ah,I ai],I ab,I ac,I times] w fun v w'=>∃ (y0:Int) (y1:Int) (y2:Int),(y0,y1,y2)=r/\v = .tuple #[.agg #[I y0,I y1],I y2]/\St w w' [] R:=by
 refine ret_of_W Tryz.func38 rfl rfl rfl ?_;refine kg 2 ?_;refine t_bx [al,am,I ah,I ai] H rfl ?_;intro aP aQ H;refine t_b1 (I ab) H rfl rfl ?_;intro aC aR H;refine t_b1 (I ac) H rfl rfl ?_;intro aD aS H;refine t_b1 (I times) H rfl rfl ?_;intro aE aT H;refine t_alloc (cs:=[I 0,I 0]) H Al31 rfl ?_;intro aU aV H;refine kg 10 ?_;refine s_val (x_subW (a:=ac) (b:=ab) rfl rfl)<|s_val (x_addW (a:=wr64 (ac-ab)) (b:=1) rfl rfl) ?_;obtain ⟨aW,aF,hM⟩:=M.e_bind hM;refine s_call cf27 [.agg #[al,am,I ah,I ai],I ab,I ac,I times,I 1,I (wr64 ((wr64 (ac-ab))+1))] rfl (zcR ae ag ah ai ab ac times 1 (wr64 ((wr64 (ac-ab))+1)) (ao.app _) ap (aq.app _) ar aF _ (H.gt 5)) ?_
 rintro vq aX (⟨r1,aG,hvq,aa⟩ | ⟨ax,ay,az,aH,aA,aY,aI,hvq,aa⟩)
 ·subst aG;subst vq;(try dsimp only at hM);replace H:=H.bk aa;clear aa;refine kg 3 ?_;refine t_alloc (cs:=[.pointer none]) H Al76 rfl ?_;intro aB aZ H;refine t_sw 0 0 [.pointer none] (.pointer none) H rfl rfl Sz76 rfl rfl rfl rfl ?_;intro a6 H;refine kg 8 ?_
  refine W.cond (r1 != 0) rfl (fun aj=>?_) (fun aj=>?_)
  ·replace hM:=M.e_t hM aj
   replace aj:=dI aj
   refine kg 2 ?_;refine s_val (x_bld (ps:=[]) (zs:=[I 0,I 0]) (L':=[I 0,I 0]) rfl Tryz.underlying31 Al31 rfl (Bd31 Tryz.underlying31) (.nil)) ?_;refine kg 1 ?_;refine t_sw 1 0 [I 0,I 0] (.agg #[I 0,I 0]) H rfl rfl Sz31 rfl rfl rfl rfl ?_;intro a7 H;refine kg 2 ?_;replace H:=H.pk [1];refine W.ret ?_
   have aJ:=(H.bl 0)
   have au:=M.e_pure hM
   exact ⟨_,(resE_ofn (vs:=[.agg #[I 0,I 0],I r1]) rfl rfl (.cell (v:=.agg #[I 0,I 0]) rfl (run_loadVar_ag (ds:=[I 0,I 0]) Ag31 Sz31 aJ rfl rfl)<|.tmp (v:=I r1) rfl<|.nil)),⟨0,0,r1,au,rfl,(H.pk [])⟩⟩
  replace hM:=M.e_f hM aj
  exact (M.e_fail hM).elim
 subst aI;subst vq;(try dsimp only at hM);replace H:=H.bk aa;clear aa;refine kg 3 ?_;refine t_alloc (cs:=[.pointer none]) H Al76 rfl ?_;intro aB a8 H;refine t_sw 0 0 [Pq aA] (Pq aA) H rfl rfl Sz76 rfl rfl rfl rfl ?_;intro ba H;refine kg 8 ?_
 refine W.cond (aH != 0) rfl (fun ak=>?_) (fun ak=>?_)
 ·replace hM:=M.e_t hM ak
  exact (M.e_fail hM).elim
 replace hM:=M.e_f hM ak
 replace ak:=dI ak
 refine kg 3 ?_;refine s_val (x_mf (fs:=[]) (cs:=[Pq aB,Pq aC,Pq aD,Pq aE]) rfl rfl) ?_;refine kg 5 ?_;obtain ⟨bb,aK,hM⟩:=M.e_bind hM;refine s_call cf29 [] rfl (zc6 aK _ (H.gt 8)) ?_
 rintro vq bc ⟨rfl,hvq,aa⟩
 subst vq;(try dsimp only at hM);replace H:=H.bk aa;clear aa;obtain ⟨bf,aL,hM⟩:=M.e_bind hM;refine s_callv (f:=70) rfl cf70 [.agg #[.func (.func 57) #[] #[]]] rfl (zdu ae ag ax ay az ab ac times (ao.app _) ap (aq.app _) ar (Has.here (k:=2) rfl) (Has.here (k:=1) rfl) (Has.here (k:=0) rfl) (Has.here (k:=6) rfl) (Has.here (k:=5) rfl) (Has.here (k:=4) rfl) aL _ (H.gt 8)) ?_
 rintro vq bg ⟨r2,rfl,hvq,aa⟩
 subst vq;(try dsimp only at hM);replace H:=H.bk aa;clear aa;refine kg 1 ?_;obtain ⟨bh,aM,hM⟩:=M.e_bind hM;refine s_call cf30 [] rfl (zcn aM _ (H.gt 8)) ?_
 rintro vq bi ⟨rfl,hvq,aa⟩
 subst vq;(try dsimp only at hM);replace H:=H.bk aa;clear aa;obtain ⟨bj,aN,hM⟩:=M.e_bind hM;refine s_callv (f:=70) rfl cf70 [.agg #[.func (.func 58) #[] #[]]] rfl (zdw ae ag ax ay az ab ac times (ao.app _) ap (aq.app _) ar (Has.here (k:=2) rfl) (Has.here (k:=1) rfl) (Has.here (k:=0) rfl) (Has.here (k:=6) rfl) (Has.here (k:=5) rfl) (Has.here (k:=4) rfl) aN _ (H.gt 8)) ?_
 rintro vq bm ⟨r3,rfl,hvq,aa⟩
 subst vq;(try dsimp only at hM);replace H:=H.bk aa;clear aa;refine s_val (x_bld (ps:=[(0,I r2),(1,I r3)]) (zs:=[I 0,I 0]) (L':=[I r2,I r3]) rfl Tryz.underlying31 Al31 rfl (Bd31 Tryz.underlying31) (.cons (cs:=[I r2]) rfl rfl rfl rfl rfl<|.cons (cs:=[I r3]) rfl rfl rfl rfl rfl<|.nil)) ?_;refine t_sw 3 0 [I r2,I r3] (.agg #[I r2,I r3]) H rfl rfl Sz31 rfl rfl rfl rfl ?_;intro bn H;refine kg 2 ?_;replace H:=H.pk [3];refine W.ret ?_
 have aO:=(H.bl 0)
 have au:=M.e_pure hM
 exact ⟨_,(resE_ofn (vs:=[.agg #[I r2,I r3],I 0]) rfl rfl (.cell (v:=.agg #[I r2,I r3]) rfl (run_loadVar_ag (ds:=[I r2,I r3]) Ag31 Sz31 aO rfl rfl)<|.tmp (v:=I 0) rfl<|.nil)),⟨r2,r3,0,au,rfl,(H.pk [])⟩⟩

def zcc  : M Bool :=
  M.bind (zbk) fun r2 =>
  M.bind (zcT r2 7 200) fun (r0,r1,aa) =>
  M.bind (zbk) fun r3 =>
  M.bind (zdb r3 7 200 ([(1:Int),(3:Int)])) fun (ag,ab) =>
  M.bind (zbk) fun r4 =>
  M.bind (zcb r4 7 200 300 ([(0:Int),(100:Int),(120:Int),(80:Int)])) fun (ah,ac) =>
  M.bind (zbk) fun r5 =>
  M.bind (zcb r5 7 200 300 ([(0:Int),(99:Int),(120:Int),(80:Int)])) fun (ai,ae) =>
  M.bind (M.opt (!((((aa != 0)||(ab != 0))||(ac != 0))||(ae != 0))) (zcP r0 ([(0:Int),(2:Int),(3:Int)])) false) fun r6 =>
  bif (((((((((aa != 0)||(ab != 0))||(ac != 0))||(ae != 0))||(!r6))||(r1 != 300))||(ag != 230))||(!ah))||ai) then (
  M.pure false)
  else (
  M.bind (zaS) fun (aj,ak,al,am) =>
  M.bind (zaj aj ak al am 1900 1909 500) fun (ao,ap,aq) =>
  M.bind (zaS) fun (ar,au,av,aw) =>
  M.bind (zaj ar au av aw 1900 1909 410) fun (ax,ay,az) =>
  M.bind (zaS) fun (aA,aB,aC,aD) =>
  M.bind (zcI aA aB aC aD 410) fun (aE,aF,aG,aH,aI) =>
  M.bind (zaS) fun (aJ,aK,aL,aM) =>
  M.bind (zc9 aJ aK aL aM 1900 1906 2) fun (aN,aO,aP) =>
  M.pure (((((((((aq==0)&&(az==0))&&(aI==0))&&(aP==0))&&(decide ((⟨(ao:Int),(ap:Int)⟩:Span)=(⟨(1:Int),(4:Int)⟩:Span))))&&(decide ((⟨(ax:Int),(ay:Int)⟩:Span)=(⟨(1:Int),(9:Int)⟩:Span))))&&(decide ((⟨(aE:Int),(aF:Int)⟩:Rto)=(⟨(1:Int),(10:Int)⟩:Rto))))&&(decide ((⟨(aG:Int),(aH:Int)⟩:Rto)=(⟨(9:Int),(10:Int)⟩:Rto))))&&(decide ((⟨(aN:Int),(aO:Int)⟩:Span)=(⟨(400:Int),(499:Int)⟩:Span)))))
theorem zdF {R:List Chunk}    {r:Bool} (hM:(zcc).Ends r) (w:World) (H:St w w [] R):Ret Tryz.prog 11 #[] w fun v w'=>∃ (y0:Bool),y0=r/\v=B y0/\St w w' [] R:=by
 refine ret_of_W Tryz.func11 rfl rfl rfl ?_;refine kg 6 ?_;obtain ⟨bL,aN,hM⟩:=M.e_bind hM;refine s_call cf32 [] rfl (zbZ aN _ (H.gt 0)) ?_
 rintro vq bM ⟨r2,aO,rfl,hvq,aa⟩
 subst vq;(try dsimp only at hM);replace H:=H.bk aa;clear aa;obtain ⟨bN,aP,hM⟩:=M.e_bind hM;refine s_call cf31 [aO,I 7,I 200] rfl (zds r2 7 200 (rdo 0) (H.os 0) aP _ (H.gt 1)) ?_
 rintro vq bO ⟨r0,r1,ab,aC,rfl,hvq,aa⟩
 subst vq;(try dsimp only at hM);replace H:=H.bk aa;clear aa;refine kg 10 ?_;obtain ⟨bP,aQ,hM⟩:=M.e_bind hM;refine s_call cf32 [] rfl (zbZ aQ _ (H.gt 2)) ?_
 rintro vq bQ ⟨r3,aR,rfl,hvq,aa⟩
 subst vq;(try dsimp only at hM);replace H:=H.bk aa;clear aa;refine t_bs (α:=Int) T27 [I 1,I 3] [(1:Int),(3:Int)] H rfl (.cons rfl (Flat.rep_enc _ (1:Int))<|.cons rfl (Flat.rep_enc _ (3:Int))<|.nil) rfl rfl rfl ?_;intro aS bR H;obtain ⟨bS,aT,hM⟩:=M.e_bind hM;refine s_call cf33 [aR,I 7,I 200,aS] rfl (zec r3 7 200 ([(1:Int),(3:Int)]) (rdo 1) (H.os 1) (rdo 0) (H.os 0) aT _ (H.gt 4)) ?_
 rintro vq bT ⟨aq,ac,rfl,hvq,aa⟩
 subst vq;(try dsimp only at hM);replace H:=H.bk aa;clear aa;refine kg 6 ?_;replace H:=H.pk [2];refine kg 2 ?_;obtain ⟨bU,aU,hM⟩:=M.e_bind hM;refine s_call cf32 [] rfl (zbZ aU _ (H.gt 1)) ?_
 rintro vq bV ⟨r4,aV,rfl,hvq,aa⟩
 subst vq;(try dsimp only at hM);replace H:=H.bk aa;clear aa;refine t_bs (α:=Int) T27 [I 0,I 100,I 120,I 80] [(0:Int),(100:Int),(120:Int),(80:Int)] H rfl (.cons rfl (Flat.rep_enc _ (0:Int))<|.cons rfl (Flat.rep_enc _ (100:Int))<|.cons rfl (Flat.rep_enc _ (120:Int))<|.cons rfl (Flat.rep_enc _ (80:Int))<|.nil) rfl rfl rfl ?_;intro aW bW H;obtain ⟨bX,aX,hM⟩:=M.e_bind hM;refine s_call cf34 [aV,I 7,I 200,I 300,aW] rfl (zc5 r4 7 200 300 ([(0:Int),(100:Int),(120:Int),(80:Int)]) (rdo 1) (H.os 1) (rdo 0) (H.os 0) aX _ (H.gt 3)) ?_
 rintro vq bY ⟨ax,ae,rfl,hvq,aa⟩
 subst vq;(try dsimp only at hM);replace H:=H.bk aa;clear aa;refine kg 6 ?_;replace H:=H.pk [2];refine kg 2 ?_;obtain ⟨bZ,aY,hM⟩:=M.e_bind hM;refine s_call cf32 [] rfl (zbZ aY _ (H.gt 1)) ?_
 rintro vq b3 ⟨r5,aZ,rfl,hvq,aa⟩
 subst vq;(try dsimp only at hM);replace H:=H.bk aa;clear aa;refine t_bs (α:=Int) T27 [I 0,I 99,I 120,I 80] [(0:Int),(99:Int),(120:Int),(80:Int)] H rfl (.cons rfl (Flat.rep_enc _ (0:Int))<|.cons rfl (Flat.rep_enc _ (99:Int))<|.cons rfl (Flat.rep_enc _ (120:Int))<|.cons rfl (Flat.rep_enc _ (80:Int))<|.nil) rfl rfl rfl ?_;intro a6 b4 H;obtain ⟨b6,a7,hM⟩:=M.e_bind hM;refine s_call cf34 [aZ,I 7,I 200,I 300,a6] rfl (zc5 r5 7 200 300 ([(0:Int),(99:Int),(120:Int),(80:Int)]) (rdo 1) (H.os 1) (rdo 0) (H.os 0) a7 _ (H.gt 3)) ?_
 rintro vq b7 ⟨aB,ag,rfl,hvq,aa⟩
 subst vq;(try dsimp only at hM);replace H:=H.bk aa;clear aa;refine kg 6 ?_;replace H:=H.pk [2];refine kg 8 ?_;refine s_val (x_por (b:=ab != 0) (r:=ac != 0) rfl rfl (fun hb=>gd_of (c:=!(ab != 0)) (by first | exact hb | (rw [hb]; rfl) | simp_all) (B (ac != 0))))<|zM (B ((ab != 0)||(ac != 0))) rfl<|g_val (!((ab != 0)||(ac != 0))) (gy_f rfl) (fun hg=>x_mv (v:=I ae) rfl)<|g_val (!((ab != 0)||(ac != 0))) (gy_f rfl) (fun hg=>x_cmp (kd:=.i64) (r:=ae != 0) (gd_of hg (I ae)) rfl rfl)<|s_val (x_por (b:=((ab != 0)||(ac != 0))) (r:=ae != 0) rfl rfl (fun hb=>gd_of (c:=!((ab != 0)||(ac != 0))) (by first | exact hb | (rw [hb]; rfl) | simp_all) (B (ae != 0))))<|zM (B (((ab != 0)||(ac != 0))||(ae != 0))) rfl<|g_val (!(((ab != 0)||(ac != 0))||(ae != 0))) (gy_f rfl) (fun hg=>x_mv (v:=I ag) rfl)<|g_val (!(((ab != 0)||(ac != 0))||(ae != 0))) (gy_f rfl) (fun hg=>x_cmp (kd:=.i64) (r:=ag != 0) (gd_of hg (I ag)) rfl rfl)<|s_val (x_por (b:=(((ab != 0)||(ac != 0))||(ae != 0))) (r:=ag != 0) rfl rfl (fun hb=>gd_of (c:=!(((ab != 0)||(ac != 0))||(ae != 0))) (by first | exact hb | (rw [hb]; rfl) | simp_all) (B (ag != 0))))<|zM (B ((((ab != 0)||(ac != 0))||(ae != 0))||(ag != 0))) rfl ?_;refine g_val (!((((ab != 0)||(ac != 0))||(ae != 0))||(ag != 0))) (gy_f rfl) (fun hg=>x_mv (v:=aC) rfl) ?_;refine t_gbs (α:=Int) T27 (!((((ab != 0)||(ac != 0))||(ae != 0))||(ag != 0))) (gy_f rfl) [I 0,I 2,I 3] [(0:Int),(2:Int),(3:Int)] H (fun _=>rfl) (.cons rfl (Flat.rep_enc _ (0:Int))<|.cons rfl (Flat.rep_enc _ (2:Int))<|.cons rfl (Flat.rep_enc _ (3:Int))<|.nil) rfl rfl rfl ?_;intro aE b8 b9 H a8;obtain ⟨r6,ba,hM⟩:=M.e_bind hM;refine t_gcall (!((((ab != 0)||(ac != 0))||(ae != 0))||(ag != 0))) (gy_f rfl) cf35 (B r6) (fun _=>[aC,aE]) (fun hg=>lst2 (gd_of hg (aC)) (gd_of hg (aE))) H (fun hg=>(zdZ r0 ([(0:Int),(2:Int),(3:Int)]) (rdo 1) (H.os 1) (Reads.of (k:=0) rfl roLe) (a8 hg) (M.e_opt ba hg) _ (H.give (A:=[]) rfl)).mono fun v_ w_ ⟨y_,aA,bb,H_⟩=>by subst aA; exact ⟨bb,H.via H_⟩) ?_;intro ca H;refine g_val (!((((ab != 0)||(ac != 0))||(ae != 0))||(ag != 0))) (gy_f rfl) (fun hg=>x_not (b:=r6) (gd_of hg (B r6)))<|s_val (x_por (b:=((((ab != 0)||(ac != 0))||(ae != 0))||(ag != 0))) (r:=!r6) rfl rfl (fun hb=>gd_of (c:=!((((ab != 0)||(ac != 0))||(ae != 0))||(ag != 0))) (by first | exact hb | (rw [hb]; rfl) | simp_all) (B (!r6))))<|zM (B (((((ab != 0)||(ac != 0))||(ae != 0))||(ag != 0))||(!r6))) rfl<|g_val (!(((((ab != 0)||(ac != 0))||(ae != 0))||(ag != 0))||(!r6))) (gy_f rfl) (fun hg=>x_mv (v:=I r1) rfl)<|g_val (!(((((ab != 0)||(ac != 0))||(ae != 0))||(ag != 0))||(!r6))) (gy_f rfl) (fun hg=>x_cmp (kd:=.i64) (r:=r1 != 300) (gd_of hg (I r1)) rfl rfl)<|s_val (x_por (b:=(((((ab != 0)||(ac != 0))||(ae != 0))||(ag != 0))||(!r6))) (r:=r1 != 300) rfl rfl (fun hb=>gd_of (c:=!(((((ab != 0)||(ac != 0))||(ae != 0))||(ag != 0))||(!r6))) (by first | exact hb | (rw [hb]; rfl) | simp_all) (B (r1 != 300))))<|zM (B ((((((ab != 0)||(ac != 0))||(ae != 0))||(ag != 0))||(!r6))||(r1 != 300))) rfl<|g_val (!((((((ab != 0)||(ac != 0))||(ae != 0))||(ag != 0))||(!r6))||(r1 != 300))) (gy_f rfl) (fun hg=>x_mv (v:=I aq) rfl)<|g_val (!((((((ab != 0)||(ac != 0))||(ae != 0))||(ag != 0))||(!r6))||(r1 != 300))) (gy_f rfl) (fun hg=>x_cmp (kd:=.i64) (r:=aq != 230) (gd_of hg (I aq)) rfl rfl)<|s_val (x_por (b:=((((((ab != 0)||(ac != 0))||(ae != 0))||(ag != 0))||(!r6))||(r1 != 300))) (r:=aq != 230) rfl rfl (fun hb=>gd_of (c:=!((((((ab != 0)||(ac != 0))||(ae != 0))||(ag != 0))||(!r6))||(r1 != 300))) (by first | exact hb | (rw [hb]; rfl) | simp_all) (B (aq != 230)))) ?_;refine zM (B (((((((ab != 0)||(ac != 0))||(ae != 0))||(ag != 0))||(!r6))||(r1 != 300))||(aq != 230))) rfl<|g_val (!(((((((ab != 0)||(ac != 0))||(ae != 0))||(ag != 0))||(!r6))||(r1 != 300))||(aq != 230))) (gy_f rfl) (fun hg=>x_mv (v:=B ax) rfl)<|g_val (!(((((((ab != 0)||(ac != 0))||(ae != 0))||(ag != 0))||(!r6))||(r1 != 300))||(aq != 230))) (gy_f rfl) (fun hg=>x_not (b:=ax) (gd_of hg (B ax)))<|s_val (x_por (b:=(((((((ab != 0)||(ac != 0))||(ae != 0))||(ag != 0))||(!r6))||(r1 != 300))||(aq != 230))) (r:=!ax) rfl rfl (fun hb=>gd_of (c:=!(((((((ab != 0)||(ac != 0))||(ae != 0))||(ag != 0))||(!r6))||(r1 != 300))||(aq != 230))) (by first | exact hb | (rw [hb]; rfl) | simp_all) (B (!ax))))<|zM (B ((((((((ab != 0)||(ac != 0))||(ae != 0))||(ag != 0))||(!r6))||(r1 != 300))||(aq != 230))||(!ax))) rfl<|g_val (!((((((((ab != 0)||(ac != 0))||(ae != 0))||(ag != 0))||(!r6))||(r1 != 300))||(aq != 230))||(!ax))) (gy_f rfl) (fun hg=>x_mv (v:=B aB) rfl)<|s_val (x_por (b:=((((((((ab != 0)||(ac != 0))||(ae != 0))||(ag != 0))||(!r6))||(r1 != 300))||(aq != 230))||(!ax))) (r:=aB) rfl rfl (fun hb=>gd_of (c:=!((((((((ab != 0)||(ac != 0))||(ae != 0))||(ag != 0))||(!r6))||(r1 != 300))||(aq != 230))||(!ax))) (by first | exact hb | (rw [hb]; rfl) | simp_all) (B aB)))<|s_nil ?_;replace H:=H.pk []
 refine W.cond (((((((((ab != 0)||(ac != 0))||(ae != 0))||(ag != 0))||(!r6))||(r1 != 300))||(aq != 230))||(!ax))||aB) rfl (fun aD=>?_) (fun aD=>?_)
 ·replace hM:=M.e_t hM aD;refine kg 4 ?_;refine W.ret ?_
  have aA:=M.e_pure hM
  exact ⟨_,resE_tmp rfl,⟨false,aA,rfl,H⟩⟩
 replace hM:=M.e_f hM aD;refine kg 3 ?_;obtain ⟨cb,bc,hM⟩:=M.e_bind hM;refine s_call cf36 [] rfl (zbH bc _ (H.gt 0)) ?_
 rintro vq cc ⟨bf,bg,aF,aG,bh,bi,cd,ce,rfl,hvq,aa,bj⟩
 subst vq;(try dsimp only at hM);replace H:=H.bk aa;clear aa;obtain ⟨cf,bm,hM⟩:=M.e_bind hM;refine s_call cf9 [.agg #[bh,bi,I aF,I aG],I 1900,I 1909,I 500] rfl (zbU bf bg aF aG 1900 1909 500 (rdo 0) (H.os 0) (Reads.sup (rdo 1) (Reads.of (k:=2) rfl roLe)) (rowSl rfl (H.get (k:=1) rfl) (roLe _ (H.get (k:=2) rfl)) bj) bm _ (H.gt 3)) ?_
 rintro vq cg ⟨ak,al,ah,rfl,hvq,aa⟩
 subst vq;(try dsimp only at hM);replace H:=H.bk aa;clear aa;refine kg 3 ?_;refine t_alloc (cs:=[I 0,I 0]) H Al31 rfl ?_;intro ch ci H;refine t_sw 0 0 [I ak,I al] (.agg #[I ak,I al]) H rfl rfl Sz31 rfl rfl rfl rfl ?_;intro cj H;refine kg 2 ?_;replace H:=H.pk [0];refine kg 2 ?_;obtain ⟨ck,bn,hM⟩:=M.e_bind hM;refine s_call cf36 [] rfl (zbH bn _ (H.gt 1)) ?_
 rintro vq cl ⟨bo,bp,aH,aI,br,bt,cm,cn,rfl,hvq,aa,bu⟩
 subst vq;(try dsimp only at hM);replace H:=H.bk aa;clear aa;obtain ⟨co,bv,hM⟩:=M.e_bind hM;refine s_call cf9 [.agg #[br,bt,I aH,I aI],I 1900,I 1909,I 410] rfl (zbU bo bp aH aI 1900 1909 410 (rdo 0) (H.os 0) (Reads.sup (rdo 1) (Reads.of (k:=2) rfl roLe)) (rowSl rfl (H.get (k:=1) rfl) (roLe _ (H.get (k:=2) rfl)) bu) bv _ (H.gt 4)) ?_
 rintro vq cp ⟨ao,ap,ai,rfl,hvq,aa⟩
 subst vq;(try dsimp only at hM);replace H:=H.bk aa;clear aa;refine kg 3 ?_;refine t_alloc (cs:=[I 0,I 0]) H Al31 rfl ?_;intro cq cr H;refine t_sw 0 0 [I ao,I ap] (.agg #[I ao,I ap]) H rfl rfl Sz31 rfl rfl rfl rfl ?_;intro cu H;refine kg 2 ?_;replace H:=H.pk [0,4];refine kg 2 ?_;obtain ⟨cv,bw,hM⟩:=M.e_bind hM;refine s_call cf36 [] rfl (zbH bw _ (H.gt 2)) ?_
 rintro vq cx ⟨bx,bz,aJ,aK,bA,bB,cy,cz,rfl,hvq,aa,bC⟩
 subst vq;(try dsimp only at hM);replace H:=H.bk aa;clear aa;obtain ⟨cB,bD,hM⟩:=M.e_bind hM;refine s_call cf37 [.agg #[bA,bB,I aJ,I aK],I 410] rfl (zdh bx bz aJ aK 410 (rdo 0) (H.os 0) (Reads.sup (rdo 1) (Reads.of (k:=2) rfl roLe)) (rowSl rfl (H.get (k:=1) rfl) (roLe _ (H.get (k:=2) rfl)) bC) bD _ (H.gt 5)) ?_
 rintro vq cC ⟨ar,au,av,aw,aj,rfl,hvq,aa⟩
 subst vq;(try dsimp only at hM);replace H:=H.bk aa;clear aa;refine kg 4 ?_;refine t_alloc (cs:=[I 0,I 0]) H Al101 rfl ?_;intro cD cE H;refine t_alloc (cs:=[I 0,I 0]) H Al101 rfl ?_;intro cF cG H;refine t_sw 1 0 [I ar,I au] (.agg #[I ar,I au]) H rfl rfl Sz101 rfl rfl rfl rfl ?_;intro cH H;refine t_sw 0 0 [I av,I aw] (.agg #[I av,I aw]) H rfl rfl Sz101 rfl rfl rfl rfl ?_;intro cI H;refine kg 2 ?_;replace H:=H.pk [0,1,5,6];refine kg 2 ?_;obtain ⟨cJ,bE,hM⟩:=M.e_bind hM;refine s_call cf36 [] rfl (zbH bE _ (H.gt 4)) ?_
 rintro vq cK ⟨bF,bG,aL,aM,bH,bI,cL,cM,rfl,hvq,aa,bJ⟩
 subst vq;(try dsimp only at hM);replace H:=H.bk aa;clear aa;obtain ⟨cN,bK,hM⟩:=M.e_bind hM;refine s_call cf38 [.agg #[bH,bI,I aL,I aM],I 1900,I 1906,I 2] rfl (zdR bF bG aL aM 1900 1906 2 (rdo 0) (H.os 0) (Reads.sup (rdo 1) (Reads.of (k:=2) rfl roLe)) (rowSl rfl (H.get (k:=1) rfl) (roLe _ (H.get (k:=2) rfl)) bJ) bK _ (H.gt 7)) ?_
 rintro vq cO ⟨ay,az,am,rfl,hvq,aa⟩
 subst vq;(try dsimp only at hM);replace H:=H.bk aa;clear aa;refine kg 3 ?_;refine t_alloc (cs:=[I 0,I 0]) H Al31 rfl ?_;intro cP cQ H;refine t_sw 0 0 [I ay,I az] (.agg #[I ay,I az]) H rfl rfl Sz31 rfl rfl rfl rfl ?_;intro cR H;refine kg 2 ?_;replace H:=H.pk [0,4,5,6,7];refine kg 7 ?_;refine s_val (x_pand (b:=ah==0) (r:=ai==0) rfl (fun hb=>gd_of (c:=ah==0) (by first | exact hb | (rw [hb]; rfl) | simp_all) (B (ai==0))) rfl) ?_;refine kg 3 ?_;refine s_val (x_pand (b:=((ah==0)&&(ai==0))) (r:=aj==0) rfl (fun hb=>gd_of (c:=((ah==0)&&(ai==0))) (by first | exact hb | (rw [hb]; rfl) | simp_all) (B (aj==0))) rfl) ?_;refine kg 3 ?_;refine s_val (x_pand (b:=(((ah==0)&&(ai==0))&&(aj==0))) (r:=am==0) rfl (fun hb=>gd_of (c:=(((ah==0)&&(ai==0))&&(aj==0))) (by first | exact hb | (rw [hb]; rfl) | simp_all) (B (am==0))) rfl) ?_;refine kg 2 ?_;refine g_val ((((ah==0)&&(ai==0))&&(aj==0))&&(am==0)) (gy_t rfl) (fun hg=>x_bld (ps:=[(0,I 1),(1,I 4)]) (zs:=[I 0,I 0]) (L':=[I 1,I 4]) rfl Tryz.underlying31 Al31 rfl (Bd31 Tryz.underlying31) (.cons (cs:=[I 1]) rfl rfl rfl rfl rfl<|.cons (cs:=[I 4]) rfl rfl rfl rfl rfl<|.nil))<|g_val ((((ah==0)&&(ai==0))&&(aj==0))&&(am==0)) (gy_t rfl) (fun hg=>x_eqS (eqT31 (⟨(ak:Int),(al:Int)⟩:Span) (⟨(1:Int),(4:Int)⟩:Span) _) gdT31 (gd_of hg (.agg #[I ak,I al])) (gd_of hg (.agg #[I 1,I 4])))<|s_val (x_pand (b:=((((ah==0)&&(ai==0))&&(aj==0))&&(am==0))) (r:=decide ((⟨(ak:Int),(al:Int)⟩:Span)=(⟨(1:Int),(4:Int)⟩:Span))) rfl (fun hb=>gd_of (c:=((((ah==0)&&(ai==0))&&(aj==0))&&(am==0))) (by first | exact hb | (rw [hb]; rfl) | simp_all) (B (decide ((⟨(ak:Int),(al:Int)⟩:Span)=(⟨(1:Int),(4:Int)⟩:Span))))) rfl) ?_;refine kg 2 ?_;refine g_val (((((ah==0)&&(ai==0))&&(aj==0))&&(am==0))&&(decide ((⟨(ak:Int),(al:Int)⟩:Span)=(⟨(1:Int),(4:Int)⟩:Span)))) (gy_t rfl) (fun hg=>x_bld (ps:=[(0,I 1),(1,I 9)]) (zs:=[I 0,I 0]) (L':=[I 1,I 9]) rfl Tryz.underlying31 Al31 rfl (Bd31 Tryz.underlying31) (.cons (cs:=[I 1]) rfl rfl rfl rfl rfl<|.cons (cs:=[I 9]) rfl rfl rfl rfl rfl<|.nil))<|g_val (((((ah==0)&&(ai==0))&&(aj==0))&&(am==0))&&(decide ((⟨(ak:Int),(al:Int)⟩:Span)=(⟨(1:Int),(4:Int)⟩:Span)))) (gy_t rfl) (fun hg=>x_eqS (eqT31 (⟨(ao:Int),(ap:Int)⟩:Span) (⟨(1:Int),(9:Int)⟩:Span) _) gdT31 (gd_of hg (.agg #[I ao,I ap])) (gd_of hg (.agg #[I 1,I 9])))<|s_val (x_pand (b:=(((((ah==0)&&(ai==0))&&(aj==0))&&(am==0))&&(decide ((⟨(ak:Int),(al:Int)⟩:Span)=(⟨(1:Int),(4:Int)⟩:Span))))) (r:=decide ((⟨(ao:Int),(ap:Int)⟩:Span)=(⟨(1:Int),(9:Int)⟩:Span))) rfl (fun hb=>gd_of (c:=(((((ah==0)&&(ai==0))&&(aj==0))&&(am==0))&&(decide ((⟨(ak:Int),(al:Int)⟩:Span)=(⟨(1:Int),(4:Int)⟩:Span))))) (by first | exact hb | (rw [hb]; rfl) | simp_all) (B (decide ((⟨(ao:Int),(ap:Int)⟩:Span)=(⟨(1:Int),(9:Int)⟩:Span))))) rfl) ?_;refine kg 2 ?_;refine g_val ((((((ah==0)&&(ai==0))&&(aj==0))&&(am==0))&&(decide ((⟨(ak:Int),(al:Int)⟩:Span)=(⟨(1:Int),(4:Int)⟩:Span))))&&(decide ((⟨(ao:Int),(ap:Int)⟩:Span)=(⟨(1:Int),(9:Int)⟩:Span)))) (gy_t rfl) (fun hg=>x_bld (ps:=[(0,I 1),(1,I 10)]) (zs:=[I 0,I 0]) (L':=[I 1,I 10]) rfl Tryz.underlying101 Al101 rfl (Bd101 Tryz.underlying101) (.cons (cs:=[I 1]) rfl rfl rfl rfl rfl<|.cons (cs:=[I 10]) rfl rfl rfl rfl rfl<|.nil))<|g_val ((((((ah==0)&&(ai==0))&&(aj==0))&&(am==0))&&(decide ((⟨(ak:Int),(al:Int)⟩:Span)=(⟨(1:Int),(4:Int)⟩:Span))))&&(decide ((⟨(ao:Int),(ap:Int)⟩:Span)=(⟨(1:Int),(9:Int)⟩:Span)))) (gy_t rfl) (fun hg=>x_eqS (eqT101 (⟨(ar:Int),(au:Int)⟩:Rto) (⟨(1:Int),(10:Int)⟩:Rto) _) gdT101 (gd_of hg (.agg #[I ar,I au])) (gd_of hg (.agg #[I 1,I 10])))<|s_val (x_pand (b:=((((((ah==0)&&(ai==0))&&(aj==0))&&(am==0))&&(decide ((⟨(ak:Int),(al:Int)⟩:Span)=(⟨(1:Int),(4:Int)⟩:Span))))&&(decide ((⟨(ao:Int),(ap:Int)⟩:Span)=(⟨(1:Int),(9:Int)⟩:Span))))) (r:=decide ((⟨(ar:Int),(au:Int)⟩:Rto)=(⟨(1:Int),(10:Int)⟩:Rto))) rfl (fun hb=>gd_of (c:=((((((ah==0)&&(ai==0))&&(aj==0))&&(am==0))&&(decide ((⟨(ak:Int),(al:Int)⟩:Span)=(⟨(1:Int),(4:Int)⟩:Span))))&&(decide ((⟨(ao:Int),(ap:Int)⟩:Span)=(⟨(1:Int),(9:Int)⟩:Span))))) (by first | exact hb | (rw [hb]; rfl) | simp_all) (B (decide ((⟨(ar:Int),(au:Int)⟩:Rto)=(⟨(1:Int),(10:Int)⟩:Rto))))) rfl) ?_;refine kg 2 ?_;refine g_val (((((((ah==0)&&(ai==0))&&(aj==0))&&(am==0))&&(decide ((⟨(ak:Int),(al:Int)⟩:Span)=(⟨(1:Int),(4:Int)⟩:Span))))&&(decide ((⟨(ao:Int),(ap:Int)⟩:Span)=(⟨(1:Int),(9:Int)⟩:Span))))&&(decide ((⟨(ar:Int),(au:Int)⟩:Rto)=(⟨(1:Int),(10:Int)⟩:Rto)))) (gy_t rfl) (fun hg=>x_bld (ps:=[(0,I 9),(1,I 10)]) (zs:=[I 0,I 0]) (L':=[I 9,I 10]) rfl Tryz.underlying101 Al101 rfl (Bd101 Tryz.underlying101) (.cons (cs:=[I 9]) rfl rfl rfl rfl rfl<|.cons (cs:=[I 10]) rfl rfl rfl rfl rfl<|.nil))<|g_val (((((((ah==0)&&(ai==0))&&(aj==0))&&(am==0))&&(decide ((⟨(ak:Int),(al:Int)⟩:Span)=(⟨(1:Int),(4:Int)⟩:Span))))&&(decide ((⟨(ao:Int),(ap:Int)⟩:Span)=(⟨(1:Int),(9:Int)⟩:Span))))&&(decide ((⟨(ar:Int),(au:Int)⟩:Rto)=(⟨(1:Int),(10:Int)⟩:Rto)))) (gy_t rfl) (fun hg=>x_eqS (eqT101 (⟨(av:Int),(aw:Int)⟩:Rto) (⟨(9:Int),(10:Int)⟩:Rto) _) gdT101 (gd_of hg (.agg #[I av,I aw])) (gd_of hg (.agg #[I 9,I 10])))<|s_val (x_pand (b:=(((((((ah==0)&&(ai==0))&&(aj==0))&&(am==0))&&(decide ((⟨(ak:Int),(al:Int)⟩:Span)=(⟨(1:Int),(4:Int)⟩:Span))))&&(decide ((⟨(ao:Int),(ap:Int)⟩:Span)=(⟨(1:Int),(9:Int)⟩:Span))))&&(decide ((⟨(ar:Int),(au:Int)⟩:Rto)=(⟨(1:Int),(10:Int)⟩:Rto))))) (r:=decide ((⟨(av:Int),(aw:Int)⟩:Rto)=(⟨(9:Int),(10:Int)⟩:Rto))) rfl (fun hb=>gd_of (c:=(((((((ah==0)&&(ai==0))&&(aj==0))&&(am==0))&&(decide ((⟨(ak:Int),(al:Int)⟩:Span)=(⟨(1:Int),(4:Int)⟩:Span))))&&(decide ((⟨(ao:Int),(ap:Int)⟩:Span)=(⟨(1:Int),(9:Int)⟩:Span))))&&(decide ((⟨(ar:Int),(au:Int)⟩:Rto)=(⟨(1:Int),(10:Int)⟩:Rto))))) (by first | exact hb | (rw [hb]; rfl) | simp_all) (B (decide ((⟨(av:Int),(aw:Int)⟩:Rto)=(⟨(9:Int),(10:Int)⟩:Rto))))) rfl) ?_;refine kg 2 ?_;refine g_val ((((((((ah==0)&&(ai==0))&&(aj==0))&&(am==0))&&(decide ((⟨(ak:Int),(al:Int)⟩:Span)=(⟨(1:Int),(4:Int)⟩:Span))))&&(decide ((⟨(ao:Int),(ap:Int)⟩:Span)=(⟨(1:Int),(9:Int)⟩:Span))))&&(decide ((⟨(ar:Int),(au:Int)⟩:Rto)=(⟨(1:Int),(10:Int)⟩:Rto))))&&(decide ((⟨(av:Int),(aw:Int)⟩:Rto)=(⟨(9:Int),(10:Int)⟩:Rto)))) (gy_t rfl) (fun hg=>x_bld (ps:=[(0,I 400),(1,I 499)]) (zs:=[I 0,I 0]) (L':=[I 400,I 499]) rfl Tryz.underlying31 Al31 rfl (Bd31 Tryz.underlying31) (.cons (cs:=[I 400]) rfl rfl rfl rfl rfl<|.cons (cs:=[I 499]) rfl rfl rfl rfl rfl<|.nil))<|g_val ((((((((ah==0)&&(ai==0))&&(aj==0))&&(am==0))&&(decide ((⟨(ak:Int),(al:Int)⟩:Span)=(⟨(1:Int),(4:Int)⟩:Span))))&&(decide ((⟨(ao:Int),(ap:Int)⟩:Span)=(⟨(1:Int),(9:Int)⟩:Span))))&&(decide ((⟨(ar:Int),(au:Int)⟩:Rto)=(⟨(1:Int),(10:Int)⟩:Rto))))&&(decide ((⟨(av:Int),(aw:Int)⟩:Rto)=(⟨(9:Int),(10:Int)⟩:Rto)))) (gy_t rfl) (fun hg=>x_eqS (eqT31 (⟨(ay:Int),(az:Int)⟩:Span) (⟨(400:Int),(499:Int)⟩:Span) _) gdT31 (gd_of hg (.agg #[I ay,I az])) (gd_of hg (.agg #[I 400,I 499])))<|s_val (x_pand (b:=((((((((ah==0)&&(ai==0))&&(aj==0))&&(am==0))&&(decide ((⟨(ak:Int),(al:Int)⟩:Span)=(⟨(1:Int),(4:Int)⟩:Span))))&&(decide ((⟨(ao:Int),(ap:Int)⟩:Span)=(⟨(1:Int),(9:Int)⟩:Span))))&&(decide ((⟨(ar:Int),(au:Int)⟩:Rto)=(⟨(1:Int),(10:Int)⟩:Rto))))&&(decide ((⟨(av:Int),(aw:Int)⟩:Rto)=(⟨(9:Int),(10:Int)⟩:Rto))))) (r:=decide ((⟨(ay:Int),(az:Int)⟩:Span)=(⟨(400:Int),(499:Int)⟩:Span))) rfl (fun hb=>gd_of (c:=((((((((ah==0)&&(ai==0))&&(aj==0))&&(am==0))&&(decide ((⟨(ak:Int),(al:Int)⟩:Span)=(⟨(1:Int),(4:Int)⟩:Span))))&&(decide ((⟨(ao:Int),(ap:Int)⟩:Span)=(⟨(1:Int),(9:Int)⟩:Span))))&&(decide ((⟨(ar:Int),(au:Int)⟩:Rto)=(⟨(1:Int),(10:Int)⟩:Rto))))&&(decide ((⟨(av:Int),(aw:Int)⟩:Rto)=(⟨(9:Int),(10:Int)⟩:Rto))))) (by first | exact hb | (rw [hb]; rfl) | simp_all) (B (decide ((⟨(ay:Int),(az:Int)⟩:Span)=(⟨(400:Int),(499:Int)⟩:Span))))) rfl) ?_;refine kg 2 ?_;replace H:=H.pk [];refine W.ret ?_
 have aA:=M.e_pure hM
 exact ⟨_,resE_tmp rfl,⟨(((((((((ah==0)&&(ai==0))&&(aj==0))&&(am==0))&&(decide ((⟨(ak:Int),(al:Int)⟩:Span)=(⟨(1:Int),(4:Int)⟩:Span))))&&(decide ((⟨(ao:Int),(ap:Int)⟩:Span)=(⟨(1:Int),(9:Int)⟩:Span))))&&(decide ((⟨(ar:Int),(au:Int)⟩:Rto)=(⟨(1:Int),(10:Int)⟩:Rto))))&&(decide ((⟨(av:Int),(aw:Int)⟩:Rto)=(⟨(9:Int),(10:Int)⟩:Rto))))&&(decide ((⟨(ay:Int),(az:Int)⟩:Span)=(⟨(400:Int),(499:Int)⟩:Span)))),aA,rfl,H⟩⟩

end Go.Proofs.YtdmdhmineljlhaaGreat
end
section
set_option maxRecDepth 100000
set_option maxHeartbeats 16000000
namespace Go.Proofs.YtdmdhmineljlhaaGreat
open Go Go.Nm
attribute [local irreducible] gd execOp SL SLD SLT WR
def zc0 (bytes:List UInt8):M (Int × Int) :=
  M.pure (0,0)
theorem zdy {R:List Chunk} {ab:Cells} {aa:Value} (bytes:List UInt8) (ai:Reads R ab) (ae:Sl ab aa bytes) {r:(Int × Int)} (hM:(zc0 bytes).Ends r) (w:World) (H:St w w [] R):Ret Tryz.prog 6 #[aa] w fun v w'=>∃ (y0:Int) (y1:Int) (ac:Nat),(y0,y1)=r/\v=Pq ac/\St w w' [cBlk ac [aa,I y0,I y1] 59] R:=by
 refine ret_of_W Tryz.func6 rfl rfl rfl ?_;refine kg 7 ?_;refine s_val (x_bld (ps:=[(0,aa)]) (zs:=[.slice none 0 0,I 0,I 0]) (L':=[aa,I 0,I 0]) rfl Tryz.underlying59 Al59 rfl (Bd59 Tryz.underlying59) (.cons (cs:=[aa]) (Sl.cells ae) rfl rfl rfl rfl<|.nil)) ?_;refine t_bx [aa,I 0,I 0] H rfl ?_;intro ag aj H;refine kg 2 ?_;refine W.ret ?_
 have ah:=M.e_pure hM
 exact ⟨_,resE_tmp rfl,⟨0,0,ag,ah,rfl,H⟩⟩

def zaZ (v n:Int):M Int :=
  bif decide (n<1) then (
  M.pure 0)
  else (
  M.grd (decide ((0:Int)<n)) <|
  bif decide ((Int.tmod v n)<0) then (
  M.grd (decide ((-9223372036854775808:Int)<=((Int.tmod v n)+n))&&decide (((Int.tmod v n)+n)<=(9223372036854775807:Int))) <|
  M.pure ((Int.tmod v n)+n))
  else (
  M.pure (Int.tmod v n)))
theorem zcU {R:List Chunk}  (v:Int) (n:Int)  {r:Int} (hM:(zaZ v n).Ends r) (w:World) (H:St w w [] R):Ret Tryz.prog 4 #[I v,I n] w fun v w'=>∃ (y0:Int),y0=r/\v=I y0/\St w w' [] R:=by
 refine ret_of_W Tryz.func4 rfl rfl rfl ?_;refine kg 10 ?_
 refine W.cond (decide (n<1)) rfl (fun aa=>?_) (fun aa=>?_)
 ·replace hM:=M.e_t hM aa
  replace aa:=dI aa
  refine kg 4 ?_;refine W.ret ?_
  have ac:=M.e_pure hM
  exact ⟨_,resE_tmp rfl,⟨0,ac,rfl,H⟩⟩
 replace hM:=M.e_f hM aa
 replace aa:=dI aa
 obtain ⟨ae,hM⟩:=M.e_gd hM;refine kg 5 ?_;refine s_val (x_rem (a:=v) (b:=n) rfl rfl (by omega)) ?_;refine kg 8 ?_
 refine W.cond (decide ((Int.tmod v n)<0)) rfl (fun ab=>?_) (fun ab=>?_)
 ·replace hM:=M.e_t hM ab
  replace ab:=dI ab
  obtain ⟨ag,hM⟩:=M.e_gd hM;refine kg 11 ?_;refine W.ret ?_
  have ac:=M.e_pure hM
  exact ⟨_,resE_tmp rfl,⟨((Int.tmod v n)+n),ac,rfl,H⟩⟩
 replace hM:=M.e_f hM ab
 replace ab:=dI ab
 refine kg 6 ?_;refine W.ret ?_
 have ac:=M.e_pure hM
 exact ⟨_,resE_tmp rfl,⟨(Int.tmod v n),ac,rfl,H⟩⟩

def zby (s_used s_mix n b:Int):M (Int × Int × Int) :=
  M.grd (decide ((-9223372036854775808:Int)<=(5*s_mix))&&decide ((5*s_mix)<=(9223372036854775807:Int))) <|
  M.grd (decide ((-9223372036854775808:Int)<=((5*s_mix)+b))&&decide (((5*s_mix)+b)<=(9223372036854775807:Int))) <|
  M.grd (decide ((-9223372036854775808:Int)<=(((5*s_mix)+b)+1))&&decide ((((5*s_mix)+b)+1)<=(9223372036854775807:Int))) <|
  M.grd (decide ((0:Int)<=(((5*s_mix)+b)+1))&&decide ((0:Int)<251)) <|
  M.grd (decide ((-9223372036854775808:Int)<=(s_used+1))&&decide ((s_used+1)<=(9223372036854775807:Int))) <|
  bif decide (256<n) then (
  M.grd (decide ((-9223372036854775808:Int)<=(256*b))&&decide ((256*b)<=(9223372036854775807:Int))) <|
  M.grd (decide ((-9223372036854775808:Int)<=((256*b)+((((5*s_mix)+b)+1) % 251)))&&decide (((256*b)+((((5*s_mix)+b)+1) % 251))<=(9223372036854775807:Int))) <|
  M.grd (decide ((0:Int)<=((256*b)+((((5*s_mix)+b)+1) % 251)))&&decide ((0:Int)<n)) <|
  M.pure ((((256*b)+((((5*s_mix)+b)+1) % 251)) % n),(s_used+1),((((5*s_mix)+b)+1) % 251)))
  else (
  M.grd (decide ((0:Int)<=b)&&decide ((0:Int)<n)) <|
  M.pure ((b % n),(s_used+1),((((5*s_mix)+b)+1) % 251)))
def zac (s_bytes:List UInt8) (s_used s_mix n:Int):M (Int × Int × Int) :=
  bif ((decide (n<2))||((s_bytes.length:Int)==0)) then (
  M.pure (0,s_used,s_mix))
  else (
  M.grd (decide ((0:Int)<=s_used)&&decide ((0:Int)<(s_bytes.length:Int))) <|
  M.grd (decide ((0:Int)<=(s_used % (s_bytes.length:Int)))&&decide ((s_used % (s_bytes.length:Int))<(s_bytes.length:Int))) <|
  M.grd (decide ((0:Int)<=((s_bytes.getD (Int.toNat (s_used % (s_bytes.length:Int))) 0).toNat:Int))&&decide (((s_bytes.getD (Int.toNat (s_used % (s_bytes.length:Int))) 0).toNat:Int)<(256:Int))) <|
  bif decide ((s_bytes.length:Int)<=s_used) then (
  M.grd (decide ((-9223372036854775808:Int)<=(11*s_mix))&&decide ((11*s_mix)<=(9223372036854775807:Int))) <|
  M.grd (decide (0<=s_used)&&decide (s_used<=(9223372036854775807:Int))&&decide ((0:Int)<(s_bytes.length:Int))) <|
  M.grd (decide ((-9223372036854775808:Int)<=((11*s_mix)+(s_used / (s_bytes.length:Int))))&&decide (((11*s_mix)+(s_used / (s_bytes.length:Int)))<=(9223372036854775807:Int))) <|
  M.grd (decide ((-9223372036854775808:Int)<=(((s_bytes.getD (Int.toNat (s_used % (s_bytes.length:Int))) 0).toNat:Int)+((11*s_mix)+(s_used / (s_bytes.length:Int)))))&&decide ((((s_bytes.getD (Int.toNat (s_used % (s_bytes.length:Int))) 0).toNat:Int)+((11*s_mix)+(s_used / (s_bytes.length:Int))))<=(9223372036854775807:Int))) <|
  zby s_used s_mix n (((s_bytes.getD (Int.toNat (s_used % (s_bytes.length:Int))) 0).toNat:Int)+((11*s_mix)+(s_used / (s_bytes.length:Int)))))
  else (
  zby s_used s_mix n ((s_bytes.getD (Int.toNat (s_used % (s_bytes.length:Int))) 0).toNat:Int)))
theorem zae {R:List Chunk} {aa:Nat} {ak:Cells} {ac:Value} (s_bytes:List UInt8) (s_used:Int) (s_mix:Int) (n:Int) (al:Reads R ak) (ah:Sl ak ac s_bytes) {r:(Int × Int × Int)} (hM:(zac s_bytes s_used s_mix n).Ends r) (w:World) (H:St w w [cBlk aa [ac,I s_used,I s_mix] 59] R):Ret Tryz.prog 13 #[Pq aa,I n] w fun v w'=>∃ (y0:Int) (y1:Int) (y2:Int),(y0,y1,y2)=r/\v=I y0/\St w w' [cBlk aa [ac,I y1,I y2] 59] R:=by
 refine ret_of_W Tryz.func13 rfl rfl rfl ?_
 have am:=(ah).len_le
 refine kg 16 ?_;refine s_val (x_por (b:=decide (n<2)) (r:=(s_bytes.length:Int)==0) rfl rfl (fun hb=>gd_of (c:=!(decide (n<2))) (by first | exact hb | (rw [hb]; rfl) | simp_all) (B ((s_bytes.length:Int)==0))))<|s_nil ?_
 refine W.cond ((decide (n<2))||((s_bytes.length:Int)==0)) rfl (fun aj=>?_) (fun aj=>?_)
 ·replace hM:=M.e_t hM aj;refine kg 4 ?_;refine W.ret ?_
  have ai:=M.e_pure hM
  exact ⟨_,resE_tmp rfl,⟨0,s_used,s_mix,ai,rfl,H⟩⟩
 replace hM:=M.e_f hM aj;refine kg 2 ?_;refine W.draw (fun W=>St w W [cBlk aa [ac,I s_used,I s_mix] 59] R) [(0,true),(1,true),(2,true),(3,true),(4,true),(5,true),(6,true),(7,true),(8,true),(9,true),(10,true),(11,true),(12,true),(13,true),(14,true),(15,true),(16,true),(17,true)] mixed (by decide +kernel) rfl ?_;intro ao ab;replace H:=H.ext ab;clear ab
 refine ⟨(H.pk [0]),?_⟩
 have ap:=(ah).len_le
 obtain ⟨aq,hM⟩:=M.e_gd hM;refine kg 13 ?_;refine d_q rfl (fun w' H=>x_rem' (a:=s_used) (b:=(s_bytes.length:Int)) rfl rfl (by omega)) ?_;obtain ⟨ar,hM⟩:=M.e_gd hM;refine kg 1 ?_;refine d_q rfl (fun w' H=>x_ld (v:=.int .u8 (((s_bytes.getD (Int.toNat (s_used % (s_bytes.length:Int))) 0).toNat:Int))) rfl (ld_sc Sc5 (At.mono (UInt8_at ah (i:=s_used % (s_bytes.length:Int)) (by omega) (by omega)) (al.at H)))) ?_;obtain ⟨au,hM⟩:=M.e_gd hM;refine d_q rfl (fun w' H=>x_conv64 (kd:=.u8) (a:=((s_bytes.getD (Int.toNat (s_used % (s_bytes.length:Int))) 0).toNat:Int)) Tryz.underlying5 Tryz.underlying3 rfl (by omega)) ?_;refine kg 2 ?_;refine W.seqJ (fun σ W=>∃ (b:Int) (ρ:Env),σ=upds ρ [(0,Pq aa),(1,I n),(5,I b)]/\(zby s_used s_mix n b).Ends r/\St w W [cBlk aa [ac,I s_used,I s_mix] 59] R) ?_ ?_
 ·skip
  refine W.seq ?_;refine W.draw (fun W=>St w W [cBlk aa [ac,I s_used,I s_mix] 59] R) [(0,true),(1,true),(2,true),(3,true),(4,true),(5,true),(6,true),(7,true),(8,true),(9,true)] mixed (by decide +kernel) rfl ?_;intro av ab;replace H:=H.ext ab;clear ab
  refine ⟨(H.pk [0]),?_⟩
  have aw:=(ah).len_le
  refine kg 11 ?_
  refine W.cond (decide ((s_bytes.length:Int)<=s_used)) rfl (fun ae=>?_) (fun ae=>?_)
  ·replace hM:=M.e_t hM ae
   replace ae:=dI ae
   refine W.draw (fun W=>St w W [cBlk aa [ac,I s_used,I s_mix] 59] R) [(0,true),(1,true),(2,true),(3,true),(4,true),(5,true),(6,true),(7,true),(8,true),(9,true),(10,true),(11,true),(12,true),(13,true),(14,true),(15,true),(16,true),(17,true),(18,true)] mixed (by decide +kernel) rfl ?_;intro ax ab;replace H:=H.ext ab;clear ab
   refine ⟨(H.pk [0]),?_⟩
   obtain ⟨ay,hM⟩:=M.e_gd hM
   have az:=(ah).len_le
   obtain ⟨aA,hM⟩:=M.e_gd hM;obtain ⟨aB,hM⟩:=M.e_gd hM;obtain ⟨aC,hM⟩:=M.e_gd hM;refine kg 20 ?_
   exact ⟨((s_bytes.getD (Int.toNat (s_used % (s_bytes.length:Int))) 0).toNat:Int)+((11*s_mix)+(s_used / (s_bytes.length:Int))),_,upds_of _ _ ⟨rfl,rfl,rfl,trivial⟩,hM,H⟩
  replace hM:=M.e_f hM ae
  replace ae:=dI ae
  refine W.skip ?_
  exact ⟨((s_bytes.getD (Int.toNat (s_used % (s_bytes.length:Int))) 0).toNat:Int),_,upds_of _ _ ⟨rfl,rfl,rfl,trivial⟩,hM,H⟩
 rintro _ aD ⟨b,ρ,rfl,hM,H⟩
 unfold zby at hM
 obtain ⟨aE,hM⟩:=M.e_gd hM;obtain ⟨aF,hM⟩:=M.e_gd hM;obtain ⟨aG,hM⟩:=M.e_gd hM;obtain ⟨aH,hM⟩:=M.e_gd hM;refine kg 11 ?_;refine s_val (x_rem' (a:=((5*s_mix)+b)+1) (b:=251) rfl rfl (by omega)) ?_;refine kg 2 ?_;refine t_sw 0 2 [I ((((5*s_mix)+b)+1) % 251)] (I ((((5*s_mix)+b)+1) % 251)) H rfl rfl Sz3 rfl rfl rfl rfl ?_;intro aI H;obtain ⟨aJ,hM⟩:=M.e_gd hM;refine kg 10 ?_;refine t_sw 0 1 [I (s_used+1)] (I (s_used+1)) H rfl rfl Sz3 rfl rfl rfl rfl ?_;intro aK H;refine kg 7 ?_
 refine W.cond (decide (256<n)) rfl (fun ag=>?_) (fun ag=>?_)
 ·replace hM:=M.e_t hM ag
  replace ag:=dI ag
  obtain ⟨aL,hM⟩:=M.e_gd hM;obtain ⟨aM,hM⟩:=M.e_gd hM;obtain ⟨aN,hM⟩:=M.e_gd hM;refine kg 14 ?_;refine s_val (x_rem' (a:=(256*b)+((((5*s_mix)+b)+1) % 251)) (b:=n) rfl rfl (by omega)) ?_;refine kg 2 ?_;refine W.ret ?_
  have ai:=M.e_pure hM
  exact ⟨_,resE_tmp rfl,⟨(((256*b)+((((5*s_mix)+b)+1) % 251)) % n),(s_used+1),((((5*s_mix)+b)+1) % 251),ai,rfl,H⟩⟩
 replace hM:=M.e_f hM ag
 replace ag:=dI ag
 obtain ⟨aO,hM⟩:=M.e_gd hM;refine kg 5 ?_;refine s_val (x_rem' (a:=b) (b:=n) rfl rfl (by omega)) ?_;refine kg 2 ?_;refine W.ret ?_
 have ai:=M.e_pure hM
 exact ⟨_,resE_tmp rfl,⟨(b % n),(s_used+1),((((5*s_mix)+b)+1) % 251),ai,rfl,H⟩⟩

def zag (s_bytes:List UInt8) (s_used s_mix lo hi:Int):M (Int × Int × Int) :=
  M.grd (decide ((-9223372036854775808:Int)<=(hi-lo))&&decide ((hi-lo)<=(9223372036854775807:Int))) <|
  M.grd (decide ((-9223372036854775808:Int)<=((hi-lo)+1))&&decide (((hi-lo)+1)<=(9223372036854775807:Int))) <|
  M.bind (zac s_bytes s_used s_mix ((hi-lo)+1)) fun (r2,q1,q2) =>
  M.grd (decide ((-9223372036854775808:Int)<=(lo+r2))&&decide ((lo+r2)<=(9223372036854775807:Int))) <|
  M.pure ((lo+r2),q1,q2)
theorem zad {R:List Chunk} {aa:Nat} {ac:Cells} {ab:Value} (s_bytes:List UInt8) (s_used:Int) (s_mix:Int) (lo:Int) (hi:Int) (ag:Reads R ac) (ah:Sl ac ab s_bytes) {r:(Int × Int × Int)} (hM:(zag s_bytes s_used s_mix lo hi).Ends r) (w:World) (H:St w w [cBlk aa [ab,I s_used,I s_mix] 59] R):Ret Tryz.prog 12 #[Pq aa,I lo,I hi] w fun v w'=>∃ (y0:Int) (y1:Int) (y2:Int),(y0,y1,y2)=r/\v=I y0/\St w w' [cBlk aa [ab,I y1,I y2] 59] R:=by
 refine ret_of_W Tryz.func12 rfl rfl rfl ?_;obtain ⟨ak,hM⟩:=M.e_gd hM;obtain ⟨al,hM⟩:=M.e_gd hM;refine kg 12 ?_;obtain ⟨am,ai,hM⟩:=M.e_bind hM;refine s_call cf13 [Pq aa,I ((hi-lo)+1)] rfl (zae s_bytes s_used s_mix ((hi-lo)+1) (ag.app _) ah ai _ (H.gt 0)) ?_
 rintro vq ao ⟨r2,q1,q2,rfl,hvq,ae⟩
 subst vq;(try dsimp only at hM);replace H:=H.bk ae;clear ae;obtain ⟨ap,hM⟩:=M.e_gd hM;refine kg 3 ?_;refine W.ret ?_
 have aj:=M.e_pure hM
 exact ⟨_,resE_tmp rfl,⟨(lo+r2),q1,q2,aj,rfl,H⟩⟩

end Go.Proofs.YtdmdhmineljlhaaGreat
end
section
set_option maxRecDepth 100000
set_option maxHeartbeats 16000000
namespace Go.Proofs.YtdmdhmineljlhaaGreat
open Go Go.Nm
attribute [local irreducible] gd execOp SL SLD SLT WR
def zaJ (s_bytes:List UInt8) (stop:Bool) (r2 r3 r4 r5 r6:Int):(Int × Int × Int × Int × Int × (List CMk) × (List Int) × (List Int) × (List Int))->M ((Int × Int × Int × Int × Int × (List CMk) × (List Int) × (List Int) × (List Int)) ⊕ (Int × Int × (List CMk) × (List Int) × (List Int) × (List Int) × (List Int) × (List Int) × (List Int) × (List CMk))):=fun (s2,s3,place,time,n,l,l2,l3,l4) =>
  bif decide (0<n) then (
  bif decide (0<(l.length:Int)) then (
  M.bind (zag s_bytes s2 s3 1 30) fun (r9,ap,aq) =>
  M.grd (decide ((-9223372036854775808:Int)<=(place+r9))&&decide ((place+r9)<=(9223372036854775807:Int))) <|
  M.grd (decide ((-9223372036854775808:Int)<=(r2*r9))&&decide ((r2*r9)<=(9223372036854775807:Int))) <|
  M.grd (decide ((-9223372036854775808:Int)<=((r2+r6)*r9))&&decide (((r2+r6)*r9)<=(9223372036854775807:Int))) <|
  M.bind (zag s_bytes ap aq (r2*r9) ((r2+r6)*r9)) fun (ab,ak,al) =>
  M.grd (decide ((-9223372036854775808:Int)<=(time+ab))&&decide ((time+ab)<=(9223372036854775807:Int))) <|
  bif stop then (
  M.bind (zac s_bytes ak al 5) fun (ar,am,ao) =>
  bif (stop&&(ar==0)) then (
  M.grd (decide ((-9223372036854775808:Int)<=((l.length:Int)-1))&&decide (((l.length:Int)-1)<=(9223372036854775807:Int))) <|
  M.grd (decide ((l4.length+([((l.length:Int)-1:Int)]).length)*8<=140737488355328)) <|
  M.bind (zac s_bytes am ao 400) fun (aj,au,av) =>
  M.grd (decide ((-9223372036854775808:Int)<=((time+ab)+aj))&&decide (((time+ab)+aj)<=(9223372036854775807:Int))) <|
  M.bind (zac s_bytes au av 60) fun (aa,ae,ag) =>
  M.grd (decide ((-9223372036854775808:Int)<=(r4*aa))&&decide ((r4*aa)<=(9223372036854775807:Int))) <|
  M.grd (decide ((-9223372036854775808:Int)<=(r3+(r4*aa)))&&decide ((r3+(r4*aa))<=(9223372036854775807:Int))) <|
  M.grd (decide ((-9223372036854775808:Int)<=((r3+(r4*aa))-r5))&&decide (((r3+(r4*aa))-r5)<=(9223372036854775807:Int))) <|
  M.grd (decide ((-9223372036854775808:Int)<=((r3+(r4*aa))+r5))&&decide (((r3+(r4*aa))+r5)<=(9223372036854775807:Int))) <|
  M.grd (decide ((l.length+([(⟨(place+r9:Int),(aa:Int)⟩:CMk)]).length)*16<=140737488355328)) <|
  M.grd (decide ((l2.length+([((time+ab)+aj:Int)]).length)*8<=140737488355328)) <|
  M.bind (zag s_bytes ae ag ((r3+(r4*aa))-r5) ((r3+(r4*aa))+r5)) fun (ac,ah,ai) =>
  M.grd (decide ((l3.length+([(ac:Int)]).length)*8<=140737488355328)) <|
  M.grd (decide ((-9223372036854775808:Int)<=(n-1))&&decide ((n-1)<=(9223372036854775807:Int))) <|
  M.pure (.inl (ah,ai,place+r9,(time+ab)+aj,n-1,l++([(⟨(place+r9:Int),(aa:Int)⟩:CMk)]),l2++([((time+ab)+aj:Int)]),l3++([(ac:Int)]),l4++([((l.length:Int)-1:Int)]))))
  else (
  M.bind (zac s_bytes am ao 60) fun (aa,ae,ag) =>
  M.grd (decide ((-9223372036854775808:Int)<=(r4*aa))&&decide ((r4*aa)<=(9223372036854775807:Int))) <|
  M.grd (decide ((-9223372036854775808:Int)<=(r3+(r4*aa)))&&decide ((r3+(r4*aa))<=(9223372036854775807:Int))) <|
  M.grd (decide ((-9223372036854775808:Int)<=((r3+(r4*aa))-r5))&&decide (((r3+(r4*aa))-r5)<=(9223372036854775807:Int))) <|
  M.grd (decide ((-9223372036854775808:Int)<=((r3+(r4*aa))+r5))&&decide (((r3+(r4*aa))+r5)<=(9223372036854775807:Int))) <|
  M.grd (decide ((l.length+([(⟨(place+r9:Int),(aa:Int)⟩:CMk)]).length)*16<=140737488355328)) <|
  M.grd (decide ((l2.length+([(time+ab:Int)]).length)*8<=140737488355328)) <|
  M.bind (zag s_bytes ae ag ((r3+(r4*aa))-r5) ((r3+(r4*aa))+r5)) fun (ac,ah,ai) =>
  M.grd (decide ((l3.length+([(ac:Int)]).length)*8<=140737488355328)) <|
  M.grd (decide ((-9223372036854775808:Int)<=(n-1))&&decide ((n-1)<=(9223372036854775807:Int))) <|
  M.pure (.inl (ah,ai,place+r9,time+ab,n-1,l++([(⟨(place+r9:Int),(aa:Int)⟩:CMk)]),l2++([(time+ab:Int)]),l3++([(ac:Int)]),l4))))
  else (
  M.bind (zac s_bytes ak al 60) fun (aa,ae,ag) =>
  M.grd (decide ((-9223372036854775808:Int)<=(r4*aa))&&decide ((r4*aa)<=(9223372036854775807:Int))) <|
  M.grd (decide ((-9223372036854775808:Int)<=(r3+(r4*aa)))&&decide ((r3+(r4*aa))<=(9223372036854775807:Int))) <|
  M.grd (decide ((-9223372036854775808:Int)<=((r3+(r4*aa))-r5))&&decide (((r3+(r4*aa))-r5)<=(9223372036854775807:Int))) <|
  M.grd (decide ((-9223372036854775808:Int)<=((r3+(r4*aa))+r5))&&decide (((r3+(r4*aa))+r5)<=(9223372036854775807:Int))) <|
  M.grd (decide ((l.length+([(⟨(place+r9:Int),(aa:Int)⟩:CMk)]).length)*16<=140737488355328)) <|
  M.grd (decide ((l2.length+([(time+ab:Int)]).length)*8<=140737488355328)) <|
  M.bind (zag s_bytes ae ag ((r3+(r4*aa))-r5) ((r3+(r4*aa))+r5)) fun (ac,ah,ai) =>
  M.grd (decide ((l3.length+([(ac:Int)]).length)*8<=140737488355328)) <|
  M.grd (decide ((-9223372036854775808:Int)<=(n-1))&&decide ((n-1)<=(9223372036854775807:Int))) <|
  M.pure (.inl (ah,ai,place+r9,time+ab,n-1,l++([(⟨(place+r9:Int),(aa:Int)⟩:CMk)]),l2++([(time+ab:Int)]),l3++([(ac:Int)]),l4))))
  else (
  M.bind (zac s_bytes s2 s3 60) fun (aa,ae,ag) =>
  M.grd (decide ((-9223372036854775808:Int)<=(r4*aa))&&decide ((r4*aa)<=(9223372036854775807:Int))) <|
  M.grd (decide ((-9223372036854775808:Int)<=(r3+(r4*aa)))&&decide ((r3+(r4*aa))<=(9223372036854775807:Int))) <|
  M.grd (decide ((-9223372036854775808:Int)<=((r3+(r4*aa))-r5))&&decide (((r3+(r4*aa))-r5)<=(9223372036854775807:Int))) <|
  M.grd (decide ((-9223372036854775808:Int)<=((r3+(r4*aa))+r5))&&decide (((r3+(r4*aa))+r5)<=(9223372036854775807:Int))) <|
  M.grd (decide ((l.length+([(⟨(place:Int),(aa:Int)⟩:CMk)]).length)*16<=140737488355328)) <|
  M.grd (decide ((l2.length+([(time:Int)]).length)*8<=140737488355328)) <|
  M.bind (zag s_bytes ae ag ((r3+(r4*aa))-r5) ((r3+(r4*aa))+r5)) fun (ac,ah,ai) =>
  M.grd (decide ((l3.length+([(ac:Int)]).length)*8<=140737488355328)) <|
  M.grd (decide ((-9223372036854775808:Int)<=(n-1))&&decide ((n-1)<=(9223372036854775807:Int))) <|
  M.pure (.inl (ah,ai,place,time,n-1,l++([(⟨(place:Int),(aa:Int)⟩:CMk)]),l2++([(time:Int)]),l3++([(ac:Int)]),l4))))
  else (
  M.pure (.inr (s2,s3,l,l2,l3,l4,l4,l3,l2,l)))
def zaB (s_bytes:List UInt8) (aa ab:List Int) (al:List CMk):(Int × Int × Nat × (List CNt))->M ((Int × Int × Nat × (List CNt)) ⊕ (Int × Int × (List CNt) × (List CNt))):=fun (s6,s7,i,ac) =>
  bif ((decide ((i:Int)<(al.length:Int)))&&(decide ((ac.length:Int)<20))) then (
  M.bind (zac s_bytes s6 s7 2) fun (am,aj,ak) =>
  bif am==0 then (
  M.grd (decide ((i:Int)<(ab.length:Int))) <|
  M.grd (decide ((i:Int)<(aa.length:Int))) <|
  M.bind (zac s_bytes aj ak 40) fun (ae,ao,ap) =>
  M.grd (decide ((-9223372036854775808:Int)<=((ab.getD i 0)-ae))&&decide (((ab.getD i 0)-ae)<=(9223372036854775807:Int))) <|
  M.bind (zac s_bytes ao ap 40) fun (ag,aq,ar) =>
  M.grd (decide ((-9223372036854775808:Int)<=((ab.getD i 0)+ag))&&decide (((ab.getD i 0)+ag)<=(9223372036854775807:Int))) <|
  M.bind (zac s_bytes aq ar 9) fun (ah,au,av) =>
  M.grd (decide ((-9223372036854775808:Int)<=((aa.getD i 0)-ah))&&decide (((aa.getD i 0)-ah)<=(9223372036854775807:Int))) <|
  M.bind (zac s_bytes au av 9) fun (ai,aw,ax) =>
  M.grd (decide ((-9223372036854775808:Int)<=((aa.getD i 0)+ai))&&decide (((aa.getD i 0)+ai)<=(9223372036854775807:Int))) <|
  M.grd (decide ((ac.length+([(⟨(i:Int),(max 0 ((ab.getD i 0)-ae):Int),((ab.getD i 0)+ag:Int),((aa.getD i 0)-ah:Int),((aa.getD i 0)+ai:Int)⟩:CNt)]).length)*40<=140737488355328)) <|
  M.grd (decide ((-9223372036854775808:Int)<=((i:Int)+1))&&decide (((i:Int)+1)<=(9223372036854775807:Int))) <|
  M.pure (.inl (aw,ax,i+1,ac++([(⟨(i:Int),(max 0 ((ab.getD i 0)-ae):Int),((ab.getD i 0)+ag:Int),((aa.getD i 0)-ah:Int),((aa.getD i 0)+ai:Int)⟩:CNt)]))))
  else (
  M.grd (decide ((-9223372036854775808:Int)<=((i:Int)+1))&&decide (((i:Int)+1)<=(9223372036854775807:Int))) <|
  M.pure (.inl (aj,ak,i+1,ac))))
  else (
  M.pure (.inr (s6,s7,ac,ac)))
def zaz (s_bytes:List UInt8):(Int × Int × (List CNt) × Int)->M ((Int × Int × (List CNt) × Int) ⊕ ((List CNt) × (List CNt) × Int × Int)):=fun (ac,ae,aa,i2) =>
  bif decide (0<i2) then (
  M.grd (decide ((-9223372036854775808:Int)<=(i2+1))&&decide ((i2+1)<=(9223372036854775807:Int))) <|
  M.bind (zac s_bytes ac ae (i2+1)) fun (ab,ag,ah) =>
  M.grd (decide ((0:Int)<=ab)&&decide (ab<(aa.length:Int))) <|
  M.grd (decide ((0:Int)<=i2)&&decide (i2<(aa.length:Int))) <|
  M.grd (decide ((0:Int)<=ab)&&decide (ab<((aa.set (Int.toNat i2) (aa.getD (Int.toNat ab) default)).length:Int))) <|
  M.grd (decide ((-9223372036854775808:Int)<=(i2-1))&&decide ((i2-1)<=(9223372036854775807:Int))) <|
  M.pure (.inl (ag,ah,(aa.set (Int.toNat i2) (aa.getD (Int.toNat ab) default)).set (Int.toNat ab) (aa.getD (Int.toNat i2) default),i2-1)))
  else (
  M.pure (.inr (aa,aa,ac,ae)))
def zbF (s_bytes:List UInt8) (s_used s_mix marks:Int) (stop:Bool):M (Int × Int × Int × Int × Int × (List CMk) × (List CNt) × (List Int) × (List Int) × (List Int) × Int × Int) :=
  M.bind (zag s_bytes s_used s_mix 1 12) fun (r2,q1,q2) =>
  M.bind (zag s_bytes q1 q2 (-50) 400) fun (r3,ag,ah) =>
  M.bind (zac s_bytes ag ah 12) fun (r4,ai,aj) =>
  M.bind (zac s_bytes ai aj 9) fun (r5,ak,al) =>
  M.bind (zac s_bytes ak al 6) fun (r6,am,ao) =>
  M.grd (decide ((-9223372036854775808:Int)<=(r2+r6))&&decide ((r2+r6)<=(9223372036854775807:Int))) <|
  M.bind (zac s_bytes am ao 300) fun (r7,ap,aq) =>
  M.bind (zag s_bytes ap aq 1 marks) fun (r8,ar,au) =>
  M.bind (M.iter (zaJ s_bytes stop r2 r3 r4 r5 r6) (ar,au,0,r7,r8,[],[],[],[])) fun (s4,s5,l5,l6,l7,l8,l9,aa,ab,ac) =>
  M.bind (M.iter (zaB s_bytes aa ab ac) (s4,s5,0,[])) fun (s8,s9,ay,ae) =>
  M.bind (M.iter (zaz s_bytes) (s8,s9,ae,(ae.length:Int)-1)) fun (az,av,aw,ax) =>
  M.pure (r2,(r2+r6),r3,r4,r5,ac,av,ab,aa,l9,aw,ax)
theorem zde {R:List Chunk} {ah:Nat} {bX:Cells} {aB:Value} (s_bytes:List UInt8) (s_used:Int) (s_mix:Int) (marks:Int) (stop:Bool) (ar:Reads R bX) (au:Sl bX aB s_bytes) {r:(Int × Int × Int × Int × Int × (List CMk) × (List CNt) × (List Int) × (List Int) × (List Int) × Int × Int)} (hM:(zbF s_bytes s_used s_mix marks stop).Ends r) (w:World) (H:St w w [cBlk ah [aB,I s_used,I s_mix] 59] R):Ret Tryz.prog 5 #[Pq ah,I marks,B stop] w fun v w'=>∃ (y0:Int) (y1:Int) (y2:Int) (y3:Int) (y4:Int) (y5:List CMk) (y6:List CNt) (y7:List Int) (y8:List Int) (y9:List Int) (bY:Int) (bZ:Int) (u0:Value) (u1:Value) (u2:Value) (u3:Value) (u4:Value),(y0,y1,y2,y3,y4,y5,y6,y7,y8,y9,bY,bZ)=r/\v = .tuple #[.agg #[I y0,I y1,I y2,I y3,I y4,u0,u1],.agg #[u2,u3,u4]]/\St w w' [cOwn (α:=CMk) 55 u0 y5,cOwn (α:=CNt) 57 u1 y6,cOwn (α:=Int) 3 u2 y7,cOwn (α:=Int) 3 u3 y8,cOwn (α:=Int) 3 u4 y9,cBlk ah [aB,I bY,I bZ] 59] R:=by
 refine ret_of_W Tryz.func5 rfl rfl rfl ?_;refine kg 2 ?_;refine t_alloc (cs:=[I 0,I 0,I 0,I 0,I 0,.slice none 0 0,.slice none 0 0]) H Al35 rfl ?_;intro av ek H;refine t_alloc (cs:=[.slice none 0 0,.slice none 0 0,.slice none 0 0]) H Al37 rfl ?_;intro aw el H;refine kg 4 ?_;obtain ⟨em,cm,hM⟩:=M.e_bind hM;refine s_call cf12 [Pq ah,I 1,I 12] rfl (zad s_bytes s_used s_mix 1 12 (ar.app _) au cm _ ((H.pk [2,0,1]).gt 2)) ?_
 rintro vq eo ⟨r2,q1,q2,rfl,hvq,ae⟩
 subst vq;(try dsimp only at hM)
 replace H:=H.pk [2,0,1] |>.bk ae
 clear ae;refine s_val (x_bld (ps:=[(0,I r2)]) (zs:=[I 0,I 0]) (L':=[I r2,I 0]) rfl Tryz.underlying31 Al31 rfl (Bd31 Tryz.underlying31) (.cons (cs:=[I r2]) rfl rfl rfl rfl rfl<|.nil)) ?_;refine kg 1 ?_;obtain ⟨ep,cn,hM⟩:=M.e_bind hM;refine s_call cf12 [Pq ah,I (-50),I 400] rfl (zad s_bytes q1 q2 (-50) 400 (ar.app _) au cn _ (H.gt 2)) ?_
 rintro vq eq ⟨r3,co,cp,rfl,hvq,ae⟩
 subst vq;(try dsimp only at hM);replace H:=H.bk ae;clear ae;refine kg 1 ?_;obtain ⟨er,cq,hM⟩:=M.e_bind hM;refine s_call cf13 [Pq ah,I 12] rfl (zae s_bytes co cp 12 (ar.app _) au cq _ (H.gt 2)) ?_
 rintro vq eu ⟨r4,cr,cu,rfl,hvq,ae⟩
 subst vq;(try dsimp only at hM);replace H:=H.bk ae;clear ae;refine kg 1 ?_;obtain ⟨ew,cv,hM⟩:=M.e_bind hM;refine s_call cf13 [Pq ah,I 9] rfl (zae s_bytes cr cu 9 (ar.app _) au cv _ (H.gt 2)) ?_
 rintro vq ey ⟨r5,cx,cy,rfl,hvq,ae⟩
 subst vq;(try dsimp only at hM);replace H:=H.bk ae;clear ae;refine s_val (x_bld (ps:=[(0,.agg #[I r2,I 0]),(1,I r3),(2,I r4),(3,I r5)]) (zs:=[I 0,I 0,I 0,I 0,I 0,.slice none 0 0,.slice none 0 0]) (L':=[I r2,I 0,I r3,I r4,I r5,.slice none 0 0,.slice none 0 0]) rfl Tryz.underlying35 Al35 rfl (Bd35 Tryz.underlying35) (.cons (cs:=[I r2,I 0]) rfl rfl rfl rfl rfl<|.cons (cs:=[I r3]) rfl rfl rfl rfl rfl<|.cons (cs:=[I r4]) rfl rfl rfl rfl rfl<|.cons (cs:=[I r5]) rfl rfl rfl rfl rfl<|.nil)) ?_;refine t_alloc (cs:=[I 0,I 0,I 0,I 0,I 0,.slice none 0 0,.slice none 0 0]) H Al35 rfl ?_;intro aj ez H;refine t_sw 0 0 [I r2,I 0,I r3,I r4,I r5,.slice none 0 0,.slice none 0 0] (.agg #[I r2,I 0,I r3,I r4,I r5,.slice none 0 0,.slice none 0 0]) H rfl rfl Sz35 rfl rfl rfl rfl ?_;intro eA H;refine kg 2 ?_;refine W.drawTS (fun W=>St w W [cBlk aj [I r2,I 0,I r3,I r4,I r5,.slice none 0 0,.slice none 0 0] 35,cBlk aw [.slice none 0 0,.slice none 0 0,.slice none 0 0] 37,cBlk av [I 0,I 0,I 0,I 0,I 0,.slice none 0 0,.slice none 0 0] 35] R) (.q 0 (.q 1 (.q 2 (.q 3 (.l 4 (.q 5 (.q 6 (.q 7 .nil)))))))) 8 [8] mixed (by decide +kernel) rfl ?_;intro eB ax;replace H:=H.ext ax;clear ax
 refine ⟨(H.pk [0,2,3]),?_⟩
 refine ts_q rfl (fun w' H=>x_fa (v:=Pq aj) rfl (fa_blk (o:=0) Fd35_0 Sz31)) ?_;refine ts_q rfl (fun w' H=>x_fa (v:=Pq aj) rfl (fa_blk (o:=0) Fd31_0 Sz3)) ?_;refine ts_q rfl (fun w' H=>x_ld (v:=I r2) rfl (ldb_sc Sc3 (H.bl 0) rfl)) ?_;refine ts_q rfl (fun w' H=>x_mv (v:=Pq ah) rfl) ?_;refine ts_l rfl ?_;obtain ⟨eC,cz,hM⟩:=M.e_bind hM;refine s_call cf13 [Pq ah,I 6] rfl (zae s_bytes cx cy 6 (ar.app _) au cz _ ((H.pk [1,0,2,3]).gt 3)) ?_
 rintro vq eD ⟨r6,cB,cC,rfl,hvq,ae⟩
 subst vq;(try dsimp only at hM)
 replace H:=H.pk [1,0,2,3] |>.bk ae
 clear ae
 refine s_nil ⟨(H.pk [1,2,3]),?_⟩
 obtain ⟨eE,hM⟩:=M.e_gd hM;refine ts_q rfl (fun w' H=>x_ari (r:=r2+r6) rfl rfl rfl (by omega)) ?_;refine ts_q rfl (fun w' H=>x_fa (v:=Pq aj) rfl (fa_blk (o:=0) Fd35_0 Sz31)) ?_;refine ts_q rfl (fun w' H=>x_fa (v:=Oq aj 1) rfl (fa_blk (o:=0) Fd31_1 Sz3)) ?_;refine ts_nil ?_;refine sr_l rfl ?_;refine t_sw 1 1 [I (r2+r6)] (I (r2+r6)) H rfl rfl Sz3 rfl rfl rfl rfl ?_;intro eF H
 refine s_nil ⟨trivial,?_⟩
 refine sr_nil ?_;refine kg 2 ?_;refine t_alloc (cs:=[.slice none 0 0,.slice none 0 0,.slice none 0 0]) H Al37 rfl ?_;intro aq eG H;refine kg 4 ?_;obtain ⟨eH,cD,hM⟩:=M.e_bind hM;refine s_call cf13 [Pq ah,I 300] rfl (zae s_bytes cB cC 300 (ar.app _) au cD _ ((H.pk [1,0,2,3,4]).gt 4)) ?_
 rintro vq eI ⟨r7,cE,cF,rfl,hvq,ae⟩
 subst vq;(try dsimp only at hM)
 replace H:=H.pk [1,0,2,3,4] |>.bk ae
 clear ae;refine kg 8 ?_;obtain ⟨eJ,cG,hM⟩:=M.e_bind hM;refine s_call cf12 [Pq ah,I 1,I marks] rfl (zad s_bytes cE cF 1 marks (ar.app _) au cG _ (H.gt 4)) ?_
 rintro vq eK ⟨r8,cH,cI,rfl,hvq,ae⟩
 subst vq;(try dsimp only at hM);replace H:=H.bk ae;clear ae;refine kg 3 ?_
 replace H:=H.nilOwn (α:=CMk) 55
 replace H:=H.nilOwn (α:=Int) 3
 replace H:=H.nilOwn (α:=Int) 3
 replace H:=H.nilOwn (α:=Int) 3
 obtain ⟨cJ,a7,cK⟩:=M.e_bind hM
 obtain ⟨b3,a7⟩:=M.e_iter a7
 refine W.loop (fun m σ W=>∃ (s2:Int) (s3:Int) (place:Int) (time:Int) (n:Int) (l:List CMk) (l2:List Int) (l3:List Int) (l4:List Int) (ao:Value) (al:Value) (am:Value) (ak:Value) (ρ:Env),σ=upds ρ [(0,Pq ah),(2,B stop),(6,Pq av),(7,Pq aw),(8,Pq aj),(9,Pq aq),(10,I place),(11,I time),(12,I n)]/\M.iterN (zaJ s_bytes stop r2 r3 r4 r5 r6) m (s2,s3,place,time,n,l,l2,l3,l4)=some cJ/\St w W [cOwn (α:=Int) 3 ak l4,cOwn (α:=Int) 3 am l3,cOwn (α:=Int) 3 al l2,cOwn (α:=CMk) 55 ao l,cBlk ah [aB,I s2,I s3] 59,cBlk aq [al,am,ak] 37,cBlk aj [I r2,I (r2+r6),I r3,I r4,I r5,ao,.slice none 0 0] 35,cBlk aw [.slice none 0 0,.slice none 0 0,.slice none 0 0] 37,cBlk av [I 0,I 0,I 0,I 0,I 0,.slice none 0 0,.slice none 0 0] 35] R) ?_ ?_
 ·exact ⟨_,cH,cI,0,r7,r8,[],[],[],[],(.slice none 0 0),(.slice none 0 0),(.slice none 0 0),(.slice none 0 0),_,upds_of _ _ ⟨rfl,rfl,rfl,rfl,rfl,rfl,rfl,rfl,rfl,trivial⟩,a7,H⟩
 rintro eL σ eM ⟨s2,s3,place,time,n,l,l2,l3,l4,ao,al,am,ak,ρ,rfl,b4,H⟩
 obtain ⟨aL,aM,eN,hM,aH⟩:=M.e_iterN b4
 simp only [zaJ] at hM
 clear b4;refine kg 6 ?_
 refine W.cond (decide (0<n)) rfl (fun aO=>?_) (fun aO=>?_)
 ·replace hM:=M.e_t hM aO
  replace aO:=dI aO
  have eO:=((H.os 3)).len_le
  refine kg 11 ?_
  refine W.cond (decide (0<(l.length:Int))) rfl (fun aP=>?_) (fun aP=>?_)
  ·replace hM:=M.e_t hM aP
   replace aP:=dI aP
   refine kg 3 ?_;obtain ⟨eP,cL,hM⟩:=M.e_bind hM;refine s_call cf12 [Pq ah,I 1,I 30] rfl (zad s_bytes s2 s3 1 30 (ar.app _) au cL _ ((H.pk [4,0,1,2,3,5,6,7,8]).gt 8)) ?_
   rintro vq eQ ⟨r9,cM,cN,rfl,hvq,ae⟩
   subst vq;(try dsimp only at hM)
   replace H:=H.pk [4,0,1,2,3,5,6,7,8] |>.bk ae
   clear ae;obtain ⟨eR,hM⟩:=M.e_gd hM;obtain ⟨eS,hM⟩:=M.e_gd hM;obtain ⟨eT,hM⟩:=M.e_gd hM;refine kg 23 ?_;obtain ⟨eU,cO,hM⟩:=M.e_bind hM;refine s_call cf12 [Pq ah,I (r2*r9),I ((r2+r6)*r9)] rfl (zad s_bytes cM cN (r2*r9) ((r2+r6)*r9) (ar.app _) au cO _ (H.gt 8)) ?_
   rintro vq eV ⟨ai,b6,b7,rfl,hvq,ae⟩
   subst vq;(try dsimp only at hM);replace H:=H.bk ae;clear ae;obtain ⟨eW,hM⟩:=M.e_gd hM;refine kg 8 ?_
   refine g_splitV stop (I 0) (gy_t rfl) (fun a6=>?_) (fun a6=>?_)
   ·replace hM:=M.e_t hM a6;obtain ⟨eX,cP,hM⟩:=M.e_bind hM;refine s_call cf13 [Pq ah,I 5] (lst2 (gd_of (c:=stop) a6 (Pq ah)) rfl) (zae s_bytes b6 b7 5 (ar.app _) au cP _ (H.gt 8)) ?_
    rintro vq eY ⟨a8,b8,b9,rfl,hvq,ae⟩
    subst vq;(try dsimp only at hM);replace H:=H.bk ae;clear ae;refine kg 1 ?_;refine s_val (x_pand (b:=stop) (r:=a8==0) rfl (fun hb=>gd_of (c:=stop) (by first | exact hb | (rw [hb]; rfl) | simp_all) (B (a8==0))) rfl)<|s_nil ?_
    refine W.cond (stop&&(a8==0)) rfl (fun ba=>?_) (fun ba=>?_)
    ·replace hM:=M.e_t hM ba
     have eZ:=((H.os 4)).len_le
     obtain ⟨e5,hM⟩:=M.e_gd hM;refine kg 8 ?_;refine t_bs (α:=Int) T27 [I ((l.length:Int)-1)] [((l.length:Int)-1:Int)] H rfl (.cons rfl (Flat.rep_enc _ ((l.length:Int)-1:Int))<|.nil) rfl rfl rfl ?_;intro ca e6 H;obtain ⟨e7,hM⟩:=M.e_gd hM;refine t_app (α:=Int) (k:=2) (l:=l4) (l2:=[((l.length:Int)-1:Int)]) (l':=l4++([((l.length:Int)-1:Int)])) (vy:=ca) T27 rfl H rfl rfl rfl (H.os 0) (H.ol 0) (rfl) (by first | omega | (simp only [List.length_nil] at *; omega)) ?_;intro aQ e8 H;replace H:=H.nf;refine kg 1 ?_;refine t_sw 6 2 [aQ] aQ H rfl rfl Sz27 (Sl.cells (H.os 2)) rfl rfl (by simp only [List.all_cons,List.all_nil,Bool.true_and,Bool.and_true,Sl.oc (H.os 2)]; try rfl) ?_;intro e9 H;refine kg 4 ?_;obtain ⟨fa,cQ,hM⟩:=M.e_bind hM;refine s_call cf13 [Pq ah,I 400] rfl (zae s_bytes b8 b9 400 (ar.app _) au cQ _ ((H.pk [1,0,2,3,4,5,6,7,8,9]).gt 9)) ?_
     rintro vq fb ⟨aA,cR,cS,rfl,hvq,ae⟩
     subst vq;(try dsimp only at hM)
     replace H:=H.pk [1,0,2,3,4,5,6,7,8,9] |>.bk ae
     clear ae;obtain ⟨fd,hM⟩:=M.e_gd hM;refine kg 7 ?_;obtain ⟨ff,cT,hM⟩:=M.e_bind hM;refine s_call cf13 [Pq ah,I 60] rfl (zae s_bytes cR cS 60 (ar.app _) au cT _ (H.gt 9)) ?_
     rintro vq fg ⟨ab,aE,aF,rfl,hvq,ae⟩
     subst vq;(try dsimp only at hM);replace H:=H.bk ae;clear ae;refine s_val (x_bld (ps:=[(0,I (place+r9)),(1,I ab)]) (zs:=[I 0,I 0]) (L':=[I (place+r9),I ab]) rfl Tryz.underlying55 Al55 rfl (Bd55 Tryz.underlying55) (.cons (cs:=[I (place+r9)]) rfl rfl rfl rfl rfl<|.cons (cs:=[I ab]) rfl rfl rfl rfl rfl<|.nil)) ?_;refine t_alloc (cs:=[I 0,I 0]) H Al55 rfl ?_;intro aR fh H;refine t_sw 0 0 [I (place+r9),I ab] (.agg #[I (place+r9),I ab]) H rfl rfl Sz55 rfl rfl rfl rfl ?_;intro fi H;obtain ⟨fj,hM⟩:=M.e_gd hM;obtain ⟨fk,hM⟩:=M.e_gd hM;refine kg 13 ?_;refine W.drawTS (fun W=>St w W [cBlk aR [I (place+r9),I ab] 55,cOwn (α:=Int) 3 ca ([((l.length:Int)-1:Int)]),cOwn (α:=Int) 3 aQ (l4++([((l.length:Int)-1:Int)])),cBlk aq [al,am,aQ] 37,cBlk aj [I r2,I (r2+r6),I r3,I r4,I r5,ao,.slice none 0 0] 35,cBlk aw [.slice none 0 0,.slice none 0 0,.slice none 0 0] 37,cBlk av [I 0,I 0,I 0,I 0,I 0,.slice none 0 0,.slice none 0 0] 35] R) (.q 0 (.q 1 (.q 2 (.q 5 (.q 6 (.q 7 (.q 10 (.q 11 (.q 12 (.q 13 (.q 14 (.q 15 (.q 16 (.q 17 (.q 18 (.q 19 (.q 20 (.l2 3 (.l2 4 (.q 24 (.l 8 (.l 9 (.l 21 (.l 22 (.l 23 .nil)))))) 8 (.l 4 (.q 24 (.l 9 (.l 21 (.l 22 (.l 23 .nil))))))) 8 (.l 3 (.l 4 (.q 24 (.l 9 (.l 21 (.l 22 (.l 23 .nil))))))))))))))))))))))))) 25 [25,26,27,28,29] mixed (by decide +kernel) rfl ?_;intro fm ax;replace H:=H.ext ax;clear ax
     refine ⟨(H.pk [0,2,3,7,8,9,10]),?_⟩
     refine ts_q rfl (fun w' H=>x_fa (v:=Oq aj 5) rfl (fa_blk (o:=0) Fd35_4 Sz32)) ?_;refine ts_q rfl (fun w' H=>x_ld (v:=ao) rfl (ldb_sc Sc32 (H.bl 4) rfl)) ?_;refine ts_q rfl (fun w' H=>x_ld (v:=.agg #[I (place+r9),I ab]) rfl (ldb_ag (ds:=[I (place+r9),I ab]) Ag55 Sz55 (H.bl 0) rfl rfl)) ?_;refine ts_q rfl (fun w' H=>x_fa (v:=Pq aq) rfl (fa_blk (o:=0) Fd37_0 Sz27)) ?_;refine ts_q rfl (fun w' H=>x_ld (v:=al) rfl (ldb_sc Sc27 (H.bl 3) rfl)) ?_;refine ts_q rfl (fun w' H=>x_mv (v:=I ((time+ai)+aA)) rfl) ?_;refine ts_q rfl (fun w' H=>x_fa (v:=Oq aq 1) rfl (fa_blk (o:=0) Fd37_1 Sz27)) ?_;refine ts_q rfl (fun w' H=>x_ld (v:=am) rfl (ldb_sc Sc27 (H.bl 3) rfl)) ?_;refine ts_q rfl (fun w' H=>x_mv (v:=Pq ah) rfl) ?_;refine ts_q rfl (fun w' H=>x_mv (v:=I (r3+(r4*ab))) rfl) ?_;refine ts_q rfl (fun w' H=>x_fa (v:=Oq aj 4) rfl (fa_blk (o:=0) Fd35_3 Sz3)) ?_;refine ts_q rfl (fun w' H=>x_ld (v:=I r5) rfl (ldb_sc Sc3 (H.bl 4) rfl)) ?_;obtain ⟨fo,hM⟩:=M.e_gd hM;refine ts_q rfl (fun w' H=>x_ari (r:=(r3+(r4*ab))-r5) rfl rfl rfl (by omega)) ?_;refine ts_q rfl (fun w' H=>x_mv (v:=I (r3+(r4*ab))) rfl) ?_;refine ts_q rfl (fun w' H=>x_fa (v:=Oq aj 4) rfl (fa_blk (o:=0) Fd35_3 Sz3)) ?_;refine ts_q rfl (fun w' H=>x_ld (v:=I r5) rfl (ldb_sc Sc3 (H.bl 4) rfl)) ?_;obtain ⟨fp,hM⟩:=M.e_gd hM;refine ts_q rfl (fun w' H=>x_ari (r:=(r3+(r4*ab))+r5) rfl rfl rfl (by omega)) ?_;refine ts_l2 rfl rfl ?_ ?_
     ·skip
      refine t_bs (α:=CMk) T32 [.agg #[I (place+r9),I ab]] [(⟨(place+r9:Int),(ab:Int)⟩:CMk)] H rfl (.cons rfl (Flat.rep_enc _ (⟨(place+r9:Int),(ab:Int)⟩:CMk))<|.nil) rfl rfl rfl ?_;intro cb fq H
      have fu:=Sl.cells (H.os 0)
      have fv:=Sl.oc (H.os 0)
      have fw:=Sl.cells (H.os 5)
      have fx:=Sl.oc (H.os 5)
      have fy:=Sl.cells (H.os 6)
      have fA:=Sl.oc (H.os 6)
      have fB:=Sl.cells (H.os 7)
      have fC:=Sl.oc (H.os 7)
      refine s_nil ⟨(H.pk [1,3,4,8,9,10,11]),?_⟩
      refine ts_l2 rfl rfl ?_ ?_
      ·skip
       obtain ⟨fD,hM⟩:=M.e_gd hM;refine t_app (α:=CMk) (k:=7) (l:=l) (l2:=[(⟨(place+r9:Int),(ab:Int)⟩:CMk)]) (l':=l++([(⟨(place+r9:Int),(ab:Int)⟩:CMk)])) (vy:=cb) T32 rfl H rfl rfl rfl (H.os 0) (H.ol 0) (rfl) (by first | omega | (simp only [List.length_nil] at *; omega)) ?_;intro bb fE H;replace H:=H.nf
       have fF:=Sl.cells (H.os 7)
       have fG:=Sl.oc (H.os 7)
       refine s_nil ⟨(H.pk [1,3,4,8,9,10,11]),?_⟩
       refine ts_q rfl (fun w' H=>x_fa (v:=Oq aj 5) rfl (fa_blk (o:=0) Fd35_4 Sz32)) ?_;refine ts_l rfl ?_;refine t_bs (α:=Int) T27 [I ((time+ai)+aA)] [((time+ai)+aA:Int)] H rfl (.cons rfl (Flat.rep_enc _ ((time+ai)+aA:Int))<|.nil) rfl rfl rfl ?_;intro cU fH H
       have fI:=Sl.cells (H.os 0)
       have fJ:=Sl.oc (H.os 0)
       refine s_nil ⟨(H.pk [2,4,5,9,10,11,12]),?_⟩
       refine ts_l rfl ?_;obtain ⟨fK,hM⟩:=M.e_gd hM;refine t_app (α:=Int) (k:=7) (l:=l2) (l2:=[((time+ai)+aA:Int)]) (l':=l2++([((time+ai)+aA:Int)])) (vy:=cU) T27 rfl H rfl rfl rfl (H.os 0) (H.ol 0) (rfl) (by first | omega | (simp only [List.length_nil] at *; omega)) ?_;intro bc fL H;replace H:=H.nf
       have fM:=Sl.cells (H.os 7)
       have fN:=Sl.oc (H.os 7)
       refine s_nil ⟨(H.pk [2,4,5,9,10,11,12]),?_⟩
       refine ts_l rfl ?_;obtain ⟨fO,cV,hM⟩:=M.e_bind hM;refine s_call cf12 [Pq ah,I ((r3+(r4*ab))-r5),I ((r3+(r4*ab))+r5)] rfl (zad s_bytes aE aF ((r3+(r4*ab))-r5) ((r3+(r4*ab))+r5) (ar.app _) au cV _ ((H.pk [3,0,1,2,4,5,6,7,8,9,10,11,12]).gt 12)) ?_
       rintro vq fP ⟨ag,ay,az,rfl,hvq,ae⟩
       subst vq;(try dsimp only at hM)
       replace H:=H.pk [3,0,1,2,4,5,6,7,8,9,10,11,12] |>.bk ae
       clear ae
       refine s_nil ⟨(H.pk [3,4,5,9,10,11,12]),?_⟩
       refine ts_l rfl ?_;refine t_bs (α:=Int) T27 [I ag] [(ag:Int)] H rfl (.cons rfl (Flat.rep_enc _ (ag:Int))<|.nil) rfl rfl rfl ?_;intro cW fQ H
       have fR:=Sl.cells (H.os 0)
       have fS:=Sl.oc (H.os 0)
       refine s_nil ⟨(H.pk [4,5,6,10,11,12,13]),?_⟩
       refine ts_l rfl ?_;obtain ⟨fT,hM⟩:=M.e_gd hM;refine t_app (α:=Int) (k:=7) (l:=l3) (l2:=[(ag:Int)]) (l':=l3++([(ag:Int)])) (vy:=cW) T27 rfl H rfl rfl rfl (H.os 0) (H.ol 0) (rfl) (by first | omega | (simp only [List.length_nil] at *; omega)) ?_;intro bf fU H;replace H:=H.nf
       have fV:=Sl.cells (H.os 7)
       have fW:=Sl.oc (H.os 7)
       refine s_nil ⟨(H.pk [4,5,6,10,11,12,13]),?_⟩
       refine ts_nil ?_;refine sr_l rfl ?_;refine t_sw 11 5 [bb] bb H rfl rfl Sz32 (Sl.cells (H.os 9)) rfl rfl (by simp only [List.all_cons,List.all_nil,Bool.true_and,Bool.and_true,Sl.oc (H.os 9)]; try rfl) ?_;intro fX H
       refine s_nil ⟨trivial,?_⟩
       refine sr_l rfl ?_;refine kg 1 ?_
       refine s_nil ⟨trivial,?_⟩
       refine sr_l rfl ?_;refine t_sw 10 0 [bc] bc H rfl rfl Sz27 (Sl.cells (H.os 8)) rfl rfl (by simp only [List.all_cons,List.all_nil,Bool.true_and,Bool.and_true,Sl.oc (H.os 8)]; try rfl) ?_;intro fY H
       refine s_nil ⟨trivial,?_⟩
       refine sr_l rfl ?_;refine kg 1 ?_
       refine s_nil ⟨trivial,?_⟩
       refine sr_l rfl ?_;refine t_sw 10 1 [bf] bf H rfl rfl Sz27 (Sl.cells (H.os 7)) rfl rfl (by simp only [List.all_cons,List.all_nil,Bool.true_and,Bool.and_true,Sl.oc (H.os 7)]; try rfl) ?_;intro fZ H
       refine s_nil ⟨trivial,?_⟩
       refine sr_nil ?_;replace H:=H.pk [1,6,7,8,9,10,11,12,13];obtain ⟨f6,hM⟩:=M.e_gd hM;refine kg 5 ?_
       exact ⟨aL,aM,ay,az,place+r9,(time+ai)+aA,n-1,l++([(⟨(place+r9:Int),(ab:Int)⟩:CMk)]),l2++([((time+ai)+aA:Int)]),l3++([(ag:Int)]),l4++([((l.length:Int)-1:Int)]),bb,bc,bf,aQ,_,upds_of _ _ ⟨rfl,rfl,rfl,rfl,rfl,rfl,rfl,rfl,rfl,trivial⟩,M.e_inl hM aH,(H.pk [1,2,3,4,0,5,6,7,8])⟩
      skip
      refine t_bs (α:=Int) T27 [I ((time+ai)+aA)] [((time+ai)+aA:Int)] H rfl (.cons rfl (Flat.rep_enc _ ((time+ai)+aA:Int))<|.nil) rfl rfl rfl ?_;intro cX f9 H
      have gc:=Sl.cells (H.os 0)
      have gf:=Sl.oc (H.os 0)
      refine s_nil ⟨(H.pk [2,4,5,9,10,11,12]),?_⟩
      refine ts_l rfl ?_;obtain ⟨gg,hM⟩:=M.e_gd hM;refine t_app (α:=CMk) (k:=8) (l:=l) (l2:=[(⟨(place+r9:Int),(ab:Int)⟩:CMk)]) (l':=l++([(⟨(place+r9:Int),(ab:Int)⟩:CMk)])) (vy:=cb) T32 rfl H rfl rfl rfl (H.os 1) (H.ol 1) (rfl) (by first | omega | (simp only [List.length_nil] at *; omega)) ?_;intro bg gh H;replace H:=H.nf
      have gi:=Sl.cells (H.os 8)
      have gj:=Sl.oc (H.os 8)
      refine s_nil ⟨(H.pk [2,4,5,9,10,11,12]),?_⟩
      refine ts_q rfl (fun w' H=>x_fa (v:=Oq aj 5) rfl (fa_blk (o:=0) Fd35_4 Sz32)) ?_;refine ts_l rfl ?_;obtain ⟨gk,hM⟩:=M.e_gd hM;refine t_app (α:=Int) (k:=7) (l:=l2) (l2:=[((time+ai)+aA:Int)]) (l':=l2++([((time+ai)+aA:Int)])) (vy:=cX) T27 rfl H rfl rfl rfl (H.os 0) (H.ol 0) (rfl) (by first | omega | (simp only [List.length_nil] at *; omega)) ?_;intro bh gl H;replace H:=H.nf
      have gm:=Sl.cells (H.os 7)
      have gn:=Sl.oc (H.os 7)
      refine s_nil ⟨(H.pk [2,4,5,9,10,11,12]),?_⟩
      refine ts_l rfl ?_;obtain ⟨gp,cY,hM⟩:=M.e_bind hM;refine s_call cf12 [Pq ah,I ((r3+(r4*ab))-r5),I ((r3+(r4*ab))+r5)] rfl (zad s_bytes aE aF ((r3+(r4*ab))-r5) ((r3+(r4*ab))+r5) (ar.app _) au cY _ ((H.pk [3,0,1,2,4,5,6,7,8,9,10,11,12]).gt 12)) ?_
      rintro vq gq ⟨ag,ay,az,rfl,hvq,ae⟩
      subst vq;(try dsimp only at hM)
      replace H:=H.pk [3,0,1,2,4,5,6,7,8,9,10,11,12] |>.bk ae
      clear ae
      refine s_nil ⟨(H.pk [3,4,5,9,10,11,12]),?_⟩
      refine ts_l rfl ?_;refine t_bs (α:=Int) T27 [I ag] [(ag:Int)] H rfl (.cons rfl (Flat.rep_enc _ (ag:Int))<|.nil) rfl rfl rfl ?_;intro cZ gr H
      have gw:=Sl.cells (H.os 0)
      have gx:=Sl.oc (H.os 0)
      refine s_nil ⟨(H.pk [4,5,6,10,11,12,13]),?_⟩
      refine ts_l rfl ?_;obtain ⟨gy,hM⟩:=M.e_gd hM;refine t_app (α:=Int) (k:=7) (l:=l3) (l2:=[(ag:Int)]) (l':=l3++([(ag:Int)])) (vy:=cZ) T27 rfl H rfl rfl rfl (H.os 0) (H.ol 0) (rfl) (by first | omega | (simp only [List.length_nil] at *; omega)) ?_;intro bi gz H;replace H:=H.nf
      have gA:=Sl.cells (H.os 7)
      have gB:=Sl.oc (H.os 7)
      refine s_nil ⟨(H.pk [4,5,6,10,11,12,13]),?_⟩
      refine ts_nil ?_;refine sr_l rfl ?_;refine t_sw 11 5 [bg] bg H rfl rfl Sz32 (Sl.cells (H.os 9)) rfl rfl (by simp only [List.all_cons,List.all_nil,Bool.true_and,Bool.and_true,Sl.oc (H.os 9)]; try rfl) ?_;intro gC H
      refine s_nil ⟨trivial,?_⟩
      refine sr_l rfl ?_;refine kg 1 ?_
      refine s_nil ⟨trivial,?_⟩
      refine sr_l rfl ?_;refine t_sw 10 0 [bh] bh H rfl rfl Sz27 (Sl.cells (H.os 8)) rfl rfl (by simp only [List.all_cons,List.all_nil,Bool.true_and,Bool.and_true,Sl.oc (H.os 8)]; try rfl) ?_;intro gD H
      refine s_nil ⟨trivial,?_⟩
      refine sr_l rfl ?_;refine kg 1 ?_
      refine s_nil ⟨trivial,?_⟩
      refine sr_l rfl ?_;refine t_sw 10 1 [bi] bi H rfl rfl Sz27 (Sl.cells (H.os 7)) rfl rfl (by simp only [List.all_cons,List.all_nil,Bool.true_and,Bool.and_true,Sl.oc (H.os 7)]; try rfl) ?_;intro gE H
      refine s_nil ⟨trivial,?_⟩
      refine sr_nil ?_;replace H:=H.pk [1,6,7,8,9,10,11,12,13];obtain ⟨gF,hM⟩:=M.e_gd hM;refine kg 5 ?_
      exact ⟨aL,aM,ay,az,place+r9,(time+ai)+aA,n-1,l++([(⟨(place+r9:Int),(ab:Int)⟩:CMk)]),l2++([((time+ai)+aA:Int)]),l3++([(ag:Int)]),l4++([((l.length:Int)-1:Int)]),bg,bh,bi,aQ,_,upds_of _ _ ⟨rfl,rfl,rfl,rfl,rfl,rfl,rfl,rfl,rfl,trivial⟩,M.e_inl hM aH,(H.pk [1,2,3,4,0,5,6,7,8])⟩
     skip
     refine t_bs (α:=Int) T27 [I ((time+ai)+aA)] [((time+ai)+aA:Int)] H rfl (.cons rfl (Flat.rep_enc _ ((time+ai)+aA:Int))<|.nil) rfl rfl rfl ?_;intro c3 gG H
     have gH:=Sl.cells (H.os 0)
     have gI:=Sl.oc (H.os 0)
     have gJ:=Sl.cells (H.os 5)
     have gK:=Sl.oc (H.os 5)
     have gL:=Sl.cells (H.os 6)
     have gM:=Sl.oc (H.os 6)
     have gN:=Sl.cells (H.os 7)
     have gO:=Sl.oc (H.os 7)
     refine s_nil ⟨(H.pk [1,3,4,8,9,10,11]),?_⟩
     refine ts_l rfl ?_;refine t_bs (α:=CMk) T32 [.agg #[I (place+r9),I ab]] [(⟨(place+r9:Int),(ab:Int)⟩:CMk)] H rfl (.cons rfl (Flat.rep_enc _ (⟨(place+r9:Int),(ab:Int)⟩:CMk))<|.nil) rfl rfl rfl ?_;intro c4 gP H
     have gQ:=Sl.cells (H.os 0)
     have gR:=Sl.oc (H.os 0)
     refine s_nil ⟨(H.pk [2,4,5,9,10,11,12]),?_⟩
     refine ts_l rfl ?_;obtain ⟨gS,hM⟩:=M.e_gd hM;refine t_app (α:=CMk) (k:=8) (l:=l) (l2:=[(⟨(place+r9:Int),(ab:Int)⟩:CMk)]) (l':=l++([(⟨(place+r9:Int),(ab:Int)⟩:CMk)])) (vy:=c4) T32 rfl H rfl rfl rfl (H.os 0) (H.ol 0) (rfl) (by first | omega | (simp only [List.length_nil] at *; omega)) ?_;intro bj gT H;replace H:=H.nf
     have gU:=Sl.cells (H.os 8)
     have gV:=Sl.oc (H.os 8)
     refine s_nil ⟨(H.pk [2,4,5,9,10,11,12]),?_⟩
     refine ts_q rfl (fun w' H=>x_fa (v:=Oq aj 5) rfl (fa_blk (o:=0) Fd35_4 Sz32)) ?_;refine ts_l rfl ?_;obtain ⟨gW,hM⟩:=M.e_gd hM;refine t_app (α:=Int) (k:=7) (l:=l2) (l2:=[((time+ai)+aA:Int)]) (l':=l2++([((time+ai)+aA:Int)])) (vy:=c3) T27 rfl H rfl rfl rfl (H.os 1) (H.ol 1) (rfl) (by first | omega | (simp only [List.length_nil] at *; omega)) ?_;intro bm gX H;replace H:=H.nf
     have gY:=Sl.cells (H.os 7)
     have gZ:=Sl.oc (H.os 7)
     refine s_nil ⟨(H.pk [2,4,5,9,10,11,12]),?_⟩
     refine ts_l rfl ?_;obtain ⟨g0,c6,hM⟩:=M.e_bind hM;refine s_call cf12 [Pq ah,I ((r3+(r4*ab))-r5),I ((r3+(r4*ab))+r5)] rfl (zad s_bytes aE aF ((r3+(r4*ab))-r5) ((r3+(r4*ab))+r5) (ar.app _) au c6 _ ((H.pk [3,0,1,2,4,5,6,7,8,9,10,11,12]).gt 12)) ?_
     rintro vq g6 ⟨ag,ay,az,rfl,hvq,ae⟩
     subst vq;(try dsimp only at hM)
     replace H:=H.pk [3,0,1,2,4,5,6,7,8,9,10,11,12] |>.bk ae
     clear ae
     refine s_nil ⟨(H.pk [3,4,5,9,10,11,12]),?_⟩
     refine ts_l rfl ?_;refine t_bs (α:=Int) T27 [I ag] [(ag:Int)] H rfl (.cons rfl (Flat.rep_enc _ (ag:Int))<|.nil) rfl rfl rfl ?_;intro c7 g7 H
     have g8:=Sl.cells (H.os 0)
     have g9:=Sl.oc (H.os 0)
     refine s_nil ⟨(H.pk [4,5,6,10,11,12,13]),?_⟩
     refine ts_l rfl ?_;obtain ⟨hP,hM⟩:=M.e_gd hM;refine t_app (α:=Int) (k:=7) (l:=l3) (l2:=[(ag:Int)]) (l':=l3++([(ag:Int)])) (vy:=c7) T27 rfl H rfl rfl rfl (H.os 0) (H.ol 0) (rfl) (by first | omega | (simp only [List.length_nil] at *; omega)) ?_;intro bn hZ H;replace H:=H.nf
     have h9:=Sl.cells (H.os 7)
     have ia:=Sl.oc (H.os 7)
     refine s_nil ⟨(H.pk [4,5,6,10,11,12,13]),?_⟩
     refine ts_nil ?_;refine sr_l rfl ?_;refine t_sw 11 5 [bj] bj H rfl rfl Sz32 (Sl.cells (H.os 9)) rfl rfl (by simp only [List.all_cons,List.all_nil,Bool.true_and,Bool.and_true,Sl.oc (H.os 9)]; try rfl) ?_;intro ib H
     refine s_nil ⟨trivial,?_⟩
     refine sr_l rfl ?_;refine kg 1 ?_
     refine s_nil ⟨trivial,?_⟩
     refine sr_l rfl ?_;refine t_sw 10 0 [bm] bm H rfl rfl Sz27 (Sl.cells (H.os 8)) rfl rfl (by simp only [List.all_cons,List.all_nil,Bool.true_and,Bool.and_true,Sl.oc (H.os 8)]; try rfl) ?_;intro ic H
     refine s_nil ⟨trivial,?_⟩
     refine sr_l rfl ?_;refine kg 1 ?_
     refine s_nil ⟨trivial,?_⟩
     refine sr_l rfl ?_;refine t_sw 10 1 [bn] bn H rfl rfl Sz27 (Sl.cells (H.os 7)) rfl rfl (by simp only [List.all_cons,List.all_nil,Bool.true_and,Bool.and_true,Sl.oc (H.os 7)]; try rfl) ?_;intro ie H
     refine s_nil ⟨trivial,?_⟩
     refine sr_nil ?_;replace H:=H.pk [1,6,7,8,9,10,11,12,13];obtain ⟨ig,hM⟩:=M.e_gd hM;refine kg 5 ?_
     exact ⟨aL,aM,ay,az,place+r9,(time+ai)+aA,n-1,l++([(⟨(place+r9:Int),(ab:Int)⟩:CMk)]),l2++([((time+ai)+aA:Int)]),l3++([(ag:Int)]),l4++([((l.length:Int)-1:Int)]),bj,bm,bn,aQ,_,upds_of _ _ ⟨rfl,rfl,rfl,rfl,rfl,rfl,rfl,rfl,rfl,trivial⟩,M.e_inl hM aH,(H.pk [1,2,3,4,0,5,6,7,8])⟩
    replace hM:=M.e_f hM ba;refine kg 5 ?_;obtain ⟨ii,c8,hM⟩:=M.e_bind hM;refine s_call cf13 [Pq ah,I 60] rfl (zae s_bytes b8 b9 60 (ar.app _) au c8 _ (H.gt 8)) ?_
    rintro vq ij ⟨ab,aE,aF,rfl,hvq,ae⟩
    subst vq;(try dsimp only at hM);replace H:=H.bk ae;clear ae;refine s_val (x_bld (ps:=[(0,I (place+r9)),(1,I ab)]) (zs:=[I 0,I 0]) (L':=[I (place+r9),I ab]) rfl Tryz.underlying55 Al55 rfl (Bd55 Tryz.underlying55) (.cons (cs:=[I (place+r9)]) rfl rfl rfl rfl rfl<|.cons (cs:=[I ab]) rfl rfl rfl rfl rfl<|.nil)) ?_;refine t_alloc (cs:=[I 0,I 0]) H Al55 rfl ?_;intro aR ik H;refine t_sw 0 0 [I (place+r9),I ab] (.agg #[I (place+r9),I ab]) H rfl rfl Sz55 rfl rfl rfl rfl ?_;intro il H;obtain ⟨im,hM⟩:=M.e_gd hM;obtain ⟨io,hM⟩:=M.e_gd hM;refine kg 13 ?_;refine W.drawTS (fun W=>St w W [cBlk aR [I (place+r9),I ab] 55,cOwn (α:=Int) 3 ak l4,cBlk aq [al,am,ak] 37,cBlk aj [I r2,I (r2+r6),I r3,I r4,I r5,ao,.slice none 0 0] 35,cBlk aw [.slice none 0 0,.slice none 0 0,.slice none 0 0] 37,cBlk av [I 0,I 0,I 0,I 0,I 0,.slice none 0 0,.slice none 0 0] 35] R) (.q 0 (.q 1 (.q 2 (.q 5 (.q 6 (.q 7 (.q 10 (.q 11 (.q 12 (.q 13 (.q 14 (.q 15 (.q 16 (.q 17 (.q 18 (.q 19 (.q 20 (.l2 3 (.l2 4 (.q 24 (.l 8 (.l 9 (.l 21 (.l 22 (.l 23 .nil)))))) 8 (.l 4 (.q 24 (.l 9 (.l 21 (.l 22 (.l 23 .nil))))))) 8 (.l 3 (.l 4 (.q 24 (.l 9 (.l 21 (.l 22 (.l 23 .nil))))))))))))))))))))))))) 25 [25,26,27,28,29] mixed (by decide +kernel) rfl ?_;intro ip ax;replace H:=H.ext ax;clear ax
    refine ⟨(H.pk [0,2,6,7,8,9]),?_⟩
    refine ts_q rfl (fun w' H=>x_fa (v:=Oq aj 5) rfl (fa_blk (o:=0) Fd35_4 Sz32)) ?_;refine ts_q rfl (fun w' H=>x_ld (v:=ao) rfl (ldb_sc Sc32 (H.bl 3) rfl)) ?_;refine ts_q rfl (fun w' H=>x_ld (v:=.agg #[I (place+r9),I ab]) rfl (ldb_ag (ds:=[I (place+r9),I ab]) Ag55 Sz55 (H.bl 0) rfl rfl)) ?_;refine ts_q rfl (fun w' H=>x_fa (v:=Pq aq) rfl (fa_blk (o:=0) Fd37_0 Sz27)) ?_;refine ts_q rfl (fun w' H=>x_ld (v:=al) rfl (ldb_sc Sc27 (H.bl 2) rfl)) ?_;refine ts_q rfl (fun w' H=>x_mv (v:=I (time+ai)) rfl) ?_;refine ts_q rfl (fun w' H=>x_fa (v:=Oq aq 1) rfl (fa_blk (o:=0) Fd37_1 Sz27)) ?_;refine ts_q rfl (fun w' H=>x_ld (v:=am) rfl (ldb_sc Sc27 (H.bl 2) rfl)) ?_;refine ts_q rfl (fun w' H=>x_mv (v:=Pq ah) rfl) ?_;refine ts_q rfl (fun w' H=>x_mv (v:=I (r3+(r4*ab))) rfl) ?_;refine ts_q rfl (fun w' H=>x_fa (v:=Oq aj 4) rfl (fa_blk (o:=0) Fd35_3 Sz3)) ?_;refine ts_q rfl (fun w' H=>x_ld (v:=I r5) rfl (ldb_sc Sc3 (H.bl 3) rfl)) ?_;obtain ⟨iq,hM⟩:=M.e_gd hM;refine ts_q rfl (fun w' H=>x_ari (r:=(r3+(r4*ab))-r5) rfl rfl rfl (by omega)) ?_;refine ts_q rfl (fun w' H=>x_mv (v:=I (r3+(r4*ab))) rfl) ?_;refine ts_q rfl (fun w' H=>x_fa (v:=Oq aj 4) rfl (fa_blk (o:=0) Fd35_3 Sz3)) ?_;refine ts_q rfl (fun w' H=>x_ld (v:=I r5) rfl (ldb_sc Sc3 (H.bl 3) rfl)) ?_;obtain ⟨ir,hM⟩:=M.e_gd hM;refine ts_q rfl (fun w' H=>x_ari (r:=(r3+(r4*ab))+r5) rfl rfl rfl (by omega)) ?_;refine ts_l2 rfl rfl ?_ ?_
    ·skip
     refine t_bs (α:=CMk) T32 [.agg #[I (place+r9),I ab]] [(⟨(place+r9:Int),(ab:Int)⟩:CMk)] H rfl (.cons rfl (Flat.rep_enc _ (⟨(place+r9:Int),(ab:Int)⟩:CMk))<|.nil) rfl rfl rfl ?_;intro cc iu H
     have iw:=Sl.cells (H.os 0)
     have iy:=Sl.oc (H.os 0)
     have iz:=Sl.cells (H.os 4)
     have iA:=Sl.oc (H.os 4)
     have iB:=Sl.cells (H.os 5)
     have iC:=Sl.oc (H.os 5)
     have iD:=Sl.cells (H.os 6)
     have iE:=Sl.oc (H.os 6)
     refine s_nil ⟨(H.pk [1,3,7,8,9,10]),?_⟩
     refine ts_l2 rfl rfl ?_ ?_
     ·skip
      obtain ⟨iF,hM⟩:=M.e_gd hM;refine t_app (α:=CMk) (k:=6) (l:=l) (l2:=[(⟨(place+r9:Int),(ab:Int)⟩:CMk)]) (l':=l++([(⟨(place+r9:Int),(ab:Int)⟩:CMk)])) (vy:=cc) T32 rfl H rfl rfl rfl (H.os 0) (H.ol 0) (rfl) (by first | omega | (simp only [List.length_nil] at *; omega)) ?_;intro bo iG H;replace H:=H.nf
      have iH:=Sl.cells (H.os 6)
      have iI:=Sl.oc (H.os 6)
      refine s_nil ⟨(H.pk [1,3,7,8,9,10]),?_⟩
      refine ts_q rfl (fun w' H=>x_fa (v:=Oq aj 5) rfl (fa_blk (o:=0) Fd35_4 Sz32)) ?_;refine ts_l rfl ?_;refine t_bs (α:=Int) T27 [I (time+ai)] [(time+ai:Int)] H rfl (.cons rfl (Flat.rep_enc _ (time+ai:Int))<|.nil) rfl rfl rfl ?_;intro c9 iJ H
      have iK:=Sl.cells (H.os 0)
      have iL:=Sl.oc (H.os 0)
      refine s_nil ⟨(H.pk [2,4,8,9,10,11]),?_⟩
      refine ts_l rfl ?_;obtain ⟨iM,hM⟩:=M.e_gd hM;refine t_app (α:=Int) (k:=6) (l:=l2) (l2:=[(time+ai:Int)]) (l':=l2++([(time+ai:Int)])) (vy:=c9) T27 rfl H rfl rfl rfl (H.os 0) (H.ol 0) (rfl) (by first | omega | (simp only [List.length_nil] at *; omega)) ?_;intro bp iN H;replace H:=H.nf
      have iO:=Sl.cells (H.os 6)
      have iP:=Sl.oc (H.os 6)
      refine s_nil ⟨(H.pk [2,4,8,9,10,11]),?_⟩
      refine ts_l rfl ?_;obtain ⟨iQ,da,hM⟩:=M.e_bind hM;refine s_call cf12 [Pq ah,I ((r3+(r4*ab))-r5),I ((r3+(r4*ab))+r5)] rfl (zad s_bytes aE aF ((r3+(r4*ab))-r5) ((r3+(r4*ab))+r5) (ar.app _) au da _ ((H.pk [3,0,1,2,4,5,6,7,8,9,10,11]).gt 11)) ?_
      rintro vq iR ⟨ag,ay,az,rfl,hvq,ae⟩
      subst vq;(try dsimp only at hM)
      replace H:=H.pk [3,0,1,2,4,5,6,7,8,9,10,11] |>.bk ae
      clear ae
      refine s_nil ⟨(H.pk [3,4,8,9,10,11]),?_⟩
      refine ts_l rfl ?_;refine t_bs (α:=Int) T27 [I ag] [(ag:Int)] H rfl (.cons rfl (Flat.rep_enc _ (ag:Int))<|.nil) rfl rfl rfl ?_;intro db iS H
      have iT:=Sl.cells (H.os 0)
      have iU:=Sl.oc (H.os 0)
      refine s_nil ⟨(H.pk [4,5,9,10,11,12]),?_⟩
      refine ts_l rfl ?_;obtain ⟨iV,hM⟩:=M.e_gd hM;refine t_app (α:=Int) (k:=6) (l:=l3) (l2:=[(ag:Int)]) (l':=l3++([(ag:Int)])) (vy:=db) T27 rfl H rfl rfl rfl (H.os 0) (H.ol 0) (rfl) (by first | omega | (simp only [List.length_nil] at *; omega)) ?_;intro br iW H;replace H:=H.nf
      have iX:=Sl.cells (H.os 6)
      have iY:=Sl.oc (H.os 6)
      refine s_nil ⟨(H.pk [4,5,9,10,11,12]),?_⟩
      refine ts_nil ?_;refine sr_l rfl ?_;refine t_sw 10 5 [bo] bo H rfl rfl Sz32 (Sl.cells (H.os 8)) rfl rfl (by simp only [List.all_cons,List.all_nil,Bool.true_and,Bool.and_true,Sl.oc (H.os 8)]; try rfl) ?_;intro iZ H
      refine s_nil ⟨trivial,?_⟩
      refine sr_l rfl ?_;refine kg 1 ?_
      refine s_nil ⟨trivial,?_⟩
      refine sr_l rfl ?_;refine t_sw 9 0 [bp] bp H rfl rfl Sz27 (Sl.cells (H.os 7)) rfl rfl (by simp only [List.all_cons,List.all_nil,Bool.true_and,Bool.and_true,Sl.oc (H.os 7)]; try rfl) ?_;intro i0 H
      refine s_nil ⟨trivial,?_⟩
      refine sr_l rfl ?_;refine kg 1 ?_
      refine s_nil ⟨trivial,?_⟩
      refine sr_l rfl ?_;refine t_sw 9 1 [br] br H rfl rfl Sz27 (Sl.cells (H.os 6)) rfl rfl (by simp only [List.all_cons,List.all_nil,Bool.true_and,Bool.and_true,Sl.oc (H.os 6)]; try rfl) ?_;intro i4 H
      refine s_nil ⟨trivial,?_⟩
      refine sr_nil ?_;replace H:=H.pk [1,5,6,7,8,9,10,11,12];obtain ⟨i5,hM⟩:=M.e_gd hM;refine kg 5 ?_
      exact ⟨aL,aM,ay,az,place+r9,time+ai,n-1,l++([(⟨(place+r9:Int),(ab:Int)⟩:CMk)]),l2++([(time+ai:Int)]),l3++([(ag:Int)]),l4,bo,bp,br,ak,_,upds_of _ _ ⟨rfl,rfl,rfl,rfl,rfl,rfl,rfl,rfl,rfl,trivial⟩,M.e_inl hM aH,(H.pk [1,2,3,4,0,5,6,7,8])⟩
     skip
     refine t_bs (α:=Int) T27 [I (time+ai)] [(time+ai:Int)] H rfl (.cons rfl (Flat.rep_enc _ (time+ai:Int))<|.nil) rfl rfl rfl ?_;intro dc i6 H
     have i7:=Sl.cells (H.os 0)
     have i8:=Sl.oc (H.os 0)
     refine s_nil ⟨(H.pk [2,4,8,9,10,11]),?_⟩
     refine ts_l rfl ?_;obtain ⟨i9,hM⟩:=M.e_gd hM;refine t_app (α:=CMk) (k:=7) (l:=l) (l2:=[(⟨(place+r9:Int),(ab:Int)⟩:CMk)]) (l':=l++([(⟨(place+r9:Int),(ab:Int)⟩:CMk)])) (vy:=cc) T32 rfl H rfl rfl rfl (H.os 1) (H.ol 1) (rfl) (by first | omega | (simp only [List.length_nil] at *; omega)) ?_;intro bt ja H;replace H:=H.nf
     have jb:=Sl.cells (H.os 7)
     have jc:=Sl.oc (H.os 7)
     refine s_nil ⟨(H.pk [2,4,8,9,10,11]),?_⟩
     refine ts_q rfl (fun w' H=>x_fa (v:=Oq aj 5) rfl (fa_blk (o:=0) Fd35_4 Sz32)) ?_;refine ts_l rfl ?_;obtain ⟨jd,hM⟩:=M.e_gd hM;refine t_app (α:=Int) (k:=6) (l:=l2) (l2:=[(time+ai:Int)]) (l':=l2++([(time+ai:Int)])) (vy:=dc) T27 rfl H rfl rfl rfl (H.os 0) (H.ol 0) (rfl) (by first | omega | (simp only [List.length_nil] at *; omega)) ?_;intro bu je H;replace H:=H.nf
     have jf:=Sl.cells (H.os 6)
     have jg:=Sl.oc (H.os 6)
     refine s_nil ⟨(H.pk [2,4,8,9,10,11]),?_⟩
     refine ts_l rfl ?_;obtain ⟨jh,dg,hM⟩:=M.e_bind hM;refine s_call cf12 [Pq ah,I ((r3+(r4*ab))-r5),I ((r3+(r4*ab))+r5)] rfl (zad s_bytes aE aF ((r3+(r4*ab))-r5) ((r3+(r4*ab))+r5) (ar.app _) au dg _ ((H.pk [3,0,1,2,4,5,6,7,8,9,10,11]).gt 11)) ?_
     rintro vq ji ⟨ag,ay,az,rfl,hvq,ae⟩
     subst vq;(try dsimp only at hM)
     replace H:=H.pk [3,0,1,2,4,5,6,7,8,9,10,11] |>.bk ae
     clear ae
     refine s_nil ⟨(H.pk [3,4,8,9,10,11]),?_⟩
     refine ts_l rfl ?_;refine t_bs (α:=Int) T27 [I ag] [(ag:Int)] H rfl (.cons rfl (Flat.rep_enc _ (ag:Int))<|.nil) rfl rfl rfl ?_;intro dh jj H
     have jk:=Sl.cells (H.os 0)
     have jl:=Sl.oc (H.os 0)
     refine s_nil ⟨(H.pk [4,5,9,10,11,12]),?_⟩
     refine ts_l rfl ?_;obtain ⟨jm,hM⟩:=M.e_gd hM;refine t_app (α:=Int) (k:=6) (l:=l3) (l2:=[(ag:Int)]) (l':=l3++([(ag:Int)])) (vy:=dh) T27 rfl H rfl rfl rfl (H.os 0) (H.ol 0) (rfl) (by first | omega | (simp only [List.length_nil] at *; omega)) ?_;intro bv jn H;replace H:=H.nf
     have jo:=Sl.cells (H.os 6)
     have jp:=Sl.oc (H.os 6)
     refine s_nil ⟨(H.pk [4,5,9,10,11,12]),?_⟩
     refine ts_nil ?_;refine sr_l rfl ?_;refine t_sw 10 5 [bt] bt H rfl rfl Sz32 (Sl.cells (H.os 8)) rfl rfl (by simp only [List.all_cons,List.all_nil,Bool.true_and,Bool.and_true,Sl.oc (H.os 8)]; try rfl) ?_;intro jq H
     refine s_nil ⟨trivial,?_⟩
     refine sr_l rfl ?_;refine kg 1 ?_
     refine s_nil ⟨trivial,?_⟩
     refine sr_l rfl ?_;refine t_sw 9 0 [bu] bu H rfl rfl Sz27 (Sl.cells (H.os 7)) rfl rfl (by simp only [List.all_cons,List.all_nil,Bool.true_and,Bool.and_true,Sl.oc (H.os 7)]; try rfl) ?_;intro jr H
     refine s_nil ⟨trivial,?_⟩
     refine sr_l rfl ?_;refine kg 1 ?_
     refine s_nil ⟨trivial,?_⟩
     refine sr_l rfl ?_;refine t_sw 9 1 [bv] bv H rfl rfl Sz27 (Sl.cells (H.os 6)) rfl rfl (by simp only [List.all_cons,List.all_nil,Bool.true_and,Bool.and_true,Sl.oc (H.os 6)]; try rfl) ?_;intro js H
     refine s_nil ⟨trivial,?_⟩
     refine sr_nil ?_;replace H:=H.pk [1,5,6,7,8,9,10,11,12];obtain ⟨jt,hM⟩:=M.e_gd hM;refine kg 5 ?_
     exact ⟨aL,aM,ay,az,place+r9,time+ai,n-1,l++([(⟨(place+r9:Int),(ab:Int)⟩:CMk)]),l2++([(time+ai:Int)]),l3++([(ag:Int)]),l4,bt,bu,bv,ak,_,upds_of _ _ ⟨rfl,rfl,rfl,rfl,rfl,rfl,rfl,rfl,rfl,trivial⟩,M.e_inl hM aH,(H.pk [1,2,3,4,0,5,6,7,8])⟩
    skip
    refine t_bs (α:=Int) T27 [I (time+ai)] [(time+ai:Int)] H rfl (.cons rfl (Flat.rep_enc _ (time+ai:Int))<|.nil) rfl rfl rfl ?_;intro di ju H
    have jv:=Sl.cells (H.os 0)
    have jw:=Sl.oc (H.os 0)
    have jx:=Sl.cells (H.os 4)
    have jy:=Sl.oc (H.os 4)
    have jz:=Sl.cells (H.os 5)
    have jA:=Sl.oc (H.os 5)
    have jC:=Sl.cells (H.os 6)
    have jD:=Sl.oc (H.os 6)
    refine s_nil ⟨(H.pk [1,3,7,8,9,10]),?_⟩
    refine ts_l rfl ?_;refine t_bs (α:=CMk) T32 [.agg #[I (place+r9),I ab]] [(⟨(place+r9:Int),(ab:Int)⟩:CMk)] H rfl (.cons rfl (Flat.rep_enc _ (⟨(place+r9:Int),(ab:Int)⟩:CMk))<|.nil) rfl rfl rfl ?_;intro dj jF H
    have jH:=Sl.cells (H.os 0)
    have jI:=Sl.oc (H.os 0)
    refine s_nil ⟨(H.pk [2,4,8,9,10,11]),?_⟩
    refine ts_l rfl ?_;obtain ⟨jJ,hM⟩:=M.e_gd hM;refine t_app (α:=CMk) (k:=7) (l:=l) (l2:=[(⟨(place+r9:Int),(ab:Int)⟩:CMk)]) (l':=l++([(⟨(place+r9:Int),(ab:Int)⟩:CMk)])) (vy:=dj) T32 rfl H rfl rfl rfl (H.os 0) (H.ol 0) (rfl) (by first | omega | (simp only [List.length_nil] at *; omega)) ?_;intro bw jK H;replace H:=H.nf
    have jM:=Sl.cells (H.os 7)
    have jN:=Sl.oc (H.os 7)
    refine s_nil ⟨(H.pk [2,4,8,9,10,11]),?_⟩
    refine ts_q rfl (fun w' H=>x_fa (v:=Oq aj 5) rfl (fa_blk (o:=0) Fd35_4 Sz32)) ?_;refine ts_l rfl ?_;obtain ⟨jP,hM⟩:=M.e_gd hM;refine t_app (α:=Int) (k:=6) (l:=l2) (l2:=[(time+ai:Int)]) (l':=l2++([(time+ai:Int)])) (vy:=di) T27 rfl H rfl rfl rfl (H.os 1) (H.ol 1) (rfl) (by first | omega | (simp only [List.length_nil] at *; omega)) ?_;intro bx jQ H;replace H:=H.nf
    have jR:=Sl.cells (H.os 6)
    have jT:=Sl.oc (H.os 6)
    refine s_nil ⟨(H.pk [2,4,8,9,10,11]),?_⟩
    refine ts_l rfl ?_;obtain ⟨jW,dk,hM⟩:=M.e_bind hM;refine s_call cf12 [Pq ah,I ((r3+(r4*ab))-r5),I ((r3+(r4*ab))+r5)] rfl (zad s_bytes aE aF ((r3+(r4*ab))-r5) ((r3+(r4*ab))+r5) (ar.app _) au dk _ ((H.pk [3,0,1,2,4,5,6,7,8,9,10,11]).gt 11)) ?_
    rintro vq jX ⟨ag,ay,az,rfl,hvq,ae⟩
    subst vq;(try dsimp only at hM)
    replace H:=H.pk [3,0,1,2,4,5,6,7,8,9,10,11] |>.bk ae
    clear ae
    refine s_nil ⟨(H.pk [3,4,8,9,10,11]),?_⟩
    refine ts_l rfl ?_;refine t_bs (α:=Int) T27 [I ag] [(ag:Int)] H rfl (.cons rfl (Flat.rep_enc _ (ag:Int))<|.nil) rfl rfl rfl ?_;intro dl jY H
    have jZ:=Sl.cells (H.os 0)
    have j0:=Sl.oc (H.os 0)
    refine s_nil ⟨(H.pk [4,5,9,10,11,12]),?_⟩
    refine ts_l rfl ?_;obtain ⟨j1,hM⟩:=M.e_gd hM;refine t_app (α:=Int) (k:=6) (l:=l3) (l2:=[(ag:Int)]) (l':=l3++([(ag:Int)])) (vy:=dl) T27 rfl H rfl rfl rfl (H.os 0) (H.ol 0) (rfl) (by first | omega | (simp only [List.length_nil] at *; omega)) ?_;intro bz j2 H;replace H:=H.nf
    have j3:=Sl.cells (H.os 6)
    have j4:=Sl.oc (H.os 6)
    refine s_nil ⟨(H.pk [4,5,9,10,11,12]),?_⟩
    refine ts_nil ?_;refine sr_l rfl ?_;refine t_sw 10 5 [bw] bw H rfl rfl Sz32 (Sl.cells (H.os 8)) rfl rfl (by simp only [List.all_cons,List.all_nil,Bool.true_and,Bool.and_true,Sl.oc (H.os 8)]; try rfl) ?_;intro j7 H
    refine s_nil ⟨trivial,?_⟩
    refine sr_l rfl ?_;refine kg 1 ?_
    refine s_nil ⟨trivial,?_⟩
    refine sr_l rfl ?_;refine t_sw 9 0 [bx] bx H rfl rfl Sz27 (Sl.cells (H.os 7)) rfl rfl (by simp only [List.all_cons,List.all_nil,Bool.true_and,Bool.and_true,Sl.oc (H.os 7)]; try rfl) ?_;intro j8 H
    refine s_nil ⟨trivial,?_⟩
    refine sr_l rfl ?_;refine kg 1 ?_
    refine s_nil ⟨trivial,?_⟩
    refine sr_l rfl ?_;refine t_sw 9 1 [bz] bz H rfl rfl Sz27 (Sl.cells (H.os 6)) rfl rfl (by simp only [List.all_cons,List.all_nil,Bool.true_and,Bool.and_true,Sl.oc (H.os 6)]; try rfl) ?_;intro j9 H
    refine s_nil ⟨trivial,?_⟩
    refine sr_nil ?_;replace H:=H.pk [1,5,6,7,8,9,10,11,12];obtain ⟨ke,hM⟩:=M.e_gd hM;refine kg 5 ?_
    exact ⟨aL,aM,ay,az,place+r9,time+ai,n-1,l++([(⟨(place+r9:Int),(ab:Int)⟩:CMk)]),l2++([(time+ai:Int)]),l3++([(ag:Int)]),l4,bw,bx,bz,ak,_,upds_of _ _ ⟨rfl,rfl,rfl,rfl,rfl,rfl,rfl,rfl,rfl,trivial⟩,M.e_inl hM aH,(H.pk [1,2,3,4,0,5,6,7,8])⟩
   replace hM:=M.e_f hM a6;refine g_val (v:=B false) stop (gy_t rfl) (fun hg=>Bool.noConfusion (a6.symm.trans hg))<|s_val (x_pand0 (b:=stop) rfl (fun hb=>gd_of (c:=stop) (by first | exact hb | (rw [hb]; rfl) | simp_all) (B false)) rfl)<|s_nil ?_
   refine W.cond false rfl (fun cd=>?_) (fun cd=>?_)
   ·skip
    exact absurd cd (by decide)
   skip
   refine kg 5 ?_;obtain ⟨kh,dm,hM⟩:=M.e_bind hM;refine s_call cf13 [Pq ah,I 60] rfl (zae s_bytes b6 b7 60 (ar.app _) au dm _ (H.gt 8)) ?_
   rintro vq ki ⟨ab,aE,aF,rfl,hvq,ae⟩
   subst vq;(try dsimp only at hM);replace H:=H.bk ae;clear ae;refine s_val (x_bld (ps:=[(0,I (place+r9)),(1,I ab)]) (zs:=[I 0,I 0]) (L':=[I (place+r9),I ab]) rfl Tryz.underlying55 Al55 rfl (Bd55 Tryz.underlying55) (.cons (cs:=[I (place+r9)]) rfl rfl rfl rfl rfl<|.cons (cs:=[I ab]) rfl rfl rfl rfl rfl<|.nil)) ?_;refine t_alloc (cs:=[I 0,I 0]) H Al55 rfl ?_;intro aR kj H;refine t_sw 0 0 [I (place+r9),I ab] (.agg #[I (place+r9),I ab]) H rfl rfl Sz55 rfl rfl rfl rfl ?_;intro km H;obtain ⟨ko,hM⟩:=M.e_gd hM;obtain ⟨kq,hM⟩:=M.e_gd hM;refine kg 13 ?_;refine W.drawTS (fun W=>St w W [cBlk aR [I (place+r9),I ab] 55,cOwn (α:=Int) 3 ak l4,cBlk aq [al,am,ak] 37,cBlk aj [I r2,I (r2+r6),I r3,I r4,I r5,ao,.slice none 0 0] 35,cBlk aw [.slice none 0 0,.slice none 0 0,.slice none 0 0] 37,cBlk av [I 0,I 0,I 0,I 0,I 0,.slice none 0 0,.slice none 0 0] 35] R) (.q 0 (.q 1 (.q 2 (.q 5 (.q 6 (.q 7 (.q 10 (.q 11 (.q 12 (.q 13 (.q 14 (.q 15 (.q 16 (.q 17 (.q 18 (.q 19 (.q 20 (.l2 3 (.l2 4 (.q 24 (.l 8 (.l 9 (.l 21 (.l 22 (.l 23 .nil)))))) 8 (.l 4 (.q 24 (.l 9 (.l 21 (.l 22 (.l 23 .nil))))))) 8 (.l 3 (.l 4 (.q 24 (.l 9 (.l 21 (.l 22 (.l 23 .nil))))))))))))))))))))))))) 25 [25,26,27,28,29] mixed (by decide +kernel) rfl ?_;intro kr ax;replace H:=H.ext ax;clear ax
   refine ⟨(H.pk [0,2,6,7,8,9]),?_⟩
   refine ts_q rfl (fun w' H=>x_fa (v:=Oq aj 5) rfl (fa_blk (o:=0) Fd35_4 Sz32)) ?_;refine ts_q rfl (fun w' H=>x_ld (v:=ao) rfl (ldb_sc Sc32 (H.bl 3) rfl)) ?_;refine ts_q rfl (fun w' H=>x_ld (v:=.agg #[I (place+r9),I ab]) rfl (ldb_ag (ds:=[I (place+r9),I ab]) Ag55 Sz55 (H.bl 0) rfl rfl)) ?_;refine ts_q rfl (fun w' H=>x_fa (v:=Pq aq) rfl (fa_blk (o:=0) Fd37_0 Sz27)) ?_;refine ts_q rfl (fun w' H=>x_ld (v:=al) rfl (ldb_sc Sc27 (H.bl 2) rfl)) ?_;refine ts_q rfl (fun w' H=>x_mv (v:=I (time+ai)) rfl) ?_;refine ts_q rfl (fun w' H=>x_fa (v:=Oq aq 1) rfl (fa_blk (o:=0) Fd37_1 Sz27)) ?_;refine ts_q rfl (fun w' H=>x_ld (v:=am) rfl (ldb_sc Sc27 (H.bl 2) rfl)) ?_;refine ts_q rfl (fun w' H=>x_mv (v:=Pq ah) rfl) ?_;refine ts_q rfl (fun w' H=>x_mv (v:=I (r3+(r4*ab))) rfl) ?_;refine ts_q rfl (fun w' H=>x_fa (v:=Oq aj 4) rfl (fa_blk (o:=0) Fd35_3 Sz3)) ?_;refine ts_q rfl (fun w' H=>x_ld (v:=I r5) rfl (ldb_sc Sc3 (H.bl 3) rfl)) ?_;obtain ⟨kw,hM⟩:=M.e_gd hM;refine ts_q rfl (fun w' H=>x_ari (r:=(r3+(r4*ab))-r5) rfl rfl rfl (by omega)) ?_;refine ts_q rfl (fun w' H=>x_mv (v:=I (r3+(r4*ab))) rfl) ?_;refine ts_q rfl (fun w' H=>x_fa (v:=Oq aj 4) rfl (fa_blk (o:=0) Fd35_3 Sz3)) ?_;refine ts_q rfl (fun w' H=>x_ld (v:=I r5) rfl (ldb_sc Sc3 (H.bl 3) rfl)) ?_;obtain ⟨kx,hM⟩:=M.e_gd hM;refine ts_q rfl (fun w' H=>x_ari (r:=(r3+(r4*ab))+r5) rfl rfl rfl (by omega)) ?_;refine ts_l2 rfl rfl ?_ ?_
   ·skip
    refine t_bs (α:=CMk) T32 [.agg #[I (place+r9),I ab]] [(⟨(place+r9:Int),(ab:Int)⟩:CMk)] H rfl (.cons rfl (Flat.rep_enc _ (⟨(place+r9:Int),(ab:Int)⟩:CMk))<|.nil) rfl rfl rfl ?_;intro ce kz H
    have kA:=Sl.cells (H.os 0)
    have kB:=Sl.oc (H.os 0)
    have kC:=Sl.cells (H.os 4)
    have kD:=Sl.oc (H.os 4)
    have kE:=Sl.cells (H.os 5)
    have kF:=Sl.oc (H.os 5)
    have kG:=Sl.cells (H.os 6)
    have kH:=Sl.oc (H.os 6)
    refine s_nil ⟨(H.pk [1,3,7,8,9,10]),?_⟩
    refine ts_l2 rfl rfl ?_ ?_
    ·skip
     obtain ⟨kI,hM⟩:=M.e_gd hM;refine t_app (α:=CMk) (k:=6) (l:=l) (l2:=[(⟨(place+r9:Int),(ab:Int)⟩:CMk)]) (l':=l++([(⟨(place+r9:Int),(ab:Int)⟩:CMk)])) (vy:=ce) T32 rfl H rfl rfl rfl (H.os 0) (H.ol 0) (rfl) (by first | omega | (simp only [List.length_nil] at *; omega)) ?_;intro bA kJ H;replace H:=H.nf
     have kK:=Sl.cells (H.os 6)
     have kL:=Sl.oc (H.os 6)
     refine s_nil ⟨(H.pk [1,3,7,8,9,10]),?_⟩
     refine ts_q rfl (fun w' H=>x_fa (v:=Oq aj 5) rfl (fa_blk (o:=0) Fd35_4 Sz32)) ?_;refine ts_l rfl ?_;refine t_bs (α:=Int) T27 [I (time+ai)] [(time+ai:Int)] H rfl (.cons rfl (Flat.rep_enc _ (time+ai:Int))<|.nil) rfl rfl rfl ?_;intro dp kM H
     have kN:=Sl.cells (H.os 0)
     have kO:=Sl.oc (H.os 0)
     refine s_nil ⟨(H.pk [2,4,8,9,10,11]),?_⟩
     refine ts_l rfl ?_;obtain ⟨kP,hM⟩:=M.e_gd hM;refine t_app (α:=Int) (k:=6) (l:=l2) (l2:=[(time+ai:Int)]) (l':=l2++([(time+ai:Int)])) (vy:=dp) T27 rfl H rfl rfl rfl (H.os 0) (H.ol 0) (rfl) (by first | omega | (simp only [List.length_nil] at *; omega)) ?_;intro bB kQ H;replace H:=H.nf
     have kR:=Sl.cells (H.os 6)
     have kS:=Sl.oc (H.os 6)
     refine s_nil ⟨(H.pk [2,4,8,9,10,11]),?_⟩
     refine ts_l rfl ?_;obtain ⟨kT,dq,hM⟩:=M.e_bind hM;refine s_call cf12 [Pq ah,I ((r3+(r4*ab))-r5),I ((r3+(r4*ab))+r5)] rfl (zad s_bytes aE aF ((r3+(r4*ab))-r5) ((r3+(r4*ab))+r5) (ar.app _) au dq _ ((H.pk [3,0,1,2,4,5,6,7,8,9,10,11]).gt 11)) ?_
     rintro vq kU ⟨ag,ay,az,rfl,hvq,ae⟩
     subst vq;(try dsimp only at hM)
     replace H:=H.pk [3,0,1,2,4,5,6,7,8,9,10,11] |>.bk ae
     clear ae
     refine s_nil ⟨(H.pk [3,4,8,9,10,11]),?_⟩
     refine ts_l rfl ?_;refine t_bs (α:=Int) T27 [I ag] [(ag:Int)] H rfl (.cons rfl (Flat.rep_enc _ (ag:Int))<|.nil) rfl rfl rfl ?_;intro dr kV H
     have kW:=Sl.cells (H.os 0)
     have kX:=Sl.oc (H.os 0)
     refine s_nil ⟨(H.pk [4,5,9,10,11,12]),?_⟩
     refine ts_l rfl ?_;obtain ⟨kY,hM⟩:=M.e_gd hM;refine t_app (α:=Int) (k:=6) (l:=l3) (l2:=[(ag:Int)]) (l':=l3++([(ag:Int)])) (vy:=dr) T27 rfl H rfl rfl rfl (H.os 0) (H.ol 0) (rfl) (by first | omega | (simp only [List.length_nil] at *; omega)) ?_;intro bC kZ H;replace H:=H.nf
     have lb:=Sl.cells (H.os 6)
     have lc:=Sl.oc (H.os 6)
     refine s_nil ⟨(H.pk [4,5,9,10,11,12]),?_⟩
     refine ts_nil ?_;refine sr_l rfl ?_;refine t_sw 10 5 [bA] bA H rfl rfl Sz32 (Sl.cells (H.os 8)) rfl rfl (by simp only [List.all_cons,List.all_nil,Bool.true_and,Bool.and_true,Sl.oc (H.os 8)]; try rfl) ?_;intro ld H
     refine s_nil ⟨trivial,?_⟩
     refine sr_l rfl ?_;refine kg 1 ?_
     refine s_nil ⟨trivial,?_⟩
     refine sr_l rfl ?_;refine t_sw 9 0 [bB] bB H rfl rfl Sz27 (Sl.cells (H.os 7)) rfl rfl (by simp only [List.all_cons,List.all_nil,Bool.true_and,Bool.and_true,Sl.oc (H.os 7)]; try rfl) ?_;intro lg H
     refine s_nil ⟨trivial,?_⟩
     refine sr_l rfl ?_;refine kg 1 ?_
     refine s_nil ⟨trivial,?_⟩
     refine sr_l rfl ?_;refine t_sw 9 1 [bC] bC H rfl rfl Sz27 (Sl.cells (H.os 6)) rfl rfl (by simp only [List.all_cons,List.all_nil,Bool.true_and,Bool.and_true,Sl.oc (H.os 6)]; try rfl) ?_;intro lh H
     refine s_nil ⟨trivial,?_⟩
     refine sr_nil ?_;replace H:=H.pk [1,5,6,7,8,9,10,11,12];obtain ⟨li,hM⟩:=M.e_gd hM;refine kg 5 ?_
     exact ⟨aL,aM,ay,az,place+r9,time+ai,n-1,l++([(⟨(place+r9:Int),(ab:Int)⟩:CMk)]),l2++([(time+ai:Int)]),l3++([(ag:Int)]),l4,bA,bB,bC,ak,_,upds_of _ _ ⟨rfl,rfl,rfl,rfl,rfl,rfl,rfl,rfl,rfl,trivial⟩,M.e_inl hM aH,(H.pk [1,2,3,4,0,5,6,7,8])⟩
    skip
    refine t_bs (α:=Int) T27 [I (time+ai)] [(time+ai:Int)] H rfl (.cons rfl (Flat.rep_enc _ (time+ai:Int))<|.nil) rfl rfl rfl ?_;intro dt lj H
    have lk:=Sl.cells (H.os 0)
    have ll:=Sl.oc (H.os 0)
    refine s_nil ⟨(H.pk [2,4,8,9,10,11]),?_⟩
    refine ts_l rfl ?_;obtain ⟨lm,hM⟩:=M.e_gd hM;refine t_app (α:=CMk) (k:=7) (l:=l) (l2:=[(⟨(place+r9:Int),(ab:Int)⟩:CMk)]) (l':=l++([(⟨(place+r9:Int),(ab:Int)⟩:CMk)])) (vy:=ce) T32 rfl H rfl rfl rfl (H.os 1) (H.ol 1) (rfl) (by first | omega | (simp only [List.length_nil] at *; omega)) ?_;intro bD lp H;replace H:=H.nf
    have lq:=Sl.cells (H.os 7)
    have lr:=Sl.oc (H.os 7)
    refine s_nil ⟨(H.pk [2,4,8,9,10,11]),?_⟩
    refine ts_q rfl (fun w' H=>x_fa (v:=Oq aj 5) rfl (fa_blk (o:=0) Fd35_4 Sz32)) ?_;refine ts_l rfl ?_;obtain ⟨ls,hM⟩:=M.e_gd hM;refine t_app (α:=Int) (k:=6) (l:=l2) (l2:=[(time+ai:Int)]) (l':=l2++([(time+ai:Int)])) (vy:=dt) T27 rfl H rfl rfl rfl (H.os 0) (H.ol 0) (rfl) (by first | omega | (simp only [List.length_nil] at *; omega)) ?_;intro bE lu H;replace H:=H.nf
    have lv:=Sl.cells (H.os 6)
    have lw:=Sl.oc (H.os 6)
    refine s_nil ⟨(H.pk [2,4,8,9,10,11]),?_⟩
    refine ts_l rfl ?_;obtain ⟨lx,du,hM⟩:=M.e_bind hM;refine s_call cf12 [Pq ah,I ((r3+(r4*ab))-r5),I ((r3+(r4*ab))+r5)] rfl (zad s_bytes aE aF ((r3+(r4*ab))-r5) ((r3+(r4*ab))+r5) (ar.app _) au du _ ((H.pk [3,0,1,2,4,5,6,7,8,9,10,11]).gt 11)) ?_
    rintro vq ly ⟨ag,ay,az,rfl,hvq,ae⟩
    subst vq;(try dsimp only at hM)
    replace H:=H.pk [3,0,1,2,4,5,6,7,8,9,10,11] |>.bk ae
    clear ae
    refine s_nil ⟨(H.pk [3,4,8,9,10,11]),?_⟩
    refine ts_l rfl ?_;refine t_bs (α:=Int) T27 [I ag] [(ag:Int)] H rfl (.cons rfl (Flat.rep_enc _ (ag:Int))<|.nil) rfl rfl rfl ?_;intro dv lz H
    have lA:=Sl.cells (H.os 0)
    have lB:=Sl.oc (H.os 0)
    refine s_nil ⟨(H.pk [4,5,9,10,11,12]),?_⟩
    refine ts_l rfl ?_;obtain ⟨lC,hM⟩:=M.e_gd hM;refine t_app (α:=Int) (k:=6) (l:=l3) (l2:=[(ag:Int)]) (l':=l3++([(ag:Int)])) (vy:=dv) T27 rfl H rfl rfl rfl (H.os 0) (H.ol 0) (rfl) (by first | omega | (simp only [List.length_nil] at *; omega)) ?_;intro bF lD H;replace H:=H.nf
    have lE:=Sl.cells (H.os 6)
    have lF:=Sl.oc (H.os 6)
    refine s_nil ⟨(H.pk [4,5,9,10,11,12]),?_⟩
    refine ts_nil ?_;refine sr_l rfl ?_;refine t_sw 10 5 [bD] bD H rfl rfl Sz32 (Sl.cells (H.os 8)) rfl rfl (by simp only [List.all_cons,List.all_nil,Bool.true_and,Bool.and_true,Sl.oc (H.os 8)]; try rfl) ?_;intro lG H
    refine s_nil ⟨trivial,?_⟩
    refine sr_l rfl ?_;refine kg 1 ?_
    refine s_nil ⟨trivial,?_⟩
    refine sr_l rfl ?_;refine t_sw 9 0 [bE] bE H rfl rfl Sz27 (Sl.cells (H.os 7)) rfl rfl (by simp only [List.all_cons,List.all_nil,Bool.true_and,Bool.and_true,Sl.oc (H.os 7)]; try rfl) ?_;intro lH H
    refine s_nil ⟨trivial,?_⟩
    refine sr_l rfl ?_;refine kg 1 ?_
    refine s_nil ⟨trivial,?_⟩
    refine sr_l rfl ?_;refine t_sw 9 1 [bF] bF H rfl rfl Sz27 (Sl.cells (H.os 6)) rfl rfl (by simp only [List.all_cons,List.all_nil,Bool.true_and,Bool.and_true,Sl.oc (H.os 6)]; try rfl) ?_;intro lI H
    refine s_nil ⟨trivial,?_⟩
    refine sr_nil ?_;replace H:=H.pk [1,5,6,7,8,9,10,11,12];obtain ⟨lJ,hM⟩:=M.e_gd hM;refine kg 5 ?_
    exact ⟨aL,aM,ay,az,place+r9,time+ai,n-1,l++([(⟨(place+r9:Int),(ab:Int)⟩:CMk)]),l2++([(time+ai:Int)]),l3++([(ag:Int)]),l4,bD,bE,bF,ak,_,upds_of _ _ ⟨rfl,rfl,rfl,rfl,rfl,rfl,rfl,rfl,rfl,trivial⟩,M.e_inl hM aH,(H.pk [1,2,3,4,0,5,6,7,8])⟩
   skip
   refine t_bs (α:=Int) T27 [I (time+ai)] [(time+ai:Int)] H rfl (.cons rfl (Flat.rep_enc _ (time+ai:Int))<|.nil) rfl rfl rfl ?_;intro dx lK H
   have lL:=Sl.cells (H.os 0)
   have lM:=Sl.oc (H.os 0)
   have lN:=Sl.cells (H.os 4)
   have lO:=Sl.oc (H.os 4)
   have lP:=Sl.cells (H.os 5)
   have lQ:=Sl.oc (H.os 5)
   have lR:=Sl.cells (H.os 6)
   have lS:=Sl.oc (H.os 6)
   refine s_nil ⟨(H.pk [1,3,7,8,9,10]),?_⟩
   refine ts_l rfl ?_;refine t_bs (α:=CMk) T32 [.agg #[I (place+r9),I ab]] [(⟨(place+r9:Int),(ab:Int)⟩:CMk)] H rfl (.cons rfl (Flat.rep_enc _ (⟨(place+r9:Int),(ab:Int)⟩:CMk))<|.nil) rfl rfl rfl ?_;intro dy lT H
   have lU:=Sl.cells (H.os 0)
   have lV:=Sl.oc (H.os 0)
   refine s_nil ⟨(H.pk [2,4,8,9,10,11]),?_⟩
   refine ts_l rfl ?_;obtain ⟨lW,hM⟩:=M.e_gd hM;refine t_app (α:=CMk) (k:=7) (l:=l) (l2:=[(⟨(place+r9:Int),(ab:Int)⟩:CMk)]) (l':=l++([(⟨(place+r9:Int),(ab:Int)⟩:CMk)])) (vy:=dy) T32 rfl H rfl rfl rfl (H.os 0) (H.ol 0) (rfl) (by first | omega | (simp only [List.length_nil] at *; omega)) ?_;intro bG lX H;replace H:=H.nf
   have lY:=Sl.cells (H.os 7)
   have lZ:=Sl.oc (H.os 7)
   refine s_nil ⟨(H.pk [2,4,8,9,10,11]),?_⟩
   refine ts_q rfl (fun w' H=>x_fa (v:=Oq aj 5) rfl (fa_blk (o:=0) Fd35_4 Sz32)) ?_;refine ts_l rfl ?_;obtain ⟨l0,hM⟩:=M.e_gd hM;refine t_app (α:=Int) (k:=6) (l:=l2) (l2:=[(time+ai:Int)]) (l':=l2++([(time+ai:Int)])) (vy:=dx) T27 rfl H rfl rfl rfl (H.os 1) (H.ol 1) (rfl) (by first | omega | (simp only [List.length_nil] at *; omega)) ?_;intro bH ma H;replace H:=H.nf
   have mb:=Sl.cells (H.os 6)
   have mc:=Sl.oc (H.os 6)
   refine s_nil ⟨(H.pk [2,4,8,9,10,11]),?_⟩
   refine ts_l rfl ?_;obtain ⟨me,dz,hM⟩:=M.e_bind hM;refine s_call cf12 [Pq ah,I ((r3+(r4*ab))-r5),I ((r3+(r4*ab))+r5)] rfl (zad s_bytes aE aF ((r3+(r4*ab))-r5) ((r3+(r4*ab))+r5) (ar.app _) au dz _ ((H.pk [3,0,1,2,4,5,6,7,8,9,10,11]).gt 11)) ?_
   rintro vq mf ⟨ag,ay,az,rfl,hvq,ae⟩
   subst vq;(try dsimp only at hM)
   replace H:=H.pk [3,0,1,2,4,5,6,7,8,9,10,11] |>.bk ae
   clear ae
   refine s_nil ⟨(H.pk [3,4,8,9,10,11]),?_⟩
   refine ts_l rfl ?_;refine t_bs (α:=Int) T27 [I ag] [(ag:Int)] H rfl (.cons rfl (Flat.rep_enc _ (ag:Int))<|.nil) rfl rfl rfl ?_;intro dA mg H
   have mh:=Sl.cells (H.os 0)
   have mi:=Sl.oc (H.os 0)
   refine s_nil ⟨(H.pk [4,5,9,10,11,12]),?_⟩
   refine ts_l rfl ?_;obtain ⟨mj,hM⟩:=M.e_gd hM;refine t_app (α:=Int) (k:=6) (l:=l3) (l2:=[(ag:Int)]) (l':=l3++([(ag:Int)])) (vy:=dA) T27 rfl H rfl rfl rfl (H.os 0) (H.ol 0) (rfl) (by first | omega | (simp only [List.length_nil] at *; omega)) ?_;intro bI ml H;replace H:=H.nf
   have mm:=Sl.cells (H.os 6)
   have mn:=Sl.oc (H.os 6)
   refine s_nil ⟨(H.pk [4,5,9,10,11,12]),?_⟩
   refine ts_nil ?_;refine sr_l rfl ?_;refine t_sw 10 5 [bG] bG H rfl rfl Sz32 (Sl.cells (H.os 8)) rfl rfl (by simp only [List.all_cons,List.all_nil,Bool.true_and,Bool.and_true,Sl.oc (H.os 8)]; try rfl) ?_;intro mo H
   refine s_nil ⟨trivial,?_⟩
   refine sr_l rfl ?_;refine kg 1 ?_
   refine s_nil ⟨trivial,?_⟩
   refine sr_l rfl ?_;refine t_sw 9 0 [bH] bH H rfl rfl Sz27 (Sl.cells (H.os 7)) rfl rfl (by simp only [List.all_cons,List.all_nil,Bool.true_and,Bool.and_true,Sl.oc (H.os 7)]; try rfl) ?_;intro mr H
   refine s_nil ⟨trivial,?_⟩
   refine sr_l rfl ?_;refine kg 1 ?_
   refine s_nil ⟨trivial,?_⟩
   refine sr_l rfl ?_;refine t_sw 9 1 [bI] bI H rfl rfl Sz27 (Sl.cells (H.os 6)) rfl rfl (by simp only [List.all_cons,List.all_nil,Bool.true_and,Bool.and_true,Sl.oc (H.os 6)]; try rfl) ?_;intro mt H
   refine s_nil ⟨trivial,?_⟩
   refine sr_nil ?_;replace H:=H.pk [1,5,6,7,8,9,10,11,12];obtain ⟨mu,hM⟩:=M.e_gd hM;refine kg 5 ?_
   exact ⟨aL,aM,ay,az,place+r9,time+ai,n-1,l++([(⟨(place+r9:Int),(ab:Int)⟩:CMk)]),l2++([(time+ai:Int)]),l3++([(ag:Int)]),l4,bG,bH,bI,ak,_,upds_of _ _ ⟨rfl,rfl,rfl,rfl,rfl,rfl,rfl,rfl,rfl,trivial⟩,M.e_inl hM aH,(H.pk [1,2,3,4,0,5,6,7,8])⟩
  replace hM:=M.e_f hM aP
  replace aP:=dI aP
  refine kg 5 ?_;obtain ⟨mv,dB,hM⟩:=M.e_bind hM;refine s_call cf13 [Pq ah,I 60] rfl (zae s_bytes s2 s3 60 (ar.app _) au dB _ ((H.pk [4,0,1,2,3,5,6,7,8]).gt 8)) ?_
  rintro vq mw ⟨ab,aE,aF,rfl,hvq,ae⟩
  subst vq;(try dsimp only at hM)
  replace H:=H.pk [4,0,1,2,3,5,6,7,8] |>.bk ae
  clear ae;refine s_val (x_bld (ps:=[(0,I place),(1,I ab)]) (zs:=[I 0,I 0]) (L':=[I place,I ab]) rfl Tryz.underlying55 Al55 rfl (Bd55 Tryz.underlying55) (.cons (cs:=[I place]) rfl rfl rfl rfl rfl<|.cons (cs:=[I ab]) rfl rfl rfl rfl rfl<|.nil)) ?_;refine t_alloc (cs:=[I 0,I 0]) H Al55 rfl ?_;intro aR my H;refine t_sw 0 0 [I place,I ab] (.agg #[I place,I ab]) H rfl rfl Sz55 rfl rfl rfl rfl ?_;intro mz H;obtain ⟨mC,hM⟩:=M.e_gd hM;obtain ⟨mD,hM⟩:=M.e_gd hM;refine kg 13 ?_;refine W.drawTS (fun W=>St w W [cBlk aR [I place,I ab] 55,cOwn (α:=Int) 3 ak l4,cBlk aq [al,am,ak] 37,cBlk aj [I r2,I (r2+r6),I r3,I r4,I r5,ao,.slice none 0 0] 35,cBlk aw [.slice none 0 0,.slice none 0 0,.slice none 0 0] 37,cBlk av [I 0,I 0,I 0,I 0,I 0,.slice none 0 0,.slice none 0 0] 35] R) (.q 0 (.q 1 (.q 2 (.q 5 (.q 6 (.q 7 (.q 10 (.q 11 (.q 12 (.q 13 (.q 14 (.q 15 (.q 16 (.q 17 (.q 18 (.q 19 (.q 20 (.l2 3 (.l2 4 (.q 24 (.l 8 (.l 9 (.l 21 (.l 22 (.l 23 .nil)))))) 8 (.l 4 (.q 24 (.l 9 (.l 21 (.l 22 (.l 23 .nil))))))) 8 (.l 3 (.l 4 (.q 24 (.l 9 (.l 21 (.l 22 (.l 23 .nil))))))))))))))))))))))))) 25 [25,26,27,28,29] mixed (by decide +kernel) rfl ?_;intro mE ax;replace H:=H.ext ax;clear ax
  refine ⟨(H.pk [0,2,6,7,8,9]),?_⟩
  refine ts_q rfl (fun w' H=>x_fa (v:=Oq aj 5) rfl (fa_blk (o:=0) Fd35_4 Sz32)) ?_;refine ts_q rfl (fun w' H=>x_ld (v:=ao) rfl (ldb_sc Sc32 (H.bl 3) rfl)) ?_;refine ts_q rfl (fun w' H=>x_ld (v:=.agg #[I place,I ab]) rfl (ldb_ag (ds:=[I place,I ab]) Ag55 Sz55 (H.bl 0) rfl rfl)) ?_;refine ts_q rfl (fun w' H=>x_fa (v:=Pq aq) rfl (fa_blk (o:=0) Fd37_0 Sz27)) ?_;refine ts_q rfl (fun w' H=>x_ld (v:=al) rfl (ldb_sc Sc27 (H.bl 2) rfl)) ?_;refine ts_q rfl (fun w' H=>x_mv (v:=I time) rfl) ?_;refine ts_q rfl (fun w' H=>x_fa (v:=Oq aq 1) rfl (fa_blk (o:=0) Fd37_1 Sz27)) ?_;refine ts_q rfl (fun w' H=>x_ld (v:=am) rfl (ldb_sc Sc27 (H.bl 2) rfl)) ?_;refine ts_q rfl (fun w' H=>x_mv (v:=Pq ah) rfl) ?_;refine ts_q rfl (fun w' H=>x_mv (v:=I (r3+(r4*ab))) rfl) ?_;refine ts_q rfl (fun w' H=>x_fa (v:=Oq aj 4) rfl (fa_blk (o:=0) Fd35_3 Sz3)) ?_;refine ts_q rfl (fun w' H=>x_ld (v:=I r5) rfl (ldb_sc Sc3 (H.bl 3) rfl)) ?_;obtain ⟨mF,hM⟩:=M.e_gd hM;refine ts_q rfl (fun w' H=>x_ari (r:=(r3+(r4*ab))-r5) rfl rfl rfl (by omega)) ?_;refine ts_q rfl (fun w' H=>x_mv (v:=I (r3+(r4*ab))) rfl) ?_;refine ts_q rfl (fun w' H=>x_fa (v:=Oq aj 4) rfl (fa_blk (o:=0) Fd35_3 Sz3)) ?_;refine ts_q rfl (fun w' H=>x_ld (v:=I r5) rfl (ldb_sc Sc3 (H.bl 3) rfl)) ?_;obtain ⟨mG,hM⟩:=M.e_gd hM;refine ts_q rfl (fun w' H=>x_ari (r:=(r3+(r4*ab))+r5) rfl rfl rfl (by omega)) ?_;refine ts_l2 rfl rfl ?_ ?_
  ·skip
   refine t_bs (α:=CMk) T32 [.agg #[I place,I ab]] [(⟨(place:Int),(ab:Int)⟩:CMk)] H rfl (.cons rfl (Flat.rep_enc _ (⟨(place:Int),(ab:Int)⟩:CMk))<|.nil) rfl rfl rfl ?_;intro cf mH H
   have mI:=Sl.cells (H.os 0)
   have mJ:=Sl.oc (H.os 0)
   have mK:=Sl.cells (H.os 4)
   have mL:=Sl.oc (H.os 4)
   have mM:=Sl.cells (H.os 5)
   have mN:=Sl.oc (H.os 5)
   have mO:=Sl.cells (H.os 6)
   have mP:=Sl.oc (H.os 6)
   refine s_nil ⟨(H.pk [1,3,7,8,9,10]),?_⟩
   refine ts_l2 rfl rfl ?_ ?_
   ·skip
    obtain ⟨mQ,hM⟩:=M.e_gd hM;refine t_app (α:=CMk) (k:=6) (l:=l) (l2:=[(⟨(place:Int),(ab:Int)⟩:CMk)]) (l':=l++([(⟨(place:Int),(ab:Int)⟩:CMk)])) (vy:=cf) T32 rfl H rfl rfl rfl (H.os 0) (H.ol 0) (rfl) (by first | omega | (simp only [List.length_nil] at *; omega)) ?_;intro bJ mR H;replace H:=H.nf
    have mS:=Sl.cells (H.os 6)
    have mT:=Sl.oc (H.os 6)
    refine s_nil ⟨(H.pk [1,3,7,8,9,10]),?_⟩
    refine ts_q rfl (fun w' H=>x_fa (v:=Oq aj 5) rfl (fa_blk (o:=0) Fd35_4 Sz32)) ?_;refine ts_l rfl ?_;refine t_bs (α:=Int) T27 [I time] [(time:Int)] H rfl (.cons rfl (Flat.rep_enc _ (time:Int))<|.nil) rfl rfl rfl ?_;intro dC mU H
    have mV:=Sl.cells (H.os 0)
    have mW:=Sl.oc (H.os 0)
    refine s_nil ⟨(H.pk [2,4,8,9,10,11]),?_⟩
    refine ts_l rfl ?_;obtain ⟨mX,hM⟩:=M.e_gd hM;refine t_app (α:=Int) (k:=6) (l:=l2) (l2:=[(time:Int)]) (l':=l2++([(time:Int)])) (vy:=dC) T27 rfl H rfl rfl rfl (H.os 0) (H.ol 0) (rfl) (by first | omega | (simp only [List.length_nil] at *; omega)) ?_;intro bK mY H;replace H:=H.nf
    have mZ:=Sl.cells (H.os 6)
    have m3:=Sl.oc (H.os 6)
    refine s_nil ⟨(H.pk [2,4,8,9,10,11]),?_⟩
    refine ts_l rfl ?_;obtain ⟨m4,dD,hM⟩:=M.e_bind hM;refine s_call cf12 [Pq ah,I ((r3+(r4*ab))-r5),I ((r3+(r4*ab))+r5)] rfl (zad s_bytes aE aF ((r3+(r4*ab))-r5) ((r3+(r4*ab))+r5) (ar.app _) au dD _ ((H.pk [3,0,1,2,4,5,6,7,8,9,10,11]).gt 11)) ?_
    rintro vq m5 ⟨ag,ay,az,rfl,hvq,ae⟩
    subst vq;(try dsimp only at hM)
    replace H:=H.pk [3,0,1,2,4,5,6,7,8,9,10,11] |>.bk ae
    clear ae
    refine s_nil ⟨(H.pk [3,4,8,9,10,11]),?_⟩
    refine ts_l rfl ?_;refine t_bs (α:=Int) T27 [I ag] [(ag:Int)] H rfl (.cons rfl (Flat.rep_enc _ (ag:Int))<|.nil) rfl rfl rfl ?_;intro dE m6 H
    have m7:=Sl.cells (H.os 0)
    have m8:=Sl.oc (H.os 0)
    refine s_nil ⟨(H.pk [4,5,9,10,11,12]),?_⟩
    refine ts_l rfl ?_;obtain ⟨m9,hM⟩:=M.e_gd hM;refine t_app (α:=Int) (k:=6) (l:=l3) (l2:=[(ag:Int)]) (l':=l3++([(ag:Int)])) (vy:=dE) T27 rfl H rfl rfl rfl (H.os 0) (H.ol 0) (rfl) (by first | omega | (simp only [List.length_nil] at *; omega)) ?_;intro bL na H;replace H:=H.nf
    have nc:=Sl.cells (H.os 6)
    have ng:=Sl.oc (H.os 6)
    refine s_nil ⟨(H.pk [4,5,9,10,11,12]),?_⟩
    refine ts_nil ?_;refine sr_l rfl ?_;refine t_sw 10 5 [bJ] bJ H rfl rfl Sz32 (Sl.cells (H.os 8)) rfl rfl (by simp only [List.all_cons,List.all_nil,Bool.true_and,Bool.and_true,Sl.oc (H.os 8)]; try rfl) ?_;intro nh H
    refine s_nil ⟨trivial,?_⟩
    refine sr_l rfl ?_;refine kg 1 ?_
    refine s_nil ⟨trivial,?_⟩
    refine sr_l rfl ?_;refine t_sw 9 0 [bK] bK H rfl rfl Sz27 (Sl.cells (H.os 7)) rfl rfl (by simp only [List.all_cons,List.all_nil,Bool.true_and,Bool.and_true,Sl.oc (H.os 7)]; try rfl) ?_;intro ni H
    refine s_nil ⟨trivial,?_⟩
    refine sr_l rfl ?_;refine kg 1 ?_
    refine s_nil ⟨trivial,?_⟩
    refine sr_l rfl ?_;refine t_sw 9 1 [bL] bL H rfl rfl Sz27 (Sl.cells (H.os 6)) rfl rfl (by simp only [List.all_cons,List.all_nil,Bool.true_and,Bool.and_true,Sl.oc (H.os 6)]; try rfl) ?_;intro nj H
    refine s_nil ⟨trivial,?_⟩
    refine sr_nil ?_;replace H:=H.pk [1,5,6,7,8,9,10,11,12];obtain ⟨nk,hM⟩:=M.e_gd hM;refine kg 5 ?_
    exact ⟨aL,aM,ay,az,place,time,n-1,l++([(⟨(place:Int),(ab:Int)⟩:CMk)]),l2++([(time:Int)]),l3++([(ag:Int)]),l4,bJ,bK,bL,ak,_,upds_of _ _ ⟨rfl,rfl,rfl,rfl,rfl,rfl,rfl,rfl,rfl,trivial⟩,M.e_inl hM aH,(H.pk [1,2,3,4,0,5,6,7,8])⟩
   skip
   refine t_bs (α:=Int) T27 [I time] [(time:Int)] H rfl (.cons rfl (Flat.rep_enc _ (time:Int))<|.nil) rfl rfl rfl ?_;intro dF nl H
   have nm:=Sl.cells (H.os 0)
   have nn:=Sl.oc (H.os 0)
   refine s_nil ⟨(H.pk [2,4,8,9,10,11]),?_⟩
   refine ts_l rfl ?_;obtain ⟨np,hM⟩:=M.e_gd hM;refine t_app (α:=CMk) (k:=7) (l:=l) (l2:=[(⟨(place:Int),(ab:Int)⟩:CMk)]) (l':=l++([(⟨(place:Int),(ab:Int)⟩:CMk)])) (vy:=cf) T32 rfl H rfl rfl rfl (H.os 1) (H.ol 1) (rfl) (by first | omega | (simp only [List.length_nil] at *; omega)) ?_;intro bM nq H;replace H:=H.nf
   have nr:=Sl.cells (H.os 7)
   have ns:=Sl.oc (H.os 7)
   refine s_nil ⟨(H.pk [2,4,8,9,10,11]),?_⟩
   refine ts_q rfl (fun w' H=>x_fa (v:=Oq aj 5) rfl (fa_blk (o:=0) Fd35_4 Sz32)) ?_;refine ts_l rfl ?_;obtain ⟨nu,hM⟩:=M.e_gd hM;refine t_app (α:=Int) (k:=6) (l:=l2) (l2:=[(time:Int)]) (l':=l2++([(time:Int)])) (vy:=dF) T27 rfl H rfl rfl rfl (H.os 0) (H.ol 0) (rfl) (by first | omega | (simp only [List.length_nil] at *; omega)) ?_;intro bN nv H;replace H:=H.nf
   have nw:=Sl.cells (H.os 6)
   have ny:=Sl.oc (H.os 6)
   refine s_nil ⟨(H.pk [2,4,8,9,10,11]),?_⟩
   refine ts_l rfl ?_;obtain ⟨nz,dG,hM⟩:=M.e_bind hM;refine s_call cf12 [Pq ah,I ((r3+(r4*ab))-r5),I ((r3+(r4*ab))+r5)] rfl (zad s_bytes aE aF ((r3+(r4*ab))-r5) ((r3+(r4*ab))+r5) (ar.app _) au dG _ ((H.pk [3,0,1,2,4,5,6,7,8,9,10,11]).gt 11)) ?_
   rintro vq nA ⟨ag,ay,az,rfl,hvq,ae⟩
   subst vq;(try dsimp only at hM)
   replace H:=H.pk [3,0,1,2,4,5,6,7,8,9,10,11] |>.bk ae
   clear ae
   refine s_nil ⟨(H.pk [3,4,8,9,10,11]),?_⟩
   refine ts_l rfl ?_;refine t_bs (α:=Int) T27 [I ag] [(ag:Int)] H rfl (.cons rfl (Flat.rep_enc _ (ag:Int))<|.nil) rfl rfl rfl ?_;intro dH nB H
   have nC:=Sl.cells (H.os 0)
   have nD:=Sl.oc (H.os 0)
   refine s_nil ⟨(H.pk [4,5,9,10,11,12]),?_⟩
   refine ts_l rfl ?_;obtain ⟨nE,hM⟩:=M.e_gd hM;refine t_app (α:=Int) (k:=6) (l:=l3) (l2:=[(ag:Int)]) (l':=l3++([(ag:Int)])) (vy:=dH) T27 rfl H rfl rfl rfl (H.os 0) (H.ol 0) (rfl) (by first | omega | (simp only [List.length_nil] at *; omega)) ?_;intro bO nF H;replace H:=H.nf
   have nG:=Sl.cells (H.os 6)
   have nH:=Sl.oc (H.os 6)
   refine s_nil ⟨(H.pk [4,5,9,10,11,12]),?_⟩
   refine ts_nil ?_;refine sr_l rfl ?_;refine t_sw 10 5 [bM] bM H rfl rfl Sz32 (Sl.cells (H.os 8)) rfl rfl (by simp only [List.all_cons,List.all_nil,Bool.true_and,Bool.and_true,Sl.oc (H.os 8)]; try rfl) ?_;intro nI H
   refine s_nil ⟨trivial,?_⟩
   refine sr_l rfl ?_;refine kg 1 ?_
   refine s_nil ⟨trivial,?_⟩
   refine sr_l rfl ?_;refine t_sw 9 0 [bN] bN H rfl rfl Sz27 (Sl.cells (H.os 7)) rfl rfl (by simp only [List.all_cons,List.all_nil,Bool.true_and,Bool.and_true,Sl.oc (H.os 7)]; try rfl) ?_;intro nJ H
   refine s_nil ⟨trivial,?_⟩
   refine sr_l rfl ?_;refine kg 1 ?_
   refine s_nil ⟨trivial,?_⟩
   refine sr_l rfl ?_;refine t_sw 9 1 [bO] bO H rfl rfl Sz27 (Sl.cells (H.os 6)) rfl rfl (by simp only [List.all_cons,List.all_nil,Bool.true_and,Bool.and_true,Sl.oc (H.os 6)]; try rfl) ?_;intro nK H
   refine s_nil ⟨trivial,?_⟩
   refine sr_nil ?_;replace H:=H.pk [1,5,6,7,8,9,10,11,12];obtain ⟨nL,hM⟩:=M.e_gd hM;refine kg 5 ?_
   exact ⟨aL,aM,ay,az,place,time,n-1,l++([(⟨(place:Int),(ab:Int)⟩:CMk)]),l2++([(time:Int)]),l3++([(ag:Int)]),l4,bM,bN,bO,ak,_,upds_of _ _ ⟨rfl,rfl,rfl,rfl,rfl,rfl,rfl,rfl,rfl,trivial⟩,M.e_inl hM aH,(H.pk [1,2,3,4,0,5,6,7,8])⟩
  skip
  refine t_bs (α:=Int) T27 [I time] [(time:Int)] H rfl (.cons rfl (Flat.rep_enc _ (time:Int))<|.nil) rfl rfl rfl ?_;intro dJ nM H
  have nN:=Sl.cells (H.os 0)
  have nO:=Sl.oc (H.os 0)
  have nP:=Sl.cells (H.os 4)
  have nQ:=Sl.oc (H.os 4)
  have nR:=Sl.cells (H.os 5)
  have nS:=Sl.oc (H.os 5)
  have nT:=Sl.cells (H.os 6)
  have nU:=Sl.oc (H.os 6)
  refine s_nil ⟨(H.pk [1,3,7,8,9,10]),?_⟩
  refine ts_l rfl ?_;refine t_bs (α:=CMk) T32 [.agg #[I place,I ab]] [(⟨(place:Int),(ab:Int)⟩:CMk)] H rfl (.cons rfl (Flat.rep_enc _ (⟨(place:Int),(ab:Int)⟩:CMk))<|.nil) rfl rfl rfl ?_;intro dK nV H
  have nW:=Sl.cells (H.os 0)
  have nX:=Sl.oc (H.os 0)
  refine s_nil ⟨(H.pk [2,4,8,9,10,11]),?_⟩
  refine ts_l rfl ?_;obtain ⟨nY,hM⟩:=M.e_gd hM;refine t_app (α:=CMk) (k:=7) (l:=l) (l2:=[(⟨(place:Int),(ab:Int)⟩:CMk)]) (l':=l++([(⟨(place:Int),(ab:Int)⟩:CMk)])) (vy:=dK) T32 rfl H rfl rfl rfl (H.os 0) (H.ol 0) (rfl) (by first | omega | (simp only [List.length_nil] at *; omega)) ?_;intro bP nZ H;replace H:=H.nf
  have n0:=Sl.cells (H.os 7)
  have n3:=Sl.oc (H.os 7)
  refine s_nil ⟨(H.pk [2,4,8,9,10,11]),?_⟩
  refine ts_q rfl (fun w' H=>x_fa (v:=Oq aj 5) rfl (fa_blk (o:=0) Fd35_4 Sz32)) ?_;refine ts_l rfl ?_;obtain ⟨n4,hM⟩:=M.e_gd hM;refine t_app (α:=Int) (k:=6) (l:=l2) (l2:=[(time:Int)]) (l':=l2++([(time:Int)])) (vy:=dJ) T27 rfl H rfl rfl rfl (H.os 1) (H.ol 1) (rfl) (by first | omega | (simp only [List.length_nil] at *; omega)) ?_;intro bQ n6 H;replace H:=H.nf
  have n7:=Sl.cells (H.os 6)
  have n8:=Sl.oc (H.os 6)
  refine s_nil ⟨(H.pk [2,4,8,9,10,11]),?_⟩
  refine ts_l rfl ?_;obtain ⟨n9,dL,hM⟩:=M.e_bind hM;refine s_call cf12 [Pq ah,I ((r3+(r4*ab))-r5),I ((r3+(r4*ab))+r5)] rfl (zad s_bytes aE aF ((r3+(r4*ab))-r5) ((r3+(r4*ab))+r5) (ar.app _) au dL _ ((H.pk [3,0,1,2,4,5,6,7,8,9,10,11]).gt 11)) ?_
  rintro vq oa ⟨ag,ay,az,rfl,hvq,ae⟩
  subst vq;(try dsimp only at hM)
  replace H:=H.pk [3,0,1,2,4,5,6,7,8,9,10,11] |>.bk ae
  clear ae
  refine s_nil ⟨(H.pk [3,4,8,9,10,11]),?_⟩
  refine ts_l rfl ?_;refine t_bs (α:=Int) T27 [I ag] [(ag:Int)] H rfl (.cons rfl (Flat.rep_enc _ (ag:Int))<|.nil) rfl rfl rfl ?_;intro dM ob H
  have od:=Sl.cells (H.os 0)
  have oe:=Sl.oc (H.os 0)
  refine s_nil ⟨(H.pk [4,5,9,10,11,12]),?_⟩
  refine ts_l rfl ?_;obtain ⟨og,hM⟩:=M.e_gd hM;refine t_app (α:=Int) (k:=6) (l:=l3) (l2:=[(ag:Int)]) (l':=l3++([(ag:Int)])) (vy:=dM) T27 rfl H rfl rfl rfl (H.os 0) (H.ol 0) (rfl) (by first | omega | (simp only [List.length_nil] at *; omega)) ?_;intro bR oh H;replace H:=H.nf
  have om:=Sl.cells (H.os 6)
  have oo:=Sl.oc (H.os 6)
  refine s_nil ⟨(H.pk [4,5,9,10,11,12]),?_⟩
  refine ts_nil ?_;refine sr_l rfl ?_;refine t_sw 10 5 [bP] bP H rfl rfl Sz32 (Sl.cells (H.os 8)) rfl rfl (by simp only [List.all_cons,List.all_nil,Bool.true_and,Bool.and_true,Sl.oc (H.os 8)]; try rfl) ?_;intro oq H
  refine s_nil ⟨trivial,?_⟩
  refine sr_l rfl ?_;refine kg 1 ?_
  refine s_nil ⟨trivial,?_⟩
  refine sr_l rfl ?_;refine t_sw 9 0 [bQ] bQ H rfl rfl Sz27 (Sl.cells (H.os 7)) rfl rfl (by simp only [List.all_cons,List.all_nil,Bool.true_and,Bool.and_true,Sl.oc (H.os 7)]; try rfl) ?_;intro ot H
  refine s_nil ⟨trivial,?_⟩
  refine sr_l rfl ?_;refine kg 1 ?_
  refine s_nil ⟨trivial,?_⟩
  refine sr_l rfl ?_;refine t_sw 9 1 [bR] bR H rfl rfl Sz27 (Sl.cells (H.os 6)) rfl rfl (by simp only [List.all_cons,List.all_nil,Bool.true_and,Bool.and_true,Sl.oc (H.os 6)]; try rfl) ?_;intro ou H
  refine s_nil ⟨trivial,?_⟩
  refine sr_nil ?_;replace H:=H.pk [1,5,6,7,8,9,10,11,12];obtain ⟨ov,hM⟩:=M.e_gd hM;refine kg 5 ?_
  exact ⟨aL,aM,ay,az,place,time,n-1,l++([(⟨(place:Int),(ab:Int)⟩:CMk)]),l2++([(time:Int)]),l3++([(ag:Int)]),l4,bP,bQ,bR,ak,_,upds_of _ _ ⟨rfl,rfl,rfl,rfl,rfl,rfl,rfl,rfl,rfl,trivial⟩,M.e_inl hM aH,(H.pk [1,2,3,4,0,5,6,7,8])⟩
 replace hM:=M.e_f hM aO
 replace aO:=dI aO
 refine W.exit ?_
 have dN:=M.e_inr hM aH
 subst dN;replace hM:=cK;(try dsimp only at hM);refine kg 6 ?_
 replace H:=H.nilOwn (α:=CNt) 57
 obtain ⟨dO,bS,dP⟩:=M.e_bind hM
 obtain ⟨b3,bS⟩:=M.e_iter bS
 refine W.loop (fun m σ W=>∃ (s6:Int) (s7:Int) (i:Nat) (aN:List CNt) (aS:Value) (ρ:Env),σ=upds ρ [(0,Pq ah),(6,Pq av),(7,Pq aw),(8,Pq aj),(9,Pq aq),(16,I (i:Int))]/\M.iterN (zaB s_bytes l3 l2 l) m (s6,s7,i,aN)=some dO/\St w W [cOwn (α:=CNt) 57 aS aN,cOwn (α:=Int) 3 ak l4,cOwn (α:=Int) 3 am l3,cOwn (α:=Int) 3 al l2,cOwn (α:=CMk) 55 ao l,cBlk ah [aB,I s6,I s7] 59,cBlk aq [al,am,ak] 37,cBlk aj [I r2,I (r2+r6),I r3,I r4,I r5,ao,aS] 35,cBlk aw [.slice none 0 0,.slice none 0 0,.slice none 0 0] 37,cBlk av [I 0,I 0,I 0,I 0,I 0,.slice none 0 0,.slice none 0 0] 35] R) ?_ ?_
 ·exact ⟨_,s2,s3,0,[],(.slice none 0 0),_,upds_of _ _ ⟨rfl,rfl,rfl,rfl,rfl,rfl,trivial⟩,bS,H⟩
 rintro ox σ oy ⟨s6,s7,i,aN,aS,ρ,rfl,cg,H⟩
 obtain ⟨ch,ci,oz,hM,bT⟩:=M.e_iterN cg
 simp only [zaB] at hM
 clear cg
 have oA:=((H.os 4)).len_le
 refine kg 13 ?_;refine s_val (x_pand (b:=decide ((i:Int)<(l.length:Int))) (r:=decide ((aN.length:Int)<20)) rfl (fun hb=>gd_of (c:=decide ((i:Int)<(l.length:Int))) (by first | exact hb | (rw [hb]; rfl) | simp_all) (B (decide ((aN.length:Int)<20)))) rfl)<|s_nil ?_
 refine W.cond ((decide ((i:Int)<(l.length:Int)))&&(decide ((aN.length:Int)<20))) rfl (fun bU=>?_) (fun bU=>?_)
 ·replace hM:=M.e_t hM bU;refine kg 6 ?_;obtain ⟨oC,dQ,hM⟩:=M.e_bind hM;refine s_call cf13 [Pq ah,I 2] rfl (zae s_bytes s6 s7 2 (ar.app _) au dQ _ ((H.pk [5,0,1,2,3,4,6,7,8,9]).gt 9)) ?_
  rintro vq oD ⟨dR,cj,ck,rfl,hvq,ae⟩
  subst vq;(try dsimp only at hM)
  replace H:=H.pk [5,0,1,2,3,4,6,7,8,9] |>.bk ae
  clear ae;refine kg 2 ?_
  refine W.cond (dR==0) rfl (fun aT=>?_) (fun aT=>?_)
  ·replace hM:=M.e_t hM aT
   replace aT:=dI aT
   refine W.drawTS (fun W=>St w W [cOwn (α:=Int) 3 ak l4,cOwn (α:=Int) 3 am l3,cOwn (α:=Int) 3 al l2,cOwn (α:=CMk) 55 ao l,cBlk aq [al,am,ak] 37,cBlk aj [I r2,I (r2+r6),I r3,I r4,I r5,ao,aS] 35,cBlk aw [.slice none 0 0,.slice none 0 0,.slice none 0 0] 37,cBlk av [I 0,I 0,I 0,I 0,I 0,.slice none 0 0,.slice none 0 0] 35] R) (.q 0 (.q 1 (.q 2 (.q 3 (.q 4 (.q 5 (.q 6 (.q 7 (.q 8 (.q 12 (.q 13 (.q 14 (.q 15 (.q 16 (.q 17 (.q 21 (.q 22 (.q 23 (.q 24 (.q 25 (.q 26 (.q 29 (.q 30 (.q 31 (.q 32 (.q 33 (.q 34 (.l 9 (.q 10 (.q 11 (.l 18 (.q 19 (.q 20 (.l 27 (.q 28 (.l 35 (.q 36 (.q 37 (.q 38 (.l 39 (.l 40 (.q 41 .nil)))))))))))))))))))))))))))))))))))))))))) 42 [42] mixed (by decide +kernel) rfl ?_;intro oE ax;replace H:=H.ext ax;clear ax
   refine ⟨(H.pk [2,3,4,5,6,7,8,9]),?_⟩
   refine ts_q rfl (fun w' H=>x_fa (v:=Oq aj 6) rfl (fa_blk (o:=0) Fd35_5 Sz33)) ?_;refine ts_q rfl (fun w' H=>x_ld (v:=aS) rfl (ldb_sc Sc33 (H.bl 5) rfl)) ?_;refine ts_q rfl (fun w' H=>x_mv (v:=I (i:Int)) rfl) ?_;refine ts_q rfl (fun w' H=>x_fa (v:=Pq aq) rfl (fa_blk (o:=0) Fd37_0 Sz27)) ?_;refine ts_q rfl (fun w' H=>x_ld (v:=al) rfl (ldb_sc Sc27 (H.bl 4) rfl)) ?_;refine ts_q rfl (fun w' H=>x_mv (v:=I (i:Int)) rfl) ?_;obtain ⟨oF,hM⟩:=M.e_gd hM;refine ts_q rfl (fun w' H=>x_ix (v:=vat al 1 (Int.toNat (i:Int))) rfl rfl (Sl.ix (α:=Int) T27.und T27.size (H.os 2) (by omega) (by omega))) ?_;refine ts_q rfl (fun w' H=>x_ld (v:=I (l2.getD i 0)) rfl (ld_sc Sc3 (At.mono (Int_at (H.os 2) (i:=(i:Int)) (by omega) (by omega)) (H.ol 2)))) ?_;refine ts_q rfl (fun w' H=>x_mv (v:=Pq ah) rfl) ?_;refine ts_q rfl (fun w' H=>x_fa (v:=Pq aq) rfl (fa_blk (o:=0) Fd37_0 Sz27)) ?_;refine ts_q rfl (fun w' H=>x_ld (v:=al) rfl (ldb_sc Sc27 (H.bl 4) rfl)) ?_;refine ts_q rfl (fun w' H=>x_mv (v:=I (i:Int)) rfl) ?_;refine ts_q rfl (fun w' H=>x_ix (v:=vat al 1 (Int.toNat (i:Int))) rfl rfl (Sl.ix (α:=Int) T27.und T27.size (H.os 2) (by omega) (by omega))) ?_;refine ts_q rfl (fun w' H=>x_ld (v:=I (l2.getD i 0)) rfl (ld_sc Sc3 (At.mono (Int_at (H.os 2) (i:=(i:Int)) (by omega) (by omega)) (H.ol 2)))) ?_;refine ts_q rfl (fun w' H=>x_mv (v:=Pq ah) rfl) ?_;refine ts_q rfl (fun w' H=>x_fa (v:=Oq aq 1) rfl (fa_blk (o:=0) Fd37_1 Sz27)) ?_;refine ts_q rfl (fun w' H=>x_ld (v:=am) rfl (ldb_sc Sc27 (H.bl 4) rfl)) ?_;refine ts_q rfl (fun w' H=>x_mv (v:=I (i:Int)) rfl) ?_;obtain ⟨oG,hM⟩:=M.e_gd hM;refine ts_q rfl (fun w' H=>x_ix (v:=vat am 1 (Int.toNat (i:Int))) rfl rfl (Sl.ix (α:=Int) T27.und T27.size (H.os 1) (by omega) (by omega))) ?_;refine ts_q rfl (fun w' H=>x_ld (v:=I (l3.getD i 0)) rfl (ld_sc Sc3 (At.mono (Int_at (H.os 1) (i:=(i:Int)) (by omega) (by omega)) (H.ol 1)))) ?_;refine ts_q rfl (fun w' H=>x_mv (v:=Pq ah) rfl) ?_;refine ts_q rfl (fun w' H=>x_fa (v:=Oq aq 1) rfl (fa_blk (o:=0) Fd37_1 Sz27)) ?_;refine ts_q rfl (fun w' H=>x_ld (v:=am) rfl (ldb_sc Sc27 (H.bl 4) rfl)) ?_;refine ts_q rfl (fun w' H=>x_mv (v:=I (i:Int)) rfl) ?_;refine ts_q rfl (fun w' H=>x_ix (v:=vat am 1 (Int.toNat (i:Int))) rfl rfl (Sl.ix (α:=Int) T27.und T27.size (H.os 1) (by omega) (by omega))) ?_;refine ts_q rfl (fun w' H=>x_ld (v:=I (l3.getD i 0)) rfl (ld_sc Sc3 (At.mono (Int_at (H.os 1) (i:=(i:Int)) (by omega) (by omega)) (H.ol 1)))) ?_;refine ts_q rfl (fun w' H=>x_mv (v:=Pq ah) rfl) ?_;refine ts_l rfl ?_;obtain ⟨oH,dS,hM⟩:=M.e_bind hM;refine s_call cf13 [Pq ah,I 40] rfl (zae s_bytes cj ck 40 (ar.app _) au dS _ (H.gt 9)) ?_
   rintro vq oI ⟨aG,dU,dV,rfl,hvq,ae⟩
   subst vq;(try dsimp only at hM);replace H:=H.bk ae;clear ae
   have oJ:=Sl.cells (H.os 1)
   have oK:=Sl.oc (H.os 1)
   refine s_nil ⟨(H.pk [2,3,4,5,6,7,8,9]),?_⟩
   obtain ⟨oL,hM⟩:=M.e_gd hM;refine ts_q rfl (fun w' H=>x_ari (r:=(l2.getD i 0)-aG) rfl rfl rfl (by omega)) ?_;refine ts_q rfl (fun w' H=>x_max (kd:=.i64) (a:=0) (b:=(l2.getD i 0)-aG) rfl rfl) ?_;refine ts_l rfl ?_;obtain ⟨oM,dW,hM⟩:=M.e_bind hM;refine s_call cf13 [Pq ah,I 40] rfl (zae s_bytes dU dV 40 (ar.app _) au dW _ (H.gt 9)) ?_
   rintro vq oN ⟨aI,dX,dY,rfl,hvq,ae⟩
   subst vq;(try dsimp only at hM);replace H:=H.bk ae;clear ae
   refine s_nil ⟨(H.pk [2,3,4,5,6,7,8,9]),?_⟩
   obtain ⟨oO,hM⟩:=M.e_gd hM;refine ts_q rfl (fun w' H=>x_ari (r:=(l2.getD i 0)+aI) rfl rfl rfl (by omega)) ?_;refine ts_q rfl (fun w' H=>x_bld (ps:=[(0,I (max 0 ((l2.getD i 0)-aG))),(1,I ((l2.getD i 0)+aI))]) (zs:=[I 0,I 0]) (L':=[I (max 0 ((l2.getD i 0)-aG)),I ((l2.getD i 0)+aI)]) rfl Tryz.underlying31 Al31 rfl (Bd31 Tryz.underlying31) (.cons (cs:=[I (max 0 ((l2.getD i 0)-aG))]) rfl rfl rfl rfl rfl<|.cons (cs:=[I ((l2.getD i 0)+aI)]) rfl rfl rfl rfl rfl<|.nil)) ?_;refine ts_l rfl ?_;obtain ⟨oP,dZ,hM⟩:=M.e_bind hM;refine s_call cf13 [Pq ah,I 9] rfl (zae s_bytes dX dY 9 (ar.app _) au dZ _ (H.gt 9)) ?_
   rintro vq oQ ⟨aJ,d5,d6,rfl,hvq,ae⟩
   subst vq;(try dsimp only at hM);replace H:=H.bk ae;clear ae
   refine s_nil ⟨(H.pk [2,3,4,5,6,7,8,9]),?_⟩
   obtain ⟨oR,hM⟩:=M.e_gd hM;refine ts_q rfl (fun w' H=>x_ari (r:=(l3.getD i 0)-aJ) rfl rfl rfl (by omega)) ?_;refine ts_l rfl ?_;obtain ⟨oS,d7,hM⟩:=M.e_bind hM;refine s_call cf13 [Pq ah,I 9] rfl (zae s_bytes d5 d6 9 (ar.app _) au d7 _ (H.gt 9)) ?_
   rintro vq oT ⟨aK,d8,d9,rfl,hvq,ae⟩
   subst vq;(try dsimp only at hM);replace H:=H.bk ae;clear ae
   refine s_nil ⟨(H.pk [2,3,4,5,6,7,8,9]),?_⟩
   obtain ⟨oU,hM⟩:=M.e_gd hM;refine ts_q rfl (fun w' H=>x_ari (r:=(l3.getD i 0)+aK) rfl rfl rfl (by omega)) ?_;refine ts_q rfl (fun w' H=>x_bld (ps:=[(0,I ((l3.getD i 0)-aJ)),(1,I ((l3.getD i 0)+aK))]) (zs:=[I 0,I 0]) (L':=[I ((l3.getD i 0)-aJ),I ((l3.getD i 0)+aK)]) rfl Tryz.underlying31 Al31 rfl (Bd31 Tryz.underlying31) (.cons (cs:=[I ((l3.getD i 0)-aJ)]) rfl rfl rfl rfl rfl<|.cons (cs:=[I ((l3.getD i 0)+aK)]) rfl rfl rfl rfl rfl<|.nil)) ?_;refine ts_q rfl (fun w' H=>x_bld (ps:=[(0,I (i:Int)),(1,.agg #[I (max 0 ((l2.getD i 0)-aG)),I ((l2.getD i 0)+aI)]),(2,.agg #[I ((l3.getD i 0)-aJ),I ((l3.getD i 0)+aK)])]) (zs:=[I 0,I 0,I 0,I 0,I 0]) (L':=[I (i:Int),I (max 0 ((l2.getD i 0)-aG)),I ((l2.getD i 0)+aI),I ((l3.getD i 0)-aJ),I ((l3.getD i 0)+aK)]) rfl Tryz.underlying57 Al57 rfl (Bd57 Tryz.underlying57) (.cons (cs:=[I (i:Int)]) rfl rfl rfl rfl rfl<|.cons (cs:=[I (max 0 ((l2.getD i 0)-aG)),I ((l2.getD i 0)+aI)]) rfl rfl rfl rfl rfl<|.cons (cs:=[I ((l3.getD i 0)-aJ),I ((l3.getD i 0)+aK)]) rfl rfl rfl rfl rfl<|.nil)) ?_;refine ts_l rfl ?_;refine t_bs (α:=CNt) T33 [.agg #[I (i:Int),I (max 0 ((l2.getD i 0)-aG)),I ((l2.getD i 0)+aI),I ((l3.getD i 0)-aJ),I ((l3.getD i 0)+aK)]] [(⟨(i:Int),(max 0 ((l2.getD i 0)-aG):Int),((l2.getD i 0)+aI:Int),((l3.getD i 0)-aJ:Int),((l3.getD i 0)+aK:Int)⟩:CNt)] H rfl (.cons rfl (Flat.rep_enc _ (⟨(i:Int),(max 0 ((l2.getD i 0)-aG):Int),((l2.getD i 0)+aI:Int),((l3.getD i 0)-aJ:Int),((l3.getD i 0)+aK:Int)⟩:CNt))<|.nil) rfl rfl rfl ?_;intro ea oV H
   have oW:=Sl.cells (H.os 0)
   have oX:=Sl.oc (H.os 0)
   refine s_nil ⟨(H.pk [3,4,5,6,7,8,9,10]),?_⟩
   refine ts_l rfl ?_;obtain ⟨oY,hM⟩:=M.e_gd hM;refine t_app (α:=CNt) (k:=2) (l:=aN) (l2:=[(⟨(i:Int),(max 0 ((l2.getD i 0)-aG):Int),((l2.getD i 0)+aI:Int),((l3.getD i 0)-aJ:Int),((l3.getD i 0)+aK:Int)⟩:CNt)]) (l':=aN++([(⟨(i:Int),(max 0 ((l2.getD i 0)-aG):Int),((l2.getD i 0)+aI:Int),((l3.getD i 0)-aJ:Int),((l3.getD i 0)+aK:Int)⟩:CNt)])) (vy:=ea) T33 rfl H rfl rfl rfl (H.os 0) (H.ol 0) (rfl) (by first | omega | (simp only [List.length_nil] at *; omega)) ?_;intro bV oZ H;replace H:=H.nf
   have o0:=Sl.cells (H.os 2)
   have o1:=Sl.oc (H.os 2)
   refine s_nil ⟨(H.pk [3,4,5,6,7,8,9,10]),?_⟩
   refine ts_q rfl (fun w' H=>x_fa (v:=Oq aj 6) rfl (fa_blk (o:=0) Fd35_5 Sz33)) ?_;refine ts_nil ?_;refine sr_l rfl ?_;refine t_sw 8 6 [bV] bV H rfl rfl Sz33 (Sl.cells (H.os 2)) rfl rfl (by simp only [List.all_cons,List.all_nil,Bool.true_and,Bool.and_true,Sl.oc (H.os 2)]; try rfl) ?_;intro o3 H
   refine s_nil ⟨trivial,?_⟩
   refine sr_nil ?_;obtain ⟨o4,hM⟩:=M.e_gd hM;refine kg 5 ?_
   exact ⟨ch,ci,d8,d9,i+1,aN++([(⟨(i:Int),(max 0 ((l2.getD i 0)-aG):Int),((l2.getD i 0)+aI:Int),((l3.getD i 0)-aJ:Int),((l3.getD i 0)+aK:Int)⟩:CNt)]),bV,_,upds_of _ _ ⟨rfl,rfl,rfl,rfl,rfl,rfl,trivial⟩,M.e_inl hM bT,(H.pk [2,3,4,5,6,1,7,8,9,10])⟩
  replace hM:=M.e_f hM aT
  replace aT:=dI aT
  obtain ⟨o5,hM⟩:=M.e_gd hM;refine kg 6 ?_
  exact ⟨ch,ci,cj,ck,i+1,aN,aS,_,upds_of _ _ ⟨rfl,rfl,rfl,rfl,rfl,rfl,trivial⟩,M.e_inl hM bT,(H.pk [1,2,3,4,5,0,6,7,8,9])⟩
 replace hM:=M.e_f hM bU;refine W.exit ?_
 have eb:=M.e_inr hM bT
 subst eb;replace hM:=dP;(try dsimp only at hM)
 have o6:=((H.os 0)).len_le
 refine kg 10 ?_;obtain ⟨ec,bW,ed⟩:=M.e_bind hM
 obtain ⟨b3,bW⟩:=M.e_iter bW
 refine W.loop (fun m σ W=>∃ (aW:Int) (aX:Int) (aa:List CNt) (i2:Int) (ap:Value) (ρ:Env),σ=upds ρ [(0,Pq ah),(6,Pq av),(7,Pq aw),(8,Pq aj),(9,Pq aq),(17,I i2)]/\M.iterN (zaz s_bytes) m (aW,aX,aa,i2)=some ec/\St w W [cOwn (α:=CNt) 57 ap aa,cOwn (α:=Int) 3 ak l4,cOwn (α:=Int) 3 am l3,cOwn (α:=Int) 3 al l2,cOwn (α:=CMk) 55 ao l,cBlk ah [aB,I aW,I aX] 59,cBlk aq [al,am,ak] 37,cBlk aj [I r2,I (r2+r6),I r3,I r4,I r5,ao,ap] 35,cBlk aw [.slice none 0 0,.slice none 0 0,.slice none 0 0] 37,cBlk av [I 0,I 0,I 0,I 0,I 0,.slice none 0 0,.slice none 0 0] 35] R) ?_ ?_
 ·exact ⟨_,s6,s7,aN,(aN.length:Int)-1,aS,_,upds_of _ _ ⟨rfl,rfl,rfl,rfl,rfl,rfl,trivial⟩,bW,H⟩
 rintro o7 σ o9 ⟨aW,aX,aa,i2,ap,ρ,rfl,cl,H⟩
 obtain ⟨aY,aZ,pa,hM,aU⟩:=M.e_iterN cl
 simp only [zaz] at hM
 clear cl;refine kg 6 ?_
 refine W.cond (decide (0<i2)) rfl (fun aV=>?_) (fun aV=>?_)
 ·replace hM:=M.e_t hM aV
  replace aV:=dI aV
  obtain ⟨pb,hM⟩:=M.e_gd hM;refine kg 8 ?_;obtain ⟨pc,ef,hM⟩:=M.e_bind hM;refine s_call cf13 [Pq ah,I (i2+1)] rfl (zae s_bytes aW aX (i2+1) (ar.app _) au ef _ ((H.pk [5,0,1,2,3,4,6,7,8,9]).gt 9)) ?_
  rintro vq pe ⟨ac,aC,aD,rfl,hvq,ae⟩
  subst vq;(try dsimp only at hM)
  replace H:=H.pk [5,0,1,2,3,4,6,7,8,9] |>.bk ae
  clear ae;refine kg 2 ?_;refine W.drawTS (fun W=>St w W [cBlk ah [aB,I aC,I aD] 59,cOwn (α:=Int) 3 ak l4,cOwn (α:=Int) 3 am l3,cOwn (α:=Int) 3 al l2,cOwn (α:=CMk) 55 ao l,cBlk aq [al,am,ak] 37,cBlk aj [I r2,I (r2+r6),I r3,I r4,I r5,ao,ap] 35,cBlk aw [.slice none 0 0,.slice none 0 0,.slice none 0 0] 37,cBlk av [I 0,I 0,I 0,I 0,I 0,.slice none 0 0,.slice none 0 0] 35] R) (.q 0 (.q 1 (.q 2 (.q 3 (.q 4 (.q 5 (.q 6 (.q 7 (.q 8 (.q 11 (.q 12 (.q 13 (.l2 9 (.l2 10 (.l 14 (.l 15 (.l 16 (.l 17 (.l 18 .nil))))) 14 (.l2 10 (.l 15 (.l 16 (.l 17 (.l 18 .nil)))) 15 (.l 10 (.l 16 (.l 17 (.l 18 .nil)))))) 14 (.l2 9 (.l2 10 (.l 15 (.l 16 (.l 17 (.l 18 .nil)))) 15 (.l 10 (.l 16 (.l 17 (.l 18 .nil))))) 15 (.l 9 (.l 10 (.l 16 (.l 17 (.l 18 .nil))))))))))))))))))) 19 [19] mixed (by decide +kernel) rfl ?_;intro pf ax;replace H:=H.ext ax;clear ax
  refine ⟨(H.pk [0,2,3,4,5,6,7,8,9]),?_⟩
  refine ts_q rfl (fun w' H=>x_fa (v:=Oq aj 6) rfl (fa_blk (o:=0) Fd35_5 Sz33)) ?_;refine ts_q rfl (fun w' H=>x_ld (v:=ap) rfl (ldb_sc Sc33 (H.bl 6) rfl)) ?_;refine ts_q rfl (fun w' H=>x_mv (v:=I i2) rfl) ?_;refine ts_q rfl (fun w' H=>x_fa (v:=Oq aj 6) rfl (fa_blk (o:=0) Fd35_5 Sz33)) ?_;refine ts_q rfl (fun w' H=>x_ld (v:=ap) rfl (ldb_sc Sc33 (H.bl 6) rfl)) ?_;refine ts_q rfl (fun w' H=>x_mv (v:=I ac) rfl) ?_;refine ts_q rfl (fun w' H=>x_fa (v:=Oq aj 6) rfl (fa_blk (o:=0) Fd35_5 Sz33)) ?_;refine ts_q rfl (fun w' H=>x_ld (v:=ap) rfl (ldb_sc Sc33 (H.bl 6) rfl)) ?_;refine ts_q rfl (fun w' H=>x_mv (v:=I ac) rfl) ?_;refine ts_q rfl (fun w' H=>x_fa (v:=Oq aj 6) rfl (fa_blk (o:=0) Fd35_5 Sz33)) ?_;refine ts_q rfl (fun w' H=>x_ld (v:=ap) rfl (ldb_sc Sc33 (H.bl 6) rfl)) ?_;refine ts_q rfl (fun w' H=>x_mv (v:=I i2) rfl) ?_;obtain ⟨pg,hM⟩:=M.e_gd hM;obtain ⟨pi,hM⟩:=M.e_gd hM;obtain ⟨pj,hM⟩:=M.e_gd hM;refine ts_l2 rfl rfl ?_ ?_
  ·skip
   refine kg 1 ?_
   have pm:=Sl.cells (H.os 1)
   have pn:=Sl.oc (H.os 1)
   refine s_nil ⟨(H.pk [0,2,3,4,5,6,7,8,9]),?_⟩
   refine ts_l2 rfl rfl ?_ ?_
   ·skip
    refine s_val (x_ld (v:=.agg #[I ((aa.getD (Int.toNat ac) default).mark),I ((aa.getD (Int.toNat ac) default).tlo),I ((aa.getD (Int.toNat ac) default).thi),I ((aa.getD (Int.toNat ac) default).slo),I ((aa.getD (Int.toNat ac) default).shi)]) rfl (ld_ag Ag57 Sz57 (At.mono (CNt_atA (H.os 1) (i:=ac) (by omega) (by omega)) (H.ol 1)))) ?_
    refine s_nil ⟨(H.pk [0,2,3,4,5,6,7,8,9]),?_⟩
    refine ts_l rfl ?_;refine kg 1 ?_
    refine s_nil ⟨(H.pk [0,2,3,4,5,6,7,8,9]),?_⟩
    refine ts_l rfl<|s_val (x_ld (v:=.agg #[I ((aa.getD (Int.toNat i2) default).mark),I ((aa.getD (Int.toNat i2) default).tlo),I ((aa.getD (Int.toNat i2) default).thi),I ((aa.getD (Int.toNat i2) default).slo),I ((aa.getD (Int.toNat i2) default).shi)]) rfl (ld_ag Ag57 Sz57 (At.mono (CNt_atA (H.os 1) (i:=i2) (by omega) (by omega)) (H.ol 1)))) ?_
    refine s_nil ⟨(H.pk [0,2,3,4,5,6,7,8,9]),?_⟩
    refine ts_l rfl ?_;refine kg 1 ?_
    refine s_nil ⟨(H.pk [0,2,3,4,5,6,7,8,9]),?_⟩
    refine ts_l rfl ?_;refine t_ost (k:=1) (i:=i2) (l:=aa) (l':=aa.set (Int.toNat i2) (aa.getD (Int.toNat ac) default)) (val:=.agg #[I ((aa.getD (Int.toNat ac) default).mark),I ((aa.getD (Int.toNat ac) default).tlo),I ((aa.getD (Int.toNat ac) default).thi),I ((aa.getD (Int.toNat ac) default).slo),I ((aa.getD (Int.toNat ac) default).shi)]) (L':=[cBlk ah [aB,I aC,I aD] 59,cOwn (α:=CNt) 57 ap (aa.set (Int.toNat i2) (aa.getD (Int.toNat ac) default)),cOwn (α:=Int) 3 ak l4,cOwn (α:=Int) 3 am l3,cOwn (α:=Int) 3 al l2,cOwn (α:=CMk) 55 ao l,cBlk aq [al,am,ak] 37,cBlk aj [I r2,I (r2+r6),I r3,I r4,I r5,ao,ap] 35,cBlk aw [.slice none 0 0,.slice none 0 0,.slice none 0 0] 37,cBlk av [I 0,I 0,I 0,I 0,I 0,.slice none 0 0,.slice none 0 0] 35]) H rfl Sz57 (by omega) (by omega) (aa.getD (Int.toNat ac) default) rfl rfl rfl rfl rfl ?_;intro po H
    refine s_nil ⟨(H.pk [0,2,3,4,5,6,7,8,9]),?_⟩
    refine ts_l rfl ?_;refine kg 1 ?_
    refine s_nil ⟨(H.pk [0,2,3,4,5,6,7,8,9]),?_⟩
    refine ts_nil ?_;refine sr_l rfl ?_;refine t_ost (k:=1) (i:=ac) (l:=aa.set (Int.toNat i2) (aa.getD (Int.toNat ac) default)) (l':=(aa.set (Int.toNat i2) (aa.getD (Int.toNat ac) default)).set (Int.toNat ac) (aa.getD (Int.toNat i2) default)) (val:=.agg #[I ((aa.getD (Int.toNat i2) default).mark),I ((aa.getD (Int.toNat i2) default).tlo),I ((aa.getD (Int.toNat i2) default).thi),I ((aa.getD (Int.toNat i2) default).slo),I ((aa.getD (Int.toNat i2) default).shi)]) (L':=[cBlk ah [aB,I aC,I aD] 59,cOwn (α:=CNt) 57 ap ((aa.set (Int.toNat i2) (aa.getD (Int.toNat ac) default)).set (Int.toNat ac) (aa.getD (Int.toNat i2) default)),cOwn (α:=Int) 3 ak l4,cOwn (α:=Int) 3 am l3,cOwn (α:=Int) 3 al l2,cOwn (α:=CMk) 55 ao l,cBlk aq [al,am,ak] 37,cBlk aj [I r2,I (r2+r6),I r3,I r4,I r5,ao,ap] 35,cBlk aw [.slice none 0 0,.slice none 0 0,.slice none 0 0] 37,cBlk av [I 0,I 0,I 0,I 0,I 0,.slice none 0 0,.slice none 0 0] 35]) H rfl Sz57 (by omega) (by omega) (aa.getD (Int.toNat i2) default) rfl rfl rfl rfl rfl ?_;intro pp H
    refine s_nil ⟨trivial,?_⟩
    refine sr_nil ?_;obtain ⟨pq,hM⟩:=M.e_gd hM;refine kg 5 ?_
    exact ⟨aY,aZ,aC,aD,(aa.set (Int.toNat i2) (aa.getD (Int.toNat ac) default)).set (Int.toNat ac) (aa.getD (Int.toNat i2) default),i2-1,ap,_,upds_of _ _ ⟨rfl,rfl,rfl,rfl,rfl,rfl,trivial⟩,M.e_inl hM aU,(H.pk [1,2,3,4,5,0,6,7,8,9])⟩
   skip
   refine kg 1 ?_
   refine s_nil ⟨(H.pk [0,2,3,4,5,6,7,8,9]),?_⟩
   refine ts_l2 rfl rfl ?_ ?_
   ·skip
    refine s_val (x_ld (v:=.agg #[I ((aa.getD (Int.toNat ac) default).mark),I ((aa.getD (Int.toNat ac) default).tlo),I ((aa.getD (Int.toNat ac) default).thi),I ((aa.getD (Int.toNat ac) default).slo),I ((aa.getD (Int.toNat ac) default).shi)]) rfl (ld_ag Ag57 Sz57 (At.mono (CNt_atA (H.os 1) (i:=ac) (by omega) (by omega)) (H.ol 1)))) ?_
    refine s_nil ⟨(H.pk [0,2,3,4,5,6,7,8,9]),?_⟩
    refine ts_l rfl<|s_val (x_ld (v:=.agg #[I ((aa.getD (Int.toNat i2) default).mark),I ((aa.getD (Int.toNat i2) default).tlo),I ((aa.getD (Int.toNat i2) default).thi),I ((aa.getD (Int.toNat i2) default).slo),I ((aa.getD (Int.toNat i2) default).shi)]) rfl (ld_ag Ag57 Sz57 (At.mono (CNt_atA (H.os 1) (i:=i2) (by omega) (by omega)) (H.ol 1)))) ?_
    refine s_nil ⟨(H.pk [0,2,3,4,5,6,7,8,9]),?_⟩
    refine ts_l rfl ?_;refine kg 1 ?_
    refine s_nil ⟨(H.pk [0,2,3,4,5,6,7,8,9]),?_⟩
    refine ts_l rfl ?_;refine t_ost (k:=1) (i:=i2) (l:=aa) (l':=aa.set (Int.toNat i2) (aa.getD (Int.toNat ac) default)) (val:=.agg #[I ((aa.getD (Int.toNat ac) default).mark),I ((aa.getD (Int.toNat ac) default).tlo),I ((aa.getD (Int.toNat ac) default).thi),I ((aa.getD (Int.toNat ac) default).slo),I ((aa.getD (Int.toNat ac) default).shi)]) (L':=[cBlk ah [aB,I aC,I aD] 59,cOwn (α:=CNt) 57 ap (aa.set (Int.toNat i2) (aa.getD (Int.toNat ac) default)),cOwn (α:=Int) 3 ak l4,cOwn (α:=Int) 3 am l3,cOwn (α:=Int) 3 al l2,cOwn (α:=CMk) 55 ao l,cBlk aq [al,am,ak] 37,cBlk aj [I r2,I (r2+r6),I r3,I r4,I r5,ao,ap] 35,cBlk aw [.slice none 0 0,.slice none 0 0,.slice none 0 0] 37,cBlk av [I 0,I 0,I 0,I 0,I 0,.slice none 0 0,.slice none 0 0] 35]) H rfl Sz57 (by omega) (by omega) (aa.getD (Int.toNat ac) default) rfl rfl rfl rfl rfl ?_;intro pt H
    refine s_nil ⟨(H.pk [0,2,3,4,5,6,7,8,9]),?_⟩
    refine ts_l rfl ?_;refine kg 1 ?_
    refine s_nil ⟨(H.pk [0,2,3,4,5,6,7,8,9]),?_⟩
    refine ts_nil ?_;refine sr_l rfl ?_;refine t_ost (k:=1) (i:=ac) (l:=aa.set (Int.toNat i2) (aa.getD (Int.toNat ac) default)) (l':=(aa.set (Int.toNat i2) (aa.getD (Int.toNat ac) default)).set (Int.toNat ac) (aa.getD (Int.toNat i2) default)) (val:=.agg #[I ((aa.getD (Int.toNat i2) default).mark),I ((aa.getD (Int.toNat i2) default).tlo),I ((aa.getD (Int.toNat i2) default).thi),I ((aa.getD (Int.toNat i2) default).slo),I ((aa.getD (Int.toNat i2) default).shi)]) (L':=[cBlk ah [aB,I aC,I aD] 59,cOwn (α:=CNt) 57 ap ((aa.set (Int.toNat i2) (aa.getD (Int.toNat ac) default)).set (Int.toNat ac) (aa.getD (Int.toNat i2) default)),cOwn (α:=Int) 3 ak l4,cOwn (α:=Int) 3 am l3,cOwn (α:=Int) 3 al l2,cOwn (α:=CMk) 55 ao l,cBlk aq [al,am,ak] 37,cBlk aj [I r2,I (r2+r6),I r3,I r4,I r5,ao,ap] 35,cBlk aw [.slice none 0 0,.slice none 0 0,.slice none 0 0] 37,cBlk av [I 0,I 0,I 0,I 0,I 0,.slice none 0 0,.slice none 0 0] 35]) H rfl Sz57 (by omega) (by omega) (aa.getD (Int.toNat i2) default) rfl rfl rfl rfl rfl ?_;intro pu H
    refine s_nil ⟨trivial,?_⟩
    refine sr_nil ?_;obtain ⟨pv,hM⟩:=M.e_gd hM;refine kg 5 ?_
    exact ⟨aY,aZ,aC,aD,(aa.set (Int.toNat i2) (aa.getD (Int.toNat ac) default)).set (Int.toNat ac) (aa.getD (Int.toNat i2) default),i2-1,ap,_,upds_of _ _ ⟨rfl,rfl,rfl,rfl,rfl,rfl,trivial⟩,M.e_inl hM aU,(H.pk [1,2,3,4,5,0,6,7,8,9])⟩
   skip
   refine s_val (x_ld (v:=.agg #[I ((aa.getD (Int.toNat i2) default).mark),I ((aa.getD (Int.toNat i2) default).tlo),I ((aa.getD (Int.toNat i2) default).thi),I ((aa.getD (Int.toNat i2) default).slo),I ((aa.getD (Int.toNat i2) default).shi)]) rfl (ld_ag Ag57 Sz57 (At.mono (CNt_atA (H.os 1) (i:=i2) (by omega) (by omega)) (H.ol 1)))) ?_
   refine s_nil ⟨(H.pk [0,2,3,4,5,6,7,8,9]),?_⟩
   refine ts_l rfl<|s_val (x_ld (v:=.agg #[I ((aa.getD (Int.toNat ac) default).mark),I ((aa.getD (Int.toNat ac) default).tlo),I ((aa.getD (Int.toNat ac) default).thi),I ((aa.getD (Int.toNat ac) default).slo),I ((aa.getD (Int.toNat ac) default).shi)]) rfl (ld_ag Ag57 Sz57 (At.mono (CNt_atA (H.os 1) (i:=ac) (by omega) (by omega)) (H.ol 1)))) ?_
   refine s_nil ⟨(H.pk [0,2,3,4,5,6,7,8,9]),?_⟩
   refine ts_l rfl ?_;refine kg 1 ?_
   refine s_nil ⟨(H.pk [0,2,3,4,5,6,7,8,9]),?_⟩
   refine ts_l rfl ?_;refine t_ost (k:=1) (i:=i2) (l:=aa) (l':=aa.set (Int.toNat i2) (aa.getD (Int.toNat ac) default)) (val:=.agg #[I ((aa.getD (Int.toNat ac) default).mark),I ((aa.getD (Int.toNat ac) default).tlo),I ((aa.getD (Int.toNat ac) default).thi),I ((aa.getD (Int.toNat ac) default).slo),I ((aa.getD (Int.toNat ac) default).shi)]) (L':=[cBlk ah [aB,I aC,I aD] 59,cOwn (α:=CNt) 57 ap (aa.set (Int.toNat i2) (aa.getD (Int.toNat ac) default)),cOwn (α:=Int) 3 ak l4,cOwn (α:=Int) 3 am l3,cOwn (α:=Int) 3 al l2,cOwn (α:=CMk) 55 ao l,cBlk aq [al,am,ak] 37,cBlk aj [I r2,I (r2+r6),I r3,I r4,I r5,ao,ap] 35,cBlk aw [.slice none 0 0,.slice none 0 0,.slice none 0 0] 37,cBlk av [I 0,I 0,I 0,I 0,I 0,.slice none 0 0,.slice none 0 0] 35]) H rfl Sz57 (by omega) (by omega) (aa.getD (Int.toNat ac) default) rfl rfl rfl rfl rfl ?_;intro pw H
   refine s_nil ⟨(H.pk [0,2,3,4,5,6,7,8,9]),?_⟩
   refine ts_l rfl ?_;refine kg 1 ?_
   refine s_nil ⟨(H.pk [0,2,3,4,5,6,7,8,9]),?_⟩
   refine ts_nil ?_;refine sr_l rfl ?_;refine t_ost (k:=1) (i:=ac) (l:=aa.set (Int.toNat i2) (aa.getD (Int.toNat ac) default)) (l':=(aa.set (Int.toNat i2) (aa.getD (Int.toNat ac) default)).set (Int.toNat ac) (aa.getD (Int.toNat i2) default)) (val:=.agg #[I ((aa.getD (Int.toNat i2) default).mark),I ((aa.getD (Int.toNat i2) default).tlo),I ((aa.getD (Int.toNat i2) default).thi),I ((aa.getD (Int.toNat i2) default).slo),I ((aa.getD (Int.toNat i2) default).shi)]) (L':=[cBlk ah [aB,I aC,I aD] 59,cOwn (α:=CNt) 57 ap ((aa.set (Int.toNat i2) (aa.getD (Int.toNat ac) default)).set (Int.toNat ac) (aa.getD (Int.toNat i2) default)),cOwn (α:=Int) 3 ak l4,cOwn (α:=Int) 3 am l3,cOwn (α:=Int) 3 al l2,cOwn (α:=CMk) 55 ao l,cBlk aq [al,am,ak] 37,cBlk aj [I r2,I (r2+r6),I r3,I r4,I r5,ao,ap] 35,cBlk aw [.slice none 0 0,.slice none 0 0,.slice none 0 0] 37,cBlk av [I 0,I 0,I 0,I 0,I 0,.slice none 0 0,.slice none 0 0] 35]) H rfl Sz57 (by omega) (by omega) (aa.getD (Int.toNat i2) default) rfl rfl rfl rfl rfl ?_;intro px H
   refine s_nil ⟨trivial,?_⟩
   refine sr_nil ?_;obtain ⟨py,hM⟩:=M.e_gd hM;refine kg 5 ?_
   exact ⟨aY,aZ,aC,aD,(aa.set (Int.toNat i2) (aa.getD (Int.toNat ac) default)).set (Int.toNat ac) (aa.getD (Int.toNat i2) default),i2-1,ap,_,upds_of _ _ ⟨rfl,rfl,rfl,rfl,rfl,rfl,trivial⟩,M.e_inl hM aU,(H.pk [1,2,3,4,5,0,6,7,8,9])⟩
  skip
  refine kg 1 ?_
  have pz:=Sl.cells (H.os 1)
  have pA:=Sl.oc (H.os 1)
  refine s_nil ⟨(H.pk [0,2,3,4,5,6,7,8,9]),?_⟩
  refine ts_l2 rfl rfl ?_ ?_
  ·skip
   refine kg 1 ?_
   refine s_nil ⟨(H.pk [0,2,3,4,5,6,7,8,9]),?_⟩
   refine ts_l2 rfl rfl ?_ ?_
   ·skip
    refine s_val (x_ld (v:=.agg #[I ((aa.getD (Int.toNat ac) default).mark),I ((aa.getD (Int.toNat ac) default).tlo),I ((aa.getD (Int.toNat ac) default).thi),I ((aa.getD (Int.toNat ac) default).slo),I ((aa.getD (Int.toNat ac) default).shi)]) rfl (ld_ag Ag57 Sz57 (At.mono (CNt_atA (H.os 1) (i:=ac) (by omega) (by omega)) (H.ol 1)))) ?_
    refine s_nil ⟨(H.pk [0,2,3,4,5,6,7,8,9]),?_⟩
    refine ts_l rfl<|s_val (x_ld (v:=.agg #[I ((aa.getD (Int.toNat i2) default).mark),I ((aa.getD (Int.toNat i2) default).tlo),I ((aa.getD (Int.toNat i2) default).thi),I ((aa.getD (Int.toNat i2) default).slo),I ((aa.getD (Int.toNat i2) default).shi)]) rfl (ld_ag Ag57 Sz57 (At.mono (CNt_atA (H.os 1) (i:=i2) (by omega) (by omega)) (H.ol 1)))) ?_
    refine s_nil ⟨(H.pk [0,2,3,4,5,6,7,8,9]),?_⟩
    refine ts_l rfl ?_;refine kg 1 ?_
    refine s_nil ⟨(H.pk [0,2,3,4,5,6,7,8,9]),?_⟩
    refine ts_l rfl ?_;refine t_ost (k:=1) (i:=i2) (l:=aa) (l':=aa.set (Int.toNat i2) (aa.getD (Int.toNat ac) default)) (val:=.agg #[I ((aa.getD (Int.toNat ac) default).mark),I ((aa.getD (Int.toNat ac) default).tlo),I ((aa.getD (Int.toNat ac) default).thi),I ((aa.getD (Int.toNat ac) default).slo),I ((aa.getD (Int.toNat ac) default).shi)]) (L':=[cBlk ah [aB,I aC,I aD] 59,cOwn (α:=CNt) 57 ap (aa.set (Int.toNat i2) (aa.getD (Int.toNat ac) default)),cOwn (α:=Int) 3 ak l4,cOwn (α:=Int) 3 am l3,cOwn (α:=Int) 3 al l2,cOwn (α:=CMk) 55 ao l,cBlk aq [al,am,ak] 37,cBlk aj [I r2,I (r2+r6),I r3,I r4,I r5,ao,ap] 35,cBlk aw [.slice none 0 0,.slice none 0 0,.slice none 0 0] 37,cBlk av [I 0,I 0,I 0,I 0,I 0,.slice none 0 0,.slice none 0 0] 35]) H rfl Sz57 (by omega) (by omega) (aa.getD (Int.toNat ac) default) rfl rfl rfl rfl rfl ?_;intro pB H
    refine s_nil ⟨(H.pk [0,2,3,4,5,6,7,8,9]),?_⟩
    refine ts_l rfl ?_;refine kg 1 ?_
    refine s_nil ⟨(H.pk [0,2,3,4,5,6,7,8,9]),?_⟩
    refine ts_nil ?_;refine sr_l rfl ?_;refine t_ost (k:=1) (i:=ac) (l:=aa.set (Int.toNat i2) (aa.getD (Int.toNat ac) default)) (l':=(aa.set (Int.toNat i2) (aa.getD (Int.toNat ac) default)).set (Int.toNat ac) (aa.getD (Int.toNat i2) default)) (val:=.agg #[I ((aa.getD (Int.toNat i2) default).mark),I ((aa.getD (Int.toNat i2) default).tlo),I ((aa.getD (Int.toNat i2) default).thi),I ((aa.getD (Int.toNat i2) default).slo),I ((aa.getD (Int.toNat i2) default).shi)]) (L':=[cBlk ah [aB,I aC,I aD] 59,cOwn (α:=CNt) 57 ap ((aa.set (Int.toNat i2) (aa.getD (Int.toNat ac) default)).set (Int.toNat ac) (aa.getD (Int.toNat i2) default)),cOwn (α:=Int) 3 ak l4,cOwn (α:=Int) 3 am l3,cOwn (α:=Int) 3 al l2,cOwn (α:=CMk) 55 ao l,cBlk aq [al,am,ak] 37,cBlk aj [I r2,I (r2+r6),I r3,I r4,I r5,ao,ap] 35,cBlk aw [.slice none 0 0,.slice none 0 0,.slice none 0 0] 37,cBlk av [I 0,I 0,I 0,I 0,I 0,.slice none 0 0,.slice none 0 0] 35]) H rfl Sz57 (by omega) (by omega) (aa.getD (Int.toNat i2) default) rfl rfl rfl rfl rfl ?_;intro pC H
    refine s_nil ⟨trivial,?_⟩
    refine sr_nil ?_;obtain ⟨pD,hM⟩:=M.e_gd hM;refine kg 5 ?_
    exact ⟨aY,aZ,aC,aD,(aa.set (Int.toNat i2) (aa.getD (Int.toNat ac) default)).set (Int.toNat ac) (aa.getD (Int.toNat i2) default),i2-1,ap,_,upds_of _ _ ⟨rfl,rfl,rfl,rfl,rfl,rfl,trivial⟩,M.e_inl hM aU,(H.pk [1,2,3,4,5,0,6,7,8,9])⟩
   skip
   refine s_val (x_ld (v:=.agg #[I ((aa.getD (Int.toNat i2) default).mark),I ((aa.getD (Int.toNat i2) default).tlo),I ((aa.getD (Int.toNat i2) default).thi),I ((aa.getD (Int.toNat i2) default).slo),I ((aa.getD (Int.toNat i2) default).shi)]) rfl (ld_ag Ag57 Sz57 (At.mono (CNt_atA (H.os 1) (i:=i2) (by omega) (by omega)) (H.ol 1)))) ?_
   refine s_nil ⟨(H.pk [0,2,3,4,5,6,7,8,9]),?_⟩
   refine ts_l rfl<|s_val (x_ld (v:=.agg #[I ((aa.getD (Int.toNat ac) default).mark),I ((aa.getD (Int.toNat ac) default).tlo),I ((aa.getD (Int.toNat ac) default).thi),I ((aa.getD (Int.toNat ac) default).slo),I ((aa.getD (Int.toNat ac) default).shi)]) rfl (ld_ag Ag57 Sz57 (At.mono (CNt_atA (H.os 1) (i:=ac) (by omega) (by omega)) (H.ol 1)))) ?_
   refine s_nil ⟨(H.pk [0,2,3,4,5,6,7,8,9]),?_⟩
   refine ts_l rfl ?_;refine kg 1 ?_
   refine s_nil ⟨(H.pk [0,2,3,4,5,6,7,8,9]),?_⟩
   refine ts_l rfl ?_;refine t_ost (k:=1) (i:=i2) (l:=aa) (l':=aa.set (Int.toNat i2) (aa.getD (Int.toNat ac) default)) (val:=.agg #[I ((aa.getD (Int.toNat ac) default).mark),I ((aa.getD (Int.toNat ac) default).tlo),I ((aa.getD (Int.toNat ac) default).thi),I ((aa.getD (Int.toNat ac) default).slo),I ((aa.getD (Int.toNat ac) default).shi)]) (L':=[cBlk ah [aB,I aC,I aD] 59,cOwn (α:=CNt) 57 ap (aa.set (Int.toNat i2) (aa.getD (Int.toNat ac) default)),cOwn (α:=Int) 3 ak l4,cOwn (α:=Int) 3 am l3,cOwn (α:=Int) 3 al l2,cOwn (α:=CMk) 55 ao l,cBlk aq [al,am,ak] 37,cBlk aj [I r2,I (r2+r6),I r3,I r4,I r5,ao,ap] 35,cBlk aw [.slice none 0 0,.slice none 0 0,.slice none 0 0] 37,cBlk av [I 0,I 0,I 0,I 0,I 0,.slice none 0 0,.slice none 0 0] 35]) H rfl Sz57 (by omega) (by omega) (aa.getD (Int.toNat ac) default) rfl rfl rfl rfl rfl ?_;intro pE H
   refine s_nil ⟨(H.pk [0,2,3,4,5,6,7,8,9]),?_⟩
   refine ts_l rfl ?_;refine kg 1 ?_
   refine s_nil ⟨(H.pk [0,2,3,4,5,6,7,8,9]),?_⟩
   refine ts_nil ?_;refine sr_l rfl ?_;refine t_ost (k:=1) (i:=ac) (l:=aa.set (Int.toNat i2) (aa.getD (Int.toNat ac) default)) (l':=(aa.set (Int.toNat i2) (aa.getD (Int.toNat ac) default)).set (Int.toNat ac) (aa.getD (Int.toNat i2) default)) (val:=.agg #[I ((aa.getD (Int.toNat i2) default).mark),I ((aa.getD (Int.toNat i2) default).tlo),I ((aa.getD (Int.toNat i2) default).thi),I ((aa.getD (Int.toNat i2) default).slo),I ((aa.getD (Int.toNat i2) default).shi)]) (L':=[cBlk ah [aB,I aC,I aD] 59,cOwn (α:=CNt) 57 ap ((aa.set (Int.toNat i2) (aa.getD (Int.toNat ac) default)).set (Int.toNat ac) (aa.getD (Int.toNat i2) default)),cOwn (α:=Int) 3 ak l4,cOwn (α:=Int) 3 am l3,cOwn (α:=Int) 3 al l2,cOwn (α:=CMk) 55 ao l,cBlk aq [al,am,ak] 37,cBlk aj [I r2,I (r2+r6),I r3,I r4,I r5,ao,ap] 35,cBlk aw [.slice none 0 0,.slice none 0 0,.slice none 0 0] 37,cBlk av [I 0,I 0,I 0,I 0,I 0,.slice none 0 0,.slice none 0 0] 35]) H rfl Sz57 (by omega) (by omega) (aa.getD (Int.toNat i2) default) rfl rfl rfl rfl rfl ?_;intro pF H
   refine s_nil ⟨trivial,?_⟩
   refine sr_nil ?_;obtain ⟨pG,hM⟩:=M.e_gd hM;refine kg 5 ?_
   exact ⟨aY,aZ,aC,aD,(aa.set (Int.toNat i2) (aa.getD (Int.toNat ac) default)).set (Int.toNat ac) (aa.getD (Int.toNat i2) default),i2-1,ap,_,upds_of _ _ ⟨rfl,rfl,rfl,rfl,rfl,rfl,trivial⟩,M.e_inl hM aU,(H.pk [1,2,3,4,5,0,6,7,8,9])⟩
  skip
  refine s_val (x_ld (v:=.agg #[I ((aa.getD (Int.toNat i2) default).mark),I ((aa.getD (Int.toNat i2) default).tlo),I ((aa.getD (Int.toNat i2) default).thi),I ((aa.getD (Int.toNat i2) default).slo),I ((aa.getD (Int.toNat i2) default).shi)]) rfl (ld_ag Ag57 Sz57 (At.mono (CNt_atA (H.os 1) (i:=i2) (by omega) (by omega)) (H.ol 1)))) ?_
  refine s_nil ⟨(H.pk [0,2,3,4,5,6,7,8,9]),?_⟩
  refine ts_l rfl ?_;refine kg 1 ?_
  refine s_nil ⟨(H.pk [0,2,3,4,5,6,7,8,9]),?_⟩
  refine ts_l rfl<|s_val (x_ld (v:=.agg #[I ((aa.getD (Int.toNat ac) default).mark),I ((aa.getD (Int.toNat ac) default).tlo),I ((aa.getD (Int.toNat ac) default).thi),I ((aa.getD (Int.toNat ac) default).slo),I ((aa.getD (Int.toNat ac) default).shi)]) rfl (ld_ag Ag57 Sz57 (At.mono (CNt_atA (H.os 1) (i:=ac) (by omega) (by omega)) (H.ol 1)))) ?_
  refine s_nil ⟨(H.pk [0,2,3,4,5,6,7,8,9]),?_⟩
  refine ts_l rfl ?_;refine kg 1 ?_
  refine s_nil ⟨(H.pk [0,2,3,4,5,6,7,8,9]),?_⟩
  refine ts_l rfl ?_;refine t_ost (k:=1) (i:=i2) (l:=aa) (l':=aa.set (Int.toNat i2) (aa.getD (Int.toNat ac) default)) (val:=.agg #[I ((aa.getD (Int.toNat ac) default).mark),I ((aa.getD (Int.toNat ac) default).tlo),I ((aa.getD (Int.toNat ac) default).thi),I ((aa.getD (Int.toNat ac) default).slo),I ((aa.getD (Int.toNat ac) default).shi)]) (L':=[cBlk ah [aB,I aC,I aD] 59,cOwn (α:=CNt) 57 ap (aa.set (Int.toNat i2) (aa.getD (Int.toNat ac) default)),cOwn (α:=Int) 3 ak l4,cOwn (α:=Int) 3 am l3,cOwn (α:=Int) 3 al l2,cOwn (α:=CMk) 55 ao l,cBlk aq [al,am,ak] 37,cBlk aj [I r2,I (r2+r6),I r3,I r4,I r5,ao,ap] 35,cBlk aw [.slice none 0 0,.slice none 0 0,.slice none 0 0] 37,cBlk av [I 0,I 0,I 0,I 0,I 0,.slice none 0 0,.slice none 0 0] 35]) H rfl Sz57 (by omega) (by omega) (aa.getD (Int.toNat ac) default) rfl rfl rfl rfl rfl ?_;intro pH H
  refine s_nil ⟨(H.pk [0,2,3,4,5,6,7,8,9]),?_⟩
  refine ts_l rfl ?_;refine kg 1 ?_
  refine s_nil ⟨(H.pk [0,2,3,4,5,6,7,8,9]),?_⟩
  refine ts_nil ?_;refine sr_l rfl ?_;refine t_ost (k:=1) (i:=ac) (l:=aa.set (Int.toNat i2) (aa.getD (Int.toNat ac) default)) (l':=(aa.set (Int.toNat i2) (aa.getD (Int.toNat ac) default)).set (Int.toNat ac) (aa.getD (Int.toNat i2) default)) (val:=.agg #[I ((aa.getD (Int.toNat i2) default).mark),I ((aa.getD (Int.toNat i2) default).tlo),I ((aa.getD (Int.toNat i2) default).thi),I ((aa.getD (Int.toNat i2) default).slo),I ((aa.getD (Int.toNat i2) default).shi)]) (L':=[cBlk ah [aB,I aC,I aD] 59,cOwn (α:=CNt) 57 ap ((aa.set (Int.toNat i2) (aa.getD (Int.toNat ac) default)).set (Int.toNat ac) (aa.getD (Int.toNat i2) default)),cOwn (α:=Int) 3 ak l4,cOwn (α:=Int) 3 am l3,cOwn (α:=Int) 3 al l2,cOwn (α:=CMk) 55 ao l,cBlk aq [al,am,ak] 37,cBlk aj [I r2,I (r2+r6),I r3,I r4,I r5,ao,ap] 35,cBlk aw [.slice none 0 0,.slice none 0 0,.slice none 0 0] 37,cBlk av [I 0,I 0,I 0,I 0,I 0,.slice none 0 0,.slice none 0 0] 35]) H rfl Sz57 (by omega) (by omega) (aa.getD (Int.toNat i2) default) rfl rfl rfl rfl rfl ?_;intro pI H
  refine s_nil ⟨trivial,?_⟩
  refine sr_nil ?_;obtain ⟨pJ,hM⟩:=M.e_gd hM;refine kg 5 ?_
  exact ⟨aY,aZ,aC,aD,(aa.set (Int.toNat i2) (aa.getD (Int.toNat ac) default)).set (Int.toNat ac) (aa.getD (Int.toNat i2) default),i2-1,ap,_,upds_of _ _ ⟨rfl,rfl,rfl,rfl,rfl,rfl,trivial⟩,M.e_inl hM aU,(H.pk [1,2,3,4,5,0,6,7,8,9])⟩
 replace hM:=M.e_f hM aV
 replace aV:=dI aV
 refine W.exit ?_
 have eg:=M.e_inr hM aU
 subst eg;replace hM:=ed;(try dsimp only at hM);refine W.seq ?_;refine W.draw (fun W=>St w W [cOwn (α:=CNt) 57 ap aa,cOwn (α:=Int) 3 ak l4,cOwn (α:=Int) 3 am l3,cOwn (α:=Int) 3 al l2,cOwn (α:=CMk) 55 ao l,cBlk ah [aB,I aW,I aX] 59,cBlk aq [al,am,ak] 37,cBlk aj [I r2,I (r2+r6),I r3,I r4,I r5,ao,ap] 35] R) [(0,true),(1,true),(2,false),(3,false)] mixed (by decide +kernel) rfl ?_;intro pK ax;replace H:=H.ext ax;clear ax
 refine ⟨(H.pk [0,1,2,3,4,5,6,7]),?_⟩
 refine kg 2 ?_;refine d_l rfl ?_;refine t_sw 9 0 [I r2,I (r2+r6),I r3,I r4,I r5,ao,ap] (.agg #[I r2,I (r2+r6),I r3,I r4,I r5,ao,ap]) H rfl rfl Sz35 rfl rfl rfl (by simp only [List.all_cons,List.all_nil,Bool.true_and,Bool.and_true,Sl.oc (H.os 4),Sl.oc (H.os 0)]; try rfl) ?_;intro pL H
 refine s_nil ⟨(H.pk [0,1,2,3,4,5,6,7]),?_⟩
 refine d_l rfl ?_;refine t_sw 8 0 [al,am,ak] (.agg #[al,am,ak]) H rfl rfl Sz37 rfl rfl rfl (by simp only [List.all_cons,List.all_nil,Bool.true_and,Bool.and_true,Sl.oc (H.os 3),Sl.oc (H.os 2),Sl.oc (H.os 1)]; try rfl) ?_;intro pM H
 refine s_nil ⟨(H.pk [0,1,2,3,4,5,6,7]),?_⟩
 refine d_nil ?_;replace H:=H.pk [0,1,2,3,4,5,8,9];refine W.ret ?_
 have eh:=(H.bl 7)
 have ei:=(H.bl 6)
 have ej:=M.e_pure hM
 exact ⟨_,(resE_ofn (vs:=[.agg #[I r2,I (r2+r6),I r3,I r4,I r5,ao,ap],.agg #[al,am,ak]]) rfl rfl (.cell (v:=.agg #[I r2,I (r2+r6),I r3,I r4,I r5,ao,ap]) rfl (run_loadVar_ag (ds:=[I r2,I (r2+r6),I r3,I r4,I r5,ao,ap]) Ag35 Sz35 eh rfl rfl)<|.cell (v:=.agg #[al,am,ak]) rfl (run_loadVar_ag (ds:=[al,am,ak]) Ag37 Sz37 ei rfl rfl)<|.nil)),⟨r2,(r2+r6),r3,r4,r5,l,aa,l2,l3,l4,aW,aX,ao,ap,al,am,ak,ej,rfl,(H.pk [4,0,3,2,1,5])⟩⟩

end Go.Proofs.YtdmdhmineljlhaaGreat
end
section
set_option maxRecDepth 100000
set_option maxHeartbeats 16000000
namespace Go.Proofs.YtdmdhmineljlhaaGreat
open Go Go.Nm
attribute [local irreducible] gd execOp SL SLD SLT WR
def zaw (l:List Span):(Int × Int × Nat)->M ((Int × Int × Nat) ⊕ (Int × Int)):=fun (s,s2,s3) =>
  bif decide ((s3:Int)<(l.length:Int)) then (
  M.grd (decide ((s3:Int)<(l.length:Int))) <|
  M.pure (.inl (max s ((l.getD s3 default).lo),min s2 ((l.getD s3 default).hi),s3+1)))
  else (
  M.pure (.inr (s,s2)))
def zaq (first:Span) (l:List Span):M (Int × Int) :=
  M.bind (M.iter (zaw l) (first.lo,first.hi,0)) fun (s4,s5) =>
  M.pure (s4,s5)
theorem zbE {R:List Chunk} {ae:Cells} {ab:Value} (first:Span) (l:List Span) (av:Reads R ae) (ak:Sl ae ab l) {r:(Int × Int)} (hM:(zaq first l).Ends r) (w:World) (H:St w w [] R):Ret Tryz.prog 45 #[.agg #[I first.lo,I first.hi],ab] w fun v w'=>∃ (y0:Int) (y1:Int),(y0,y1)=r/\v = .agg #[I y0,I y1]/\St w w' [] R:=by
 refine ret_of_W Tryz.func45 rfl rfl rfl ?_;refine kg 2 ?_;refine t_bx [I first.lo,I first.hi] H rfl ?_;intro ag aw H;refine t_alloc (cs:=[I 0,I 0]) H Al31 rfl ?_;intro ah ax H
 have ay:=(ak).len_le
 refine kg 9 ?_;obtain ⟨al,ac,am⟩:=M.e_bind hM
 obtain ⟨az,ac⟩:=M.e_iter ac
 refine W.loop (fun m σ W=>∃ (s:Int) (s2:Int) (s3:Nat) (ρ:Env),σ=upds ρ [(2,Pq ag),(4,Pq ah),(7,ab),(8,I (l.length:Int)),(9,I (s3:Int))]/\M.iterN (zaw l) m (s,s2,s3)=some al/\St w W [cBlk ah [I 0,I 0] 31,cBlk ag [I s,I s2] 31] R) ?_ ?_
 ·exact ⟨_,first.lo,first.hi,0,_,upds_of _ _ ⟨rfl,rfl,rfl,rfl,rfl,trivial⟩,ac,H⟩
 rintro aA σ aB ⟨s,s2,s3,ρ,rfl,ai,H⟩
 obtain ⟨ao,ap,aC,hM,aj⟩:=M.e_iterN ai
 simp only [zaw] at hM
 clear ai;refine kg 5 ?_
 refine W.cond (decide ((s3:Int)<(l.length:Int))) rfl (fun aa=>?_) (fun aa=>?_)
 ·replace hM:=M.e_t hM aa
  replace aa:=dI aa
  obtain ⟨aD,hM⟩:=M.e_gd hM;refine kg 7 ?_;refine t_alloc (cs:=[I 0,I 0]) H Al31 rfl ?_;intro aE aF H;refine t_sw 0 0 [I ((l.getD s3 default).lo),I ((l.getD s3 default).hi)] (.agg #[I ((l.getD s3 default).lo),I ((l.getD s3 default).hi)]) H rfl rfl Sz31 rfl rfl rfl rfl ?_;intro aG H;refine kg 12 ?_;refine s_val (x_bld (ps:=[(0,I (max s ((l.getD s3 default).lo))),(1,I (min s2 ((l.getD s3 default).hi)))]) (zs:=[I 0,I 0]) (L':=[I (max s ((l.getD s3 default).lo)),I (min s2 ((l.getD s3 default).hi))]) rfl Tryz.underlying31 Al31 rfl (Bd31 Tryz.underlying31) (.cons (cs:=[I (max s ((l.getD s3 default).lo))]) rfl rfl rfl rfl rfl<|.cons (cs:=[I (min s2 ((l.getD s3 default).hi))]) rfl rfl rfl rfl rfl<|.nil)) ?_;refine t_sw 2 0 [I (max s ((l.getD s3 default).lo)),I (min s2 ((l.getD s3 default).hi))] (.agg #[I (max s ((l.getD s3 default).lo)),I (min s2 ((l.getD s3 default).hi))]) H rfl rfl Sz31 rfl rfl rfl rfl ?_;intro aH H;refine kg 5 ?_
  exact ⟨ao,ap,max s ((l.getD s3 default).lo),min s2 ((l.getD s3 default).hi),s3+1,_,upds_of _ _ ⟨rfl,rfl,rfl,rfl,rfl,trivial⟩,M.e_inl hM aj,(H.pk [1,2])⟩
 replace hM:=M.e_f hM aa
 replace aa:=dI aa
 refine W.exit ?_
 have aq:=M.e_inr hM aj
 subst aq;replace hM:=am;(try dsimp only at hM);refine kg 3 ?_;refine t_sw 0 0 [I s,I s2] (.agg #[I s,I s2]) H rfl rfl Sz31 rfl rfl rfl rfl ?_;intro aI H;refine s_nil ?_;refine W.ret ?_
 have ar:=(H.bl 0)
 have au:=M.e_pure hM
 exact ⟨_,(resE_of1 (v:=.agg #[I s,I s2]) rfl (.cell (v:=.agg #[I s,I s2]) rfl (run_loadVar_ag (ds:=[I s,I s2]) Ag31 Sz31 ar rfl rfl)<|.nil)),⟨s,s2,au,rfl,(H.pk [])⟩⟩

def zbA (ah ai ac ab ae:Int) (aa:List CMk) (aj:List CNt) (ag:List (Int × CNt)) (mark:Int):M (Int × Int) :=
  M.grd (decide ((0:Int)<=mark)&&decide (mark<(aa.length:Int))) <|
  M.grd (decide ((-9223372036854775808:Int)<=(ab*((aa.getD (Int.toNat mark) default).height)))&&decide ((ab*((aa.getD (Int.toNat mark) default).height))<=(9223372036854775807:Int))) <|
  M.grd (decide ((-9223372036854775808:Int)<=(ac+(ab*((aa.getD (Int.toNat mark) default).height))))&&decide ((ac+(ab*((aa.getD (Int.toNat mark) default).height)))<=(9223372036854775807:Int))) <|
  M.grd (decide ((-9223372036854775808:Int)<=((ac+(ab*((aa.getD (Int.toNat mark) default).height)))-ae))&&decide (((ac+(ab*((aa.getD (Int.toNat mark) default).height)))-ae)<=(9223372036854775807:Int))) <|
  M.grd (decide ((-9223372036854775808:Int)<=((ac+(ab*((aa.getD (Int.toNat mark) default).height)))+ae))&&decide (((ac+(ab*((aa.getD (Int.toNat mark) default).height)))+ae)<=(9223372036854775807:Int))) <|
  bif (lookM ag (mark:Int)).isSome then (
  M.bind (zaq (⟨((ac+(ab*((aa.getD (Int.toNat mark) default).height)))-ae:Int),((ac+(ab*((aa.getD (Int.toNat mark) default).height)))+ae:Int)⟩:Span) ([(⟨(((lookM ag (mark:Int)).getD default).slo:Int),(((lookM ag (mark:Int)).getD default).shi:Int)⟩:Span)])) fun (r0,r1) =>
  M.pure (r0,r1))
  else (
  M.pure (((ac+(ab*((aa.getD (Int.toNat mark) default).height)))-ae),((ac+(ab*((aa.getD (Int.toNat mark) default).height)))+ae)))
theorem zdX {R:List Chunk} {ar:Nat} {au:Cells} {ah:Value} {av:Cells} {aj:Value} {ai:Nat} (ak:Int) (al:Int) (ab:Int) (ac:Int) (aa:Int) (ae:List CMk) (aw:List CNt) (ag:List (Int × CNt)) (mark:Int) (az:Reads R au) (aA:Sl au ah ae) (aG:Reads R av) (aH:Sl av aj aw) (aB:Has R (cMl I encCN ai ag)) (am:Fld R ar [I ak,I al,I ab,I ac,I aa,ah,aj,.map (some ai)]) {r:(Int × Int)} (hM:(zbA ak al ab ac aa ae aw ag mark).Ends r) (w:World) (H:St w w [] R):Ret Tryz.prog 75 #[Pq ar,I mark] w fun v w'=>∃ (y0:Int) (y1:Int),(y0,y1)=r/\v = .agg #[I y0,I y1]/\St w w' [] R:=by
 refine ret_of_W Tryz.func75 rfl rfl rfl ?_;refine kg 2 ?_;refine t_alloc (cs:=[I 0,I 0]) H Al31 rfl ?_;intro ax aI H;refine kg 2 ?_;refine W.draw (fun W=>St w W [cBlk ax [I 0,I 0] 31] R) [(0,true),(1,true),(2,true),(3,true),(4,true),(5,true),(6,true),(7,true),(8,true),(9,true),(10,true),(11,true),(12,true),(13,true),(14,true),(15,true),(16,true),(17,true),(18,true),(19,true),(20,true),(21,true)] mixed (by decide +kernel) rfl ?_;intro aJ ao;replace H:=H.ext ao;clear ao
 refine ⟨(H.pk [0]),?_⟩
 refine kg 4 ?_;refine d_q rfl (fun w' H=>x_ld (v:=I ab) rfl (fld_sc (pre:=[I ak,I al,I ab,I ac,I aa,ah,aj,.map (some ai)]) (i:=2) Sc3 (am.at H) rfl)) ?_;refine kg 4 ?_;refine d_q rfl (fun w' H=>x_ld (v:=I ac) rfl (fld_sc (pre:=[I ak,I al,I ab,I ac,I aa,ah,aj,.map (some ai)]) (i:=3) Sc3 (am.at H) rfl)) ?_;refine kg 4 ?_;refine d_q rfl (fun w' H=>x_ld (v:=ah) rfl (fld_sc (pre:=[I ak,I al,I ab,I ac,I aa,ah,aj,.map (some ai)]) (i:=5) Sc32 (am.at H) rfl)) ?_;obtain ⟨aK,hM⟩:=M.e_gd hM;refine kg 3 ?_;refine d_q rfl (fun w' H=>x_ld (v:=I ((ae.getD (Int.toNat mark) default).height)) rfl (ld_sc Sc3 (At.mono (CMk_at1 aA (i:=mark) (by omega) (by omega)) (az.at H)))) ?_;obtain ⟨aL,hM⟩:=M.e_gd hM;obtain ⟨aM,hM⟩:=M.e_gd hM;refine kg 5 ?_;refine W.draw (fun W=>St w W [cBlk ax [I 0,I 0] 31] R) [(0,true),(1,true),(2,true),(3,true),(4,true),(5,true),(6,true),(7,true),(8,true),(9,true),(10,true),(11,true),(12,true),(13,true),(14,true),(15,false),(16,false)] mixed (by decide +kernel) rfl ?_;intro aN ao;replace H:=H.ext ao;clear ao
 refine ⟨(H.pk [0]),?_⟩
 refine kg 5 ?_;refine d_q rfl (fun w' H=>x_ld (v:=I aa) rfl (fld_sc (pre:=[I ak,I al,I ab,I ac,I aa,ah,aj,.map (some ai)]) (i:=4) Sc3 (am.at H) rfl)) ?_;obtain ⟨aO,hM⟩:=M.e_gd hM;refine kg 6 ?_;refine d_q rfl (fun w' H=>x_ld (v:=I aa) rfl (fld_sc (pre:=[I ak,I al,I ab,I ac,I aa,ah,aj,.map (some ai)]) (i:=4) Sc3 (am.at H) rfl)) ?_;obtain ⟨aP,hM⟩:=M.e_gd hM;refine kg 1 ?_;refine d_q rfl (fun w' H=>x_bld (ps:=[(0,I ((ab+(ac*((ae.getD (Int.toNat mark) default).height)))-aa)),(1,I ((ab+(ac*((ae.getD (Int.toNat mark) default).height)))+aa))]) (zs:=[I 0,I 0]) (L':=[I ((ab+(ac*((ae.getD (Int.toNat mark) default).height)))-aa),I ((ab+(ac*((ae.getD (Int.toNat mark) default).height)))+aa)]) rfl Tryz.underlying31 Al31 rfl (Bd31 Tryz.underlying31) (.cons (cs:=[I ((ab+(ac*((ae.getD (Int.toNat mark) default).height)))-aa)]) rfl rfl rfl rfl rfl<|.cons (cs:=[I ((ab+(ac*((ae.getD (Int.toNat mark) default).height)))+aa)]) rfl rfl rfl rfl rfl<|.nil))<|d_l rfl ?_;refine t_alloc (cs:=[I 0,I 0]) H Al31 rfl ?_;intro aQ aR H
 refine s_nil ⟨(H.pk [1]),?_⟩
 refine d_l rfl ?_;refine t_sw 0 0 [I ((ab+(ac*((ae.getD (Int.toNat mark) default).height)))-aa),I ((ab+(ac*((ae.getD (Int.toNat mark) default).height)))+aa)] (.agg #[I ((ab+(ac*((ae.getD (Int.toNat mark) default).height)))-aa),I ((ab+(ac*((ae.getD (Int.toNat mark) default).height)))+aa)]) H rfl rfl Sz31 rfl rfl rfl rfl ?_;intro aS H
 refine s_nil ⟨(H.pk [1]),?_⟩
 refine kg 7 ?_;refine s_val (x_ld (v:=.map (some ai)) rfl (fld_sc (pre:=[I ak,I al,I ab,I ac,I aa,ah,aj,.map (some ai)]) (i:=7) Sc140 (am.at H) rfl)) ?_;refine kg 1 ?_;refine s_val (q_look (kenc:=I) (venc:=encCN) (f:=lookM ag) (k:=(mark:Int)) (v:=.tuple #[.agg #[I (((lookM ag (mark:Int)).getD default).mark),I (((lookM ag (mark:Int)).getD default).tlo),I (((lookM ag (mark:Int)).getD default).thi),I (((lookM ag (mark:Int)).getD default).slo),I (((lookM ag (mark:Int)).getD default).shi)],B ((lookM ag (mark:Int)).isSome)]) keyIntCN Tryz.underlying140 Al57 rfl rfl (mlMap (aB.at H)) true (by rw [if_pos rfl,cnt_val])) ?_;refine kg 3 ?_;refine t_alloc (cs:=[I 0,I 0,I 0,I 0,I 0]) H Al57 rfl ?_;intro aT aU H;refine t_sw 0 0 [I (((lookM ag (mark:Int)).getD default).mark),I (((lookM ag (mark:Int)).getD default).tlo),I (((lookM ag (mark:Int)).getD default).thi),I (((lookM ag (mark:Int)).getD default).slo),I (((lookM ag (mark:Int)).getD default).shi)] (.agg #[I (((lookM ag (mark:Int)).getD default).mark),I (((lookM ag (mark:Int)).getD default).tlo),I (((lookM ag (mark:Int)).getD default).thi),I (((lookM ag (mark:Int)).getD default).slo),I (((lookM ag (mark:Int)).getD default).shi)]) H rfl rfl Sz57 rfl rfl rfl rfl ?_;intro aV H;refine kg 6 ?_
 refine W.cond ((lookM ag (mark:Int)).isSome) rfl (fun ap=>?_) (fun ap=>?_)
 ·replace hM:=M.e_t hM ap;refine kg 4 ?_;refine t_bs (α:=Span) T61 [.agg #[I (((lookM ag (mark:Int)).getD default).slo),I (((lookM ag (mark:Int)).getD default).shi)]] [(⟨(((lookM ag (mark:Int)).getD default).slo:Int),(((lookM ag (mark:Int)).getD default).shi:Int)⟩:Span)] H rfl (.cons rfl (Flat.rep_enc _ (⟨(((lookM ag (mark:Int)).getD default).slo:Int),(((lookM ag (mark:Int)).getD default).shi:Int)⟩:Span))<|.nil) rfl rfl rfl ?_;intro aC aW H;obtain ⟨aX,aD,hM⟩:=M.e_bind hM;refine s_call cf45 [.agg #[I ((ab+(ac*((ae.getD (Int.toNat mark) default).height)))-aa),I ((ab+(ac*((ae.getD (Int.toNat mark) default).height)))+aa)],aC] rfl (zbE (⟨((ab+(ac*((ae.getD (Int.toNat mark) default).height)))-aa:Int),((ab+(ac*((ae.getD (Int.toNat mark) default).height)))+aa:Int)⟩:Span) ([(⟨(((lookM ag (mark:Int)).getD default).slo:Int),(((lookM ag (mark:Int)).getD default).shi:Int)⟩:Span)]) (rdo 0) (H.os 0) aD _ (H.gt 4)) ?_
  rintro vq aY ⟨r0,r1,rfl,hvq,ay⟩
  subst vq;(try dsimp only at hM);replace H:=H.bk ay;clear ay;refine t_sw 2 0 [I r0,I r1] (.agg #[I r0,I r1]) H rfl rfl Sz31 rfl rfl rfl rfl ?_;intro aZ H;refine s_nil ?_;replace H:=H.pk [2,3];refine kg 3 ?_;refine t_sw 1 0 [I r0,I r1] (.agg #[I r0,I r1]) H rfl rfl Sz31 rfl rfl rfl rfl ?_;intro a6 H;refine s_nil ?_;refine W.ret ?_
  have aE:=(H.bl 1)
  have aq:=M.e_pure hM
  exact ⟨_,(resE_of1 (v:=.agg #[I r0,I r1]) rfl (.cell (v:=.agg #[I r0,I r1]) rfl (run_loadVar_ag (ds:=[I r0,I r1]) Ag31 Sz31 aE rfl rfl)<|.nil)),⟨r0,r1,aq,rfl,(H.pk [])⟩⟩
 replace hM:=M.e_f hM ap;refine kg 4 ?_;refine t_sw 2 0 [I ((ab+(ac*((ae.getD (Int.toNat mark) default).height)))-aa),I ((ab+(ac*((ae.getD (Int.toNat mark) default).height)))+aa)] (.agg #[I ((ab+(ac*((ae.getD (Int.toNat mark) default).height)))-aa),I ((ab+(ac*((ae.getD (Int.toNat mark) default).height)))+aa)]) H rfl rfl Sz31 rfl rfl rfl rfl ?_;intro a7 H;refine s_nil ?_;replace H:=H.pk [2];refine W.ret ?_
 have aF:=(H.bl 0)
 have aq:=M.e_pure hM
 exact ⟨_,(resE_of1 (v:=.agg #[I ((ab+(ac*((ae.getD (Int.toNat mark) default).height)))-aa),I ((ab+(ac*((ae.getD (Int.toNat mark) default).height)))+aa)]) rfl (.cell (v:=.agg #[I ((ab+(ac*((ae.getD (Int.toNat mark) default).height)))-aa),I ((ab+(ac*((ae.getD (Int.toNat mark) default).height)))+aa)]) rfl (run_loadVar_ag (ds:=[I ((ab+(ac*((ae.getD (Int.toNat mark) default).height)))-aa),I ((ab+(ac*((ae.getD (Int.toNat mark) default).height)))+aa)]) Ag31 Sz31 aF rfl rfl)<|.nil)),⟨((ab+(ac*((ae.getD (Int.toNat mark) default).height)))-aa),((ab+(ac*((ae.getD (Int.toNat mark) default).height)))+aa),aq,rfl,(H.pk [])⟩⟩

def zap (s:List Span) (f:Span->M Bool):Nat->M (Nat ⊕ (Int ⊕ Unit)):=fun s2 =>
  bif decide ((s2:Int)<(s.length:Int)) then (
  M.grd (decide ((s2:Int)<(s.length:Int))) <|
  M.bind (f (s.getD s2 default)) fun r2 =>
  bif r2 then (
  M.pure (.inr (.inl (s2:Int))))
  else (
  M.pure (.inl (s2+1))))
  else (
  M.pure (.inr (.inr ())))
def zbx (s:List Span) (f:Span->M Bool):M Int :=
  M.bind (M.iter (zap s f) 0) fun x_=>match x_ with
  | (.inl s3)=>(
  M.pure s3)
  | (.inr (_:Unit))=>(
  M.pure (-1))
theorem zdl {R:List Chunk} {aj:Cells} {ab:Value} {ac:Value} (s:List Span) (f:Span->M Bool) (ax:Reads R aj) (am:Sl aj ab s) (ao:FnM Tryz.prog R ac f) {r:Int} (hM:(zbx s f).Ends r) (w:World) (H:St w w [] R):Ret Tryz.prog 93 #[ab,ac] w fun v w'=>∃ (y0:Int),y0=r/\v=I y0/\St w w' [] R:=by
 refine ret_of_W Tryz.func93 rfl rfl rfl ?_
 have ay:=(am).len_le
 refine kg 12 ?_;obtain ⟨ap,ae,ak⟩:=M.e_bind hM
 obtain ⟨az,ae⟩:=M.e_iter ae
 refine W.loop (fun m σ W=>∃ (s2:Nat) (ρ:Env),σ=upds ρ [(0,ab),(1,ac),(7,I (s.length:Int)),(8,I (s2:Int))]/\M.iterN (zap s f) m s2=some ap/\St w W [] R) ?_ ?_
 ·exact ⟨_,0,_,upds_of _ _ ⟨rfl,rfl,rfl,rfl,trivial⟩,ae,H⟩
 rintro aA σ aB ⟨s2,ρ,rfl,al,H⟩
 obtain ⟨aq,ar,aC,hM,ag⟩:=M.e_iterN al
 simp only [zap] at hM
 clear al;refine kg 5 ?_
 refine W.cond (decide ((s2:Int)<(s.length:Int))) rfl (fun aa=>?_) (fun aa=>?_)
 ·replace hM:=M.e_t hM aa
  replace aa:=dI aa
  obtain ⟨aD,hM⟩:=M.e_gd hM;refine kg 15 ?_;obtain ⟨r2,au,hM⟩:=M.e_bind hM;refine t_callM H ao rfl rfl (s.getD s2 default) Reads.none ⟨_,rfl,rfl⟩ au ?_;intro aE H;refine s_nil ?_
  refine W.cond r2 rfl (fun ah=>?_) (fun ah=>?_)
  ·replace hM:=M.e_t hM ah;refine kg 5 ?_;refine W.ret ?_
   have av:=M.e_inr hM ag
   subst av;replace hM:=ak;(try dsimp only at hM)
   have ai:=M.e_pure hM
   exact ⟨_,resE_tmp rfl,⟨(s2:Int),ai,rfl,H⟩⟩
  replace hM:=M.e_f hM ah;refine kg 5 ?_
  exact ⟨aq,ar,s2+1,_,upds_of _ _ ⟨rfl,rfl,rfl,rfl,trivial⟩,M.e_inl hM ag,H⟩
 replace hM:=M.e_f hM aa
 replace aa:=dI aa
 refine W.exit ?_
 have aw:=M.e_inr hM ag
 subst aw;replace hM:=ak;(try dsimp only at hM);refine kg 4 ?_;refine W.ret ?_
 have ai:=M.e_pure hM
 exact ⟨_,resE_tmp rfl,⟨(-1),ai,rfl,H⟩⟩

def zbS (s:List Span) (f:Span->M Bool):M Bool :=
  M.bind (zbx s f) fun r2 =>
  M.pure (decide (0<=r2))
theorem zdr {R:List Chunk} {ac:Cells} {aa:Value} {ab:Value} (s:List Span) (f:Span->M Bool) (ag:Reads R ac) (ah:Sl ac aa s) (ai:FnM Tryz.prog R ab f) {r:Bool} (hM:(zbS s f).Ends r) (w:World) (H:St w w [] R):Ret Tryz.prog 78 #[aa,ab] w fun v w'=>∃ (y0:Bool),y0=r/\v=B y0/\St w w' [] R:=by
 refine ret_of_W Tryz.func78 rfl rfl rfl ?_;refine kg 8 ?_;obtain ⟨al,aj,hM⟩:=M.e_bind hM;refine s_call cf93 [aa,ab] rfl (zdl s f (ag.app _) ah (ai.app _) aj _ (H.gt 0)) ?_
 rintro vq am ⟨r2,rfl,hvq,ae⟩
 subst vq;(try dsimp only at hM);replace H:=H.bk ae;clear ae;refine kg 3 ?_;refine W.ret ?_
 have ak:=M.e_pure hM
 exact ⟨_,resE_tmp rfl,⟨(decide (0<=r2)),ak,rfl,H⟩⟩

def zaW (x:Span) (aa:Span->M Bool):M Bool :=
  M.bind (aa x) fun r2 =>
  M.pure (!r2)
theorem zdN {R:List Chunk} {aa:Nat} {ab:Value} (x:Span) (ac:Span->M Bool) (ae:FnM Tryz.prog R ab ac) (ai:Has R (cBlk aa [ab] 112)) {r:Bool} (hM:(zaW x ac).Ends r) (w:World) (H:St w w [] R):Ret Tryz.prog 79 #[.agg #[I x.lo,I x.hi],Pq aa] w fun v w'=>∃ (y0:Bool),y0=r/\v=B y0/\St w w' [] R:=by
 refine ret_of_W Tryz.func79 rfl rfl rfl ?_;refine kg 2 ?_;refine t_bx [I x.lo,I x.hi] H rfl ?_;intro aj ak H;refine kg 6 ?_;obtain ⟨r2,ag,hM⟩:=M.e_bind hM;refine t_callM H ae rfl rfl x Reads.none ⟨_,rfl,rfl⟩ ag ?_;intro al H;refine kg 3 ?_;refine W.ret ?_
 have ah:=M.e_pure hM
 exact ⟨_,resE_tmp rfl,⟨(!r2),ah,rfl,(H.pk [])⟩⟩

def zax (l:List Span) (so:Span->M Bool):M Bool :=
  M.bind (zbS l (fun aa=>zaW aa so)) fun r2 =>
  M.pure (!r2)
theorem zc8 {R:List Chunk} {ag:Cells} {ab:Value} {aa:Value} (l:List Span) (so:Span->M Bool) (ak:Reads R ag) (al:Sl ag ab l) (ah:FnM Tryz.prog R aa so) {r:Bool} (hM:(zax l so).Ends r) (w:World) (H:St w w [] R):Ret Tryz.prog 46 #[ab,aa] w fun v w'=>∃ (y0:Bool),y0=r/\v=B y0/\St w w' [] R:=by
 refine ret_of_W Tryz.func46 rfl rfl rfl ?_;refine kg 2 ?_;refine t_box (v:=aa) (cs:=[aa]) H rfl (FnM.cells ah) ?_;intro ac ay H;refine kg 5 ?_;refine s_val (x_mf (fs:=[]) (cs:=[Pq ac]) rfl rfl) ?_;obtain ⟨az,am,hM⟩:=M.e_bind hM;refine s_call cf78 [ab,.func (.func 79) #[] #[Pq ac]] rfl (zdr l (fun ae=>zaW ae so) (ak.app _) al ⟨79,[Pq ac],rfl,cf79,fun ai aA aB ao ae aC ap aD aq ar=>by obtain rfl:=Span_arg aq; exact (zdN ae so (FnM.app (ah.app _) _) (Has.app (Has.here (k:=0) rfl) _) ar ai (St.refl ap)).mono fun ao ai ⟨aE,au,av,aw⟩=>by subst au; exact ⟨av,aw⟩⟩ am _ (H.gt 1)) ?_
 rintro vq aF ⟨r2,rfl,hvq,aj⟩
 subst vq;(try dsimp only at hM);replace H:=H.bk aj;clear aj;refine kg 3 ?_;refine W.ret ?_
 have ax:=M.e_pure hM
 exact ⟨_,resE_tmp rfl,⟨(!r2),ax,rfl,(H.pk [])⟩⟩

def zbN (s:Span):M Bool :=
  M.pure (decide (s.lo<=s.hi))
theorem zdp {R:List Chunk}  (s:Span)  {r:Bool} (hM:(zbN s).Ends r) (w:World) (H:St w w [] R):Ret Tryz.prog 76 #[.agg #[I s.lo,I s.hi]] w fun v w'=>∃ (y0:Bool),y0=r/\v=B y0/\St w w' [] R:=by
 refine ret_of_W Tryz.func76 rfl rfl rfl ?_;refine kg 2 ?_;refine t_bx [I s.lo,I s.hi] H rfl ?_;intro ab ac H;refine kg 11 ?_;refine W.ret ?_
 have aa:=M.e_pure hM
 exact ⟨_,resE_tmp rfl,⟨(decide (s.lo<=s.hi)),aa,rfl,(H.pk [])⟩⟩

def zaY (ab ac ae ag ah:Int) (aa:List CMk) (ai:List CNt) (aj:List (Int × CNt)):(Nat × (List Span))->M ((Nat × (List Span)) ⊕ ((List Span) × (List Span))):=fun (s,l) =>
  bif decide ((s:Int)<(aa.length:Int)) then (
  M.bind (zbA ab ac ae ag ah aa ai aj (s:Int)) fun (r0,r1) =>
  M.grd (decide ((l.length+([(⟨(r0:Int),(r1:Int)⟩:Span)]).length)*16<=140737488355328)) <|
  M.pure (.inl (s+1,l++([(⟨(r0:Int),(r1:Int)⟩:Span)]))))
  else (
  M.pure (.inr (l,l)))
def zbf (aa ab ac ae ag:Int) (ah:List CMk) (ai:List CNt) (aj:List (Int × CNt)):M ((List Span) × Bool) :=
  M.bind (M.iter (zaY aa ab ac ae ag ah ai aj) (0,[])) fun (l2,l3) =>
  M.bind (zax l3 (fun ak=>zbN ak)) fun r2 =>
  M.pure (l3,r2)
theorem zcM {R:List Chunk} {al:Nat} {aw:Cells} {am:Value} {ax:Cells} {aq:Value} {ar:Nat} (ac:Int) (ae:Int) (ag:Int) (ah:Int) (ai:Int) (ab:List CMk) (ao:List CNt) (ap:List (Int × CNt)) (aD:Reads R aw) (ay:Sl aw am ab) (aE:Reads R ax) (aF:Sl ax aq ao) (aG:Has R (cMl I encCN ar ap)) (az:Fld R al [I ac,I ae,I ag,I ah,I ai,am,aq,.map (some ar)]) {r:((List Span) × Bool)} (hM:(zbf ac ae ag ah ai ab ao ap).Ends r) (w:World) (H:St w w [] R):Ret Tryz.prog 41 #[Pq al] w fun v w'=>∃ (y0:List Span) (y1:Bool) (u0:Value),(y0,y1)=r/\v = .tuple #[u0,B y1]/\St w w' [cOwn (α:=Span) 31 u0 y0] R:=by
 refine ret_of_W Tryz.func41 rfl rfl rfl ?_;refine kg 16 ?_;refine s_val (x_ld (v:=am) rfl (fld_sc (pre:=[I ac,I ae,I ag,I ah,I ai,am,aq,.map (some ar)]) (i:=5) Sc32 (az.at H) rfl)) ?_
 have aY:=(ay).len_le
 refine kg 4 ?_
 replace H:=H.nilOwn (α:=Span) 31
 obtain ⟨aH,au,aI⟩:=M.e_bind hM
 obtain ⟨aZ,au⟩:=M.e_iter au
 refine W.loop (fun m σ W=>∃ (s:Nat) (l:List Span) (aj:Value) (ρ:Env),σ=upds ρ [(0,Pq al),(4,aj),(11,I (ab.length:Int)),(12,I (s:Int))]/\M.iterN (zaY ac ae ag ah ai ab ao ap) m (s,l)=some aH/\St w W [cOwn (α:=Span) 31 aj l] R) ?_ ?_
 ·exact ⟨_,0,[],(.slice none 0 0),_,upds_of _ _ ⟨rfl,rfl,rfl,rfl,trivial⟩,au,H⟩
 rintro a6 σ a7 ⟨s,l,aj,ρ,rfl,aA,H⟩
 obtain ⟨aJ,aK,a8,hM,aB⟩:=M.e_iterN aA
 simp only [zaY] at hM
 clear aA;refine kg 5 ?_
 refine W.cond (decide ((s:Int)<(ab.length:Int))) rfl (fun aa=>?_) (fun aa=>?_)
 ·replace hM:=M.e_t hM aa
  replace aa:=dI aa
  refine kg 12 ?_;obtain ⟨ba,aL,hM⟩:=M.e_bind hM;refine s_call cf75 [Pq al,I (s:Int)] rfl (zdX ac ae ag ah ai ab ao ap (s:Int) (aD.app _) ay (aE.app _) aF (aG.app _) (az.app _) aL _ (H.gt 1)) ?_
  rintro vq bb ⟨r0,r1,rfl,hvq,ak⟩
  subst vq;(try dsimp only at hM);replace H:=H.bk ak;clear ak;refine t_bs (α:=Span) T61 [.agg #[I r0,I r1]] [(⟨(r0:Int),(r1:Int)⟩:Span)] H rfl (.cons rfl (Flat.rep_enc _ (⟨(r0:Int),(r1:Int)⟩:Span))<|.nil) rfl rfl rfl ?_;intro aM bc H;obtain ⟨bf,hM⟩:=M.e_gd hM;refine t_app (α:=Span) (k:=1) (l:=l) (l2:=[(⟨(r0:Int),(r1:Int)⟩:Span)]) (l':=l++([(⟨(r0:Int),(r1:Int)⟩:Span)])) (vy:=aM) T61 rfl H rfl rfl rfl (H.os 0) (H.ol 0) (rfl) (by first | omega | (simp only [List.length_nil] at *; omega)) ?_;intro aN bg H;replace H:=H.nf;refine kg 6 ?_
  exact ⟨aJ,aK,s+1,l++([(⟨(r0:Int),(r1:Int)⟩:Span)]),aN,_,upds_of _ _ ⟨rfl,rfl,rfl,rfl,trivial⟩,M.e_inl hM aB,(H.pk [1])⟩
 replace hM:=M.e_f hM aa
 replace aa:=dI aa
 refine W.exit ?_
 have aO:=M.e_inr hM aB
 subst aO;replace hM:=aI;(try dsimp only at hM);refine kg 4 ?_;obtain ⟨bh,aP,hM⟩:=M.e_bind hM;refine s_call cf46 [aj,.func (.func 76) #[] #[]] rfl (zc8 l (fun av=>zbN av) (rdo 0) (H.os 0) ⟨76,[],rfl,cf76,fun aC bi bj aQ av bm aR bn aS aT=>by obtain rfl:=Span_arg aS; exact (zdp av aT aC (St.refl aR)).mono fun aQ aC ⟨bo,aU,aV,aW⟩=>by subst aU; exact ⟨aV,aW⟩⟩ aP _ (H.gt 1)) ?_
 rintro vq bp ⟨r2,rfl,hvq,ak⟩
 subst vq;(try dsimp only at hM);replace H:=H.bk ak;clear ak;refine kg 3 ?_;refine W.ret ?_
 have aX:=M.e_pure hM
 exact ⟨_,resE_tmp2 rfl,⟨l,r2,aj,aX,rfl,H⟩⟩

def zb3 (s:List Span):M (List Span) :=
  M.grd (decide (0<s.length)) <|
  M.grd (decide ((([]:List Span).length+s.length)*16<=140737488355328)) <|
  M.pure s
theorem zc7 {R:List Chunk} {ab:Cells} {aa:Value} (s:List Span) (ag:Reads R ab) (ac:Sl ab aa s) {r:(List Span)} (hM:(zb3 s).Ends r) (w:World) (H:St w w [] R):Ret Tryz.prog 42 #[aa] w fun v w'=>∃ (y0:List Span) (u0:Value),y0=r/\v=u0/\St w w' [cOwn (α:=Span) 31 u0 y0] R:=by
 refine ret_of_W Tryz.func42 rfl rfl rfl ?_;obtain ⟨aj,hM⟩:=M.e_gd hM;refine kg 8 ?_;refine s_val (x_eqnilp (α:=Span) T61.und rfl rfl ac (by omega))<|s_nil ?_
 refine W.cond false rfl (fun ae=>?_) (fun ae=>?_)
 ·skip
  exact absurd ae (by decide)
 skip
 refine kg 3 ?_;refine t_bs0 (α:=Span) T61 H ?_;intro ak al H;obtain ⟨am,hM⟩:=M.e_gd hM;refine kg 1 ?_;refine t_app (α:=Span) (k:=0) (l:=[]) (l2:=s) (l':=s) (vy:=aa) T61 rfl H rfl rfl rfl ac (ag.at H) (List.nil_append _) (by first | omega | (simp only [List.length_nil] at *; omega)) ?_;intro ah ao H;replace H:=H.nf;refine kg 2 ?_;refine W.ret ?_
 have ai:=M.e_pure hM
 exact ⟨_,resE_tmp rfl,⟨s,ah,ai,rfl,H⟩⟩

end Go.Proofs.YtdmdhmineljlhaaGreat
end
namespace Go.Proofs
open Go.Shelf
def Tryz.layMul_ren:Go.Shelf.Ren:=⟨fun | 212=>113 | 263=>122 | 264=>123 | n=>n,fun | 46=>151 | 51=>166 | 146=>182 | 53=>168 | 148=>184 | n=>n,fun | n=>n⟩
theorem Tryz.layMul:Go.Proofs.Lays.n212 Tryz.prog Tryz.layMul_ren:={
  mixed:=by kernel_rfl
  f212:=Tryz.func113.trans (congrArg some (by kernel_rfl))
  f263:=Tryz.func122.trans (congrArg some (by kernel_rfl))
  f264:=Tryz.func123.trans (congrArg some (by kernel_rfl))
  t46:=Tryz.underlying151
  a46:=Tryz.isAgg151
  z46:=Tryz.sizeOf151
  v46:=Tryz.zeroValue151
  t51:=Tryz.underlying166
  a51:=Tryz.isAgg166
  z51:=Tryz.sizeOf166
  v51:=Tryz.zeroValue166
  t53:=Tryz.underlying168
  a53:=Tryz.isAgg168
  z53:=Tryz.sizeOf168
  v53:=Tryz.zeroValue168
  t146:=Tryz.underlying182
  a146:=Tryz.isAgg182
  z146:=Tryz.sizeOf182
  v146:=Tryz.zeroValue182
  t148:=Tryz.underlying184
  a148:=Tryz.isAgg184
  z148:=Tryz.sizeOf184
  v148:=Tryz.zeroValue184 }
end Go.Proofs
namespace Go.Proofs.YtdmdhmineljlhaaGreat
open Go Go.Nm Go.Proofs
theorem mul_any {n:Int} (h0:0<=n) (h1:n<=9223372036854775807) (w:World):Ret Tryz.prog 113 #[.int .u64 1,.int .u64 n] w fun v w'=>v = .tuple #[.int .u64 0,.int .u64 n]/\Ext w w':=by
  have h:=Any.bits_Mul Tryz.layMul 1 n.toNat (by omega) (by omega) w
  have e:((n.toNat:Nat):Int)=n:=Int.toNat_of_nonneg h0
  rw [Nat.one_mul,Nat.div_eq_of_lt (by omega),Nat.mod_eq_of_lt (by omega),e] at h
  refine Calls.mono h ?_
  rintro _ w' ⟨rfl,rfl⟩
  exact ⟨_,rfl,rfl,Ext.refl w'⟩
end Go.Proofs.YtdmdhmineljlhaaGreat
namespace Go.Nm
open Go
theorem fm_take {α:Type} [Flat α]:∀ (l:List α) (n:Nat),(l.flatMap Flat.enc:List Value).take (n*Elt.sz α)=(l.take n).flatMap Flat.enc
  | [],n=>by simp
  | x :: l,0=>by simp
  | x :: l,n+1=>by
    have hx:(Flat.enc x:List Value).length=Elt.sz α:=Flat.enc_len x
    rw [List.flatMap_cons,List.take_append,List.take_of_length_le (by rw [hx,Nat.succ_mul]; omega),hx,show (n+1)*Elt.sz α-Elt.sz α=n*Elt.sz α by rw [Nat.succ_mul]; omega,fm_take l n]
    rfl
theorem fm_drop {α:Type} [Flat α]:∀ (l:List α) (n:Nat),(l.flatMap Flat.enc:List Value).drop (n*Elt.sz α)=(l.drop n).flatMap Flat.enc
  | [],n=>by simp
  | x :: l,0=>by simp
  | x :: l,n+1=>by
    have hx:(Flat.enc x:List Value).length=Elt.sz α:=Flat.enc_len x
    rw [List.flatMap_cons,List.drop_append,List.drop_eq_nil_of_le (by rw [hx,Nat.succ_mul]; omega),hx,show (n+1)*Elt.sz α-Elt.sz α=n*Elt.sz α by rw [Nat.succ_mul]; omega,fm_drop l n]
    rfl
theorem run_copy_rowS {P:Program} (w:World) (dT sT ty elem:TypeId) (g o dLen dCap:Nat) (a:Addr) (sLen sCap:Nat) (cur:Array Value) (t:TypeId) (cs:List Value) (s:Nat)
    (hu:P.underlying dT=some (.slice elem)) (hs:(P.info? elem).map (·.size)=some s)
    (hg:w.heap[g]?=some (.cells cur t (0,0))) (hn:cs.length=Nat.min sLen dLen*s)
    (hsrc:∀ j v,cs[j]?=some v->w.cell? (a.add j)=some v) (hfit:o+cs.length<=cur.size) (h1:∀ v∈cs,v.oneCell'=true) :
    (Builtin.copy_ #[dT,sT] ty #[.slice (some ⟨g,o,none⟩) dLen dCap,.slice (some a) sLen sCap]).run P w =
      .ok (goInt (Nat.min sLen dLen)) (w.setRow g (cur.toList.take o++cs++cur.toList.drop (o+cs.length)).toArray):=by
  have hl:=run_loadCells_list (P:=P) w a cs hsrc
  have hst:=run_storeCells_at P g o t cs 0 cur w hg (by simpa using hfit) h1
  cases hq:P.info? elem with
  | none=>simp [hq] at hs
  | some i =>
    have hi:i.size=s:=by simpa [hq] using hs
    subst hi
    rw [hn] at hl
    simp [Builtin.copy_,run_underlying hu,Builtin.lenOf,Builtin.firstCells,sizeOf,typeInfo,hq,hl,hst]
section
variable {P:Program} {w:World} {α:Type} [Flat α]
theorem run_copyF {t ty e by':Nat} {z:Value} (T:SlT P t e (Elt.sz α) by' z) {B:Nat} {v vy:Value} {l l2:List α} (ho:OwnF B e w v l) {o:Nat} (h1:o<l.length) {C:Cells} (hs:Sl C vy l2) (hle:C.Le w.cell?) (h2:0<l2.length) :
    ∃ w',(Builtin.copy_ #[t,t] ty #[sufV (Elt.sz α) v o,vy]).run P w = .ok (I (min l2.length (l.length-o):Nat)) w'/\OwnF B e w' v (l.take o++l2.take (l.length-o)++l.drop (o+min l2.length (l.length-o)))/\Grow B v w w':=by
  obtain ⟨a,c,hvy,hc2,hm2,hh⟩:=hs.ex
  obtain ⟨b,o2,cs0,ha,_,_⟩:=hh 0 l2[0] (by simp)
  subst ha
  have ho':=ho
  unfold OwnF World.ownsRow at ho
  rcases ho.2 with ⟨_,hn⟩ | ⟨g,cap,cur,hv,hb,hg,hc,hm,hcs,htake⟩
  · omega
  · have hsz:(P.info? e).map (·.size)=some (Elt.sz α):=T.size
    have hd:sufV (Elt.sz α) v o = .slice (some ⟨g,o*Elt.sz α,none⟩) (l.length-o) (cap-o):=by
      rw [hv]
      simp only [sufV]
      rw [if_neg (by omega)]
      simp [add_lit]
    have hlen2:((l2.take (l.length-o)).flatMap Flat.enc:List Value).length=Nat.min l2.length (l.length-o)*Elt.sz α:=by
      rw [flat_len,List.length_take,Nat.min_comm]
    have hcur:cur.toList.length=cap*Elt.sz α:=by rw [Array.length_toList,hcs]
    have hmin:Nat.min l2.length (l.length-o)<=l.length-o:=Nat.min_le_right _ _
    have hAB:o*Elt.sz α+Nat.min l2.length (l.length-o)*Elt.sz α<=l.length*Elt.sz α:=by rw [← Nat.add_mul]; exact Nat.mul_le_mul_right _ (by omega)
    have hNc:l.length*Elt.sz α<=cap*Elt.sz α:=Nat.mul_le_mul_right _ hc
    have hr:=run_copy_rowS (P:=P) w t t ty e g (o*Elt.sz α) (l.length-o) (cap-o) ⟨b,o2,none⟩ l2.length c cur e ((l2.take (l.length-o)).flatMap Flat.enc) (Elt.sz α) T.und hsz hg hlen2 (by
        intro j u hj
        obtain ⟨k,x,j',hk,hj',rfl⟩:=flat_inv _ _ _ hj
        rw [List.getElem?_take] at hk
        split at hk
        · obtain ⟨b',o',cs,hab,hrep,hy⟩:=hh k x hk
          simp only [Option.some.injEq,Addr.mk.injEq,and_true] at hab
          obtain ⟨rfl,rfl⟩:=hab
          have hcs:=Flat.rep_iff.1 hrep
          subst hcs
          rw [add_lit,← Nat.add_assoc]
          exact hle _ _ (hy j' u hj')
        · cases hk) (by rw [hlen2,← Array.length_toList,hcur]; omega) (flat_one _)
    rw [← hvy,← hd] at hr
    refine ⟨_,hr,?_,?_⟩
    · have hlen:(l.take o++l2.take (l.length-o)++l.drop (o+min l2.length (l.length-o))).length=l.length:=by simp; omega
      unfold OwnF World.ownsRow
      rw [hlen]
      have e1:cur.toList.take (o*Elt.sz α)=(l.take o).flatMap Flat.enc:=by
        rw [← fm_take,← htake,List.take_take,Nat.min_eq_left (by omega)]
      have e2:(cur.toList.drop (o*Elt.sz α+Nat.min l2.length (l.length-o)*Elt.sz α)).take (l.length*Elt.sz α-(o*Elt.sz α+Nat.min l2.length (l.length-o)*Elt.sz α))=(l.drop (o+min l2.length (l.length-o))).flatMap Flat.enc:=by
        rw [← List.drop_take,htake,← Nat.add_mul,fm_drop]
      refine ⟨by rw [flat_len,hlen],.inr ⟨g,cap,_,hv,hb,setRow_heap w g cur _ e (0,0) hg,hc,hm,?_,?_⟩⟩
      · simp only [List.size_toArray,List.length_append,List.length_take,List.length_drop,hlen2,hcur]
        omega
      · rw [List.flatMap_append,List.flatMap_append,← e1,← e2,hlen2]
        show List.take (l.length*Elt.sz α) (_++_++_)=_
        rw [List.append_assoc,List.take_append,List.take_append,List.length_take,hcur,hlen2]
        rw [Nat.min_eq_left (show o*Elt.sz α<=cap*Elt.sz α by omega)]
        rw [List.take_take,Nat.min_eq_right (show o*Elt.sz α<=l.length*Elt.sz α by omega)]
        rw [List.take_of_length_le (l:=(l2.take (l.length-o)).flatMap Flat.enc) (by rw [hlen2]; omega)]
        rw [Nat.sub_sub,List.append_assoc]
    · refine ⟨rfl,rfl,by simp,fun k _ hk=>?_,fun g' hg'=>(ho'.lt g' hg').1,frozen_setRow _ _ _⟩
      apply setRow_other
      intro e'
      apply hk
      rw [hv,e']
      rfl
variable {all rest:List Oper} {Q:Post} {σ:Env} {d:Nat} {ty:TypeId} {pos:String} {af:Array Edge} {g:Option (Nat × Bool)}
theorem s_copyF {t e by':Nat} {z:Value} {x y:Operand} (T:SlT P t e (Elt.sz α) by' z) {B:Nat} {v vy:Value} {l l2:List α} {o:Nat} {C:Cells} (hx:ev σ x=sufV (Elt.sz α) v o) (hy:ev σ y=vy)
    (ho:OwnF B e w v l) (h1:o<l.length) (hs:Sl C vy l2) (hle:C.Le w.cell?) (h2:0<l2.length)
    (k:∀ w',OwnF B e w' v (l.take o++l2.take (l.length-o)++l.drop (o+min l2.length (l.length-o)))->Grow B v w w'->SL P all Q rest (upd σ d (I (min l2.length (l.length-o):Nat))) w') :
    SL P all Q (⟨some d,.call ⟨.builtin .copy,#[x,y],#[t,t]⟩,ty,pos,af,none⟩ :: rest) σ w:=by
  obtain ⟨w',hr,ho',hg⟩:=run_copyF (ty:=ty) T ho h1 hs hle h2
  refine s_any (v:=I (min l2.length (l.length-o):Nat)) (w':=w') ?_ (k w' ho' hg)
  simp [execOp,resolve,invoke,builtin,hx,hy,hr]
end
end Go.Nm
namespace Go.Nm
open Go
theorem repS_step {l:List Span} {x:Span} {k z:Nat} (h:∀ y∈l.take k,y=x) (hk:k<=l.length) :
    ∀ y∈(l.take (Int.toNat k)++(l.take k).take (l.length-Int.toNat k)++l.drop z).take (k+min (l.take k).length (l.length-Int.toNat k)),y=x:=by
  intro y hy
  rw [List.take_append_of_le_length (by simp; omega)] at hy
  have hy:=List.mem_of_mem_take hy
  rw [show Int.toNat (k:Int)=k from by omega] at hy
  rcases List.mem_append.1 hy with h1 | h1
  · exact h y h1
  · exact h y (List.mem_of_mem_take h1)
theorem repS_done {l:List Span} {x:Span} {n k:Nat} (hl:l.length=n) (h:∀ y∈l.take k,y=x) (hk:n<=k):l=List.replicate n x:=by
  rw [List.take_of_length_le (by omega)] at h
  exact List.eq_replicate_iff.2 ⟨hl,h⟩
theorem repS_init {n:Nat} (x:Span) (h:1<=n):(List.replicate n (⟨0,0⟩:Span)).take 0++[x].take ((List.replicate n (⟨0,0⟩:Span)).length-0)++(List.replicate n (⟨0,0⟩:Span)).drop (0+min [x].length ((List.replicate n (⟨0,0⟩:Span)).length-0))=[x]++List.replicate (n-1) (⟨0,0⟩:Span):=by
  obtain ⟨m,rfl⟩:∃ m,n=m+1:=⟨n-1,by omega⟩
  simp [show min 1 (m+1)=1 from by omega]
end Go.Nm
namespace Go.Proofs.YtdmdhmineljlhaaGreat
open Go Go.Nm
theorem cf113:CF Tryz.prog 113:=⟨_,Tryz.func113,rfl,by decide +kernel⟩
theorem cf92:CF Tryz.prog 92:=⟨_,Tryz.func92,rfl,by decide +kernel⟩
set_option maxRecDepth 100000 in
theorem repeat_span {vx:Value} {x:Span} {n:Int} (w:World) (hx:Sl w.cell? vx [x]) (h1:1<=n) (h2:n<=1000):Ret Tryz.prog 92 #[vx,I n] w fun v w'=>OwnF w.heap.size 31 w' v (List.replicate (Int.toNat n) x)/\Ext w w':=by
 refine ret_of_W Tryz.func92 rfl rfl rfl ?_
 have E:=Ext.refl w
 have K1:=KF.refl 0 w
 have hl_hx:=hx.len_le
 have hx:=hx.par
 refine W.seq ?_
 refine W.region rfl ?_
 refine s_val (x_as (v:=.slice none 0 0) rfl) ?_
 refine s_nil ?_
 refine W.seq ?_
 refine W.seq ?_
 refine W.region rfl ?_
 refine s_val (x_mv (v:=I n) rfl) ?_
 refine s_val (x_cmp (kd:=.i64) (a:=n) (b:=0) (r:=decide ((n:Int)<0)) rfl rfl rfl) ?_
 refine s_nil ?_
 refine W.cond (decide ((n:Int)<0)) rfl (fun c2=>?_) (fun c2=>?_)
 ·simp only [decide_eq_true_eq,decide_eq_false_iff_not,beq_iff_eq,bne_iff_ne,beq_eq_false_iff_ne,bne_eq_false_iff_eq,ne_eq,Decidable.not_not] at c2
  exfalso; omega
 ·simp only [decide_eq_true_eq,decide_eq_false_iff_not,beq_iff_eq,bne_iff_ne,beq_eq_false_iff_ne,bne_eq_false_iff_eq,ne_eq,Decidable.not_not] at c2
  refine W.skip ?_
  refine W.seq ?_
  refine W.region rfl ?_
  refine s_val (x_mv (v:=vx) rfl) ?_
  refine s_val (x_lenS T61.und rfl (hx.to K1)) ?_
  refine s_val (x_convU (kd:=.i64) (a:=([x]).length) Tryz.underlying3 Tryz.underlying151 rfl (by omega)) ?_
  refine s_val (x_mv (v:=I n) rfl) ?_
  refine s_val (x_convU (kd:=.i64) (a:=n) Tryz.underlying3 Tryz.underlying151 rfl (by omega)) ?_
  refine s_call cf113 [.int .u64 (([x]).length),.int .u64 n] rfl (mul_any (by omega) (by omega) _) ?_
  rintro _ w3 ⟨rfl,x4⟩
  replace E:=E.trans x4
  replace K1:=K1.ext x4
  clear x4
  refine s_val (x_mv (v:=.tuple #[.int .u64 0,.int .u64 n]) rfl) ?_
  refine s_val (x_ext (vs:=[.int .u64 0,.int .u64 n]) (v:=.int .u64 0) rfl rfl) ?_
  refine s_val (x_ext (vs:=[.int .u64 0,.int .u64 n]) (v:=.int .u64 n) rfl rfl) ?_
  refine s_val (x_as (v:=.int .u64 0) rfl) ?_
  refine s_val (x_as (v:=.int .u64 n) rfl) ?_
  refine s_nil ?_
  refine W.seq ?_
  refine W.seq ?_
  refine W.region rfl ?_
  refine s_val (x_mv (v:=.int .u64 0) rfl) ?_
  refine s_val (x_cmp (kd:=.u64) (a:=0) (b:=0) (r:=decide ((0:Int)<0)) rfl rfl rfl) ?_
  refine s_val (x_mv (v:=B (decide ((0:Int)<0))) rfl) ?_
  refine g_val (!(decide ((0:Int)<0))) (gy_f rfl) (fun hg=>x_mv (v:=.int .u64 n) rfl) ?_
  refine g_val (!(decide ((0:Int)<0))) (gy_f rfl) (fun hg=>x_cmp (kd:=.u64) (a:=n) (b:=9223372036854775807) (r:=decide ((9223372036854775807:Int)<n)) (gd_of (c:=!(decide ((0:Int)<0))) hg (.int .u64 n)) rfl rfl) ?_
  refine s_val (x_por (b:=decide ((0:Int)<0)) (r:=decide ((9223372036854775807:Int)<n)) rfl rfl (fun hb=>gd_of (c:=!(decide ((0:Int)<0))) (by simp_all) (B (decide ((9223372036854775807:Int)<n))))) ?_
  refine s_nil ?_
  refine W.cond (((decide ((0:Int)<0))||(decide ((9223372036854775807:Int)<n)))) rfl (fun c5=>?_) (fun c5=>?_)
  ·skip
   exfalso; simp at c5; omega
  ·skip
   refine W.skip ?_
   refine W.seq ?_
   refine W.region rfl ?_
   refine s_val (x_mv (v:=.int .u64 n) rfl) ?_
   refine s_val (x_conv64 (kd:=.u64) (a:=n) Tryz.underlying151 Tryz.underlying3 rfl (by omega)) ?_
   refine s_mk (α:=Span) T61 ⟨0,0⟩ rfl (n:=n) rfl rfl (by omega) (by omega) (by omega) ?_
   intro v6 w7 ho8 x9
   have z10:=Nat.le_refl w3.heap.size
   have B_v6:=E.size
   have B_v6_K1:=K1.size
   replace E:=E.trans x9
   replace z10:=Nat.le_trans z10 x9.size
   replace K1:=K1.ext x9
   refine s_val (x_as (v:=v6) rfl) ?_
   refine s_nil ?_
   refine W.seq ?_
   refine W.region rfl ?_
   refine s_val (x_mv (v:=v6) rfl) ?_
   refine s_val (x_mv (v:=vx) rfl) ?_
   refine s_copyF (v:=v6) (l:=List.replicate (Int.toNat n) (⟨0,0⟩:Span)) (l2:=[x]) (o:=0) (vy:=vx) T61 ((sufV_zero ho8 2).symm) rfl ho8 (by first | omega | (simp; done) | (simp; omega)) (hx.to K1) (Cells.Le.refl _) (by first | omega | (simp; done) | (simp; omega)) ?_
   intro w11 ho13 g12
   replace E:=E.grow g12 (by omega)
   replace z10:=Nat.le_trans z10 g12.size
   replace K1:=K1.grow g12 (by omega)
   replace ho8:=ho13
   clear g12
   refine s_val (x_as (v:=I ((min ([x]).length ((List.replicate (Int.toNat n) (⟨0,0⟩:Span)).length-0):Nat))) rfl) ?_
   refine s_nil ?_
   refine W.seq ?_
   refine W.block ?_
   refine W.loop (fun m σ W=>∃ (k:Nat) (l:List Span) (vo:Value) (ρ:Env),σ=upds ρ [(7,vo),(8,I k)]/\m=Int.toNat n-k/\Ext w W/\w3.heap.size<=W.heap.size/\OwnF w3.heap.size 31 W vo l/\l.length=Int.toNat n/\1<=k/\k<=Int.toNat n/\(∀ y∈l.take k,y=x)) ?_ ?_
   ·exact ⟨_,1,([x]++List.replicate (Int.toNat n-1) (⟨0,0⟩:Span)),v6,_,upds_of _ _ ⟨rfl,(eqI (by simp; omega)),trivial⟩,rfl,E,z10,(by have hq:=ho8; rw [repS_init (n:=Int.toNat n) x (by omega)] at hq; exact hq),(by simp; omega),(Nat.le_refl _),(by omega),(by simp)⟩
   ·rintro m σ w14 ⟨k,l,vo,ρ,rfl,rfl,E,z10,ho_vo,iv0_0,iv0_1,iv0_2,iv0_3⟩
    refine W.seq ?_
    refine W.seq ?_
    refine W.region rfl ?_
    refine s_val (x_mv (v:=I k) rfl) ?_
    refine s_val (x_mv (v:=vo) rfl) ?_
    refine s_val (x_lenS T61.und rfl (ho_vo.sl.mono (frm_le _ _))) ?_
    refine s_val (x_cmp (kd:=.i64) (a:=k) (b:=l.length) (r:=decide ((k:Int)<l.length)) rfl rfl rfl) ?_
    refine s_nil ?_
    refine W.cond (decide ((k:Int)<l.length)) rfl (fun c15=>?_) (fun c15=>?_)
    ·simp only [decide_eq_true_eq,decide_eq_false_iff_not,beq_iff_eq,bne_iff_ne,beq_eq_false_iff_ne,bne_eq_false_iff_eq,ne_eq,Decidable.not_not] at c15
     refine W.skip ?_
     refine W.block ?_
     refine W.draw (fun W=>Ext w W) [(0,true),(1,true),(2,true),(3,true),(4,true),(5,true),(6,true),(7,false),(8,true),(9,true)] mixed (by decide +kernel) rfl ?_
     intro w16 x17
     replace E:=E.trans x17
     replace z10:=Nat.le_trans z10 x17.size
     replace ho_vo:=ho_vo.ext x17
     clear x17
     refine ⟨E,?_⟩
     refine d_q rfl (fun w' hC=>by have E:=hC; exact x_mv (v:=I k) rfl) ?_
     refine d_q rfl (fun w' hC=>by have E:=hC; exact x_mv (v:=vo) rfl) ?_
     refine d_q rfl (fun w' hC=>by have E:=hC; exact x_mv (v:=I k) rfl) ?_
     refine d_q rfl (fun w' hC=>by have E:=hC; exact x_sl (v:=vo) (u:=sufV 2 vo (Int.toNat k)) (lo':=some (I k)) (hi':=none) (mx':=none) rfl rfl rfl rfl (OwnF.suf (i:=k) T61.und T61.size ho_vo (by omega) (by omega) _)) ?_
     refine d_q rfl (fun w' hC=>by have E:=hC; exact x_mv (v:=vo) rfl) ?_
     refine d_q rfl (fun w' hC=>by have E:=hC; exact x_mv (v:=I k) rfl) ?_
     obtain ⟨u18,hr_u18,hs19⟩:=sl_hi T61.und T61.size ho_vo.sl (j:=k) (by omega) (by omega)
     replace hs19:=hs19.mono (frm_le _ _)
     replace hs19:Sl _ u18 (l.take k):=hs19
     refine d_q rfl (fun w' hC=>by have E:=hC; exact x_sl (v:=vo) (u:=u18) (lo':=none) (hi':=some (I k)) (mx':=none) rfl rfl rfl rfl (hr_u18 _)) ?_
     refine d_l rfl ?_
     refine s_copyF (v:=vo) (l:=l) (l2:=l.take k) (o:=(Int.toNat k)) (vy:=u18) T61 rfl rfl ho_vo (by first | omega | (simp; done) | (simp; omega)) hs19 (Cells.Le.refl _) (by first | omega | (simp; done) | (simp; omega)) ?_
     intro w20 ho22 g21
     replace E:=E.grow g21 (by omega)
     replace z10:=Nat.le_trans z10 g21.size
     replace ho_vo:=ho22
     clear g21
     refine s_nil ⟨E,?_⟩
     refine d_q rfl (fun w' hC=>by have E:=hC; exact x_ari (a:=k) (b:=(min (l.take k).length ((l).length-(Int.toNat k)):Nat)) (r:=k+((min (l.take k).length ((l).length-(Int.toNat k)):Nat))) rfl rfl rfl (by omega)) ?_
     refine d_q rfl (fun w' hC=>by have E:=hC; exact x_as (v:=I (k+((min (l.take k).length ((l).length-(Int.toNat k)):Nat)))) rfl) ?_
     refine d_nil ?_
     have hmk:(l.take k).length=k:=by simp; omega
     exact ⟨_,(by omega),(k+min (l.take k).length (l.length-Int.toNat k)),_,vo,_,upds_of _ _ ⟨rfl,(eqI (by omega)),trivial⟩,rfl,E,z10,(by first | exact ho_vo | simpa using ho_vo),(by simp only [List.length_append,List.length_take,List.length_drop]; omega),(by omega),(by omega),(repS_step iv0_3 (by omega))⟩
    ·simp only [decide_eq_true_eq,decide_eq_false_iff_not,beq_iff_eq,bne_iff_ne,beq_eq_false_iff_ne,bne_eq_false_iff_eq,ne_eq,Decidable.not_not] at c15
     refine W.exit ?_
     refine W.seq ?_
     refine W.region rfl ?_
     refine s_val (x_mv (v:=vo) rfl) ?_
     refine s_val (x_as (v:=vo) rfl) ?_
     refine s_nil ?_
     refine W.ret ?_
     exact ⟨_,resE_tmp rfl,((repS_done iv0_0 iv0_3 (by omega)) ▸ ho_vo.dn (by omega)),E⟩

end Go.Proofs.YtdmdhmineljlhaaGreat
namespace Go.Nm
open Go
/-- The times that a note tells. -/
def CNt.time (n:CNt):Span:=⟨n.tlo,n.thi⟩
/-- The times of all marks, by notes. -/
def notedE (k:Nat) (m:List (Int × CNt)):List Span:=(List.range k).map fun i:Nat=>match lookM m (i:Int) with
  | some n=>n.time
  | none=>⟨-100000000,100000000⟩
theorem lookM_at {κ ν:Type} [DecidableEq κ]:∀ {m:List (κ × ν)} {q:Nat} {k:κ} {v:ν},(m.map Prod.fst).Nodup->m[q]?=some (k,v)->lookM m k=some v
  | [],q,k,v,_,h=>by simp at h
  | p :: m,q,k,v,hn,h=>by
    rw [List.map_cons,List.nodup_cons] at hn
    unfold lookM
    cases q with
    | zero =>
      simp only [List.getElem?_cons_zero,Option.some.injEq] at h
      rw [if_pos (by rw [h]),h]
    | succ q =>
      simp only [List.getElem?_cons_succ] at h
      rw [if_neg (fun e=>hn.1 (by rw [e]; exact List.mem_map.2 ⟨_,List.mem_of_getElem? h,rfl⟩))]
      exact lookM_at hn.2 h
theorem lookM_of {κ ν:Type} [DecidableEq κ]:∀ {m:List (κ × ν)} {k:κ} {v:ν},lookM m k=some v->∃ q:Nat,m[q]?=some (k,v)
  | [],k,v,h=>by simp [lookM] at h
  | p :: m,k,v,h=>by
    unfold lookM at h
    split at h
    · rename_i e
      injection h with h
      exact ⟨0,by rw [← e,← h]; rfl⟩
    · obtain ⟨q,hq⟩:=lookM_of h
      exact ⟨q+1,by simpa using hq⟩
/-- What has been told so far. -/
structure NtI (k:Nat) (m:List (Int × CNt)) (left:List Bool) (l:List Span):Prop where
  len:l.length=k
  lf:left.length=m.length
  told:∀ (q:Nat) key v,m[q]?=some (key,v)->left.getD q false=false->l.getD (Int.toNat key) default=v.time
  rest:∀ i,i<k->(∀ (q:Nat) v,m[q]?=some ((i:Int),v)->left.getD q false=true)->l.getD i default=⟨-100000000,100000000⟩
theorem NtI.zero (k:Nat) (m:List (Int × CNt)):NtI k m (List.replicate m.length true) (List.replicate k ⟨-100000000,100000000⟩):=by
  refine ⟨by simp,by simp,fun q key v hq hf=>?_,fun i hi _=>?_⟩
  · have hl:q<m.length:=(List.getElem?_eq_some_iff.1 hq).1
    rw [List.getD_eq_getElem?_getD,List.getElem?_replicate,if_pos hl] at hf
    simp at hf
  · rw [List.getD_eq_getElem?_getD,List.getElem?_replicate,if_pos hi]
    rfl
theorem NtI.step {k:Nat} {m:List (Int × CNt)} {left:List Bool} {l:List Span} (h:NtI k m left l) (hn:(m.map Prod.fst).Nodup) {j:Nat} {key:Int} {v:CNt} (hj:m[j]?=some (key,v)) (hr:∀ (q:Nat) key v,m[q]?=some (key,v)->0<=key/\key<(k:Int)) :
    NtI k m (left.set j false) (l.set (Int.toNat key) v.time):=by
  have hlen:=h.len
  have hlf:=h.lf
  have hjl:j<m.length:=(List.getElem?_eq_some_iff.1 hj).1
  have rj:=hr _ _ _ hj
  refine ⟨by simp [hlen],by simp [hlf],fun q key' v' hq hf=>?_,fun i hi hall=>?_⟩
  · by_cases e:j=q
    · subst e
      rw [hj] at hq
      injection hq with hq
      injection hq with e1 e2
      subst e1 e2
      rw [List.getD_eq_getElem?_getD,List.getElem?_set_self (by omega)]
      rfl
    · rw [List.getD_eq_getElem?_getD,List.getElem?_set_ne e,← List.getD_eq_getElem?_getD] at hf
      have hk:key ≠ key':=fun e2=>by
        subst e2
        have a1:=idxM_at hn hj
        have a2:=idxM_at hn hq
        rw [a1] at a2
        injection a2 with a2
        exact e a2
      have:=h.told q key' v' hq hf
      have r1:=hr _ _ _ hj
      have r2:=hr _ _ _ hq
      have e3:Int.toNat key ≠ Int.toNat key':=fun e3=>hk (by omega)
      rw [List.getD_eq_getElem?_getD,List.getElem?_set_ne e3,← List.getD_eq_getElem?_getD]
      exact this
  · have r1:=hr _ _ _ hj
    have hne:Int.toNat key ≠ i:=fun e=>by
      have:=hall j v (by rw [hj,show ((i:Nat):Int)=key by omega])
      rw [List.getD_eq_getElem?_getD,List.getElem?_set_self (by omega)] at this
      simp at this
    rw [List.getD_eq_getElem?_getD,List.getElem?_set_ne hne,← List.getD_eq_getElem?_getD]
    refine h.rest i hi fun q v' hq=>?_
    have:=hall q v' hq
    by_cases e:j=q
    · subst e
      rw [List.getD_eq_getElem?_getD,List.getElem?_set_self (by omega)] at this
      simp at this
    · rw [List.getD_eq_getElem?_getD,List.getElem?_set_ne e,← List.getD_eq_getElem?_getD] at this
      exact this
theorem NtI.done {k:Nat} {m:List (Int × CNt)} {left:List Bool} {l:List Span} (h:NtI k m left l) (hn:(m.map Prod.fst).Nodup) (h0:∀ j,left.getD j false=false):l=notedE k m:=by
  apply List.ext_getElem?
  intro i
  by_cases hi:i<k
  · have hl:l[i]?=some (l.getD i default):=by rw [List.getD_eq_getElem?_getD,List.getElem?_eq_getElem (by rw [h.len]; exact hi)]; rfl
    rw [hl]
    unfold notedE
    rw [List.getElem?_map,List.getElem?_range hi]
    simp only [Option.map_some]
    congr 1
    cases hm:lookM m (i:Int) with
    | none =>
      refine h.rest i hi fun q v hq=>?_
      rw [lookM_at hn hq] at hm
      cases hm
    | some v =>
      obtain ⟨q,hq⟩:=lookM_of hm
      have:=h.told q i v hq (h0 q)
      simpa using this
  · rw [List.getElem?_eq_none (by rw [h.len]; omega),List.getElem?_eq_none (by unfold notedE; simp; omega)]
end Go.Nm
namespace Go.Nm
theorem cnt_set:∀ (l:List Bool) (j:Nat),l.getD j false=true->(l.set j false).countP id<l.countP id
  | [],j,h=>by simp at h
  | b :: l,0,h=>by
    have h:b=true:=by simpa using h
    subst h
    simp
  | b :: l,j+1,h=>by
    have:=cnt_set l j (by simpa using h)
    simp only [List.set_cons_succ,List.countP_cons]
    omega
end Go.Nm
namespace Go.Proofs.YtdmdhmineljlhaaGreat
open Go Go.Nm
def zbM (w__Chart_Pace_Lo:Int) (w__Chart_Pace_Hi:Int) (w__Chart_Base:Int) (w__Chart_Scale:Int) (w__Chart_Off:Int) (w__Chart_Marks:List CMk) (w__Chart_Notes:List CNt) (w__notes:List (Int × CNt)):M (List Span) :=
  M.grd (decide (1<=(w__Chart_Marks.length:Int))&&decide ((w__Chart_Marks.length:Int)<=1000)) <|
  M.grd (w__notes.all fun p=>decide (0<=p.1)&&decide (p.1<(w__Chart_Marks.length:Int))) <|
  M.pure (notedE w__Chart_Marks.length w__notes)
set_option maxRecDepth 100000 in
theorem zdL {R:List Chunk} {b_w_:Nat} {C_w__Chart_Marks:Cells} {v_w__Chart_Marks:Value} {C_w__Chart_Notes:Cells} {v_w__Chart_Notes:Value} {b_w__notes:Nat} (w__Chart_Pace_Lo:Int) (w__Chart_Pace_Hi:Int) (w__Chart_Base:Int) (w__Chart_Scale:Int) (w__Chart_Off:Int) (w__Chart_Marks:List CMk) (w__Chart_Notes:List CNt) (w__notes:List (Int × CNt)) (hC_w__Chart_Marks:Reads R C_w__Chart_Marks) (hs_w__Chart_Marks:Sl C_w__Chart_Marks v_w__Chart_Marks w__Chart_Marks) (hC_w__Chart_Notes:Reads R C_w__Chart_Notes) (hs_w__Chart_Notes:Sl C_w__Chart_Notes v_w__Chart_Notes w__Chart_Notes) (h_b_w__notes:Has R (cMl I encCN b_w__notes w__notes)) (h_b_w_:Fld R b_w_ [I w__Chart_Pace_Lo,I w__Chart_Pace_Hi,I w__Chart_Base,I w__Chart_Scale,I w__Chart_Off,v_w__Chart_Marks,v_w__Chart_Notes,.map (some b_w__notes)]) {r:(List Span)} (hM:(zbM w__Chart_Pace_Lo w__Chart_Pace_Hi w__Chart_Base w__Chart_Scale w__Chart_Off w__Chart_Marks w__Chart_Notes w__notes).Ends r) (w:World) (H:St w w [] R):Ret Tryz.prog 74 #[.pointer (some ⟨b_w_,0,none⟩)] w fun v w'=>∃ (y0:List Span) (u0:Value),y0=r/\v=u0/\St w w' [cOwn (α:=Span) 31 u0 y0] R:=by
 obtain ⟨sd1,hM⟩:=M.e_grd hM
 obtain ⟨sd2,hM⟩:=M.e_grd hM
 have hr_:=M.e_pure hM
 simp only [Bool.and_eq_true,decide_eq_true_eq] at sd1
 have hkr:∀ (q:Nat) key v,w__notes[q]?=some (key,v)->0<=key/\key<(w__Chart_Marks.length:Int):=fun q key v hq=>by
  have:=List.all_eq_true.1 sd2 _ (List.mem_of_getElem? hq)
  simpa using this
 obtain ⟨es,n,hmp,hnd,hE⟩:=h_b_w__notes.map H.sep
 replace H:=H.pin
 have hf:=h_b_w_.pin (w:=w)
 refine Ret.mono (R:=fun v w'=>∃ (y0:List Span) (u0:Value),y0=r/\v=u0/\St w w' [cOwn (α:=Span) 31 u0 y0] (R.map (pin w))) ?_ (fun v w' ⟨y,u,h1,h2,h3⟩=>⟨y,u,h1,h2,h3.unpin⟩)
 refine ret_of_W Tryz.func74 rfl rfl rfl ?_
 refine W.seq ?_
 refine W.region rfl ?_
 refine s_val (x_as (v:=.slice none 0 0) rfl) ?_
 refine s_nil ?_
 refine W.seq ?_
 refine W.region rfl ?_
 refine s_val (x_bld (ps:=[(0,I (-100000000)),(1,I 100000000)]) (zs:=[I 0,I 0]) (L':=[I (-100000000),I 100000000]) rfl Tryz.underlying31 Al31 rfl (Bd31 Tryz.underlying31) (.cons (cs:=[I (-100000000)]) rfl rfl rfl rfl rfl<|.cons (cs:=[I 100000000]) rfl rfl rfl rfl rfl<|.nil)) ?_
 refine t_bs (α:=Span) T61 [.agg #[I (-100000000),I 100000000]] [(⟨-100000000,100000000⟩:Span)] H rfl (.cons rfl (Flat.rep_enc _ (⟨-100000000,100000000⟩:Span))<|.nil) rfl rfl rfl ?_
 intro v1 w1 H
 refine s_val (x_mv (v:=.pointer (some ⟨b_w_,0,none⟩)) rfl) ?_
 refine s_val (x_nc (a:=⟨b_w_,0,none⟩) rfl) ?_
 refine s_val (x_fa (a:=.pointer (some ⟨b_w_,0,none⟩)) (v:=.pointer (some ⟨b_w_,0,none⟩)) rfl (fa_blk (o:=0) Fd143_0 Sz35)) ?_
 refine s_val (x_fa (a:=.pointer (some ⟨b_w_,0,none⟩)) (v:=.pointer (some ⟨b_w_,5,none⟩)) rfl (fa_blk (o:=0) Fd35_4 Sz32)) ?_
 refine s_val (x_ld (p:=.pointer (some ⟨b_w_,5,none⟩)) (v:=v_w__Chart_Marks) rfl (fld_sc (pre:=[I w__Chart_Pace_Lo,I w__Chart_Pace_Hi,I w__Chart_Base,I w__Chart_Scale,I w__Chart_Off,v_w__Chart_Marks,v_w__Chart_Notes,.map (some b_w__notes)]) (i:=5) Sc32 (hf.at H) rfl)) ?_
 refine s_val (x_lenS T32.und rfl hs_w__Chart_Marks) ?_
 refine s_call cf92 [v1,I (w__Chart_Marks.length:Int)] rfl (repeat_span _ ((ownSl (H.get (k:=0) rfl)).mono (ownLe _ (H.get (k:=0) rfl))) (by omega) (by omega)) ?_
 rintro v2 w2 ⟨ho_,hx_⟩
 replace H:St w w2 [cOwn (α:=Span) 31 v2 (List.replicate (Int.toNat (w__Chart_Marks.length:Int)) (⟨-100000000,100000000⟩:Span)),cOwn (α:=Span) 31 v1 [(⟨-100000000,100000000⟩:Span)]] (R.map (pin w)):=H.ownOf hx_ ho_
 rw [Int.toNat_natCast] at H
 clear ho_ hx_
 refine s_val (x_as (v:=v2) rfl) ?_
 refine s_nil ?_
 refine W.seq ?_
 refine W.seq ?_
 refine W.region rfl ?_
 refine s_val (x_mv (v:=.pointer (some ⟨b_w_,0,none⟩)) rfl) ?_
 refine s_val (x_nc (a:=⟨b_w_,0,none⟩) rfl) ?_
 refine s_val (x_fa (a:=.pointer (some ⟨b_w_,0,none⟩)) (v:=.pointer (some ⟨b_w_,7,none⟩)) rfl (fa_blk (o:=0) Fd143_1 Sz140)) ?_
 refine s_val (x_ld (p:=.pointer (some ⟨b_w_,7,none⟩)) (v:=.map (some b_w__notes)) rfl (fld_sc (pre:=[I w__Chart_Pace_Lo,I w__Chart_Pace_Hi,I w__Chart_Base,I w__Chart_Scale,I w__Chart_Off,v_w__Chart_Marks,v_w__Chart_Notes,.map (some b_w__notes)]) (i:=7) Sc140 (hf.at H) rfl)) ?_
 refine t_rangeR (kt:=3) (et:=57) Tryz.underlying140 H (hE.at H) hmp rfl ?_
 intro rq w3 H
 refine s_nil ?_
 refine W.block ?_
 refine W.loop (fun m σ W=>∃ (left:List Bool) (last:Option Nat) (l:List Span) (ρ:Env),σ=upds ρ [(3,v2),(19,.pointer (some ⟨rq,0,none⟩))]/\m=left.countP id/\NtI w__Chart_Marks.length w__notes left l/\St w W [cIr b_w__notes rq es n left last,cOwn (α:=Span) 31 v2 l,cOwn (α:=Span) 31 v1 [(⟨-100000000,100000000⟩:Span)]] (R.map (pin w))) ?_ ?_
 ·exact ⟨_,_,_,_,_,upds_of _ _ ⟨rfl,rfl,trivial⟩,rfl,NtI.zero _ _,H⟩
 ·rintro m σ w4 ⟨left,last,l,ρ,rfl,rfl,hI,H⟩
  refine W.seq ?_
  refine W.region rfl ?_
  refine t_nextR (i:=0) H (hE.at H) hmp rfl rfl ?_ ?_
  ·intro hall
   refine s_val (x_ext (vs:=[.bool false]) (v:=B false) rfl rfl) ?_
   refine s_nil ?_
   refine W.seq ?_
   refine W.cond false rfl (fun c=>absurd c (by decide)) (fun _=>?_)
   refine W.exit ?_
   refine W.seq ?_
   refine W.region rfl ?_
   refine s_val (x_mv (v:=v2) rfl) ?_
   refine s_val (x_as (v:=v2) rfl) ?_
   refine s_nil ?_
   refine W.ret ?_
   exact ⟨_,resE_tmp rfl,⟨l,v2,(hI.done hnd hall).trans hr_,rfl,(H.pick [1] (by decide) rfl)⟩⟩
  ·intro j key v w5 hlj hmj H
   have hkk:=hkr _ _ _ hmj
   have hll:=hI.len
   refine s_val (x_ext (vs:=[.bool true,I key,encCN v]) (v:=B true) rfl rfl) ?_
   refine s_nil ?_
   refine W.seq ?_
   refine W.cond true rfl (fun _=>?_) (fun c=>absurd c (by decide))
   refine W.skip ?_
   refine W.block ?_
   refine W.seq ?_
   refine W.region rfl ?_
   refine s_val (x_entryR (H.get (k:=0) rfl) (hE.at H) hmp hmj rfl) ?_
   refine s_val (x_ext (vs:=[I key,encCN v]) (v:=I key) rfl rfl) ?_
   refine s_val (x_ext (vs:=[I key,encCN v]) (v:=encCN v) rfl rfl) ?_
   refine t_alloc (cs:=[I 0,I 0,I 0,I 0,I 0]) H Al57 rfl ?_
   intro b5 w6 H
   refine s_val (x_as (v:=I key) rfl) ?_
   refine t_st (k:=0) (b:=b5) (off:=0) (cs:=[I 0,I 0,I 0,I 0,I 0]) (vs:=[I v.mark,I v.tlo,I v.thi,I v.slo,I v.shi]) (cs':=[I v.mark,I v.tlo,I v.thi,I v.slo,I v.shi]) (v:=encCN v) (L':=[cBlk b5 [I v.mark,I v.tlo,I v.thi,I v.slo,I v.shi] 57,cIr b_w__notes rq es n (left.set j false) (some j),cOwn (α:=Span) 31 v2 l,cOwn (α:=Span) 31 v1 [(⟨-100000000,100000000⟩:Span)]]) H rfl rfl rfl Sz57 rfl rfl rfl rfl rfl rfl ?_
   intro w7 H
   refine s_nil ?_
   refine W.region rfl ?_
   refine s_val (x_mv (v:=v2) rfl) ?_
   refine s_val (x_mv (v:=I key) rfl) ?_
   refine s_val (x_fa (a:=.pointer (some ⟨b5,0,none⟩)) (v:=.pointer (some ⟨b5,1,none⟩)) rfl (fa_blk (o:=0) Fd57_1 Sz31)) ?_
   refine s_val (x_ld (p:=.pointer (some ⟨b5,1,none⟩)) (v:=.agg #[I v.tlo,I v.thi]) rfl (ldb_ag (ds:=[I v.tlo,I v.thi]) Ag31 Sz31 (H.blk (k:=0) rfl) rfl rfl)) ?_
   refine s_val (x_ix (a:=v2) (b:=I key) (v:=vat v2 2 (Int.toNat key)) rfl rfl (Sl.ix (α:=Span) T61.und T61.size (ownSl (H.get (k:=2) rfl)) (by omega) (by omega))) ?_
   refine t_ost (k:=2) (i:=key) (l:=l) (l':=l.set (Int.toNat key) v.time) (val:=.agg #[I v.tlo,I v.thi]) (L':=[cBlk b5 [I v.mark,I v.tlo,I v.thi,I v.slo,I v.shi] 57,cIr b_w__notes rq es n (left.set j false) (some j),cOwn (α:=Span) 31 v2 (l.set (Int.toNat key) v.time),cOwn (α:=Span) 31 v1 [(⟨-100000000,100000000⟩:Span)]]) H rfl Sz31 (by omega) (by omega) v.time rfl rfl rfl rfl rfl ?_
   intro w8 H
   refine s_nil ?_
   exact ⟨_,cnt_set left j hlj,left.set j false,some j,l.set (Int.toNat key) v.time,_,upds_of _ _ ⟨rfl,rfl,trivial⟩,rfl,hI.step hnd hmj hkr,(H.pick [1,2,3] (by decide) rfl)⟩
end Go.Proofs.YtdmdhmineljlhaaGreat
