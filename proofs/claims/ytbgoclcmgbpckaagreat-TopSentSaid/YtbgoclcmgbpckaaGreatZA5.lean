/- Part 5 of the texts on which the proof rests. Conditions: none. -/
import Derived.KernelRfl
import Derived.Test.YtbgoclcmgbpckaaGreatZA4
set_option linter.unusedVariables false
set_option linter.unusedSimpArgs false
set_option linter.unusedSectionVars false
section
set_option maxRecDepth 100000
set_option maxHeartbeats 16000000
namespace Go.Proofs.YtbgoclcmgbpckaaGreat
open Go Go.Nm
attribute [local irreducible] gd execOp SL SLD SLT WR
def zbl (truth:List UInt8) (r3:List Vis) (r0:List Span):(Int × Int × Int × Nat)->M ((Int × Int × Int × Nat) ⊕ ((Int × Int) ⊕ (Int × Int × Int))):=fun (s,s2,minute,i) =>
  bif decide ((i:Int)<(r3.length:Int)) then (
  M.grd (decide ((i:Int)<(r3.length:Int))) <|
  M.bind (zae truth s s2 ((r3.getD i default).wlo) ((r3.getD i default).whi)) fun (r4,aa,ab) =>
  M.gi (minute+r4) <|
  M.grd (decide ((i:Int)<(r0.length:Int))) <|
  bif ((decide ((max ((r3.getD i default).opn) (minute+r4))<((r0.getD i default).lo)))||(decide (((r0.getD i default).hi)<(max ((r3.getD i default).opn) (minute+r4))))) then (
  M.pure (.inr (.inl (aa,ab))))
  else (
  bif decide (((i:Int)+1)<(r3.length:Int)) then (
  M.bind (zae truth aa ab ((r3.getD i default).klo) ((r3.getD i default).khi)) fun (r5,ac,ae) =>
  M.gi ((max ((r3.getD i default).opn) (minute+r4))+r5) <|
  M.pure (.inl (ac,ae,(max ((r3.getD i default).opn) (minute+r4))+r5,i+1)))
  else (
  M.pure (.inl (aa,ab,max ((r3.getD i default).opn) (minute+r4),i+1)))))
  else (
  M.pure (.inr (.inr (s,s2,minute))))
def zbc (aa:List Town) (ab:List Int) (s9:Int) (k:Nat) (heard:Int):Nat->M (Nat ⊕ (Unit ⊕ Unit)):=fun t =>
  bif decide ((t:Int)<(aa.length:Int)) then (
  M.grd (decide ((t:Int)<(aa.length:Int))) <|
  M.grd ((!((((aa.getD t default).station)==(ab.getD k 0))&&!(decide (heard<0)))||(decide ((-9223372036854775808:Int)<=(s9-heard))&&decide ((s9-heard)<=(9223372036854775807:Int))))) <|
  M.grd ((!((((aa.getD t default).station)==(ab.getD k 0))&&!(decide (heard<0)))||(decide ((-9223372036854775808:Int)<=(60*((aa.getD t default).lead)))&&decide ((60*((aa.getD t default).lead))<=(9223372036854775807:Int))))) <|
  bif ((((aa.getD t default).station)==(ab.getD k 0))&&((decide (heard<0))||(decide ((s9-heard)<(60*((aa.getD t default).lead)))))) then (
  M.pure (.inr (.inl ())))
  else (
  M.pure (.inl (t+1))))
  else (
  M.pure (.inr (.inr ())))
def zaV (truth:List UInt8) (ab:List Span) (ac:List Town) (aa:List Int) (s7 s8 s9:Int) (k:Nat) (heard:Int):M ((Int × Int × Int × Int × Nat) ⊕ ((Int × Int) ⊕ (Int × Int))) :=
  M.bind (M.iter (zbc ac aa s9 k heard) 0) fun x_=>match x_ with
  | (.inl (_:Unit))=>(
  M.pure (.inr (.inl (s7,s8))))
  | (.inr (_:Unit))=>(
  M.grd (decide ((0:Int)<=(aa.getD k 0))&&decide ((aa.getD k 0)<(ab.length:Int))) <|
  M.gi (60*((ab.getD (Int.toNat (aa.getD k 0)) default).lo)) <|
  M.gi (60*((ab.getD (Int.toNat (aa.getD k 0)) default).hi)) <|
  M.bind (zae truth s7 s8 (60*((ab.getD (Int.toNat (aa.getD k 0)) default).lo)) (60*((ab.getD (Int.toNat (aa.getD k 0)) default).hi))) fun (r8,ae,ah) =>
  M.gi (s9+r8) <|
  M.pure (.inl (ae,ah,s9+r8,heard,k+1)))
def za9 (truth:List UInt8) (minute2:Int) (ab:List Span) (ac:List Town) (ae:Int) (aa:List Int):(Int × Int × Int × Int × Nat)->M ((Int × Int × Int × Int × Nat) ⊕ ((Int × Int) ⊕ (Int × Int))):=fun (s7,s8,s9,heard2,k) =>
  bif decide ((k:Int)<(aa.length:Int)) then (
  M.grd (decide ((k:Int)<(aa.length:Int))) <|
  bif ((decide ((aa.getD k 0)<0))||(decide ((ab.length:Int)<=(aa.getD k 0)))) then (
  M.pure (.inr (.inl (s7,s8))))
  else (
  bif (aa.getD k 0)==ae then (
  M.gi (s9+minute2) <|
  zaV truth ab ac aa s7 s8 s9 k (s9+minute2))
  else (
  zaV truth ab ac aa s7 s8 s9 k heard2)))
  else (
  M.pure (.inr (.inr (s7,s8))))
def zbn (truth:List UInt8) (minute2:Int) (ah:List Int) (aa:List Span) (ai:List Int) (r6:List Flood) (aj ak:Int) (ab:List Town) (al:List Int):(Int × Int × Nat)->M ((Int × Int × Nat) ⊕ ((Int × Int) ⊕ (Int × Int))):=fun (ac,ae,i2) =>
  bif decide ((i2:Int)<(r6.length:Int)) then (
  M.bind (zcK ah aa ai ab aj ak r6 al (i2:Int)) fun (am,az,ao) =>
  M.grd (decide ((i2:Int)<(r6.length:Int))) <|
  M.bind (za4 ah aa ai ab aj ak r6 ((r6.getD i2 default).spring)) fun (aq,au) =>
  bif ((ao != 0)||(au != 0)) then (
  M.pure (.inr (.inl (ac,ae))))
  else (
  M.bind (M.iter (za9 truth minute2 aa ab am aq) (ac,ae,0,-1,0)) fun x_=>match x_ with
  | (.inl (av,aw))=>(
  M.pure (.inr (.inl (av,aw))))
  | (.inr (ax,ay))=>(
  M.pure (.inl (ax,ay,i2+1)))))
  else (
  M.pure (.inr (.inr (ac,ae))))
def zdl (rivers rounds cables truth:List UInt8):M Bool :=
  M.bind (zaL truth) fun (r1,r2) =>
  M.bind (zaL rounds) fun (aj,ak) =>
  M.bind (zbG rounds aj ak 4) fun (r3,q1,q2) =>
  M.bind (zb4 0 r3) fun (r0,al) =>
  bif (((al != 0)||((r0.length:Int) != (r3.length:Int)))||((r3.length:Int)==0)) then (
  M.pure false)
  else (
  M.bind (M.iter (zbl truth r3 r0) (r1,r2,0,0)) fun x_=>match x_ with
  | (.inl (s3,s4))=>(
  M.pure false)
  | (.inr (s5,s6,minute2))=>(
  M.bind (zaL rivers) fun (am,ao) =>
  M.bind (zcB rivers am ao 12) fun (aa,ab,ac,aq,aH,aI,r6,aJ,aK) =>
  M.grd (decide ((0:Int)<=((r0.length:Int)-1))&&decide (((r0.length:Int)-1)<(r0.length:Int))) <|
  M.gi (((r0.getD (Int.toNat ((r0.length:Int)-1)) default).hi)+59) <|
  M.grd (decide (0<=(((r0.getD (Int.toNat ((r0.length:Int)-1)) default).hi)+59))&&decide ((((r0.getD (Int.toNat ((r0.length:Int)-1)) default).hi)+59)<=(9223372036854775807:Int))&&decide ((0:Int)<60)) <|
  bif decide (1000<((((r0.getD (Int.toNat ((r0.length:Int)-1)) default).hi)+59) / 60)) then (
  M.bind (zco) fun r7 =>
  M.pure r7)
  else (
  M.grd (decide (0<=((r0.getD (Int.toNat ((r0.length:Int)-1)) default).lo))&&decide (((r0.getD (Int.toNat ((r0.length:Int)-1)) default).lo)<=(9223372036854775807:Int))&&decide ((0:Int)<60)) <|
  M.bind (zbD aa ab ac aq (((r0.getD (Int.toNat ((r0.length:Int)-1)) default).lo) / 60) ((((r0.getD (Int.toNat ((r0.length:Int)-1)) default).hi)+59) / 60) r6) fun (ae,ah,au,ai) =>
  M.bind (zbp aa ab ac ai ae ah r6) fun (av,aw) =>
  bif ((!au)||(aw != 0)) then (
  M.pure false)
  else (
  M.bind (M.iter (zbn truth minute2 aa ab ac r6 ae ah ai av) (s5,s6,0)) fun x_=>match x_ with
  | (.inl (aL,aM))=>(
  M.pure false)
  | (.inr (ax,ay))=>(
  M.bind (zaL cables) fun (az,aA) =>
  M.bind (zb0 cables az aA 8) fun (aB,aC,aD,aE,aF,aN,aO) =>
  M.bind (zbH aB aC aD aE aF truth ax ay) fun (r9,l_c_Rides,aP,aQ) =>
  M.bind (M.opt r9 (zco) false) fun aG =>
  M.pure (r9&&aG))))))
theorem zfB {R aV aM aW aN aX az aY aA}(rivers rounds cables truth)(bp:Reads R aV)(br:Sl aV aM rivers)(ce:Reads R aW)(cf:Sl aW aN rounds)(cg:Reads R aX)(ch:Sl aX az cables)(aO:Reads R aY)(aP:Sl aY aA truth){r}(hM:(zdl rivers rounds cables truth).Ends r)(w)(H:St w w [] R):Ret Tryz.prog 3 #[aM,aN,az,aA] w fun v w'=>∃ y0,y0=r/\v=B y0/\St w w' [] R:=by
 refine ret_of_W Tryz.func3 rfl rfl rfl ?_;refine kC 7 @zcx ?_;intro ck r1 r2 ae hM H;refine kC 5 @zcx ?_;intro cn cp ct bt hM H;refine kC 0 @zfG ?_;intro cu r3 q1 q2 aZ hM H;refine kC 5 @zeQ ?_;intro cw r0 cA a7 hM H;refine kI 24 ?_ ?_
 ·intro bu hM;refine kg 4 ?_;replace H:=H.pk [];exact rt
 intro bu hM;refine kg 11 ?_;obtain ⟨bv,a8,ba⟩:=M.e_bind hM;obtain ⟨aQ,a8⟩:=M.e_iter a8;refine W.loop (fun m σ W=>∃ (s:Int) (s2:Int) (minute:Int) (i:Nat) (ρ:Env),σ=upds ρ [(0,aM),(2,az),(9,Pq ae),(10,aZ),(11,a7),(13,I minute),(14,I (i:Int))]/\M.iterN (zbl truth r3 r0) m (s,s2,minute,i)=some bv/\St w W [cOwn (α:=Span) 32 a7 r0,cOwn (α:=Vis) 34 aZ r3,cBlk bt [aN,I q1,I q2] 61,cBlk ae [aA,I s,I s2] 61] R) ?_ ?_
 ·exact kY
 rintro cB σ cC ⟨s,s2,minute,i,ρ,rfl,bw,H⟩;obtain ⟨cD,cE,cF,hM,bb⟩:=M.e_iterN bw;have cG:=((H.os 1)).len_le;refine kI 8 ?_ ?_
 ·intro bx hM;refine kD 4 [0,1,2] [19] ?_;intro cH H;obtain ⟨cI,hM⟩:=M.e_gq hM;refine kG 20 ?_;obtain ⟨cJ,bz,hM⟩:=M.e_bind hM;refine s_call cq [Pq ae,I ((r3.getD i default).wlo),I ((r3.getD i default).whi)] rfl (zac truth s s2 ((r3.getD i default).wlo) ((r3.getD i default).whi) (aO.app _) aP bz _ ((H.pk [3,0,1,2]).gt 3)) ?_;rintro _ cK ⟨r4,cL,cM,rfl,rfl,aa⟩;replace H:=H.pk [3,0,1,2] |>.bk aa
  refine kN ?_;obtain ⟨cN,hM⟩:=M.e_gq hM;obtain ⟨cO,hM⟩:=M.e_gq hM;refine kI 24 ?_ ?_
  ·intro bA hM;refine kg 4 ?_;obtain rfl:=M.e_inr hM bb;replace hM:=ba;exact rt
  intro bA hM;have cP:=((H.os 2)).len_le;refine kI 9 ?_ ?_
  ·intro bB hM;refine kD 0 [1,2,3] [14] ?_;intro cQ H;refine kC 15 @zac ?_;intro cR r5 cS cT hM H;refine kN ?_;obtain ⟨cU,hM⟩:=M.e_gq hM;exact kXp 8 [1,2,3,0]
  intro bB hM;exact kXp 6 [1,2,3,0]
 intro bx hM;refine W.exit ?_;obtain rfl:=M.e_inr hM bb;replace hM:=ba;replace H:=H.pk [0,3];refine kC 3 @zcx ?_;intro cV bC bD bE hM H;obtain ⟨cW,bF,hM⟩:=M.e_bind hM;refine s_call cq [Pq bE,I 12] rfl (zez rivers bC bD 12 (bp.app _) br bF _ (H.gt 2)) ?_;rintro _ cX ⟨au,ab,av,bG,cY,cZ,r6,c6,c7,ah,ai,aj,bH,ac,aE,aF,rfl,rfl,aa,aw⟩;replace H:=H.bk aa;refine kal ?_;intro ay c8 H;refine kS 0 ?_;intro c9 H;have da:=((H.os 8)).len_le;obtain ⟨db,hM⟩:=M.e_gq hM;refine kA 9 ?_;intro aG dc H;refine ksw ?_;intro dg H;refine s_nil ?_;replace H:=H.pk [0,1,2,3,4,5,6,7,10];obtain ⟨di,hM⟩:=M.e_gq hM;obtain ⟨dk,hM⟩:=M.e_gq hM;refine kI 9 ?_ ?_
 ·intro bI hM;refine kC 2 @zdW ?_;intro dm r7 hM H;refine kg 2 ?_;replace H:=H.pk [];exact rt
 intro bI hM;obtain ⟨dq,hM⟩:=M.e_gq hM;refine kS 12 ?_;intro dr H;refine kg 4 ?_;obtain ⟨dt,bJ,hM⟩:=M.e_bind hM;refine s_call cq [.agg #[ah,ai,aj,bH,I (((r0.getD (Int.toNat ((r0.length:Int)-1)) default).lo) / 60),I ((((r0.getD (Int.toNat ((r0.length:Int)-1)) default).hi)+59) / 60),ac]] rfl (zev au ab av bG (((r0.getD (Int.toNat ((r0.length:Int)-1)) default).lo) / 60) ((((r0.getD (Int.toNat ((r0.length:Int)-1)) default).hi)+59) / 60) r6 (rdo 2) (H.os 2) (rdo 3) (H.os 3) (rdo 4) (H.os 4) (Reads.sup (rdo 5) (Reads.of (k:=6) rfl roLe)) (rowSl rfl (H.get (k:=6) rfl) (roLe _ (H.get (k:=7) rfl)) aw) bJ _ ((H.pk [5,0,1,2,3,4,6,7,8]).gt 8)) ?_;rintro _ du ⟨al,am,dv,ao,aq,rfl,rfl,aa⟩;replace H:=H.pk [5,0,1,2,3,4,6,7,8] |>.bk aa
 refine kS 3 ?_;intro dw H;refine kg 5 ?_;obtain ⟨dx,bK,hM⟩:=M.e_bind hM;refine s_call cq [.agg #[ah,ai,aj,aq,I al,I am,ac]] rfl (zd3 au ab av ao al am r6 (rdo 3) (H.os 3) (rdo 4) (H.os 4) (rdo 5) (H.os 5) (rdo 0) (H.os 0) (Reads.sup (rdo 6) (Reads.of (k:=7) rfl roLe)) (rowSl rfl (H.get (k:=6) rfl) (roLe _ (H.get (k:=7) rfl)) aw) bK _ (H.gt 9)) ?_;rintro _ dy ⟨aB,dz,ax,rfl,rfl,aa⟩;replace H:=H.bk aa;refine kI 16 ?_ ?_
 ·intro bL hM;refine kg 4 ?_;replace H:=H.pk [];exact rt
 intro bL hM;refine kg 7 ?_;obtain ⟨bM,bc,aH⟩:=M.e_bind hM;obtain ⟨aQ,bc⟩:=M.e_iter bc;refine W.loop (fun m σ W=>∃ (aI:Int) (aJ:Int) (i2:Nat) (ρ:Env),σ=upds ρ [(2,az),(9,Pq ae),(13,I minute),(15,Pq ay),(18,ax),(19,I (i2:Int))]/\M.iterN (zbn truth minute au ab av r6 al am ao aB) m (aI,aJ,i2)=some bM/\St w W [cOwn (α:=Int) 3 ax aB,cOwn (α:=Town) 53 aq ao,cBlk aG [I ((r0.getD (Int.toNat ((r0.length:Int)-1)) default).lo),I ((r0.getD (Int.toNat ((r0.length:Int)-1)) default).hi)] 32,cBlk ay [ah,ai,aj,aq,I al,I am,ac] 40,cOwn (α:=Int) 3 ah au,cOwn (α:=Span) 32 ai ab,cOwn (α:=Int) 3 aj av,cOwn (α:=Raw 1) 51 ac aE,cRo aF,cBlk ae [aA,I aI,I aJ] 61] R) ?_ ?_
 ·exact kY
 rintro dA σ dB ⟨aI,aJ,i2,ρ,rfl,bN,H⟩;obtain ⟨dC,dD,dE,hM,aK⟩:=M.e_iterN bN;have dF:=((rowSl rfl (H.get (k:=7) rfl) (roLe _ (H.get (k:=8) rfl)) aw)).len_le;refine kg 6 ?_;refine s_val (x_lenS T38.h.und rfl (rowSl rfl (H.get (k:=7) rfl) (roLe _ (H.get (k:=8) rfl)) aw)) ?_;refine kI 2 ?_ ?_
 ·intro bO hM;refine kg 8 ?_;obtain ⟨dG,bP,hM⟩:=M.e_bind hM;refine s_call cq [.agg #[ah,ai,aj,aq,I al,I am,ac],ax,I (i2:Int)] rfl (zeD au ab av ao al am r6 aB (i2:Int) (rdo 4) (H.os 4) (rdo 5) (H.os 5) (rdo 6) (H.os 6) (rdo 1) (H.os 1) (Reads.sup (rdo 7) (Reads.of (k:=8) rfl roLe)) (rowSl rfl (H.get (k:=7) rfl) (roLe _ (H.get (k:=8) rfl)) aw) (rdo 0) (H.os 0) bP _ (H.gt 10)) ?_;rintro _ dH ⟨aL,dJ,dK,rfl,rfl,aa⟩;replace H:=H.bk aa;refine kD 9 [0,1,2,3,4,5,6,7,8,9] [7] ?_;intro dL H;obtain ⟨dM,hM⟩:=M.e_gq hM;refine kg 4 ?_;refine d_q rfl (fun w' H=>x_ix (v:=vat ac 2 (Int.toNat (i2:Int))) rfl rfl (Sl.ix (α:=Flood) T38.h.und T38.h.size (rowSl rfl (H.get (k:=7) rfl) (roLe _ (H.get (k:=8) rfl)) aw) (by omega) (by omega)))<|d_q rfl (fun w' H=>x_fa (v:=fat (vat ac 2 (Int.toNat (i2:Int))) 0) rfl (fa_pl Fd51_0.h Sz3.h (Sl.pl (i:=(i2:Int)) (rowSl rfl (H.get (k:=7) rfl) (roLe _ (H.get (k:=8) rfl)) aw) (by omega) (by omega))))<|d_q rfl (fun w' H=>x_ld (v:=I ((r6.getD i2 default).spring)) rfl (ld_sc Sc3.h (At.mono (Flood_at0 (rowSl rfl (H.get (k:=7) rfl) (roLe _ (H.get (k:=8) rfl)) aw) (i:=(i2:Int)) (by omega) (by omega)) (Cells.sup_le (H.ol 7) (roLe _ (H.get (k:=8) rfl))))))<|d_l rfl ?_;obtain ⟨dN,bQ,hM⟩:=M.e_bind hM;refine s_call cq [.agg #[ah,ai,aj,aq,I al,I am,ac],I ((r6.getD i2 default).spring)] rfl (ze5 au ab av ao al am r6 ((r6.getD i2 default).spring) (rdo 4) (H.os 4) (rdo 5) (H.os 5) (rdo 6) (H.os 6) (rdo 1) (H.os 1) (Reads.sup (rdo 7) (Reads.of (k:=8) rfl roLe)) (rowSl rfl (H.get (k:=7) rfl) (roLe _ (H.get (k:=8) rfl)) aw) bQ _ (H.gt 10)) ?_
  rintro _ dO ⟨ak,dP,aC,rfl,rfl,aa⟩;replace H:=H.bk aa;refine kN ?_;refine kI 16 ?_ ?_
  ·intro bR hM;refine kg 4 ?_;obtain rfl:=M.e_inr hM aK;replace hM:=aH;exact rt
  intro bR hM;refine kg 11 ?_;obtain ⟨bS,bf,aR⟩:=M.e_bind hM;obtain ⟨aQ,bf⟩:=M.e_iter bf;refine W.loop (fun m σ W=>∃ (s7:Int) (s8:Int) (s9:Int) (heard2:Int) (k:Nat) (ρ:Env),σ=upds ρ [(2,az),(9,Pq ae),(13,I minute),(15,Pq ay),(18,ax),(19,I (i2:Int)),(20,I aL),(23,aC),(25,I s9),(26,I heard2),(27,I (k:Int))]/\M.iterN (za9 truth minute ab ao aL ak) m (s7,s8,s9,heard2,k)=some bS/\St w W [cOwn (α:=Int) 3 aC ak,cOwn (α:=Int) 3 ax aB,cOwn (α:=Town) 53 aq ao,cBlk aG [I ((r0.getD (Int.toNat ((r0.length:Int)-1)) default).lo),I ((r0.getD (Int.toNat ((r0.length:Int)-1)) default).hi)] 32,cBlk ay [ah,ai,aj,aq,I al,I am,ac] 40,cOwn (α:=Int) 3 ah au,cOwn (α:=Span) 32 ai ab,cOwn (α:=Int) 3 aj av,cOwn (α:=Raw 1) 51 ac aE,cRo aF,cBlk ae [aA,I s7,I s8] 61] R) ?_ ?_
  ·exact kY
  rintro dQ σ dR ⟨s7,s8,s9,heard2,k,ρ,rfl,bT,H⟩;obtain ⟨dS,dU,bU,hM,aS⟩:=M.e_iterN bT;have dV:=((H.os 0)).len_le;refine kI 8 ?_ ?_
  ·intro bV hM;obtain ⟨dW,hM⟩:=M.e_gq hM;refine kI 24 ?_ ?_
   ·intro bW hM;refine kg 4 ?_;refine W.ret ?_;obtain rfl:=M.e_inr hM aS;replace hM:=aR;obtain rfl:=M.e_inr hM aK;replace hM:=aH;have aD:=M.e_pure hM;exact ⟨_,resE_tmp rfl,⟨false,aD,rfl,(H.pk [])⟩⟩
   intro bW hM;refine W.skip ?_;refine W.seqJ (fun σ W=>∃ (heard:Int) (ρ:Env),σ=upds ρ [(2,az),(9,Pq ae),(13,I minute),(15,Pq ay),(18,ax),(19,I (i2:Int)),(20,I aL),(23,aC),(25,I s9),(26,I heard),(27,I (k:Int)),(28,I (ak.getD k 0))]/\(zaV truth ab ao ak s7 s8 s9 k heard).Ends bU/\St w W [cOwn (α:=Int) 3 aC ak,cOwn (α:=Int) 3 ax aB,cOwn (α:=Town) 53 aq ao,cBlk aG [I ((r0.getD (Int.toNat ((r0.length:Int)-1)) default).lo),I ((r0.getD (Int.toNat ((r0.length:Int)-1)) default).hi)] 32,cBlk ay [ah,ai,aj,aq,I al,I am,ac] 40,cOwn (α:=Int) 3 ah au,cOwn (α:=Span) 32 ai ab,cOwn (α:=Int) 3 aj av,cOwn (α:=Raw 1) 51 ac aE,cRo aF,cBlk ae [aA,I s7,I s8] 61] R) ?_ ?_
   ·refine kI 6 ?_ ?_
    ·intro bX hM;obtain ⟨dX,hM⟩:=M.e_gq hM;refine kg 6 ?_;exact ⟨s9+minute,_,jQ,hM,H⟩
    intro bX hM;refine W.skip ?_;exact ⟨heard2,_,jQ,hM,H⟩
   rintro _ dY ⟨heard,ρ,rfl,hM,H⟩;unfold zaV at hM;refine kg 6 ?_;obtain ⟨bY,bg,bh⟩:=M.e_bind hM;obtain ⟨aQ,bg⟩:=M.e_iter bg;refine W.loop (fun m σ W=>∃ (t:Nat) (ρ:Env),σ=upds ρ [(2,az),(9,Pq ae),(13,I minute),(15,Pq ay),(18,ax),(19,I (i2:Int)),(20,I aL),(23,aC),(25,I s9),(26,I heard),(27,I (k:Int)),(28,I (ak.getD k 0)),(29,I (t:Int))]/\M.iterN (zbc ao ak s9 k heard) m t=some bY/\St w W [cOwn (α:=Int) 3 aC ak,cOwn (α:=Int) 3 ax aB,cOwn (α:=Town) 53 aq ao,cBlk aG [I ((r0.getD (Int.toNat ((r0.length:Int)-1)) default).lo),I ((r0.getD (Int.toNat ((r0.length:Int)-1)) default).hi)] 32,cBlk ay [ah,ai,aj,aq,I al,I am,ac] 40,cOwn (α:=Int) 3 ah au,cOwn (α:=Span) 32 ai ab,cOwn (α:=Int) 3 aj av,cOwn (α:=Raw 1) 51 ac aE,cRo aF,cBlk ae [aA,I s7,I s8] 61] R) ?_ ?_
   ·exact kY
   rintro dZ σ d4 ⟨t,ρ,rfl,bZ,H⟩;obtain ⟨d5,d6,d7,hM,bi⟩:=M.e_iterN bZ;have d8:=((H.os 2)).len_le;refine kI 9 ?_ ?_
   ·intro b4 hM;obtain ⟨d9,hM⟩:=M.e_gq hM;obtain ⟨aT,hM⟩:=M.e_grd hM;replace aT:=M.imp_of aT;simp only [Bool.and_eq_true,decide_eq_true_eq] at aT;obtain ⟨aU,hM⟩:=M.e_grd hM;replace aU:=M.imp_of aU;simp only [Bool.and_eq_true,decide_eq_true_eq] at aU;refine kI 31 ?_ ?_
    ·intro b5 hM;refine kg 4 ?_;refine W.ret ?_;obtain rfl:=M.e_inr hM bi;replace hM:=bh;obtain rfl:=M.e_inr hM aS;replace hM:=aR;obtain rfl:=M.e_inr hM aK;replace hM:=aH;have aD:=M.e_pure hM;exact ⟨_,resE_tmp rfl,⟨false,aD,rfl,(H.pk [])⟩⟩
    intro b5 hM;exact kX 6
   intro b4 hM;refine W.exit ?_;obtain rfl:=M.e_inr hM bi;replace hM:=bh;refine kD 0 [0,1,2,3,4,5,6,7,8,9] [16] ?_;intro eb H;obtain ⟨ec,hM⟩:=M.e_gq hM;obtain ⟨ed,hM⟩:=M.e_gq hM;obtain ⟨ee,hM⟩:=M.e_gq hM;refine kG 17 ?_;obtain ⟨ef,b6,hM⟩:=M.e_bind hM;refine s_call cq [Pq ae,I (60*((ab.getD (Int.toNat (ak.getD k 0)) default).lo)),I (60*((ab.getD (Int.toNat (ak.getD k 0)) default).hi))] rfl (zac truth s7 s8 (60*((ab.getD (Int.toNat (ak.getD k 0)) default).lo)) (60*((ab.getD (Int.toNat (ak.getD k 0)) default).hi)) (aO.app _) aP b6 _ ((H.pk [10,0,1,2,3,4,5,6,7,8,9]).gt 10)) ?_;rintro _ eg ⟨r8,eh,ej,rfl,rfl,aa⟩;replace H:=H.pk [10,0,1,2,3,4,5,6,7,8,9] |>.bk aa
   refine kN ?_;obtain ⟨em,hM⟩:=M.e_gq hM;exact kXp 8 [1,2,3,4,5,6,7,8,9,10,0]
  intro bV hM;refine W.exit ?_;obtain rfl:=M.e_inr hM aS;replace hM:=aR;exact kXp 5 [1,2,3,4,5,6,7,8,9,10]
 intro bO hM;refine W.exit ?_;obtain rfl:=M.e_inr hM aK;replace hM:=aH;replace H:=H.pk [9];refine kC 3 @zcx ?_;intro ep eq er eu hM H;refine kC 0 @zeE ?_;intro ew bj bm bn bo b7 ez eA b8 hM H;refine kg 1 ?_;obtain ⟨eB,b9,hM⟩:=M.e_bind hM;refine s_call cq [.agg #[I bj,I bm,I bn,I bo,b8],Pq ae] rfl (zeN bj bm bn bo b7 truth aI aJ (aO.app _) aP b9 _ ((H.pk [0,2,1]).gt 1)) ?_;rintro _ eC ⟨r9,l_c_Rides,eD,eE,eF,rfl,rfl,aa⟩;replace H:=H.pk [0,2,1] |>.bk aa
 refine kg 1 ?_;obtain ⟨cb,cc,hM⟩:=M.e_bind hM;refine t_gcall r9 (gy_t rfl) cq (B cb) (fun _=>[]) (fun _=>rfl) H (fun hg=>(zdW (M.e_opt cc hg) _ (H.give (A:=[]) rfl)).mono fun v_ w_ ⟨y_,aD,cd,H_⟩=>by subst aD; exact ⟨cd,H.via H_⟩) ?_;intro eG H;refine kg 3 ?_;replace H:=H.pk [];exact rt

end Go.Proofs.YtbgoclcmgbpckaaGreat
end
-- libL/PN.lean
namespace Go.Nm
namespace M
variable {α β σ ρ:Type}
def Out (m:M α) (Q:α->Prop):Prop:=∃ r,m.Ends r/\Q r
theorem o_of {m:M α} {a:α} {Q:α->Prop} (h:m.Ends a) (q:Q a):m.Out Q:=⟨a,h,q⟩
theorem o_pure {a:α} {Q:α->Prop} (h:Q a):(pure a).Out Q:=⟨a,i_pure,h⟩
theorem o_mono {m:M α} {P Q:α->Prop} (h:m.Out P) (k:∀ a,P a->Q a):m.Out Q:=by
  obtain ⟨a,h1,h2⟩:=h;exact ⟨a,h1,k a h2⟩
theorem o_bind {m:M α} {k:α->M β} {P:α->Prop} {Q:β->Prop} (h:m.Out P) (h':∀ a,P a->(k a).Out Q):(bind m k).Out Q:=by
  obtain ⟨a,h1,h2⟩:=h;obtain ⟨b,h3,h4⟩:=h' a h2;exact ⟨b,i_bind h1 h3,h4⟩
theorem o_bindE {m:M α} {k:α->M β} {a:α} {Q:β->Prop} (h:m.Ends a) (h':(k a).Out Q):(bind m k).Out Q:=o_bind (o_of (Q:=fun x=>x=a) h rfl) (fun _ e=>by subst e; exact h')
theorem o_grd {b:Bool} {k:M α} {Q:α->Prop} (hb:b=true) (h:k.Out Q):(grd b k).Out Q:=by subst hb; exact h
theorem o_grdD {p:Prop} [Decidable p] {k:M α} {Q:α->Prop} (hp:p) (h:k.Out Q):(grd (decide p) k).Out Q:=o_grd (decide_eq_true hp) h
theorem o_if {b:Bool} {x y:M α} {Q:α->Prop} (h:b=true->x.Out Q) (h':b=false->y.Out Q):(bif b then x else y).Out Q:=by
  cases b with
  | true=>exact h rfl
  | false=>exact h' rfl
theorem o_t {b:Bool} {x y:M α} {Q:α->Prop} (hb:b=true) (h:x.Out Q):(bif b then x else y).Out Q:=by subst hb; exact h
theorem o_f {b:Bool} {x y:M α} {Q:α->Prop} (hb:b=false) (h:y.Out Q):(bif b then x else y).Out Q:=by subst hb; exact h
theorem o_opt {b:Bool} {m:M α} {d:α} {Q:α->Prop} (h:b=true->m.Out Q) (h':b=false->Q d):(opt b m d).Out Q:=by
  cases b with
  | true=>exact h rfl
  | false=>exact o_pure (h' rfl)
/-- What a round leaves. -/
def Rd (J:Nat->σ->Prop) (Q:ρ->Prop) (m:Nat):σ ⊕ ρ->Prop
  | .inl s=>∃ m',m'<m/\J m' s
  | .inr r=>Q r
theorem o_iter {body:σ->M (σ ⊕ ρ)} {Q:ρ->Prop} (J:Nat->σ->Prop) (round:∀ m s,J m s->(body s).Out (Rd J Q m)):∀ (m:Nat) (s:σ),J m s->(iter body s).Out Q:=by
  intro m;induction m using Nat.strongRecOn with
  | _ m ih =>
    intro s hs;obtain ⟨x,h1,h2⟩:=round m s hs;cases x with
    | inl s' =>
      obtain ⟨m',hlt,hj⟩:=h2;obtain ⟨r,h3,h4⟩:=ih m' hlt s' hj;exact ⟨r,i_next h1 h3,h4⟩
    | inr r=>exact ⟨r,i_stop h1,h2⟩
/-- A loop that counts from 0 to n. -/
theorem o_for {body:σ->M (σ ⊕ ρ)} {Q:ρ->Prop} (n:Nat) (J:Nat->σ->Prop) (round:∀ i s,i<n->J i s->(body s).Out (fun x=>match x with | .inl s'=>J (i+1) s' | .inr r=>Q r))
    (last:∀ s,J n s->(body s).Out (fun x=>match x with | .inl _=>False | .inr r=>Q r)) {s:σ} (h:J 0 s):(iter body s).Out Q:=by
  refine o_iter (fun m s=>∃ i,i<=n/\m=n-i/\J i s) ?_ n s ⟨0,Nat.zero_le _,rfl,h⟩;rintro m s ⟨i,hi,rfl,hj⟩;by_cases e:i<n
  · refine o_mono (round i s e hj) ?_;intro x hx;cases x with
    | inl s'=>exact ⟨n-(i+1),by omega,i+1,e,rfl,hx⟩
    | inr r=>exact hx
  · obtain rfl:i=n:=by omega
    refine o_mono (last s hj) ?_;intro x hx;cases x with
    | inl s'=>exact hx.elim
    | inr r=>exact hx
end M
theorem M.i_f {α:Type} {b:Bool} {x y:M α} {r:α} (hb:b=false) (h:y.Ends r):(bif b then x else y).Ends r:=by subst hb; exact h
theorem M.i_for {σ ρ:Type} {body:σ->M (σ ⊕ ρ)} {r:ρ} (st:Nat->σ) (n:Nat) (step:∀ i,i<n->(body (st i)).Ends (.inl (st (i+1)))) (fin:(body (st n)).Ends (.inr r)):(M.iter body (st 0)).Ends r:=by
  refine M.i_loop (r:=r) (fun m s=>∃ i,i<=n/\m=n-i/\s=st i) ?_ n (st 0) ⟨0,Nat.zero_le _,rfl,rfl⟩;rintro m s ⟨i,hi,rfl,rfl⟩;by_cases h:i<n
  · exact .inl ⟨_,n-(i+1),by omega,step i h,i+1,h,rfl,rfl⟩
  · obtain rfl:i=n:=by omega
    exact .inr fin
theorem M.i_t {α:Type} {b:Bool} {x y:M α} {r:α} (hb:b=true) (h:x.Ends r):(bif b then x else y).Ends r:=by subst hb; exact h
theorem gset {α:Type} (l:List α) (i j:Nat) (x d:α) (h:i<l.length):(l.set i x).getD j d=if j=i then x else l.getD j d:=by
  simp only [List.getD_eq_getElem?_getD,List.getElem?_set];by_cases e:i=j
  · subst e; simp [h]
  · rw [if_neg e,if_neg (fun h=>e h.symm)]
theorem getD_el {α:Type} (l:List α) {k:Nat} (h:k<l.length) (d:α):l.getD k d=l[k]:=by rw [List.getD_eq_getElem?_getD,List.getElem?_eq_getElem h,Option.getD_some]
theorem gOr2 {c:Bool} {p q:Prop} [Decidable p] [Decidable q] (hp:p) (hq:q):(!c||(decide p&&decide q))=true:=by rw [decide_eq_true hp,decide_eq_true hq]; cases c <;> rfl
theorem gA2 {p q:Prop} [Decidable p] [Decidable q] (hp:p) (hq:q):(decide p&&decide q)=true:=by rw [decide_eq_true hp,decide_eq_true hq]; rfl
theorem mem_getD {α:Type} {l:List α} {x:α} (h:x∈l) (d:α):∃ i,i<l.length/\l.getD i d=x:=by
  obtain ⟨i,hi,e⟩:=List.getElem_of_mem h;exact ⟨i,hi,by rw [getD_el l hi d]; exact e⟩
end Go.Nm
-- libO/OP.lean
namespace Go.Nm
namespace Pk
/-- The first peak behind the flood of each one, and how many floods are over when a peak comes. -/
structure Fl (n:Nat) (nx kk:Nat->Nat):Prop where
  lt:∀ i,i<n->i<nx i
  le:∀ i,i<n->nx i<=n
  kle:∀ m,kk m<=m
  iff:∀ i m,i<n->m<=n->(i<kk m↔nx i<=m)
namespace Fl
variable {n:Nat} {nx kk:Nat->Nat}
theorem kmono (F:Fl n nx kk) {a b:Nat} (h:a<=b) (hb:b<=n):kk a<=kk b:=by
  rcases Nat.lt_or_ge (kk b) (kk a) with hlt | hge
  · have h1:=F.kle a;have h2:=(F.iff (kk b) a (by omega) (by omega)).1 hlt;have h3:=(F.iff (kk b) b (by omega) (by omega)).2 (by omega);omega
  · exact hge
end Fl
/-- The greatest worth of the peaks ahead of one. -/
structure IsS (n:Nat) (v:Nat->Int) (kk:Nat->Nat) (S:Nat->Int):Prop where
  z:S 0=0
  s:∀ i,i<n->S (i+1)=max (S i) (S (kk i)+v i)
/-- The greatest worth from a peak on. -/
structure IsB (n:Nat) (v:Nat->Int) (nx:Nat->Nat) (B:Nat->Int):Prop where
  z:B n=0
  s:∀ i,i<n->B i=max (max 0 (B (i+1))) (v i+B (nx i))
variable {n:Nat} {nx kk:Nat->Nat} {v S B:Nat->Int}
theorem IsS.mono (h:IsS n v kk S):∀ {a b:Nat},a<=b->b<=n->S a<=S b:=by
  intro a b hab;induction hab with
  | refl=>intro _; exact Int.le_refl _
  | @step m k ih =>
    intro hb;have:=ih (by omega);have e:=h.s m (by omega);rw [Nat.succ_eq_add_one];omega
theorem IsB.anti (h:IsB n v nx B):∀ {a b:Nat},a<=b->b<=n->B b<=B a:=by
  intro a b hab;induction hab with
  | refl=>intro _; exact Int.le_refl _
  | @step m k ih =>
    intro hb;have:=ih (by omega);have e:=h.s m (by omega);rw [Nat.succ_eq_add_one];omega
theorem fwd (F:Fl n nx kk) (hS:IsS n v kk S) (hB:IsB n v nx B):∀ i,i<=n->∀ m,m<=n->(∀ j,j<i->nx j<=m)->(i=0->True)->S i+B m<=B 0:=by
  intro i;induction i using Nat.strongRecOn with
  | _ i ih =>
    intro hi m hm hj _;cases i with
    | zero =>
      rw [hS.z];have:=hB.anti (Nat.zero_le m) hm;omega
    | succ i =>
      have e:=hS.s i (by omega);have k1:=ih i (by omega) (by omega) m hm (fun j hj'=>hj j (by omega)) (fun _=>trivial);have h1:=hj i (by omega);have b1:=hB.s i (by omega);have a1:=hB.anti h1 hm;have kl:=F.kle i;have k2:=ih (kk i) (by omega) (by omega) i (by omega) (fun j hj'=>(F.iff j i (by omega) (by omega)).1 hj') (fun _=>trivial);omega
theorem bwd (F:Fl n nx kk) (hS:IsS n v kk S) (hB:IsB n v nx B):∀ d i,i+d=n->B i+S (kk i)<=S n:=by
  intro d;induction d using Nat.strongRecOn with
  | _ d ih =>
    intro i hi;cases d with
    | zero =>
      obtain rfl:i=n:=by omega
      rw [hB.z];have:=hS.mono (F.kle i) (Nat.le_refl _);omega
    | succ d =>
      have e:=hB.s i (by omega);have k1:=ih d (by omega) (i+1) (by omega);have m1:=hS.mono (F.kmono (Nat.le_succ i) (by omega)) (Nat.le_trans (F.kle (i+1)) (by omega));have l1:=F.lt i (by omega);have l2:=F.le i (by omega);have k2:=ih (n-nx i) (by omega) (nx i) (by omega);have q:=(F.iff i (nx i) (by omega) l2).2 (Nat.le_refl _);have m2:=hS.mono q (Nat.le_trans (F.kle (nx i)) l2);have s1:=hS.s i (by omega);have m3:=hS.mono (Nat.le_trans (F.kle i) (show i<=n by omega)) (Nat.le_refl n);rw [Nat.succ_eq_add_one] at *;omega
/-- Reckoned from either end it is the same. -/
theorem both (F:Fl n nx kk) (hS:IsS n v kk S) (hB:IsB n v nx B):B 0=S n:=by
  have h1:=fwd F hS hB n (Nat.le_refl _) n (Nat.le_refl _) (fun j hj=>F.le j hj) (fun _=>trivial);have h2:=bwd F hS hB n 0 (by omega);have h3:kk 0=0:=by have:=F.kle 0; omega
  rw [h3,hS.z] at h2;rw [hB.z] at h1;omega
/-- The sum of a function's values from a to b. -/
def sm (d:Nat->Int) (a:Nat):Nat->Int
  | 0=>0
  | k+1=>sm d a k+d (a+k)
end Pk
end Go.Nm
-- libW/OS.lean
namespace Go.Nm
structure SOk (c u x:Int):Prop where
  u0:0<=u
  u1:u<=c
  x0:0<=x
  x1:x<251
theorem SOk.mono {c d u x:Int} (h:SOk c u x) (hd:c<=d):SOk d u x:=⟨h.u0,Int.le_trans h.u1 hd,h.x0,h.x1⟩
/-- What a stream gives: a number below n. -/
structure Nx (c n:Int) (y:Int × Int × Int):Prop where
  ok:SOk c y.2.1 y.2.2
  lt:1<=n->0<=y.1/\y.1<n
  no:n<1->y.1=0
end Go.Nm
namespace Go.Proofs.YtbgoclcmgbpckaaGreat
open Go Go.Nm
theorem next_out {b:List UInt8} {c u x n:Int} (h:SOk c u x) (hc:c<=1000000000000) (hn:n<=1000000):(zad b u x n).Out (Nx (c+1) n):=by
  obtain ⟨u0,u1,x0,x1⟩:=h;unfold zad;refine M.o_if (fun hb=>?_) (fun hb=>?_)
  · simp only [Bool.or_eq_true,decide_eq_true_eq,beq_iff_eq] at hb;refine M.o_pure ⟨⟨u0,by dsimp only; omega,x0,x1⟩,fun h1=>⟨Int.le_refl _,?_⟩,fun _=>rfl⟩;dsimp only;omega
  · simp only [Bool.or_eq_false_iff,decide_eq_false_iff_not,beq_eq_false_iff_ne,ne_eq] at hb;have hl:(0:Int)<(b.length:Int):=by omega
    have m0:=Int.emod_nonneg u (show (b.length:Int) ≠ 0 by omega);have m1:=Int.emod_lt_of_pos u hl;have d0:=Int.ediv_nonneg u0 (show (0:Int)<=(b.length:Int) by omega);have d1:u / (b.length:Int)<=u:=Int.ediv_le_self _ u0;have y1:((b.getD (Int.toNat (u % (b.length:Int))) 0).toNat:Int)<256:=by
      have:=UInt8.toNat_lt (b.getD (Int.toNat (u % (b.length:Int))) 0);omega
    have y0:(0:Int)<=((b.getD (Int.toNat (u % (b.length:Int))) 0).toNat:Int):=Int.natCast_nonneg _;generalize ((b.getD (Int.toNat (u % (b.length:Int))) 0).toNat:Int)=y at *;generalize u % (b.length:Int)=m at *;generalize u / (b.length:Int)=d at *;have hn0:0<n:=by omega
    have fin:∀ z:Int,0<=z->0<=z % n/\z % n<n:=fun z hz=>⟨Int.emod_nonneg _ (by omega),Int.emod_lt_of_pos _ hn0⟩
    have pr:∀ z w:Int,0<=z->Nx (c+1) n (z % n,u+1,w % 251):=fun z w hz=>⟨⟨by dsimp only; omega,by dsimp only; omega,by dsimp only; omega,by dsimp only; omega⟩,fun _=>fin z hz,fun h=>by omega⟩
    refine M.o_grd (by simp only [Bool.and_eq_true,decide_eq_true_eq]; omega) (M.o_grd (by simp only [Bool.and_eq_true,decide_eq_true_eq]; omega) (M.o_grd (by simp only [Bool.and_eq_true,decide_eq_true_eq]; omega) ?_));refine M.o_if (fun h1=>?_) (fun h1=>?_)
    · refine M.o_grd (by simp only [Bool.and_eq_true,decide_eq_true_eq]; omega) (M.o_grd (by simp only [Bool.and_eq_true,decide_eq_true_eq]; omega) (M.o_grd (by simp only [Bool.and_eq_true,decide_eq_true_eq]; omega) (M.o_grd (by simp only [Bool.and_eq_true,decide_eq_true_eq]; omega) (M.o_grd (by simp only [Bool.and_eq_true,decide_eq_true_eq]; omega) ?_))));refine M.o_grd (by simp only [Bool.and_eq_true,decide_eq_true_eq]; omega) (M.o_grd (by simp only [Bool.and_eq_true,decide_eq_true_eq]; omega) (M.o_grd (by simp only [Bool.and_eq_true,decide_eq_true_eq]; omega) (M.o_grd (by simp only [Bool.and_eq_true,decide_eq_true_eq]; omega) ?_)));refine M.o_if (fun h2=>?_) (fun h2=>?_)
      · refine M.o_grd (by simp only [Bool.and_eq_true,decide_eq_true_eq]; omega) (M.o_grd (by simp only [Bool.and_eq_true,decide_eq_true_eq]; omega) (M.o_grd (by simp only [Bool.and_eq_true,decide_eq_true_eq]; omega) (M.o_pure (pr _ _ (by omega)))))
      · refine M.o_grd (by simp only [Bool.and_eq_true,decide_eq_true_eq]; omega) (M.o_pure (pr _ _ (by omega)))
    · refine M.o_grd (by simp only [Bool.and_eq_true,decide_eq_true_eq]; omega) (M.o_grd (by simp only [Bool.and_eq_true,decide_eq_true_eq]; omega) (M.o_grd (by simp only [Bool.and_eq_true,decide_eq_true_eq]; omega) (M.o_grd (by simp only [Bool.and_eq_true,decide_eq_true_eq]; omega) (M.o_grd (by simp only [Bool.and_eq_true,decide_eq_true_eq]; omega) ?_))));refine M.o_if (fun h2=>?_) (fun h2=>?_)
      · refine M.o_grd (by simp only [Bool.and_eq_true,decide_eq_true_eq]; omega) (M.o_grd (by simp only [Bool.and_eq_true,decide_eq_true_eq]; omega) (M.o_grd (by simp only [Bool.and_eq_true,decide_eq_true_eq]; omega) (M.o_pure (pr _ _ (by omega)))))
      · refine M.o_grd (by simp only [Bool.and_eq_true,decide_eq_true_eq]; omega) (M.o_pure (pr _ _ (by omega)))
theorem within_out {b:List UInt8} {c u x lo hi:Int} (h:SOk c u x) (hc:c<=1000000000000) (h0:-1000<=lo) (h1:lo<=hi) (h2:hi<=10000):(zae b u x lo hi).Out (fun y=>SOk (c+1) y.2.1 y.2.2/\lo<=y.1/\y.1<=hi):=by
  unfold zae;refine M.o_grd (gA2 (by omega) (by omega)) (M.o_grd (gA2 (by omega) (by omega)) (M.o_bind (next_out h hc (by omega)) ?_));rintro ⟨r,u',x'⟩ ⟨k,hl,_⟩;have:=hl (by omega);dsimp only at this k ⊢;exact M.o_grd (gA2 (by omega) (by omega)) (M.o_pure ⟨k,by dsimp only; omega,by dsimp only; omega⟩)
end Go.Proofs.YtbgoclcmgbpckaaGreat
-- libO/OR.lean
namespace Go.Nm
theorem SOk.zero:SOk 0 0 0:=⟨Int.le_refl _,Int.le_refl _,Int.le_refl _,by decide⟩
end Go.Nm
namespace Go.Proofs.YtbgoclcmgbpckaaGreat
open Go Go.Nm
end Go.Proofs.YtbgoclcmgbpckaaGreat
-- libW/VA.lean
namespace Go.Nm
theorem M.Out.ends {α:Type} {m:M α} {a:α} (h:m.Out (fun r=>r=a)):m.Ends a:=by
  obtain ⟨r,h1,rfl⟩:=h;exact h1
theorem gI2 {c:Bool} {p q:Prop} [Decidable p] [Decidable q] (h:c=true->p/\q):(!c||(decide p&&decide q))=true:=by
  cases c with
  | true=>exact gA2 (h rfl).1 (h rfl).2
  | false=>rfl
namespace Wn
def pth (dn:List Int):Nat->Int->List Int
  | 0,_=>[]
  | n+1,s=>if s = -1 then [] else s :: pth dn n (dn.getD (Int.toNat s) 0)
/-- The path of a station. -/
def P (dn:List Int) (s:Int):List Int:=pth dn dn.length s
/-- Each station leads on to one that is further down, or to none. -/
def Dn (dn:List Int):Prop:=∀ i,i<dn.length->dn.getD i 0 = -1∨((i:Int)+1<=dn.getD i 0/\dn.getD i 0<dn.length)
def Stn (dn:List Int) (s:Int):Prop:=s = -1∨(0<=s/\s<dn.length)
variable {dn:List Int}
theorem Dn.next (h:Dn dn) {s:Int} (h0:0<=s) (h1:s<dn.length):dn.getD (Int.toNat s) 0 = -1∨(s+1<=dn.getD (Int.toNat s) 0/\dn.getD (Int.toNat s) 0<dn.length):=by
  have:=h (Int.toNat s) (by omega);omega
theorem pth_none (n:Nat):pth dn n (-1)=[]:=by
  cases n with
  | zero=>rfl
  | succ n=>unfold pth; rw [if_pos rfl]
theorem pth_fuel (h:Dn dn):∀ (n m:Nat) (s:Int),Stn dn s->(s = -1∨(dn.length:Int)<=s+n)->(s = -1∨(dn.length:Int)<=s+m)->pth dn n s=pth dn m s:=by
  intro n;induction n with
  | zero =>
    intro m s hs hn _;have:s = -1:=by
      rcases hs with hs | hs
      · exact hs
      · rcases hn with hn | hn
        · exact hn
        · omega
    subst this;rw [pth_none,pth_none]
  | succ n ih =>
    intro m s hs hn hm;by_cases e:s = -1
    · subst e;rw [pth_none,pth_none]
    · cases m with
      | zero =>
        rcases hs with hs | hs
        · exact absurd hs e
        · rcases hm with hm | hm
          · exact absurd hm e
          · omega
      | succ m =>
        rcases hs with hs | hs
        · exact absurd hs e
        · rcases hn with hn | hn
          · exact absurd hn e
          rcases hm with hm | hm
          · exact absurd hm e
          have hx:=h.next hs.1 hs.2;unfold pth;rw [if_neg e,if_neg e,ih m _ (by unfold Stn; omega) (by omega) (by omega)]
theorem P_none:P dn (-1)=[]:=pth_none _
theorem P_cons (h:Dn dn) {s:Int} (h0:0<=s) (h1:s<dn.length):P dn s=s :: P dn (dn.getD (Int.toNat s) 0):=by
  unfold P;obtain ⟨k,hk⟩:∃ k,dn.length=k+1:=⟨dn.length-1,by omega⟩
  have hx:=h.next h0 h1
  conv=>lhs; rw [hk]; unfold pth
  rw [if_neg (by omega),pth_fuel h k dn.length _ (by unfold Stn; omega) (by omega) (by omega)]
theorem Dn.next_st (h:Dn dn) {s:Int} (h0:0<=s) (h1:s<dn.length):Stn dn (dn.getD (Int.toNat s) 0):=by
  have:=h.next h0 h1;unfold Stn;omega
theorem Dn.ind (h:Dn dn) {p:Int->Prop} (none:p (-1)) (step:∀ s:Int,0<=s->s<dn.length->p (dn.getD (Int.toNat s) 0)->p s):∀ s,Stn dn s->p s:=by
  have key:∀ (n:Nat) (s:Int),Stn dn s->(dn.length:Int)-s<=n->p s:=by
    intro n;induction n with
    | zero =>
      intro s hs hn;rcases hs with rfl | hs
      · exact none
      · omega
    | succ n ih =>
      intro s hs hn;rcases hs with rfl | hs
      · exact none
      · refine step s hs.1 hs.2 ?_;have hx:=h.next hs.1 hs.2;rcases hx with hx | hx
        · rw [hx]; exact none
        · exact ih _ (.inr (by omega)) (by omega)
  intro s hs;exact key (Int.toNat ((dn.length:Int)-s)) s hs (by omega)
theorem P_mem (h:Dn dn):∀ s,Stn dn s->∀ x∈P dn s,s<=x/\0<=x/\x<dn.length:=by
  refine h.ind (fun x hx=>by rw [P_none] at hx; cases hx) fun s h0 h1 ih x hx=>?_;rw [P_cons h h0 h1] at hx;have hn:=h.next h0 h1;rcases List.mem_cons.1 hx with rfl | hx
  · omega
  · have:=ih x hx;rcases hn with hn | hn
    · rw [hn,P_none] at hx;cases hx
    · omega
theorem P_len (h:Dn dn):∀ s,Stn dn s->((P dn s).length:Int)<=dn.length-s∨P dn s=[]:=by
  refine h.ind (.inr P_none) fun s h0 h1 ih=>?_;rw [P_cons h h0 h1,List.length_cons];have hn:=h.next h0 h1
  left
  rcases ih with ih | ih
  · rcases hn with hn | hn
    · rw [hn,P_none]; simp; omega
    · omega
  · rw [ih]; simp; omega
theorem P_short (h:Dn dn) {s:Int} (hs:Stn dn s):(P dn s).length<=dn.length:=by
  rcases P_len h s hs with k | k
  · rcases hs with rfl | hs
    · rw [P_none]; exact Nat.zero_le _
    · omega
  · rw [k]; exact Nat.zero_le _
/-- What is left of a path is the path of its first station. -/
theorem P_drop (h:Dn dn):∀ s,Stn dn s->∀ (i:Nat) (hi:i<(P dn s).length),P dn (P dn s)[i]=(P dn s).drop i:=by
  refine h.ind (fun i hi=>by rw [P_none] at hi; cases hi) fun s h0 h1 ih i hi=>?_;have e:=P_cons h h0 h1;cases i with
  | zero =>
    have:(P dn s)[0]=s:=by simp [e]
    rw [this,List.drop_zero]
  | succ i =>
    have hi':i<(P dn (dn.getD (Int.toNat s) 0)).length:=by
      rw [e,List.length_cons] at hi;omega
    have e1:(P dn s)[i+1]=(P dn (dn.getD (Int.toNat s) 0))[i]:=by simp [e]
    rw [e1,ih i hi']
    conv=>rhs; rw [e]
    rw [List.drop_succ_cons]
theorem P_up (h:Dn dn):∀ s,Stn dn s->(P dn s).Pairwise (· < ·):=by
  refine h.ind (by rw [P_none]; exact List.Pairwise.nil) fun s h0 h1 ih=>?_;rw [P_cons h h0 h1,List.pairwise_cons];refine ⟨fun x hx=>?_,ih⟩;have hn:=h.next h0 h1;have:=P_mem h _ (h.next_st h0 h1) x hx;rcases hn with hn | hn
  · rw [hn,P_none] at hx; cases hx
  · omega
/-- The stations ahead of one. -/
def upto (p:List Int) (y:Int):List Int:=p.takeWhile fun x=>!(x==y)
theorem upto_take {p:List Int} {y:Int} {k:Nat} (hk:p[k]?=some y) (hn:∀ x∈p.take k,x ≠ y):upto p y=p.take k:=by
  induction p generalizing k with
  | nil=>simp at hk
  | cons x p ih =>
    cases k with
    | zero =>
      simp only [List.getElem?_cons_zero,Option.some.injEq] at hk;subst hk;unfold upto;simp
    | succ k =>
      simp only [List.getElem?_cons_succ] at hk;have hx:x ≠ y:=hn x (by simp);have:=ih hk (fun z hz=>hn z (by simp [hz]));unfold upto at this ⊢;rw [List.takeWhile_cons,if_pos (by simp [hx]),this,List.take_succ_cons]
theorem P_split (h:Dn dn) {x y:Int} (hx:Stn dn x) (hy:y∈P dn x):P dn x=upto (P dn x) y++P dn y:=by
  obtain ⟨k,hk,e⟩:=List.getElem_of_mem hy;have hu:=P_up h x hx;have h1:upto (P dn x) y=(P dn x).take k:=by
    refine upto_take (by rw [List.getElem?_eq_getElem hk,e]) fun z hz=>?_;obtain ⟨j,hj,rfl⟩:=List.getElem_of_mem hz;rw [List.length_take] at hj;rw [List.getElem_take];have:=List.pairwise_iff_getElem.1 hu j k (by omega) hk (by omega);omega
  have h2:=P_drop h x hx k hk;rw [e] at h2;rw [h1,h2,List.take_append_drop]
theorem upto_mem {p:List Int} {y z:Int} (h:z∈upto p y):z∈p/\z ≠ y:=by
  unfold upto at h;exact ⟨(List.takeWhile_sublist _).subset h,by
    have:=List.all_takeWhile (p:=fun x=>!(x==y)) (l:=p);have:=List.all_eq_true.1 this z h
    simpa using this⟩
theorem upto_trans (h:Dn dn) {x y z:Int} (hx:Stn dn x) (hy:y∈P dn x) (hz:z∈P dn y):z∈P dn x/\upto (P dn x) z=upto (P dn x) y++upto (P dn y) z:=by
  have e:=P_split h hx hy;have hys:Stn dn y:=.inr (P_mem h x hx y hy).2;have hA:∀ w∈upto (P dn x) y,w ≠ z:=by
    intro w hw;have hu:=P_up h x hx;rw [e,List.pairwise_append] at hu;have:=hu.2.2 w hw z hz;omega
  refine ⟨by rw [e]; exact List.mem_append_right _ hz,?_⟩
  conv=>lhs; rw [e]
  unfold upto at hA ⊢;rw [List.takeWhile_append_of_pos fun w hw=>by simp [hA w hw]]
theorem P_self (h:Dn dn) {x:Int} (h0:0<=x) (h1:x<dn.length):x∈P dn x:=by rw [P_cons h h0 h1]; simp
/-- Hours on a list of stations. -/
def sm (f:Int->Int) (p:List Int):Int:=(p.map f).sum
def lo (tr:List Span) (s:Int):Int:=(tr.getD (Int.toNat s) default).lo
def hi (tr:List Span) (s:Int):Int:=(tr.getD (Int.toNat s) default).hi
theorem sm_app (f:Int->Int) (p q:List Int):sm f (p++q)=sm f p+sm f q:=by unfold sm; rw [List.map_append,List.sum_append]
theorem sm_bound (f:Int->Int):∀ (p:List Int),(∀ x∈p,0<=f x/\f x<=1000)->0<=sm f p/\sm f p<=1000*p.length
  | [],_=>by simp [sm]
  | x :: p,h=>by
    have ih:=sm_bound f p (fun y hy=>h y (by simp [hy]));have:=h x (by simp);unfold sm at ih ⊢;rw [List.map_cons,List.sum_cons,List.length_cons];omega
end Wn
end Go.Nm
-- libW/VB.lean
namespace Go.Nm
namespace Wn
/-- A river that is right. -/
structure Rv (dn:List Int) (tr:List Span) (sp:List Int) (tw:List Town) (dl dh:Int) (fl:List Flood):Prop where
  n1:1<=dn.length
  n12:dn.length<=12
  nx:Dn dn
  tl:tr.length=dn.length
  hr:∀ i,i<tr.length->0<=(tr.getD i default).lo/\(tr.getD i default).lo<=(tr.getD i default).hi/\(tr.getD i default).hi<=1000
  s1:1<=sp.length
  s8:sp.length<=8
  sr:sp.Pairwise (· < ·)
  si:∀ x∈sp,0<=x/\x<dn.length
  t8:tw.length<=8
  tok:∀ t∈tw,(0<=t.station/\t.station<dn.length)/\(0<=t.lead/\t.lead<=1000)/\0<=t.alarm/\t.alarm<=2000
  d0:0<=dl
  d1:dl<=dh
  d2:dh<=1000
  f20:fl.length<=20
  fok:∀ f∈fl,f.spring∈sp/\f.stages.length=(P dn f.spring).length/\∀ x∈f.stages,0<=x/\x<=2000
theorem sum_step {α:Type} (f:α->Int) (l:List α) {i:Nat} (h:i<l.length) (d:α):((l.take (i+1)).map f).sum=((l.take i).map f).sum+f (l.getD i d):=by
  rw [List.take_succ_eq_append_getElem h,List.map_append,List.sum_append,List.map_cons,List.map_nil,List.sum_cons,List.sum_nil,Int.add_zero]
  congr 1
  rw [List.getD_eq_getElem?_getD,List.getElem?_eq_getElem h,Option.getD_some]
theorem sum_in {α:Type} (f:α->Int) (l:List α) (hb:∀ s∈l,-100000<=f s/\f s<=100000):-100000*(l.length:Int)<=(l.map f).sum/\(l.map f).sum<=100000*(l.length:Int):=by
  induction l with
  | nil=>simp
  | cons a l ih =>
    have h1:=ih fun s hs=>hb s (by simp [hs]);have h2:=hb a (by simp);rw [List.map_cons,List.sum_cons,List.length_cons];omega
end Wn
end Go.Nm
namespace Go.Proofs.YtbgoclcmgbpckaaGreat
open Go Go.Nm
theorem added_ends (l:List Span) (hl:l.length<=100) (hb:∀ s∈l,(-100000<=s.lo/\s.lo<=100000)/\-100000<=s.hi/\s.hi<=100000):(zcH l).Ends ((l.map (·.lo)).sum,(l.map (·.hi)).sum):=by
  unfold zcH;refine M.i_bind (a:=((l.map (·.lo)).sum,(l.map (·.hi)).sum)) ?_ M.i_pure;refine M.Out.ends ?_;refine M.o_for l.length (fun i (s:Int × Int × Nat)=>s=(((l.take i).map (·.lo)).sum,((l.take i).map (·.hi)).sum,i)) ?_ ?_ (by simp)
  · rintro i _ hi rfl;simp only [zbI];have a1:=Wn.sum_in (fun s:Span=>s.lo) (l.take i) fun s hs=>(hb s (List.mem_of_mem_take hs)).1;have a2:=Wn.sum_in (fun s:Span=>s.hi) (l.take i) fun s hs=>(hb s (List.mem_of_mem_take hs)).2;rw [List.length_take] at a1 a2;have hm:l.getD i default∈l:=by rw [List.getD_eq_getElem?_getD,List.getElem?_eq_getElem hi,Option.getD_some]; exact List.getElem_mem hi
    have a3:=hb _ hm;refine M.o_t (decide_eq_true (by omega)) (M.o_grdD (by omega) (M.o_grd (gA2 (by omega) (by omega)) (M.o_grd (gA2 (by omega) (by omega)) (M.o_pure ?_))));rw [Wn.sum_step (fun s:Span=>s.lo) l hi default,Wn.sum_step (fun s:Span=>s.hi) l hi default]
  · rintro _ rfl;simp only [zbI];refine M.o_f (decide_eq_false (by omega)) (M.o_pure ?_);rw [List.take_length]
variable {dn:List Int} {tr:List Span} {sp:List Int} {tw:List Town} {dl dh:Int} {fl:List Flood}
/-- A round over a path. -/
theorem path_out {S X:Type} {bd:S->Int × Int->M (S ⊕ X)} {Q:S ⊕ X->Prop} (h:Wn.Dn dn) (h12:dn.length<=12) {s:Int} (hs:Wn.Stn dn s) {s0:S} (J:Nat->S->Prop) (h0:J 0 s0)
    (hr:∀ k (hk:k<(Wn.P dn s).length) t,J k t->(bd t ((k:Int),(Wn.P dn s)[k])).Out (fun x=>match x with | .inl t'=>J (k+1) t' | .inr x=>Q (.inr x))) (hl:∀ t,J (Wn.P dn s).length t->Q (.inl t))
    (k11:List Span) (k12:List Int) (k13:List Town) (k14 k15:Int) (k16:List Flood):(zal (M.yl bd) (.inl s0) s dn k11 k12 k13 k14 k15 k16).Out (fun y=>Q y.1):=by
  unfold zal;refine M.o_bind (P:=fun y=>match y with | .inl t=>Q t.1 | .inr t=>Q t.1) ?_ (fun y hy=>by
    cases y with
    | inl t=>exact M.o_pure hy
    | inr t=>exact M.o_pure hy)
  have hsh:=Wn.P_short h hs;refine M.o_for (Wn.P dn s).length (fun i (t:Int × Nat × (S ⊕ X))=>t.2.1=i/\(Wn.P dn t.1=(Wn.P dn s).drop i/\Wn.Stn dn t.1)/\∃ t',t.2.2 = .inl t'/\J i t') ?_ ?_ ⟨rfl,⟨by rw [List.drop_zero],hs⟩,s0,rfl,h0⟩
  · rintro i ⟨c,q,t⟩ hi ⟨e1,⟨e2,e3⟩,t',e4,hj⟩;dsimp only at e1 e2 e3 e4;subst e1 e4;simp only [zbt];have hd:(Wn.P dn s).drop q=(Wn.P dn s)[q] :: (Wn.P dn s).drop (q+1):=List.drop_eq_getElem_cons hi;have hc:0<=c/\c<dn.length:=by
      rcases e3 with rfl | e3
      · rw [Wn.P_none,hd] at e2;cases e2
      · exact e3
    rw [Wn.P_cons h hc.1 hc.2,hd] at e2;obtain ⟨g1,g2⟩:=List.cons.inj e2;have hx:=h.next hc.1 hc.2;refine M.o_t (by rw [decide_eq_true hc.2]; simp; omega) ?_;obtain ⟨x,y1,y2⟩:=hr q hi t' hj;rw [← g1] at y1;cases x with
    | inl s2=>exact M.o_bindE (a:=(true,.inl s2)) (M.i_bind y1 M.i_pure) (M.o_f rfl (M.o_grd (gA2 hc.1 hc.2) (M.o_grd (gA2 (by omega) (by omega)) (M.o_pure ⟨rfl,⟨g2,h.next_st hc.1 hc.2⟩,s2,rfl,y2⟩))))
    | inr x2=>exact M.o_bindE (a:=(false,.inr x2)) (M.i_bind y1 M.i_pure) (M.o_t rfl (M.o_pure y2))
  · rintro ⟨c,q,t⟩ ⟨e1,⟨e2,e3⟩,t',e4,hj⟩;dsimp only at e1 e2 e3 e4;subst e1 e4;simp only [zbt];rw [List.drop_length] at e2;have hc:c = -1:=by
      rcases e3 with e3 | e3
      · exact e3
      · rw [Wn.P_cons h e3.1 e3.2] at e2;cases e2
    subst hc;exact M.o_f (by simp) (M.o_pure (hl t' hj))
theorem travels_ends (R:Wn.Rv dn tr sp tw dl dh fl) {s:Int} (hs:Wn.Stn dn s) (y:Int) :
    (zaY dn tr sp tw dl dh fl s y).Ends (if y∈Wn.P dn s then (Wn.sm (Wn.lo tr) (Wn.upto (Wn.P dn s) y),Wn.sm (Wn.hi tr) (Wn.upto (Wn.P dn s) y),true) else (0,0,false)):=by
  refine M.Out.ends ?_;unfold zaY;have hp:(zai dn tr sp tw dl dh fl s).Ends (s,dl,dh):=M.i_pure;refine M.o_bindE hp ?_;dsimp only;have h12:=R.n12;have hsh:=Wn.P_short R.nx hs;refine M.o_bind (path_out (Q:=fun x=>match x with | .inl _=>y ∉ Wn.P dn s | .inr (_,_,a,b)=>y∈Wn.P dn s/\a=Wn.sm (Wn.lo tr) (Wn.upto (Wn.P dn s) y)/\b=Wn.sm (Wn.hi tr) (Wn.upto (Wn.P dn s) y)) R.nx R.n12 hs
    (fun k (l:List Span)=>l=((Wn.P dn s).take k).map (fun x=>tr.getD (Int.toNat x) default)/\y ∉ (Wn.P dn s).take k) ⟨by simp,by simp⟩ ?_ ?_ _ _ _ _ _ _) ?_
  · rintro k hk l ⟨rfl,hn⟩;have hin:=Wn.P_mem R.nx s hs _ (List.getElem_mem hk);have htl:=R.tl;simp only [zay];refine M.o_if (fun hb=>?_) (fun hb=>?_)
    · have hb:(Wn.P dn s)[k]=y:=by simpa using hb
      refine M.o_bindE (added_ends _ (by rw [List.length_map,List.length_take]; omega) fun sp_ hsp=>?_) (M.o_pure ?_)
      · obtain ⟨x,hx,rfl⟩:=List.mem_map.1 hsp;have h1:=Wn.P_mem R.nx s hs x (List.mem_of_mem_take hx);have h2:=R.hr (Int.toNat x) (by omega);omega
      · have hu:Wn.upto (Wn.P dn s) y=(Wn.P dn s).take k:=Wn.upto_take (by rw [List.getElem?_eq_getElem hk,hb]) fun z hz e=>hn (by rw [← e]; exact hz);dsimp only;rw [hu];refine ⟨by rw [← hb]; exact List.getElem_mem hk,?_,?_⟩
        · unfold Wn.sm;rw [List.map_map];rfl
        · unfold Wn.sm;rw [List.map_map];rfl
    · have hb:(Wn.P dn s)[k] ≠ y:=by simpa using hb
      refine M.o_grd (gA2 (by omega) (by omega)) (M.o_grdD (by simp; omega) (M.o_pure ⟨?_,?_⟩))
      · rw [List.take_succ_eq_append_getElem hk,List.map_append];rfl
      · rw [List.take_succ_eq_append_getElem hk,List.mem_append];rintro (h1 | h1)
        · exact hn h1
        · exact hb (List.mem_singleton.1 h1).symm
  · rintro l ⟨_,hn⟩;rw [List.take_length] at hn;exact hn
  · rintro ⟨x,q⟩ hq;cases x with
    | inl l =>
      dsimp only at hq ⊢;refine M.o_pure ?_;rw [if_neg hq]
    | inr z =>
      obtain ⟨l2,l3,a,b⟩:=z;dsimp only at hq ⊢;refine M.o_pure ?_;rw [if_pos hq.1,hq.2.1,hq.2.2]
theorem in_ends (n a b:Int):(zaf n a b).Ends (decide (a<=n)&&decide (n<=b)):=M.i_pure
theorem in_true {n a b:Int} (h1:a<=n) (h2:n<=b):(zaf n a b).Ends true:=by
  have:=in_ends n a b
  rwa [gA2 h1 h2] at this
theorem hours_true {s:Span} (h0:0<=s.lo) (h1:s.lo<=s.hi) (h2:s.hi<=1000):(zbi s).Ends true:=by
  unfold zbi;exact M.i_bind (in_true h0 h1) (M.i_bind (M.i_opt (fun _=>in_true (by omega) h2) (fun h=>by cases h)) M.i_pure)
theorem stage_true {n:Int} (h0:0<=n) (h1:n<=2000):(zaI n).Ends true:=by
  unfold zaI;exact M.i_bind (in_true h0 h1) M.i_pure
theorem every_town (l:List Town) (so:Town->M Bool) (h:∀ t∈l,(so t).Ends true):(zbe l so).Ends true:=by
  unfold zbe zar zcw;refine M.i_bind (a:=false) (M.i_bind (a:=-1) (M.i_bind (a:=(.inr ():Int ⊕ Unit)) ?_ M.i_pure) M.i_pure) M.i_pure;refine M.i_for (fun i=>i) l.length (fun i hi=>?_) ?_
  · simp only [zaS];have hm:l.getD i default∈l:=by rw [List.getD_eq_getElem?_getD,List.getElem?_eq_getElem hi,Option.getD_some]; exact List.getElem_mem hi
    refine M.i_t (decide_eq_true (by omega)) (M.i_grd (decide_eq_true (by omega)) (M.i_bind (a:=false) ?_ (M.i_f rfl M.i_pure)));unfold zcp;exact M.i_bind (h _ hm) M.i_pure
  · simp only [zaS];exact M.i_f (decide_eq_false (by omega)) M.i_pure
theorem every_int (l:List Int) (so:Int->M Bool) (h:∀ t∈l,(so t).Ends true):(zbz l so).Ends true:=by
  unfold zbz zcP zck;refine M.i_bind (a:=false) (M.i_bind (a:=-1) (M.i_bind (a:=(.inr ():Int ⊕ Unit)) ?_ M.i_pure) M.i_pure) M.i_pure;refine M.i_for (fun i=>i) l.length (fun i hi=>?_) ?_
  · simp only [zcn];have hm:l.getD i 0∈l:=by rw [List.getD_eq_getElem?_getD,List.getElem?_eq_getElem hi,Option.getD_some]; exact List.getElem_mem hi
    refine M.i_t (decide_eq_true (by omega)) (M.i_grd (decide_eq_true (by omega)) (M.i_bind (a:=false) ?_ (M.i_f rfl M.i_pure)));unfold zbY;exact M.i_bind (h _ hm) M.i_pure
  · simp only [zcn];exact M.i_f (decide_eq_false (by omega)) M.i_pure
theorem contains_true {s:List Int} {v:Int} (h:v∈s):(zbo s v).Ends true:=by
  unfold zbo zcV;have key:(M.iter (zcD s v) 0).Out (fun r=>match r with | .inl i=>0<=i | .inr (_:Unit)=>False):=by
    refine M.o_for s.length (fun i (k:Nat)=>k=i/\∀ j,j<i->s.getD j 0 ≠ v) ?_ ?_ ⟨rfl,fun j hj=>by omega⟩
    · rintro i _ hi ⟨rfl,hp⟩;simp only [zcD];refine M.o_t (decide_eq_true (by omega)) (M.o_grdD (by omega) (M.o_if (fun hb=>M.o_pure (by omega)) (fun hb=>M.o_pure ⟨rfl,fun j hj=>?_⟩)));rcases Nat.lt_or_eq_of_le (Nat.le_of_lt_succ hj) with e | e
      · exact hp j e
      · subst e;exact fun e=>(beq_eq_false_iff_ne.1 hb) e.symm
    · rintro _ ⟨rfl,hp⟩;exfalso;obtain ⟨i,hi,e⟩:=List.getElem_of_mem h;have:=hp i hi;rw [List.getD_eq_getElem?_getD,List.getElem?_eq_getElem hi,Option.getD_some] at this;exact this e
  obtain ⟨r,h1,h2⟩:=key;cases r with
  | inl i=>exact M.i_bind (M.i_bind h1 M.i_pure) (by rw [decide_eq_true h2]; exact M.i_pure)
  | inr u=>exact h2.elim
theorem rising_true {l:List Int} {n:Int} (hn:0<=n/\n<=1000) (hu:l.Pairwise (· < ·)) (hb:∀ x∈l,0<=x/\x<n):(zaO l n).Ends true:=by
  unfold zaO;refine M.i_bind (a:=(.inr ():Unit ⊕ Unit)) ?_ M.i_pure;refine M.Out.ends ?_;refine M.o_for l.length (fun i (s:Int × Nat)=>s.2=i/\-1<=s.1/\s.1<1000/\∀ j,i<=j->j<l.length->s.1<l.getD j 0) ?_ ?_ ⟨rfl,by decide,by decide,fun j _ hj=>?_⟩
  · rintro i ⟨a,q⟩ hi ⟨e1,e2,e3,e4⟩;dsimp only at e1 e2 e3 e4;subst e1;simp only [zb9];have hm:l.getD q 0∈l:=by rw [List.getD_eq_getElem?_getD,List.getElem?_eq_getElem hi,Option.getD_some]; exact List.getElem_mem hi
    have h1:=hb _ hm;have h2:=e4 q (Nat.le_refl _) hi;refine M.o_t (decide_eq_true (by omega)) (M.o_grdD (by omega) (M.o_grd (gA2 (by omega) (by omega)) (M.o_grd (gA2 (by omega) (by omega)) (M.o_bindE (in_true (by omega) (by omega)) (M.o_f rfl (M.o_pure ⟨rfl,by dsimp only; omega,by dsimp only; omega,fun j h3 h4=>?_⟩))))));have:=List.pairwise_iff_getElem.1 hu q j hi h4 (by omega);dsimp only;rw [List.getD_eq_getElem?_getD,List.getElem?_eq_getElem hi,Option.getD_some,List.getD_eq_getElem?_getD,List.getElem?_eq_getElem h4,Option.getD_some];exact this
  · rintro ⟨a,q⟩ ⟨e1,_⟩;dsimp only at e1;subst e1;simp only [zb9];exact M.o_f (decide_eq_false (by omega)) (M.o_pure rfl)
  · have hm:l.getD j 0∈l:=by rw [List.getD_eq_getElem?_getD,List.getElem?_eq_getElem hj,Option.getD_some]; exact List.getElem_mem hj
    have:=hb _ hm;dsimp only;omega
theorem check_ends (R:Wn.Rv dn tr sp tw dl dh fl):(zbu dn tr sp tw dl dh fl).Ends 0:=by
  have n1:=R.n1;have n12:=R.n12;have tl:=R.tl;have s1:=R.s1;have s8:=R.s8;have t8:=R.t8;have f20:=R.f20;unfold zbu;refine M.i_bind (in_true (by omega) (by omega)) (M.i_bind (M.i_opt (fun _=>in_true (by omega) (by omega)) (fun h=>by simp [tl] at h)) (M.i_f ?_ ?_))
  · rw [decide_eq_false (by omega),decide_eq_false (by omega),tl];simp
  refine M.i_bind (a:=(.inr ():Int ⊕ Unit)) ?_ ?_
  · refine M.i_for (fun i=>i) dn.length (fun i hi=>?_) ?_
    · simp only [zbE];have h1:=R.nx i hi;have h2:=R.hr i (by omega);refine M.i_t (decide_eq_true (by omega)) (M.i_grd (decide_eq_true (by omega)) ?_);by_cases e:dn.getD i 0 = -1
      · refine M.i_bind (a:=false) (M.i_opt (fun h=>by rw [e] at h; cases h) (fun _=>rfl)) (M.i_f (by rw [e]; rfl) (M.i_grd (decide_eq_true (by omega)) (M.i_bind (hours_true h2.1 h2.2.1 h2.2.2) (M.i_f rfl M.i_pure))))
      · refine M.i_bind (a:=true) (M.i_opt (fun _=>in_true (by omega) (by omega)) (fun h=>absurd (bne_eq_false_iff_eq.1 h) e)) (M.i_f (by simp) (M.i_grd (decide_eq_true (by omega)) (M.i_bind (hours_true h2.1 h2.2.1 h2.2.2) (M.i_f rfl M.i_pure))))
    · simp only [zbE];exact M.i_f (decide_eq_false (by omega)) M.i_pure
  dsimp only;refine M.i_bind (rising_true (by omega) R.sr R.si) (M.i_f rfl ?_);refine M.i_bind (every_town tw _ fun t ht=>?_) (M.i_bind (a:=true) (M.i_opt (fun _=>every_town tw _ fun t ht=>?_) (fun h=>by cases h)) (M.i_bind (a:=true) (M.i_opt (fun _=>hours_true R.d0 R.d1 R.d2) (fun h=>by cases h)) (M.i_f rfl ?_)))
  · have k:=R.tok t ht;unfold zci;exact M.i_bind (in_true k.2.1.1 k.2.1.2) (M.i_bind (M.i_opt (fun _=>stage_true k.2.2.1 k.2.2.2) (fun h=>by cases h)) M.i_pure)
  · have k:=R.tok t ht;unfold zcE;exact M.i_grd (gA2 (by omega) (by omega)) (M.i_bind (in_true k.1.1 (by omega)) M.i_pure)
  refine M.i_bind (a:=(.inr ():Int ⊕ Unit)) ?_ M.i_pure;refine M.Out.ends ?_;refine M.o_for fl.length (fun i (k:Nat)=>k=i) ?_ ?_ rfl
  · rintro _ i hi rfl;simp only [zbZ];have hm:fl.getD i default∈fl:=by rw [List.getD_eq_getElem?_getD,List.getElem?_eq_getElem hi,Option.getD_some]; exact List.getElem_mem hi
    obtain ⟨k1,k2,k3⟩:=R.fok _ hm;have hs:=R.si _ k1;have hst:Wn.Stn dn (fl.getD i default).spring:=.inr hs;have hsh:=Wn.P_short R.nx hst;have hp:(zai dn tr sp tw dl dh fl (max 0 (fl.getD i default).spring)).Ends ((fl.getD i default).spring,dl,dh):=by
      rw [show max 0 (fl.getD i default).spring=(fl.getD i default).spring by omega];exact M.i_pure
    refine M.o_t (decide_eq_true (by omega)) (M.o_grdD (by omega) (M.o_bindE hp ?_));dsimp only;refine M.o_bind (path_out (Q:=fun x=>x=(.inl ((Wn.P dn (fl.getD i default).spring).length:Int):Int ⊕ Unit)) R.nx R.n12 hst (fun k (c:Int)=>c=(k:Int)) rfl ?_ ?_ _ _ _ _ _ _) ?_
    · rintro k hk _ rfl;simp only [zat];exact M.o_grd (gA2 (by omega) (by omega)) (M.o_pure (by omega))
    · rintro _ rfl;rfl
    · rintro ⟨x,q⟩ hq;dsimp only at hq;subst hq;dsimp only;refine M.o_bindE (contains_true k1) (M.o_f (by rw [k2]; simp) (M.o_bindE (every_int _ _ fun x hx=>stage_true (k3 x hx).1 (k3 x hx).2) (M.o_f rfl (M.o_pure rfl))))
  · rintro _ rfl;simp only [zbZ];exact M.o_f (decide_eq_false (by omega)) (M.o_pure rfl)
theorem opened_ends (R:Wn.Rv dn tr sp tw dl dh fl):(zas dn tr sp tw dl dh fl).Ends (.inr (dl,dh,0)):=by
  unfold zas;exact M.i_bind (check_ends R) (M.i_f rfl M.i_pure)
theorem station_true (R:Wn.Rv dn tr sp tw dl dh fl) {s:Int} (h0:0<=s) (h1:s<dn.length):(zcI dn tr sp tw dl dh fl s).Ends true:=by
  unfold zcI;exact M.i_bind (in_true h0 (by omega)) M.i_pure
end Go.Proofs.YtbgoclcmgbpckaaGreat
-- libW/VC.lean
namespace Go.Nm
namespace Wn
/-- What is made so far of the first stations. -/
structure Mk (n i:Nat) (l:List Int) (l2:List Span) (l3:List Int):Prop where
  z1:l.length=i
  z2:l2.length=i
  nx:∀ j,j<i->l.getD j 0 = -1∨((j:Int)+1<=l.getD j 0/\l.getD j 0<n)
  hr:∀ j,j<i->0<=(l2.getD j default).lo/\(l2.getD j default).lo<=(l2.getD j default).hi/\(l2.getD j default).hi<=1000
  s8:l3.length<=8
  sr:l3.Pairwise (· < ·)
  si:∀ x∈l3,0<=x/\x<(i:Int)
theorem getD_app {α:Type} {l:List α} {x d:α} {j:Nat} (h:j<l.length):(l++[x]).getD j d=l.getD j d:=by
  simp [List.getD,List.getElem?_append_left h]
theorem getD_appE {α:Type} {l:List α} {x d:α} {j:Nat} (h:l.length=j):(l++[x]).getD j d=x:=by
  subst h;simp [List.getD]
theorem Mk.step {n i:Nat} {l:List Int} {l2:List Span} {l3 l3':List Int} {d:Int} {s:Span} (h:Mk n i l l2 l3) (hd:d = -1∨((i:Int)+1<=d/\d<n)) (hs:0<=s.lo/\s.lo<=s.hi/\s.hi<=1000)
    (h3:l3'=l3∨(l3'=l3++[(i:Int)]/\l3.length<8)):Mk n (i+1) (l++[d]) (l2++[s]) l3':=by
  refine ⟨by simp [h.z1],by simp [h.z2],fun j hj=>?_,fun j hj=>?_,?_,?_,fun x hx=>?_⟩
  · rcases Nat.lt_or_eq_of_le (Nat.le_of_lt_succ hj) with e | e
    · rw [getD_app (by rw [h.z1]; exact e)];exact h.nx j e
    · subst e;rw [getD_appE h.z1];exact hd
  · rcases Nat.lt_or_eq_of_le (Nat.le_of_lt_succ hj) with e | e
    · rw [getD_app (by rw [h.z2]; exact e)];exact h.hr j e
    · subst e;rw [getD_appE h.z2];exact hs
  · rcases h3 with rfl | ⟨rfl,h3⟩
    · exact h.s8
    · simp; omega
  · rcases h3 with rfl | ⟨rfl,h3⟩
    · exact h.sr
    · rw [List.pairwise_append];exact ⟨h.sr,List.pairwise_singleton _ _,fun a ha b hb=>by
        rw [List.mem_singleton] at hb;subst hb;exact (h.si a ha).2⟩
  · rcases h3 with rfl | ⟨rfl,h3⟩
    · have:=h.si x hx;omega
    · rcases List.mem_append.1 hx with hx | hx
      · have:=h.si x hx;omega
      · rw [List.mem_singleton] at hx;omega
end Wn
end Go.Nm
namespace Go.Proofs.YtbgoclcmgbpckaaGreat
open Go Go.Nm
theorem made_j5 {b:List UInt8} {n i:Nat} {l:List Int} {l2:List Span} {l3:List Int} {c u x d:Int} (h:Wn.Mk n i l l2 l3) (hi:i<n) (hn:n<=12) (hS:SOk c u x) (hc:c<=100000) (hd:d = -1∨((i:Int)+1<=d/\d<n)) :
    (zaq b i l l2 l3 u x d).Out (fun r=>match r with | .inl (u',x',i',a1,a2,a3)=>i'=i+1/\SOk (c+3) u' x'/\Wn.Mk n (i+1) a1 a2 a3 | .inr _=>False):=by
  have e1:=h.z1;have e2:=h.z2;have e8:=h.s8;unfold zaq;refine M.o_bind (next_out hS (by omega) (by omega)) ?_;rintro ⟨r5,u5,x5⟩ ⟨k5,g5,_⟩;have g5:=g5 (by omega);dsimp only at k5 g5 ⊢;refine M.o_grdD (by simp; omega) (M.o_bind (next_out k5 (by omega) (by omega)) ?_);rintro ⟨r6,u6,x6⟩ ⟨k6,g6,_⟩;have g6:=g6 (by omega);dsimp only at k6 g6 ⊢;refine M.o_grd (gA2 (by omega) (by omega)) (M.o_grdD (by simp; omega) ?_);unfold zcy;have hs:0<=(⟨r5,r5+r6⟩:Span).lo/\(⟨r5,r5+r6⟩:Span).lo<=(⟨r5,r5+r6⟩:Span).hi/\(⟨r5,r5+r6⟩:Span).hi<=1000:=by dsimp only; omega
  refine M.o_if (fun hb=>?_) (fun hb=>?_)
  · have hb':=of_decide_eq_true hb;refine M.o_bind (next_out k6 (by omega) (by omega)) ?_;rintro ⟨r7,u7,x7⟩ ⟨k7,g7,_⟩;dsimp only at k7 g7 ⊢;refine M.o_if (fun hq=>?_) (fun hq=>?_)
    · exact M.o_grdD (by simp; omega) (M.o_grd (gA2 (by omega) (by omega)) (M.o_pure ⟨rfl,k7.mono (by omega),h.step hd hs (.inr ⟨rfl,by omega⟩)⟩))
    · exact M.o_grd (gA2 (by omega) (by omega)) (M.o_pure ⟨rfl,k7.mono (by omega),h.step hd hs (.inl rfl)⟩)
  · exact M.o_grd (gA2 (by omega) (by omega)) (M.o_pure ⟨rfl,k6.mono (by omega),h.step hd hs (.inl rfl)⟩)
theorem made_stations {b:List UInt8} {n:Nat} {c u x:Int} (h1:1<=n) (hn:n<=12) (hS:SOk c u x) (hc:c<=1000) :
    (M.iter (zbh b (n:Int)) (u,x,0,[],[],[])).Out (fun r=>SOk (c+100) r.1 r.2.1/\∃ l l2 l3,r.2.2=(l,l2,l3,l3,l2,l)/\Wn.Mk n n l l2 l3):=by
  refine M.o_for n (fun i (s:Int × Int × Nat × List Int × List Span × List Int)=>s.2.2.1=i/\SOk (c+6*i) s.1 s.2.1/\Wn.Mk n i s.2.2.2.1 s.2.2.2.2.1 s.2.2.2.2.2) ?_ ?_ ⟨rfl,hS.mono (by omega),rfl,rfl,fun j hj=>by omega,fun j hj=>by omega,by simp,List.Pairwise.nil,fun x hx=>by cases hx⟩
  · rintro i ⟨u,x,q,l,l2,l3⟩ hi ⟨e1,hS,hM⟩;dsimp only at e1 hS hM;subst e1;simp only [zbh];have fin:∀ {c' u' x' d:Int},SOk c' u' x'->c'+3<=c+6*((q+1:Nat):Int)->(d = -1∨((q:Int)+1<=d/\d<n)) →
        ∀ {Q:((Int × Int × Nat × List Int × List Span × List Int) ⊕ (Int × Int × List Int × List Span × List Int × List Int × List Span × List Int))->Prop},(∀ s',s'.2.2.1=q+1/\SOk (c+6*((q+1:Nat):Int)) s'.1 s'.2.1/\Wn.Mk n (q+1) s'.2.2.2.1 s'.2.2.2.2.1 s'.2.2.2.2.2->Q (.inl s')) →
        (zaq b q l l2 l3 u' x' d).Out Q:=by
      intro c' u' x' d k1 k2 k3 Q kQ;refine M.o_mono (made_j5 (b:=b) hM hi hn k1 (by omega) k3) ?_;rintro (⟨u2,x2,i2,a1,a2,a3⟩ | r) hr
      · exact kQ _ ⟨hr.1,hr.2.1.mono k2,hr.2.2⟩
      · exact hr.elim
    refine M.o_t (decide_eq_true (by omega)) (M.o_grd (gA2 (by omega) (by omega)) (M.o_if (fun hb=>?_) (fun hb=>fin hS (by omega) (.inl rfl) fun s' h=>h)));have hb':=of_decide_eq_true hb;refine M.o_bind (next_out hS (by omega) (by omega)) ?_;rintro ⟨r,u7,x7⟩ ⟨k7,g7,_⟩;dsimp only at k7 g7 ⊢;refine M.o_if (fun hq=>?_) (fun hq=>fin k7 (by omega) (.inl rfl) fun s' h=>h);refine M.o_grd (gA2 (by omega) (by omega)) (M.o_grd (gA2 (by omega) (by omega)) (M.o_bind (within_out k7 (by omega) (by omega) (by omega) (by omega)) ?_));rintro ⟨r4,u8,x8⟩ ⟨k8,g8,g9⟩;dsimp only at k8 g8 g9 ⊢;have g10:=Int.le_trans g9 (Int.min_le_left ((n:Int)-1) ((q:Int)+3));exact fin k8 (by omega) (.inr ⟨g8,by omega⟩) fun s' h=>h
  · rintro ⟨u,x,q,l,l2,l3⟩ ⟨e1,hS,hM⟩;dsimp only at e1 hS hM;subst e1;simp only [zbh];exact M.o_f (decide_eq_false (by omega)) (M.o_pure ⟨hS.mono (by omega),l,l2,l3,rfl,hM⟩)
def TwOk (n:Nat) (tw:List Town):Prop:=∀ t∈tw,(0<=t.station/\t.station<n)/\(0<=t.lead/\t.lead<=1000)/\0<=t.alarm/\t.alarm<=2000
theorem made_towns {b:List UInt8} {n:Nat} {c u x k:Int} (h1:1<=n) (hn:n<=12) (hS:SOk c u x) (hc:c<=10000) (hk:0<=k/\k<8) :
    (M.iter (zbR b (n:Int)) (u,x,k,[])).Out (fun r=>SOk (c+100) r.1 r.2.1/\r.2.2.2.length<=8/\TwOk n r.2.2.2):=by
  refine M.o_iter (fun m (s:Int × Int × Int × List Town)=>s.2.2.1=(m:Int)/\m<=8/\SOk (c+4*(8-(m:Int))) s.1 s.2.1/\s.2.2.2.length+m<=8/\TwOk n s.2.2.2) ?_ (Int.toNat k) _ ⟨by dsimp only; omega,by omega,hS.mono (by omega),by simp; omega,fun t ht=>by cases ht⟩;rintro m ⟨u,x,k,l⟩ ⟨e1,hm,hS,hl,hT⟩;dsimp only at e1 hS hl hT;subst e1;simp only [zbR];refine M.o_if (fun hb=>?_) (fun hb=>M.o_pure ⟨hS.mono (by omega),by dsimp only; omega,hT⟩);have hb:=of_decide_eq_true hb;refine M.o_bind (next_out hS (by omega) (by omega)) ?_;rintro ⟨r1,u1,x1⟩ ⟨k1,g1,_⟩;have g1:=g1 (by omega);dsimp only at k1 g1 ⊢;refine M.o_bind (next_out k1 (by omega) (by omega)) ?_;rintro ⟨r2,u2,x2⟩ ⟨k2,g2,_⟩;have g2:=g2 (by omega);dsimp only at k2 g2 ⊢;refine M.o_bind (within_out k2 (by omega) (by omega) (by omega) (by omega)) ?_;rintro ⟨r3,u3,x3⟩ ⟨k3,g3,g4⟩;dsimp only at k3 g3 g4 ⊢;refine M.o_grdD (by simp; omega) (M.o_grd (gA2 (by omega) (by omega)) (M.o_pure ⟨m-1,by omega,by dsimp only; omega,by omega,k3.mono (by omega),by simp; omega,fun t ht=>?_⟩));rcases List.mem_append.1 ht with ht | ht
  · exact hT t ht
  · rw [List.mem_singleton] at ht;subst ht;dsimp only;omega
def FlOk (dn sp:List Int) (fl:List Flood):Prop:=∀ f∈fl,f.spring∈sp/\f.stages.length=(Wn.P dn f.spring).length/\∀ x∈f.stages,0<=x/\x<=2000
theorem made_stages {b:List UInt8} {dn:List Int} {c u x s:Int} (hd:Wn.Dn dn) (hn:dn.length<=12) (hs:0<=s/\s<dn.length) (hS:SOk c u x) (hc:c<=100000) :
    (M.iter (zbb b dn) (u,x,s,[])).Out (fun r=>SOk (c+12) r.1 r.2.1/\r.2.2.2.length=(Wn.P dn s).length/\∀ x∈r.2.2.2,0<=x/\x<=2000):=by
  have hst:Wn.Stn dn s:=.inr hs;have hsh:=Wn.P_short hd hst;refine M.o_for (Wn.P dn s).length (fun i (t:Int × Int × Int × List Int)=>(Wn.P dn t.2.2.1=(Wn.P dn s).drop i/\Wn.Stn dn t.2.2.1)/\SOk (c+i) t.1 t.2.1/\t.2.2.2.length=i/\∀ x∈t.2.2.2,0<=x/\x<=2000) ?_ ?_ ⟨⟨by rw [List.drop_zero],hst⟩,hS.mono (by omega),rfl,fun x hx=>by cases hx⟩
  · rintro i ⟨u,x,q,l⟩ hi ⟨⟨e2,e3⟩,hS,hl,hx⟩;dsimp only at e2 e3 hS hl hx;subst hl;simp only [zbb];have hdr:(Wn.P dn s).drop l.length=(Wn.P dn s)[l.length] :: (Wn.P dn s).drop (l.length+1):=List.drop_eq_getElem_cons hi;have hq:0<=q/\q<dn.length:=by
      rcases e3 with rfl | e3
      · rw [Wn.P_none,hdr] at e2;cases e2
      · exact e3
    rw [Wn.P_cons hd hq.1 hq.2,hdr] at e2;obtain ⟨_,g2⟩:=List.cons.inj e2;refine M.o_t (by simp; omega) (M.o_bind (next_out hS (by omega) (by omega)) ?_);rintro ⟨r,u1,x1⟩ ⟨k1,g1,_⟩;have g1:=g1 (by omega);dsimp only at k1 g1 ⊢;refine M.o_grdD (by simp; omega) (M.o_grd (gA2 (by omega) (by omega)) (M.o_pure ⟨⟨g2,hd.next_st hq.1 hq.2⟩,k1.mono (by omega),by simp,fun y hy=>?_⟩));rcases List.mem_append.1 hy with hy | hy
    · exact hx y hy
    · rw [List.mem_singleton] at hy;omega
  · rintro ⟨u,x,q,l⟩ ⟨⟨e2,e3⟩,hS,hl,hx⟩;dsimp only at e2 e3 hS hl hx;simp only [zbb];rw [List.drop_length] at e2;have hq:q = -1:=by
      rcases e3 with e3 | e3
      · exact e3
      · rw [Wn.P_cons hd e3.1 e3.2] at e2;cases e2
    subst hq;exact M.o_f rfl (M.o_pure ⟨hS.mono (by omega),hl,hx⟩)
theorem made_floods {b:List UInt8} {dn sp:List Int} {c u x k:Int} (hd:Wn.Dn dn) (hn:dn.length<=12) (h1:1<=sp.length) (h8:sp.length<=8) (hsp:∀ x∈sp,0<=x/\x<dn.length) (hS:SOk c u x) (hc:c<=10000) (hk:0<=k/\k<10) :
    (M.iter (zcJ b dn sp) (u,x,k,[])).Out (fun r=>SOk (c+1000) r.2.2.1 r.2.2.2/\r.2.1.length<=20/\FlOk dn sp r.2.1):=by
  refine M.o_iter (fun m (s:Int × Int × Int × List Flood)=>s.2.2.1=(m:Int)/\m<=10/\SOk (c+20*(10-(m:Int))) s.1 s.2.1/\s.2.2.2.length+m<=10/\FlOk dn sp s.2.2.2) ?_ (Int.toNat k) _ ⟨by dsimp only; omega,by omega,hS.mono (by omega),by simp; omega,fun t ht=>by cases ht⟩;rintro m ⟨u,x,k,l⟩ ⟨e1,hm,hS,hl,hF⟩;dsimp only at e1 hS hl hF;subst e1;simp only [zcJ];refine M.o_if (fun hb=>?_) (fun hb=>M.o_pure ⟨hS.mono (by omega),by dsimp only; omega,hF⟩);have hb:=of_decide_eq_true hb;refine M.o_bind (next_out hS (by omega) (by omega)) ?_;rintro ⟨r,u1,x1⟩ ⟨k1,g1,_⟩;have g1:=g1 (by omega);dsimp only at k1 g1 ⊢;refine M.o_grd (gA2 (by omega) (by omega)) ?_;unfold zcs;have hm':sp.getD (Int.toNat r) 0∈sp:=by
    have hi:Int.toNat r<sp.length:=by omega
    rw [List.getD_eq_getElem?_getD,List.getElem?_eq_getElem hi,Option.getD_some];exact List.getElem_mem hi
  refine M.o_bind (made_stages hd hn (hsp _ hm') k1 (by omega)) ?_;rintro ⟨u2,x2,q2,l2⟩ ⟨k2,g2,g3⟩;dsimp only at k2 g2 g3 ⊢;refine M.o_grdD (by simp; omega) (M.o_grd (gA2 (by omega) (by omega)) (M.o_pure ⟨m-1,by omega,by dsimp only; omega,by omega,k2.mono (by omega),by simp; omega,fun f hf=>?_⟩));rcases List.mem_append.1 hf with hf | hf
  · exact hF f hf
  · rw [List.mem_singleton] at hf;subst hf;exact ⟨hm',g2,g3⟩
end Go.Proofs.YtbgoclcmgbpckaaGreat
-- libW/VD.lean
namespace Go.Proofs.YtbgoclcmgbpckaaGreat
open Go Go.Nm
theorem made_j16 {b:List UInt8} {n:Nat} {l:List Int} {l2:List Span} {sp:List Int} {c u x:Int} (h1:1<=n) (hn:n<=12) (hl:l.length=n) (hl2:l2.length=n) (hd:Wn.Dn l) (ht:∀ i,i<n->0<=(l2.getD i default).lo/\(l2.getD i default).lo<=(l2.getD i default).hi/\(l2.getD i default).hi<=1000)
    (s1:1<=sp.length) (s8:sp.length<=8) (sr:sp.Pairwise (· < ·)) (si:∀ x∈sp,0<=x/\x<(n:Int)) (hS:SOk c u x) (hc:c<=1000) :
    (zaF b (n:Int) u x l2 l sp).Out (fun y=>Wn.Rv y.1 y.2.1 y.2.2.1 y.2.2.2.1 y.2.2.2.2.1 y.2.2.2.2.2.1 y.2.2.2.2.2.2.1/\(y.2.2.2.2.1<=2/\y.2.2.2.2.2.1<=4)/\SOk (c+5000) y.2.2.2.2.2.2.2.1 y.2.2.2.2.2.2.2.2):=by
  unfold zaF;refine M.o_bind (next_out hS (by omega) (by omega)) ?_;rintro ⟨r1,u1,x1⟩ ⟨k1,g1,_⟩;have g1:=g1 (by omega);dsimp only at k1 g1 ⊢;refine M.o_bind (made_towns h1 hn k1 (by omega) g1) ?_;rintro ⟨u2,x2,a1,tw⟩ ⟨k2,t8,tok⟩;dsimp only at k2 t8 tok ⊢;refine M.o_bind (next_out k2 (by omega) (by omega)) ?_;rintro ⟨r3,u3,x3⟩ ⟨k3,g3,_⟩;have g3:=g3 (by omega);dsimp only at k3 g3 ⊢;refine M.o_bind (next_out k3 (by omega) (by omega)) ?_;rintro ⟨r4,u4,x4⟩ ⟨k4,g4,_⟩;have g4:=g4 (by omega);dsimp only at k4 g4 ⊢;refine M.o_grd (gA2 (by omega) (by omega)) ?_;unfold zbV;refine M.o_bind (next_out k4 (by omega) (by omega)) ?_;rintro ⟨r5,u5,x5⟩ ⟨k5,g5,_⟩;have g5:=g5 (by omega);dsimp only at k5 g5 ⊢;refine M.o_bind (made_floods hd (by omega) s1 s8 (by rw [hl]; exact si) k5 (by omega) g5) ?_;rintro ⟨a2,fl,u6,x6⟩ ⟨k6,f20,fok⟩;dsimp only at k6 f20 fok ⊢;exact M.o_pure ⟨⟨by rw [hl]; exact h1,by rw [hl]; exact hn,hd,by rw [hl,hl2],fun i hi=>ht i (by dsimp only at hi; omega),s1,s8,sr,by rw [hl]; exact si,t8,by rw [hl]; exact tok,g3.1,by dsimp only; omega,by dsimp only; omega,f20,fok⟩,⟨by dsimp only; omega,by dsimp only; omega⟩,k6.mono (by omega)⟩
theorem made_out {b:List UInt8} {u x:Int} (hS:SOk 0 u x):(zcB b u x 12).Out (fun y=>Wn.Rv y.1 y.2.1 y.2.2.1 y.2.2.2.1 y.2.2.2.2.1 y.2.2.2.2.2.1 y.2.2.2.2.2.2.1/\(y.2.2.2.2.1<=2/\y.2.2.2.2.2.1<=4)/\SOk 10000 y.2.2.2.2.2.2.2.1 y.2.2.2.2.2.2.2.2):=by
  unfold zcB;refine M.o_bind (within_out hS (by omega) (by omega) (by omega) (by omega)) ?_;rintro ⟨r,u1,x1⟩ ⟨k1,g1,g2⟩;dsimp only at k1 g1 g2 ⊢;obtain ⟨n,rfl⟩:=Int.eq_ofNat_of_zero_le (show 0<=r by omega);refine M.o_bind (made_stations (by omega) (by omega) k1 (by omega)) ?_;rintro ⟨u2,x2,z⟩ ⟨k2,l,l2,l3,e,hM⟩;dsimp only at k2 e ⊢;subst e;dsimp only;have hd:Wn.Dn l:=fun i hi=>by
    have:=hM.nx i (by have:=hM.z1; omega);have:=hM.z1;omega
  refine M.o_if (fun hb=>?_) (fun hb=>?_)
  · refine M.o_mono (made_j16 (b:=b) (by omega) (by omega) hM.z1 hM.z2 hd (fun i hi=>hM.hr i hi) (by simp) (by simp) (List.pairwise_singleton _ _) (fun x hx=>?_) k2 (by omega)) fun y hy=>⟨hy.1,hy.2.1,hy.2.2.mono (by omega)⟩
    rw [List.mem_singleton] at hx;omega
  · have hb:l3.length ≠ 0:=by
      have:=beq_eq_false_iff_ne.1 hb;omega
    refine M.o_mono (made_j16 (b:=b) (by omega) (by omega) hM.z1 hM.z2 hd (fun i hi=>hM.hr i hi) (by omega) hM.s8 hM.sr hM.si k2 (by omega)) fun y hy=>⟨hy.1,hy.2.1,hy.2.2.mono (by omega)⟩
end Go.Proofs.YtbgoclcmgbpckaaGreat
-- libW/VF.lean
namespace Go.Nm
namespace Wn
end Wn
end Go.Nm
namespace Go.Proofs.YtbgoclcmgbpckaaGreat
open Go Go.Nm
variable {dn:List Int} {tr:List Span} {sp:List Int} {tw:List Town} {dl dh:Int} {fl:List Flood} {ws:List Int}
theorem contains_town (l:List Town) (f:Town->M Bool) (h:∀ t∈l,(f t).Out (fun _=>True)):(zar l f).Out (fun _=>True):=by
  unfold zar zcw;refine M.o_bind (P:=fun _=>True) (M.o_bind (P:=fun _=>True) ?_ ?_) (fun _ _=>M.o_pure trivial)
  · refine M.o_for l.length (fun i (k:Nat)=>k=i) ?_ ?_ rfl
    · rintro _ i hi rfl;simp only [zaS];refine M.o_t (decide_eq_true (by omega)) (M.o_grdD (by omega) (M.o_bind (h _ ?_) fun r _=>M.o_if (fun _=>M.o_pure trivial) (fun _=>M.o_pure rfl)));rw [getD_el l hi];exact List.getElem_mem hi
    · rintro _ rfl;simp only [zaS];exact M.o_f (decide_eq_false (by omega)) (M.o_pure trivial)
  · rintro (x | x) _
    · exact M.o_pure trivial
    · exact M.o_pure trivial
variable {ar:List Bool} {rp:Nat->Int × Int × Bool} {ix:Int->Int}
end Go.Proofs.YtbgoclcmgbpckaaGreat
-- libW/VS.lean
namespace Go.Nm
/-- The element at a place. -/
def G (l:List Dem) (k:Int):Dem:=l.getD (Int.toNat k) default
/-- What is moved lies from a to b. -/
structure Mv (l l':List Dem) (a b:Int):Prop where
  ln:l'.length=l.length
  pm:l'.Perm l
  fr:∀ k,0<=k->(k<a∨b<=k)->G l' k=G l k
  qs:∀ Q:Dem->Prop,(∀ k,a<=k->k<b->Q (G l k))->∀ k,a<=k->k<b->Q (G l' k)
theorem Mv.refl (l:List Dem) (a b:Int):Mv l l a b:=⟨rfl,List.Perm.refl _,fun _ _ _=>rfl,fun _ h=>h⟩
theorem Mv.trans {l m n:List Dem} {a b:Int} (h:Mv l m a b) (k:Mv m n a b):Mv l n a b :=
  ⟨k.ln.trans h.ln,k.pm.trans h.pm,fun i h0 h1=>(k.fr i h0 h1).trans (h.fr i h0 h1),fun Q hq=>k.qs Q (h.qs Q hq)⟩
theorem Mv.mono {l m:List Dem} {a b c d:Int} (h:Mv l m a b) (h0:0<=c) (h1:c<=a) (h2:b<=d):Mv l m c d:=by
  refine ⟨h.ln,h.pm,fun k k0 hk=>h.fr k k0 (by omega),fun Q hq k k1 k2=>?_⟩;by_cases e:a<=k/\k<b
  · exact h.qs Q (fun j j1 j2=>hq j (by omega) (by omega)) k e.1 e.2
  · rw [h.fr k (by omega) (by omega)];exact hq k k1 k2
def sw (l:List Dem) (i j:Int):List Dem:=(l.set (Int.toNat i) (l.getD (Int.toNat j) default)).set (Int.toNat j) (l.getD (Int.toNat i) default)
theorem sw_len (l:List Dem) (i j:Int):(sw l i j).length=l.length:=by unfold sw; rw [List.length_set,List.length_set]
theorem sw_G {l:List Dem} {i j:Int} (hi:0<=i/\i<l.length) (hj:0<=j/\j<l.length) {k:Int} (hk:0<=k):G (sw l i j) k=if k=j then G l i else if k=i then G l j else G l k:=by
  unfold G sw;rw [gset _ _ _ _ _ (by rw [List.length_set]; omega)];by_cases e:k=j
  · subst e;rw [if_pos rfl,if_pos rfl]
  · rw [if_neg (by omega),if_neg e,gset _ _ _ _ _ (by omega)];by_cases e2:k=i
    · subst e2;rw [if_pos rfl,if_pos rfl]
    · rw [if_neg (by omega),if_neg e2]
theorem sw_mv {l:List Dem} {i j a b:Int} (h0:0<=a) (hb:b<=l.length) (hi:a<=i/\i<b) (hj:a<=j/\j<b):Mv l (sw l i j) a b:=by
  have i2:0<=i/\i<l.length:=by omega
  have j2:0<=j/\j<l.length:=by omega
  refine ⟨sw_len l i j,?_,fun k k0 hk=>?_,fun Q hq k k1 k2=>?_⟩
  · unfold sw;rw [getD_el l (show Int.toNat j<l.length by omega),getD_el l (show Int.toNat i<l.length by omega)];exact List.set_set_perm _ _
  · rw [sw_G i2 j2 k0,if_neg (by omega),if_neg (by omega)]
  · rw [sw_G i2 j2 (by omega)];split
    · exact hq i hi.1 hi.2
    · split
      · exact hq j hj.1 hj.2
      · exact hq k k1 k2
section
variable (dp:Dem->Int)
/-- In order from a to b. -/
def Srt (l:List Dem) (a b:Int):Prop:=∀ i j,a<=i->i<j->j<b->dp (G l j)<=dp (G l i)
variable {dp}
theorem Srt.sub {l:List Dem} {a b c d:Int} (h:Srt dp l a b) (h1:a<=c) (h2:d<=b):Srt dp l c d:=fun i j g1 g2 g3=>h i j (by omega) g2 (by omega)
theorem Srt.same {l l':List Dem} {a b c d:Int} (h:Srt dp l a b) (m:Mv l l' c d) (h0:0<=a) (hd:b<=c∨d<=a):Srt dp l' a b:=fun i j g1 g2 g3=>by
  rw [m.fr i (by omega) (by omega),m.fr j (by omega) (by omega)];exact h i j g1 g2 g3
theorem Srt.join {l:List Dem} {a m b:Int} (h1:Srt dp l a m) (h2:Srt dp l m b) (h3:∀ i j,a<=i->i<m->m<=j->j<b->dp (G l j)<=dp (G l i)):Srt dp l a b:=fun i j g1 g2 g3=>by
  by_cases e1:j<m
  · exact h1 i j g1 g2 e1
  · by_cases e2:i<m
    · exact h3 i j g1 e2 (by omega) g3
    · exact h2 i j (by omega) g2 g3
theorem Srt.one (l:List Dem) (a:Int):Srt dp l a (a+1):=fun i j h1 h2 h3=>by omega
end
/-- What two parts that change places are, place by place. -/
def rot (f:Int->Dem) (s m e k:Int):Dem:=if s<=k/\k<s+(e-m) then f (k+(m-s)) else if s+(e-m)<=k/\k<e then f (k-(e-m)) else f k
def sx (f:Int->Dem) (a b n k:Int):Dem:=if a<=k/\k<a+n then f (k+(b-a)) else if b<=k/\k<b+n then f (k-(b-a)) else f k
theorem rot_l {f:Int->Dem} {i j m k:Int} (hi:0<j) (hj:j<i):rot (sx f (m-i) m j) (m-(i-j)) m (m+j) k=rot f (m-i) m (m+j) k:=by
  simp only [rot,sx]
  repeat' split
  all_goals first | rfl | (congr 1; omega) | (exfalso; omega)
theorem rot_r {f:Int->Dem} {i j m k:Int} (hi:0<i) (hj:i<j):rot (sx f (m-i) (m+j-i) i) (m-i) m (m+(j-i)) k=rot f (m-i) m (m+j) k:=by
  simp only [rot,sx]
  repeat' split
  all_goals first | rfl | (congr 1; omega) | (exfalso; omega)
theorem rot_e {f:Int->Dem} {i m k:Int}:sx f (m-i) m i k=rot f (m-i) m (m+i) k:=by
  simp only [rot,sx]
  repeat' split
  all_goals first | rfl | (congr 1; omega) | (exfalso; omega)
theorem sx_step {f g:Int->Dem} {a b n i k:Int} (h0:0<=i) (hi:i<n) (hd:a+n<=b) (h1:g k=sx f a b i k) (h2:g (a+i)=sx f a b i (a+i)) (h3:g (b+i)=sx f a b i (b+i)):(if k=b+i then g (a+i) else if k=a+i then g (b+i) else g k)=sx f a b (i+1) k:=by
  rw [h1,h2,h3];simp only [sx]
  repeat' split
  all_goals first | rfl | (congr 1; omega) | (exfalso; omega)
theorem sx_zero {f:Int->Dem} {a b k:Int}:sx f a b 0 k=f k:=by
  simp only [sx]
  repeat' split
  all_goals first | rfl | (exfalso; omega)
theorem rot_id {f:Int->Dem} {s m e k:Int} (h:s=m∨e=m) (h1:s<=m) (h2:m<=e):rot f s m e k=f k:=by
  simp only [rot]
  repeat' split
  all_goals first | rfl | (congr 1; omega) | (exfalso; omega)
theorem rot_congr {f g:Int->Dem} {s m e k:Int} (h:∀ k,0<=k->f k=g k) (h0:0<=s) (h1:s<=m) (h2:m<=e) (hk:0<=k):rot f s m e k=rot g s m e k:=by
  simp only [rot];split
  · exact h _ (by omega)
  · split
    · exact h _ (by omega)
    · exact h _ hk
def cv (a b:Int):Int:=if a<b then -1 else if b<a then 1 else 0
theorem cv_neg (a b:Int):decide (cv a b<0)=decide (a<b):=by
  unfold cv;split
  · rename_i h
    rw [decide_eq_true h]; rfl
  · rename_i h
    rw [decide_eq_false h];split <;> rfl
end Go.Nm
-- libW/VT.lean
namespace Go.Proofs.YtbgoclcmgbpckaaGreat
open Go Go.Nm
variable {dn:List Int} {tr:List Span} {sp:List Int} {tw:List Town} {dl dh:Int} {fl:List Flood} {dp:Dem->Int} {ok:Dem->Prop}
theorem G_ok {l:List Dem} (h:∀ d∈l,ok d) {k:Int} (h0:0<=k) (h1:k<l.length):ok (G l k):=by
  unfold G;rw [getD_el l (by omega)];exact h _ (List.getElem_mem _)
theorem swap_out {l:List Dem} {a b n:Int} (h0:0<=a) (hn:0<=n) (h1:a+n<=b) (h2:b+n<=l.length) (h3:l.length<=1000) :
    (zaX l a b n dn tr sp tw dl dh fl dn tr sp tw dl dh fl).Out (fun l'=>Mv l l' a (b+n)/\∀ k,0<=k->G l' k=sx (G l) a b n k):=by
  unfold zaX;refine M.o_bind (P:=fun l'=>Mv l l' a (b+n)/\∀ k,0<=k->G l' k=sx (G l) a b n k) ?_ (fun y hy=>M.o_pure hy);refine M.o_for (Int.toNat n) (fun i (t:List Dem × Nat)=>t.2=i/\Mv l t.1 a (b+n)/\∀ k,0<=k->G t.1 k=sx (G l) a b i k) ?_ ?_ ⟨rfl,Mv.refl _ _ _,fun k _=>by dsimp only; rw [show ((0:Nat):Int)=0 from rfl,sx_zero]⟩
  · rintro _ ⟨q,i⟩ hi ⟨rfl,hm,hg⟩;dsimp only at hi hm hg;have ln:=hm.ln;simp only [zcu];refine M.o_t (decide_eq_true (by omega)) (M.o_grd (gA2 (by omega) (by omega)) (M.o_grd (gA2 (by omega) (by omega)) (M.o_grd (gA2 (by omega) (by omega)) (M.o_grd (gA2 (by omega) (by omega)) (M.o_grd (gA2 (by omega) (by rw [List.length_set]; omega)) (M.o_grd (gA2 (by omega) (by omega)) (M.o_pure ⟨rfl,hm.trans (sw_mv (i:=a+i) (j:=b+i) h0 (by omega) (by omega) (by omega)),fun k hk=>?_⟩)))))));have e:=sw_G (l:=q) (i:=a+i) (j:=b+i) (by omega) (by omega) hk;exact e.trans (sx_step (by omega) (by omega) h1 (hg k hk) (hg _ (by omega)) (hg _ (by omega)))
  · rintro ⟨q,i⟩ ⟨e,hm,hg⟩;dsimp only at e hm hg;subst e;simp only [zcu];refine M.o_f (decide_eq_false (by omega)) (M.o_pure ⟨hm,fun k hk=>?_⟩);have:=hg k hk
    rwa [Int.toNat_of_nonneg hn] at this
theorem rotate_out {l:List Dem} {s m e:Int} (h0:0<=s) (h1:s<m) (h2:m<e) (h3:e<=l.length) (h4:l.length<=1000) :
    (zb5 l s m e dn tr sp tw dl dh fl dn tr sp tw dl dh fl).Out (fun l'=>Mv l l' s e/\∀ k,0<=k->G l' k=rot (G l) s m e k):=by
  unfold zb5;refine M.o_grd (gA2 (by omega) (by omega)) (M.o_grd (gA2 (by omega) (by omega)) ?_);refine M.o_bind (P:=fun y=>(0<y.2.1/\y.2.1<=m-s/\y.2.1<=e-m)/\Mv l y.2.2 s e/\∀ k,0<=k->rot (G y.2.2) (m-y.2.1) m (m+y.2.1) k=rot (G l) s m e k) ?_ ?_
  · refine M.o_iter (fun (w:Nat) (t:List Dem × Int × Int)=>w=Int.toNat (t.2.1+t.2.2)/\(0<t.2.1/\t.2.1<=m-s)/\(0<t.2.2/\t.2.2<=e-m)/\Mv l t.1 s e/\∀ k,0<=k->rot (G t.1) (m-t.2.1) m (m+t.2.2) k=rot (G l) s m e k) ?_ _ _ ⟨rfl,⟨by dsimp only; omega,by dsimp only; omega⟩,⟨by dsimp only; omega,by dsimp only; omega⟩,Mv.refl _ _ _,fun k _=>by dsimp only; rw [show m-(m-s)=s by omega,show m+(e-m)=e by omega]⟩;rintro _ ⟨q,i,j⟩ ⟨rfl,⟨i0,i1⟩,⟨j0,j1⟩,hm,hr⟩;dsimp only at i0 i1 j0 j1 hm hr;have ln:=hm.ln;simp only [zdr];refine M.o_if (fun hb=>M.o_if (fun hc=>?_) (fun hc=>?_)) (fun hb=>M.o_pure ⟨⟨by dsimp only; omega,by dsimp only; omega,?_⟩,hm,fun k hk=>?_⟩)
    · have hc:=of_decide_eq_true hc;refine M.o_grd (gA2 (by omega) (by omega)) (M.o_bind (swap_out (by omega) (by omega) (by omega) (by omega) (by omega)) ?_);rintro q' ⟨hm',hg'⟩;refine M.o_grd (gA2 (by omega) (by omega)) (M.o_pure ⟨Int.toNat ((i-j)+j),by omega,rfl,⟨by dsimp only; omega,by dsimp only; omega⟩,⟨j0,j1⟩,hm.trans (hm'.mono h0 (by omega) (by omega)),fun k hk=>?_⟩);dsimp only;rw [rot_congr hg' (by omega) (by omega) (by omega) hk,rot_l (by omega) (by omega)];exact hr k hk
    · have hb:=bne_iff_ne.1 hb;have hc:=of_decide_eq_false hc;refine M.o_grd (gA2 (by omega) (by omega)) (M.o_grd (gA2 (by omega) (by omega)) (M.o_grd (gA2 (by omega) (by omega)) (M.o_bind (swap_out (by omega) (by omega) (by omega) (by omega) (by omega)) ?_)));rintro q' ⟨hm',hg'⟩;refine M.o_grd (gA2 (by omega) (by omega)) (M.o_pure ⟨Int.toNat (i+(j-i)),by omega,rfl,⟨i0,i1⟩,⟨by dsimp only; omega,by dsimp only; omega⟩,hm.trans (hm'.mono h0 (by omega) (by omega)),fun k hk=>?_⟩);dsimp only;rw [rot_congr hg' (by omega) (by omega) (by omega) hk,rot_r (by omega) (by omega)];exact hr k hk
    · have hb:i=j:=by simpa using hb
      dsimp only;omega
    · have hb:i=j:=by simpa using hb
      have:=hr k hk;rw [← hb] at this;exact this
  · rintro ⟨_,i,q⟩ ⟨⟨i0,i1,i2⟩,hm,hr⟩;dsimp only at i0 i1 i2 hm hr ⊢;have ln:=hm.ln;refine M.o_grd (gA2 (by omega) (by omega)) (M.o_bind (swap_out (by omega) (by omega) (by omega) (by omega) (by omega)) ?_);rintro q' ⟨hm',hg'⟩;refine M.o_pure ⟨hm.trans (hm'.mono h0 (by omega) (by omega)),fun k hk=>?_⟩;rw [hg' k hk,rot_e];exact hr k hk
section
variable (hc:∀ x y,ok x->ok y->(zap x y dn tr sp tw dl dh fl dn tr sp tw dl dh fl).Ends (cv (dp y) (dp x)))
include hc
theorem insert_out {l:List Dem} {a b:Int} (h0:0<=a) (h1:a<=b) (h2:b<=l.length) (h3:l.length<=1000) (ho:∀ d∈l,ok d) :
    (zbv l a b dn tr sp tw dl dh fl dn tr sp tw dl dh fl).Out (fun l'=>Mv l l' a b/\Srt dp l' a b):=by
  unfold zbv;refine M.o_grd (gA2 (by omega) (by omega)) (M.o_bind (P:=fun l'=>Mv l l' a b/\Srt dp l' a b) ?_ (fun y hy=>M.o_pure hy));by_cases hab:a=b
  · refine M.o_iter (fun (w:Nat) (t:List Dem × Int)=>t=(l,a+1)) ?_ 0 _ rfl;rintro w _ rfl;simp only [za3];exact M.o_f (decide_eq_false (by omega)) (M.o_pure ⟨Mv.refl _ _ _,fun i j g1 g2 g3=>by omega⟩)
  refine M.o_for (Int.toNat (b-a-1)) (fun n (t:List Dem × Int)=>t.2=a+1+n/\Mv l t.1 a b/\Srt dp t.1 a t.2) ?_ ?_ ⟨by dsimp only; omega,Mv.refl _ _ _,fun i j g1 g2 g3=>by dsimp only at g3; omega⟩
  · rintro n ⟨q,i⟩ hn ⟨e,hm,hs⟩;dsimp only at e hm hs;have ln:=hm.ln;simp only [za3];refine M.o_t (decide_eq_true (by omega)) (M.o_bind (P:=fun y=>Mv q y.2 a (i+1)/\Srt dp y.2 a (i+1)) ?_ ?_)
    · refine M.o_iter (fun (w:Nat) (t:List Dem × Int)=>w=Int.toNat (t.2-a)/\(a<=t.2/\t.2<=i)/\Mv q t.1 a (i+1)/\∀ x y,a<=x->x<y->y<=i->y ≠ t.2->dp (G t.1 y)<=dp (G t.1 x)) ?_ _ _ ⟨rfl,⟨by dsimp only; omega,Int.le_refl _⟩,Mv.refl _ _ _,fun x y g1 g2 g3 g4=>hs x y g1 g2 (by dsimp only at g4; omega)⟩;rintro _ ⟨r,j⟩ ⟨rfl,⟨j0,j1⟩,km,kp⟩;dsimp only at j0 j1 km kp;have kn:=km.ln;have ho':∀ d∈r,ok d:=fun d hd=>ho d (hm.pm.mem_iff.1 (km.pm.mem_iff.1 hd));simp only [zcR];refine M.o_grd (gI2 fun h=>by have:=of_decide_eq_true h; omega) (M.o_grd (gI2 fun h=>by have:=of_decide_eq_true h; omega) (M.o_grd (gI2 fun h=>by have:=of_decide_eq_true h; omega) (M.o_if (fun hb=>?_) (fun hb=>?_))))
      · have hj:=of_decide_eq_true hb;have h5:=hc (G r j) (G r (j-1)) (G_ok ho' (by omega) (by omega)) (G_ok ho' (by omega) (by omega));refine M.o_bindE h5 ?_;rw [cv_neg,hb,Bool.true_and];refine M.o_if (fun hl=>?_) (fun hl=>M.o_pure ?_)
        · have hl:=of_decide_eq_true hl;refine M.o_grd (gA2 (by omega) (by omega)) (M.o_grd (gA2 (by omega) (by omega)) (M.o_grd (gA2 (by omega) (by omega)) (M.o_grd (gA2 (by omega) (by rw [List.length_set]; omega)) (M.o_pure ⟨Int.toNat ((j-1)-a),by omega,rfl,⟨by dsimp only; omega,by dsimp only; omega⟩,km.trans (sw_mv (i:=j) (j:=j-1) h0 (by omega) (by omega) (by omega)),fun x y g1 g2 g3 g4=>?_⟩))));dsimp only at g4;have ex:=sw_G (l:=r) (i:=j) (j:=j-1) (by omega) (by omega) (show 0<=x by omega);have ey:=sw_G (l:=r) (i:=j) (j:=j-1) (by omega) (by omega) (show 0<=y by omega);show dp (G (sw r j (j-1)) y)<=dp (G (sw r j (j-1)) x);rw [ex,ey,if_neg g4];by_cases c1:y=j
          · subst c1;rw [if_pos rfl];by_cases c2:x=y-1
            · rw [if_pos c2];omega
            · rw [if_neg c2,if_neg (by omega)];exact kp x (y-1) g1 (by omega) (by omega) (by omega)
          · rw [if_neg c1];by_cases c2:x=j-1
            · rw [if_pos c2];exact kp j y (by omega) (by omega) g3 c1
            · rw [if_neg c2];by_cases c3:x=j
              · rw [if_pos c3];exact kp (j-1) y (by omega) (by omega) g3 c1
              · rw [if_neg c3];exact kp x y g1 g2 g3 c1
        · have hl:=of_decide_eq_false hl;refine ⟨km,fun x y g1 g2 g3=>?_⟩;dsimp only;by_cases c1:y=j
          · subst c1;by_cases c2:x=y-1
            · subst c2;omega
            · have:=kp x (y-1) g1 (by omega) (by omega) (by omega);omega
          · exact kp x y g1 g2 (by omega) c1
      · have hj:=of_decide_eq_false hb;refine M.o_f (by rw [hb]; rfl) (M.o_pure ⟨km,fun x y g1 g2 g3=>kp x y g1 g2 (by omega) (by omega)⟩)
    · rintro ⟨_,r⟩ ⟨km,ks⟩;dsimp only at km ks ⊢;exact M.o_grd (gA2 (by omega) (by omega)) (M.o_pure ⟨by dsimp only; omega,hm.trans (km.mono h0 (Int.le_refl _) (by omega)),ks⟩)
  · rintro ⟨q,i⟩ ⟨e,hm,hs⟩;dsimp only at e hm hs;simp only [za3];exact M.o_f (decide_eq_false (by omega)) (M.o_pure ⟨hm,hs.sub (Int.le_refl _) (by omega)⟩)
theorem find0 {l:List Dem} {a m b:Int} (h0:0<=a) (h1:a<m) (h2:m<=b) (h3:b<=l.length) (h4:l.length<=1000) (ho:∀ d∈l,ok d) (hs:Srt dp l m b) :
    (M.iter (zbd l a dn tr sp tw dl dh fl dn tr sp tw dl dh fl) (m,b)).Out (fun i=>(m<=i/\i<=b)/\(∀ c,m<=c->c<i->dp (G l a)<dp (G l c))/\∀ c,i<=c->c<b->dp (G l c)<=dp (G l a)):=by
  refine M.o_iter (fun (w:Nat) (t:Int × Int)=>w=Int.toNat (t.2-t.1)/\(m<=t.1/\t.1<=t.2/\t.2<=b)/\(∀ c,m<=c->c<t.1->dp (G l a)<dp (G l c))/\∀ c,t.2<=c->c<b->dp (G l c)<=dp (G l a)) ?_ _ _ ⟨rfl,⟨Int.le_refl _,h2,Int.le_refl _⟩,fun c g1 g2=>by dsimp only at g2; omega,fun c g1 g2=>by dsimp only at g1; omega⟩;rintro _ ⟨i,j⟩ ⟨rfl,⟨i0,i1,i2⟩,p1,p2⟩;dsimp only at i0 i1 i2 p1 p2;simp only [zbd];refine M.o_if (fun hb=>?_) (fun hb=>M.o_pure ?_)
  · have hb:=of_decide_eq_true hb;have q1:i<=(i+j) / 2/\(i+j) / 2<j:=by omega
    generalize (i+j) / 2=h at q1 ⊢;refine M.o_grd (gA2 (by omega) (by omega)) (M.o_grd (gA2 (by omega) (by omega)) (M.o_grd (gA2 (by omega) (by omega)) (M.o_grd (gA2 (by omega) (by omega)) (M.o_grd (gA2 (by omega) (by omega)) ?_))));refine M.o_bindE (hc (G l h) (G l a) (G_ok ho (by omega) (by omega)) (G_ok ho (by omega) (by omega))) ?_;rw [cv_neg];refine M.o_if (fun hl=>M.o_pure ⟨Int.toNat (j-(h+1)),by omega,rfl,⟨by dsimp only; omega,by dsimp only; omega,i2⟩,fun c g1 g2=>?_,p2⟩) (fun hl=>M.o_pure ⟨Int.toNat (h-i),by omega,rfl,⟨i0,by dsimp only; omega,by dsimp only; omega⟩,p1,fun c g1 g2=>?_⟩)
    · have hl:=of_decide_eq_true hl;dsimp only at g2;by_cases e:c=h
      · subst e; exact hl
      · have:=hs c h g1 (by omega) (by omega);omega
    · have hl:=of_decide_eq_false hl;dsimp only at g1;by_cases e:c=h
      · subst e; omega
      · have:=hs h c (by omega) (by omega) g2;omega
  · have hb:=of_decide_eq_false hb;exact ⟨⟨i0,by omega⟩,p1,fun c g1 g2=>p2 c (by omega) g2⟩
theorem find2 {l:List Dem} {a m b:Int} (h0:0<=a) (h1:a<=m) (h2:m<b) (h3:b<=l.length) (h4:l.length<=1000) (ho:∀ d∈l,ok d) (hs:Srt dp l a m) :
    (M.iter (zbq l m dn tr sp tw dl dh fl dn tr sp tw dl dh fl) (a,m)).Out (fun i=>(a<=i/\i<=m)/\(∀ c,a<=c->c<i->dp (G l m)<=dp (G l c))/\∀ c,i<=c->c<m->dp (G l c)<dp (G l m)):=by
  refine M.o_iter (fun (w:Nat) (t:Int × Int)=>w=Int.toNat (t.2-t.1)/\(a<=t.1/\t.1<=t.2/\t.2<=m)/\(∀ c,a<=c->c<t.1->dp (G l m)<=dp (G l c))/\∀ c,t.2<=c->c<m->dp (G l c)<dp (G l m)) ?_ _ _ ⟨rfl,⟨Int.le_refl _,h1,Int.le_refl _⟩,fun c g1 g2=>by dsimp only at g2; omega,fun c g1 g2=>by dsimp only at g1; omega⟩;rintro _ ⟨i,j⟩ ⟨rfl,⟨i0,i1,i2⟩,p1,p2⟩;dsimp only at i0 i1 i2 p1 p2;simp only [zbq];refine M.o_if (fun hb=>?_) (fun hb=>M.o_pure ?_)
  · have hb:=of_decide_eq_true hb;have q1:i<=(i+j) / 2/\(i+j) / 2<j:=by omega
    generalize (i+j) / 2=h at q1 ⊢;refine M.o_grd (gA2 (by omega) (by omega)) (M.o_grd (gA2 (by omega) (by omega)) (M.o_grd (gA2 (by omega) (by omega)) (M.o_grd (gA2 (by omega) (by omega)) (M.o_grd (gA2 (by omega) (by omega)) ?_))));refine M.o_bindE (hc (G l m) (G l h) (G_ok ho (by omega) (by omega)) (G_ok ho (by omega) (by omega))) ?_;rw [cv_neg];refine M.o_if (fun hl=>M.o_pure ⟨Int.toNat (j-(h+1)),by omega,rfl,⟨by dsimp only; omega,by dsimp only; omega,i2⟩,fun c g1 g2=>?_,p2⟩) (fun hl=>M.o_pure ⟨Int.toNat (h-i),by omega,rfl,⟨i0,by dsimp only; omega,by dsimp only; omega⟩,p1,fun c g1 g2=>?_⟩)
    · have hl:¬ dp (G l h)<dp (G l m):=by simpa using hl
      dsimp only at g2;by_cases e:c=h
      · subst e; omega
      · have:=hs c h g1 (by omega) (by omega);omega
    · have hl:dp (G l h)<dp (G l m):=by simpa using hl
      dsimp only at g1;by_cases e:c=h
      · subst e; exact hl
      · have:=hs h c (by omega) (by omega) g2;omega
  · have hb:=of_decide_eq_false hb;exact ⟨⟨i0,by omega⟩,p1,fun c g1 g2=>p2 c (by omega) g2⟩
theorem find4 {l:List Dem} {a m b s0 r0 p:Int} (hp:p=(a+b) / 2+m-1) (hab:0<=a+b) (hm:0<=m) (h3:b<=l.length) (ha:a<=b) (h4:l.length<=1000) (ho:∀ d∈l,ok d) (h0:0<=a) (h1:a<=s0) (h2:s0<=r0) (h5:r0<=m) (h6:m<=b)
    (hr:∀ c,s0<=c->c<r0->m<=p-c/\p-c<b) (hs1:Srt dp l a m) (hs2:Srt dp l m b) :
    (M.iter (za0 l a m b dn tr sp tw dl dh fl dn tr sp tw dl dh fl) (s0,r0)).Out (fun s=>(s0<=s/\s<=r0)/\(∀ c,s0<=c->c<s->dp (G l (p-c))<=dp (G l c))/\∀ c,s<=c->c<r0->dp (G l c)<dp (G l (p-c))):=by
  refine M.o_iter (fun (w:Nat) (t:Int × Int)=>w=Int.toNat (t.2-t.1)/\(s0<=t.1/\t.1<=t.2/\t.2<=r0)/\(∀ c,s0<=c->c<t.1->dp (G l (p-c))<=dp (G l c))/\∀ c,t.2<=c->c<r0->dp (G l c)<dp (G l (p-c))) ?_ _ _ ⟨rfl,⟨Int.le_refl _,h2,Int.le_refl _⟩,fun c g1 g2=>by dsimp only at g2; omega,fun c g1 g2=>by dsimp only at g1; omega⟩;rintro _ ⟨i,j⟩ ⟨rfl,⟨i0,i1,i2⟩,p1,p2⟩;dsimp only at i0 i1 i2 p1 p2;simp only [za0];rw [← hp];refine M.o_if (fun hb=>?_) (fun hb=>M.o_pure ?_)
  · have hb:=of_decide_eq_true hb;have q1:i<=(i+j) / 2/\(i+j) / 2<j:=by omega
    generalize (i+j) / 2=h at q1 ⊢;have q2:=hr h (by omega) (by omega);refine M.o_grd (gA2 (by omega) (by omega)) (M.o_grd (gA2 (by omega) (by omega)) (M.o_grd (gA2 (by omega) (by omega)) (M.o_grd (gA2 (by omega) (by omega)) (M.o_grd (gA2 (by omega) (by omega)) (M.o_grd (gA2 (by omega) (by omega)) ?_)))));refine M.o_bindE (hc (G l (p-h)) (G l h) (G_ok ho (by omega) (by omega)) (G_ok ho (by omega) (by omega))) ?_;rw [cv_neg];refine M.o_if (fun hl=>M.o_pure ⟨Int.toNat (j-(h+1)),by omega,rfl,⟨by dsimp only; omega,by dsimp only; omega,i2⟩,fun c g1 g2=>?_,p2⟩) (fun hl=>M.o_pure ⟨Int.toNat (h-i),by omega,rfl,⟨i0,by dsimp only; omega,by dsimp only; omega⟩,p1,fun c g1 g2=>?_⟩)
    · have hl:¬ dp (G l h)<dp (G l (p-h)):=by simpa using hl
      dsimp only at g2;by_cases e:c=h
      · subst e; omega
      · have q3:=hr c g1 (by omega);have:=hs1 c h (by omega) (by omega) (by omega);have:=hs2 (p-h) (p-c) (by omega) (by omega) (by omega);omega
    · have hl:dp (G l h)<dp (G l (p-h)):=by simpa using hl
      dsimp only at g1;by_cases e:c=h
      · subst e; exact hl
      · have q3:=hr c (by omega) g2;have:=hs1 h c (by omega) (by omega) (by omega);have:=hs2 (p-c) (p-h) (by omega) (by omega) (by omega);omega
  · have hb:=of_decide_eq_false hb;exact ⟨⟨i0,by omega⟩,p1,fun c g1 g2=>p2 c (by omega) g2⟩
omit hc in
theorem shift1 {l:List Dem} {a b i:Int} (h0:0<=a) (h1:a<i) (h2:i<=b) (h3:b<=l.length) (h4:l.length<=1000) :
    (M.iter (zaR i) (l,a)).Out (fun l'=>Mv l l' a b/\∀ k,0<=k->G l' k=if a<=k/\k<i-1 then G l (k+1) else if k=i-1 then G l a else G l k):=by
  refine M.o_for (Int.toNat (i-1-a)) (fun n (t:List Dem × Int)=>t.2=a+n/\Mv l t.1 a b/\∀ k,0<=k->G t.1 k=if a<=k/\k<t.2 then G l (k+1) else if k=t.2 then G l a else G l k) ?_ ?_ ⟨by dsimp only; omega,Mv.refl _ _ _,fun k hk=>?_⟩
  · rintro n ⟨q,k⟩ hn ⟨e,hm,hg⟩;dsimp only at e hm hg;have ln:=hm.ln;simp only [zaR];refine M.o_grd (gA2 (by omega) (by omega)) (M.o_t (decide_eq_true (by omega)) (M.o_grd (gA2 (by omega) (by omega)) (M.o_grd (gA2 (by omega) (by omega)) (M.o_grd (gA2 (by omega) (by omega)) (M.o_grd (gA2 (by omega) (by rw [List.length_set]; omega)) (M.o_pure ⟨by dsimp only; omega,hm.trans (sw_mv (i:=k) (j:=k+1) h0 (by omega) (by omega) (by omega)),fun x hx=>?_⟩))))));have e1:=sw_G (l:=q) (i:=k) (j:=k+1) (by omega) (by omega) hx;refine e1.trans ?_;dsimp only;rw [hg k (by omega),hg (k+1) (by omega),hg x hx]
    repeat' split
    all_goals first | rfl | (congr 1; omega) | (exfalso; omega)
  · rintro ⟨q,k⟩ ⟨e,hm,hg⟩;dsimp only at e hm hg;obtain rfl:k=i-1:=by omega
    simp only [zaR];exact M.o_grd (gA2 (by omega) (by omega)) (M.o_f (decide_eq_false (by omega)) (M.o_pure ⟨hm,hg⟩))
  · dsimp only;by_cases e:k=a
    · rw [if_neg (by omega),if_pos e,e]
    · rw [if_neg (by omega),if_neg e]
omit hc in
theorem shift3 {l:List Dem} {a b i m:Int} (h0:0<=a) (h1:a<=i) (h2:i<=m) (h5:m<b) (h3:b<=l.length) (h4:l.length<=1000) :
    (M.iter (zaK i) (l,m)).Out (fun l'=>Mv l l' a b/\∀ k,0<=k->G l' k=if k=i then G l m else if i<k/\k<=m then G l (k-1) else G l k):=by
  refine M.o_for (Int.toNat (m-i)) (fun n (t:List Dem × Int)=>t.2=m-n/\Mv l t.1 a b/\∀ k,0<=k->G t.1 k=if k=t.2 then G l m else if t.2<k/\k<=m then G l (k-1) else G l k) ?_ ?_ ⟨by dsimp only; omega,Mv.refl _ _ _,fun k hk=>?_⟩
  · rintro n ⟨q,k⟩ hn ⟨e,hm,hg⟩;dsimp only at e hm hg;have ln:=hm.ln;simp only [zaK];refine M.o_t (decide_eq_true (by omega)) (M.o_grd (gA2 (by omega) (by omega)) (M.o_grd (gA2 (by omega) (by omega)) (M.o_grd (gA2 (by omega) (by omega)) (M.o_grd (gA2 (by omega) (by rw [List.length_set]; omega)) (M.o_pure ⟨by dsimp only; omega,hm.trans (sw_mv (i:=k) (j:=k-1) h0 (by omega) (by omega) (by omega)),fun x hx=>?_⟩)))));have e1:=sw_G (l:=q) (i:=k) (j:=k-1) (by omega) (by omega) hx;refine e1.trans ?_;dsimp only;rw [hg k (by omega),hg (k-1) (by omega),hg x hx]
    repeat' split
    all_goals first | rfl | (congr 1; omega) | (exfalso; omega)
  · rintro ⟨q,k⟩ ⟨e,hm,hg⟩;dsimp only at e hm hg;obtain rfl:k=i:=by omega
    simp only [zaK];exact M.o_f (decide_eq_false (by omega)) (M.o_pure ⟨hm,hg⟩)
  · dsimp only;by_cases e:k=m
    · rw [if_pos e,e]
    · rw [if_neg e,if_neg (by omega)]
theorem j7_out {self:(List Dem × Int × Int × Int × List Int × List Span × List Int × List Town × Int × Int × List Flood × List Int × List Span × List Int × List Town × Int × Int × List Flood)->M (List Dem)} {l:List Dem} {a m b s0 r0:Int}
    (hself:∀ (l:List Dem) (a' m' b':Int),0<=a'->a'<m'->m'<b'->b'-a'<b-a->b'<=l.length->l.length<=1000->(∀ d∈l,ok d)->Srt dp l a' m'->Srt dp l m' b'->(self (l,a',m',b',dn,tr,sp,tw,dl,dh,fl,dn,tr,sp,tw,dl,dh,fl)).Out (fun l'=>Mv l l' a' b'/\Srt dp l' a' b'))
    (h0:0<=a) (h1:a<m) (h2:m<b) (h3:b<=l.length) (h4:l.length<=1000) (ho:∀ d∈l,ok d) (hs1:Srt dp l a m) (hs2:Srt dp l m b)
    (hst:((a+b) / 2<m/\s0=(a+b) / 2+m-b/\r0=(a+b) / 2)∨(m<=(a+b) / 2/\s0=a/\r0=m)) :
    (zaB l a m b dn tr sp tw dl dh fl dn tr sp tw dl dh fl self s0 r0).Out (fun l'=>Mv l l' a b/\Srt dp l' a b):=by
  unfold zaB;obtain ⟨d,hd⟩:∃ d,d=(a+b) / 2:=⟨_,rfl⟩
  have d1:2*d<=a+b/\a+b<2*d+2:=by omega
  have F:=find4 hc (l:=l) (a:=a) (m:=m) (b:=b) (s0:=s0) (r0:=r0) (p:=d+m-1) (by rw [hd]) (by omega) (by omega) h3 (by omega) h4 ho h0 (by omega) (by omega) (by omega) (by omega) (fun c g1 g2=>by omega) hs1 hs2;rw [← hd] at hst ⊢;refine M.o_grd (gA2 (by omega) (by omega)) (M.o_bind F ?_);rintro s ⟨⟨b1,b2⟩,p1,p2⟩;obtain ⟨e,he⟩:∃ e,e=d+m-s:=⟨_,rfl⟩
  have e1:a<=s/\s<=m/\m<=e/\e<=b:=by omega
  rw [← he]
  -- what is left,once both parts have changed places
  have rest:∀ l1:List Dem,Mv l l1 a b->(∀ k,0<=k->G l1 k=rot (G l) s m e k)->(zav a m b dn tr sp tw dl dh fl dn tr sp tw dl dh fl self s l1).Out (fun l'=>Mv l l' a b/\Srt dp l' a b):=by
    intro l1 hm hg;have ln:=hm.ln;have ho1:∀ x∈l1,ok x:=fun x hx=>ho x (hm.pm.mem_iff.1 hx);have g1:∀ k,a<=k->k<s->G l1 k=G l k:=fun k k1 k2=>by rw [hg k (by omega)]; unfold rot; rw [if_neg (by omega),if_neg (by omega)]
    have g2:∀ k,s<=k->k<d->G l1 k=G l (k+(m-s)):=fun k k1 k2=>by rw [hg k (by omega)]; unfold rot; rw [if_pos (by omega)]
    have g3:∀ k,d<=k->k<e->G l1 k=G l (k-(e-m)):=fun k k1 k2=>by rw [hg k (by omega)]; unfold rot; rw [if_neg (by omega),if_pos (by omega)]
    have g4:∀ k,e<=k->G l1 k=G l k:=fun k k1=>by rw [hg k (by omega)]; unfold rot; rw [if_neg (by omega),if_neg (by omega)]
    have r1:Srt dp l1 a s:=fun i j i1 i2 i3=>by rw [g1 i i1 (by omega),g1 j (by omega) i3]; exact hs1 i j i1 i2 (by omega)
    have r2:Srt dp l1 s d:=fun i j i1 i2 i3=>by rw [g2 i i1 (by omega),g2 j (by omega) i3]; exact hs2 _ _ (by omega) (by omega) (by omega)
    have r3:Srt dp l1 d e:=fun i j i1 i2 i3=>by rw [g3 i i1 (by omega),g3 j (by omega) i3]; exact hs1 _ _ (by omega) (by omega) (by omega)
    have r4:Srt dp l1 e b:=fun i j i1 i2 i3=>by rw [g4 i i1,g4 j (by omega)]; exact hs2 i j (by omega) i2 i3
    have cr:∀ i j,a<=i->i<d->d<=j->j<b->dp (G l1 j)<=dp (G l1 i):=by
      intro i j i1 i2 j1 j2;by_cases ci:i<s
      · by_cases cj:j<e
        · rw [g1 i i1 ci,g3 j j1 cj];exact hs1 _ _ i1 (by omega) (by omega)
        · rw [g1 i i1 ci,g4 j (by omega)];have k1:=p1 (s-1) (by omega) (by omega);rw [show d+m-1-(s-1)=e by omega] at k1;have k2:dp (G l j)<=dp (G l e):=by
            by_cases c:j=e
            · rw [c]; exact Int.le_refl _
            · exact hs2 e j (by omega) (by omega) j2
          have k3:dp (G l (s-1))<=dp (G l i):=by
            by_cases c:i=s-1
            · rw [c]; exact Int.le_refl _
            · exact hs1 i (s-1) i1 (by omega) (by omega)
          omega
      · by_cases cj:j<e
        · rw [g2 i (by omega) i2,g3 j j1 cj];have k1:=p2 s (Int.le_refl _) (by omega);rw [show d+m-1-s=e-1 by omega] at k1;have k2:dp (G l (j-(e-m)))<=dp (G l s):=by
            by_cases c:j-(e-m)=s
            · rw [c]; exact Int.le_refl _
            · exact hs1 s _ (by omega) (by omega) (by omega)
          have k3:dp (G l (e-1))<=dp (G l (i+(m-s))):=by
            by_cases c:i+(m-s)=e-1
            · rw [c]; exact Int.le_refl _
            · exact hs2 _ (e-1) (by omega) (by omega) (by omega)
          omega
        · rw [g2 i (by omega) i2,g4 j (by omega)];exact hs2 _ _ (by omega) (by omega) j2
    -- the right half
    have right:∀ l2:List Dem,Mv l1 l2 a d->Srt dp l2 a d->(zaw a m b dn tr sp tw dl dh fl dn tr sp tw dl dh fl self s l2).Out (fun l'=>Mv l l' a b/\Srt dp l' a b):=by
      intro l2 hm2 hq;have ln2:=hm2.ln;have ho2:∀ x∈l2,ok x:=fun x hx=>ho1 x (hm2.pm.mem_iff.1 hx);have t3:Srt dp l2 d e:=r3.same hm2 (by omega) (.inr (Int.le_refl _));have t4:Srt dp l2 e b:=r4.same hm2 (by omega) (.inr (by omega));have c2:∀ i j,a<=i->i<d->d<=j->j<b->dp (G l2 j)<=dp (G l2 i):=fun i j i1 i2 j1 j2=>by
        rw [hm2.fr j (by omega) (by omega)];exact hm2.qs (fun x=>dp (G l1 j)<=dp x) (fun k k1 k2=>cr k j k1 k2 j1 j2) i i1 i2
      unfold zaw;rw [← hd,← he];refine M.o_if (fun hb=>?_) (fun hb=>M.o_pure ⟨hm.trans (hm2.mono h0 (Int.le_refl _) (by omega)),hq.join ?_ c2⟩)
      · rw [Bool.and_eq_true,decide_eq_true_eq,decide_eq_true_eq] at hb;refine M.o_bind (hself l2 d e b (by omega) (by omega) (by omega) (by omega) (by omega) (by omega) ho2 t3 t4) ?_;rintro l3 ⟨hm3,hq3⟩;refine M.o_pure ⟨(hm.trans (hm2.mono h0 (Int.le_refl _) (by omega))).trans (hm3.mono h0 (by omega) (Int.le_refl _)),(hq.same hm3 (by omega) (.inl (Int.le_refl _))).join hq3 fun i j i1 i2 j1 j2=>?_⟩;rw [hm3.fr i (by omega) (by omega)];exact hm3.qs (fun x=>dp x<=dp (G l2 i)) (fun k k1 k2=>c2 i k i1 i2 k1 k2) j j1 j2
      · rw [Bool.and_eq_false_iff,decide_eq_false_iff_not,decide_eq_false_iff_not] at hb;intro i j i1 i2 i3;by_cases c:e=b
        · exact t3 i j i1 i2 (by omega)
        · exact t4 i j (by omega) i2 i3
    unfold zav;rw [← hd];refine M.o_if (fun hb=>?_) (fun hb=>right l1 (Mv.refl _ _ _) ?_)
    · rw [Bool.and_eq_true,decide_eq_true_eq,decide_eq_true_eq] at hb;refine M.o_bind (hself l1 a s d h0 (by omega) (by omega) (by omega) (by omega) (by omega) ho1 r1 r2) ?_;rintro l2 ⟨hm2,hq2⟩;exact right l2 hm2 hq2
    · rw [Bool.and_eq_false_iff,decide_eq_false_iff_not,decide_eq_false_iff_not] at hb;intro i j i1 i2 i3;by_cases c:s=a
      · exact r2 i j (by omega) i2 i3
      · exact r1 i j i1 i2 (by omega)
  refine M.o_grd (gA2 (by omega) (by omega)) (M.o_if (fun hb=>?_) (fun hb=>rest l (Mv.refl _ _ _) fun k hk=>?_))
  · rw [Bool.and_eq_true,decide_eq_true_eq,decide_eq_true_eq] at hb;refine M.o_bind (rotate_out (by omega) (by omega) (by omega) (by omega) h4) ?_;rintro l1 ⟨hm,hg⟩;exact rest l1 (hm.mono h0 (by omega) (by omega)) hg
  · rw [Bool.and_eq_false_iff,decide_eq_false_iff_not,decide_eq_false_iff_not] at hb;exact (rot_id (by omega) (by omega) (by omega)).symm
theorem sym_out:∀ (w:Nat) (l:List Dem) (a m b:Int),w=Int.toNat (b-a)->0<=a->a<m->m<b->b<=l.length->l.length<=1000->(∀ d∈l,ok d)->Srt dp l a m->Srt dp l m b →
    (za8 l a m b dn tr sp tw dl dh fl dn tr sp tw dl dh fl).Out (fun l'=>Mv l l' a b/\Srt dp l' a b):=by
  intro w;induction w using Nat.strongRecOn with
  | _ w ih =>
  intro l a m b hw h0 h1 h2 h3 h4 ho hs1 hs2;unfold za8
  suffices k:(zan (M.fix zan zcS) (l,a,m,b,dn,tr,sp,tw,dl,dh,fl,dn,tr,sp,tw,dl,dh,fl)).Out (fun l'=>Mv l l' a b/\Srt dp l' a b) by
    obtain ⟨r,k1,k2⟩:=k;exact ⟨r,M.i_fix k1,k2⟩
  simp only [zan];refine M.o_grd (gA2 (by omega) (by omega)) (M.o_if (fun hb=>?_) (fun hb=>M.o_grd (gA2 (by omega) (by omega)) (M.o_if (fun hb2=>?_) (fun hb2=>?_))))
  · have hb:m-a=1:=beq_iff_eq.1 hb;refine M.o_bind (find0 hc h0 h1 (by omega) h3 h4 ho hs2) ?_;rintro i ⟨⟨i1,i2⟩,p1,p2⟩;refine M.o_bind (shift1 (b:=b) h0 (by omega) i2 h3 h4) ?_;rintro l' ⟨hm,hg⟩;refine M.o_pure ⟨hm,fun x y x1 x2 x3=>?_⟩;have ex:=hg x (by omega);have ey:=hg y (by omega);by_cases c1:x<i-1
    · rw [if_pos (by omega)] at ex;by_cases c2:y<i-1
      · rw [if_pos (by omega)] at ey;rw [ex,ey];exact hs2 _ _ (by omega) (by omega) (by omega)
      · rw [if_neg (by omega)] at ey;by_cases c3:y=i-1
        · rw [if_pos c3] at ey;rw [ex,ey];exact Int.le_of_lt (p1 (x+1) (by omega) (by omega))
        · rw [if_neg c3] at ey;rw [ex,ey];exact hs2 _ _ (by omega) (by omega) x3
    · rw [if_neg (by omega)] at ex;rw [if_neg (by omega),if_neg (by omega)] at ey;by_cases c3:x=i-1
      · rw [if_pos c3] at ex;rw [ex,ey];exact p2 y (by omega) x3
      · rw [if_neg c3] at ex;rw [ex,ey];exact hs2 x y (by omega) x2 x3
  · have hb:b-m=1:=beq_iff_eq.1 hb2;refine M.o_bind (find2 hc h0 (by omega) h2 h3 h4 ho hs1) ?_;rintro i ⟨⟨i1,i2⟩,p1,p2⟩;refine M.o_bind (shift3 (b:=b) h0 i1 i2 h2 h3 h4) ?_;rintro l' ⟨hm,hg⟩;refine M.o_pure ⟨hm,fun x y x1 x2 x3=>?_⟩;have ex:=hg x (by omega);have ey:=hg y (by omega);by_cases c1:y=i
    · rw [if_pos c1] at ey;rw [if_neg (by omega),if_neg (by omega)] at ex;rw [ex,ey];exact p1 x x1 (by omega)
    · rw [if_neg c1] at ey;by_cases c2:i<y
      · rw [if_pos (by omega)] at ey;by_cases c3:x=i
        · rw [if_pos c3] at ex;rw [ex,ey];exact Int.le_of_lt (p2 (y-1) (by omega) (by omega))
        · rw [if_neg c3] at ex;by_cases c4:i<x
          · rw [if_pos (by omega)] at ex;rw [ex,ey];exact hs1 _ _ (by omega) (by omega) (by omega)
          · rw [if_neg (by omega)] at ex;rw [ex,ey];by_cases c5:x=y-1
            · omega
            · exact hs1 _ _ (by omega) (by omega) (by omega)
      · rw [if_neg (by omega)] at ey;rw [if_neg (by omega),if_neg (by omega)] at ex;rw [ex,ey];exact hs1 x y x1 x2 (by omega)
  · have hself:∀ (l:List Dem) (a' m' b':Int),0<=a'->a'<m'->m'<b'->b'-a'<b-a->b'<=l.length->l.length<=1000->(∀ d∈l,ok d)->Srt dp l a' m'->Srt dp l m' b'->(M.fix zan zcS (l,a',m',b',dn,tr,sp,tw,dl,dh,fl,dn,tr,sp,tw,dl,dh,fl)).Out (fun l'=>Mv l l' a' b'/\Srt dp l' a' b') :=
      fun l' a' m' b' k0 k1 k2 k3 k4 k5 k6 k7 k8=>ih (Int.toNat (b'-a')) (by omega) l' a' m' b' rfl k0 k1 k2 k4 k5 k6 k7 k8
    refine M.o_grd (gA2 (by omega) (by omega)) (M.o_grd (gA2 (by omega) (by omega)) (M.o_grd (gA2 (by omega) (by omega)) (M.o_grd (gA2 (by omega) (by omega)) (M.o_if (fun hd=>?_) (fun hd=>?_)))))
    · have hd:=of_decide_eq_true hd;exact M.o_grd (gA2 (by omega) (by omega)) (j7_out hc hself h0 h1 h2 h3 h4 ho hs1 hs2 (.inl ⟨hd,rfl,rfl⟩))
    · have hd:=of_decide_eq_false hd;exact j7_out hc hself h0 h1 h2 h3 h4 ho hs1 hs2 (.inr ⟨by omega,rfl,rfl⟩)
theorem stable_out {l:List Dem} (h4:l.length<=1000) (ho:∀ d∈l,ok d) :
    (zcc l (l.length:Int) dn tr sp tw dl dh fl dn tr sp tw dl dh fl).Out (fun l'=>Mv l l' 0 l.length/\Srt dp l' 0 l.length):=by
  obtain ⟨n,hn⟩:∃ n:Int,n=l.length:=⟨_,rfl⟩
  rw [← hn];unfold zcc;refine M.o_bind (P:=fun y=>Mv l y.2.2 0 n/\∃ t:Nat,y.2.1=(t:Int)*20/\y.2.1<=n/\n<y.2.1+20/\∀ t':Nat,t'<t->Srt dp y.2.2 ((t':Int)*20) ((t':Int)*20+20)) ?_ ?_
  · refine M.o_iter (fun (w:Nat) (y:List Dem × Int × Int)=>w=Int.toNat (n-y.2.1)/\y.2.2=y.2.1+20/\Mv l y.1 0 n/\∃ t:Nat,y.2.1=(t:Int)*20/\y.2.1<=n/\∀ t':Nat,t'<t->Srt dp y.1 ((t':Int)*20) ((t':Int)*20+20)) ?_ _ _ ⟨rfl,rfl,Mv.refl _ _ _,0,rfl,by dsimp only; omega,fun t' h=>by omega⟩;rintro _ ⟨q,a,b⟩ ⟨rfl,e,hm,t,e2,h5,hs⟩;dsimp only at e hm e2 h5 hs;have ln:=hm.ln;simp only [zcO];refine M.o_if (fun hb=>?_) (fun hb=>M.o_pure ?_)
    · have hb:=of_decide_eq_true hb;refine M.o_bind (insert_out hc (l:=q) (a:=a) (b:=b) (by omega) (by omega) (by omega) (by omega) fun d hd=>ho d (hm.pm.mem_iff.1 hd)) ?_;rintro q' ⟨km,ks⟩;refine M.o_grd (gA2 (by omega) (by omega)) (M.o_pure ⟨Int.toNat (n-b),by omega,rfl,rfl,hm.trans (km.mono (by omega) (by omega) (by omega)),t+1,by dsimp only; omega,hb,fun t' h=>?_⟩);dsimp only;by_cases c:t'=t
      · subst c;rw [← e2,← e];exact ks
      · exact (hs t' (by omega)).same km (by omega) (.inl (by omega))
    · have hb:=of_decide_eq_false hb;exact ⟨hm,t,e2,h5,by dsimp only; omega,hs⟩
  rintro ⟨_,a,q⟩ ⟨hm,t,e2,h5,h6,hs⟩;dsimp only at hm e2 h5 h6 hs ⊢;have ln:=hm.ln;refine M.o_bind (insert_out hc (l:=q) (a:=a) (b:=n) (by omega) h5 (by omega) (by omega) fun d hd=>ho d (hm.pm.mem_iff.1 hd)) ?_;rintro q1 ⟨km,ks⟩;have hb0:∀ t':Nat,∀ i j,(t':Int)*20<=i->i<j->j<(t':Int)*20+20->j<n->dp (G q1 j)<=dp (G q1 i):=by
    intro t' i j g1 g2 g3 g4;rcases Nat.lt_trichotomy t' t with c | c | c
    · exact ((hs t' c).same km (by omega) (.inl (by omega))) i j g1 g2 g3
    · subst c;exact ks i j (by omega) g2 g4
    · omega
  refine M.o_bind (P:=fun l'=>Mv l l' 0 n/\Srt dp l' 0 n) ?_ (fun y hy=>M.o_pure hy);refine M.o_iter (fun (w:Nat) (y:List Dem × Int)=>w=Int.toNat (n-y.2)/\(20<=y.2/\y.2<=2000)/\Mv l y.1 0 n/\∀ t':Nat,∀ i j,(t':Int)*y.2<=i->i<j->j<(t':Int)*y.2+y.2->j<n->dp (G y.1 j)<=dp (G y.1 i)) ?_ _ _ ⟨rfl,⟨by dsimp only; omega,by dsimp only; omega⟩,hm.trans (km.mono (by omega) (by omega) (Int.le_refl _)),hb0⟩;rintro _ ⟨q2,bs⟩ ⟨rfl,⟨bs0,bs1⟩,hm2,hb2⟩;dsimp only at bs0 bs1 hm2 hb2;have ln2:=hm2.ln;simp only [zc7];refine M.o_if (fun hlt=>?_) (fun hlt=>M.o_pure ⟨hm2,fun i j g1 g2 g3=>?_⟩)
  · have hlt:=of_decide_eq_true hlt;refine M.o_grd (gA2 (by omega) (by omega)) ?_
    -- pairs of blocks
    refine M.o_bind (P:=fun y=>Mv l y.2.2 0 n/\∃ t:Nat,y.2.1=2*((t:Int)*bs)/\y.2.1<=n/\n<y.2.1+2*bs/\(∀ t':Nat,t'<t->Srt dp y.2.2 (2*((t':Int)*bs)) (2*((t':Int)*bs)+2*bs))/\∀ p:Nat,y.2.1<=(p:Int)*bs->∀ i j,(p:Int)*bs<=i->i<j->j<(p:Int)*bs+bs->j<n->dp (G y.2.2 j)<=dp (G y.2.2 i)) ?_ ?_
    · refine M.o_iter (fun (w:Nat) (y:List Dem × Int × Int)=>w=Int.toNat (n-y.2.1)/\y.2.2=y.2.1+2*bs/\Mv l y.1 0 n/\∃ t:Nat,y.2.1=2*((t:Int)*bs)/\y.2.1<=n/\(∀ t':Nat,t'<t->Srt dp y.1 (2*((t':Int)*bs)) (2*((t':Int)*bs)+2*bs))/\∀ p:Nat,y.2.1<=(p:Int)*bs->∀ i j,(p:Int)*bs<=i->i<j->j<(p:Int)*bs+bs->j<n->dp (G y.1 j)<=dp (G y.1 i)) ?_ _ _ ⟨rfl,by dsimp only; omega,hm2,0,by dsimp only; omega,by dsimp only; omega,fun t' h=>by omega,fun p _=>hb2 p⟩;rintro _ ⟨q3,a3,b3⟩ ⟨rfl,e3,hm3,t3,e4,h7,hs3,hr3⟩;dsimp only at e3 hm3 e4 h7 hs3 hr3;have ln3:=hm3.ln;have f1:((2*t3:Nat):Int)*bs=a3:=by rw [show ((2*t3:Nat):Int)=2*(t3:Int) by omega,Int.mul_assoc,e4]
      have f2:((2*t3+1:Nat):Int)*bs=a3+bs:=by rw [show ((2*t3+1:Nat):Int)=2*(t3:Int)+1 by omega,Int.add_mul,Int.mul_assoc,Int.one_mul,e4]
      simp only [zc8];have t0:0<=(t3:Int)*bs:=Int.mul_nonneg (by omega) (by omega);refine M.o_if (fun hb=>?_) (fun hb=>M.o_pure ?_)
      · have hb:=of_decide_eq_true hb;refine M.o_grd (gA2 (by omega) (by omega)) (M.o_bind (sym_out hc _ q3 a3 (a3+bs) b3 rfl (by omega) (by omega) (by omega) (by omega) (by omega) (fun d hd=>ho d (hm3.pm.mem_iff.1 hd)) ?_ ?_) ?_)
        · intro i j g1 g2 g3;exact hr3 (2*t3) (by omega) i j (by omega) g2 (by omega) (by omega)
        · intro i j g1 g2 g3;exact hr3 (2*t3+1) (by omega) i j (by omega) g2 (by omega) (by omega)
        · rintro q4 ⟨km4,ks4⟩;refine M.o_grd (gA2 (by omega) (by omega)) (M.o_pure ⟨Int.toNat (n-b3),by omega,rfl,rfl,hm3.trans (km4.mono (by omega) (by omega) (by omega)),t3+1,?_,hb,fun t' h=>?_,fun p hp i j g1 g2 g3 g4=>?_⟩)
          · dsimp only;rw [show ((t3+1:Nat):Int)=(t3:Int)+1 by omega,Int.add_mul,Int.one_mul];omega
          · dsimp only;by_cases c:t'=t3
            · subst c;rw [← e4,← e3];exact ks4
            · have k1:((t':Int)+1)*bs<=(t3:Int)*bs:=Int.mul_le_mul_of_nonneg_right (by omega) (by omega);rw [Int.add_mul,Int.one_mul] at k1;have k2:0<=(t':Int)*bs:=Int.mul_nonneg (by omega) (by omega);exact (hs3 t' (by omega)).same km4 (by omega) (.inl (by omega))
          · dsimp only at hp ⊢;rw [km4.fr i (by omega) (by omega),km4.fr j (by omega) (by omega)];exact hr3 p (by omega) i j g1 g2 g3 g4
      · have hb:=of_decide_eq_false hb;exact ⟨hm3,t3,e4,h7,by dsimp only; omega,hs3,hr3⟩
    rintro ⟨_,a3,q3⟩ ⟨hm3,t3,e4,h7,h8,hs3,hr3⟩;dsimp only at hm3 e4 h7 h8 hs3 hr3 ⊢;have ln3:=hm3.ln;have f1:((2*t3:Nat):Int)*bs=a3:=by rw [show ((2*t3:Nat):Int)=2*(t3:Int) by omega,Int.mul_assoc,e4]
    have f2:((2*t3+1:Nat):Int)*bs=a3+bs:=by rw [show ((2*t3+1:Nat):Int)=2*(t3:Int)+1 by omega,Int.add_mul,Int.mul_assoc,Int.one_mul,e4]
    have t0:0<=(t3:Int)*bs:=Int.mul_nonneg (by omega) (by omega);have fin:∀ q4:List Dem,Mv q3 q4 a3 n->Srt dp q4 a3 n->∀ t':Nat,∀ i j,(t':Int)*(bs*2)<=i->i<j->j<(t':Int)*(bs*2)+bs*2->j<n->dp (G q4 j)<=dp (G q4 i):=by
      intro q4 km4 ks4 t' i j g1 g2 g3 g4;have k0:(t':Int)*(bs*2)=2*((t':Int)*bs):=by rw [← Int.mul_assoc,Int.mul_comm]
      rw [k0] at g1 g3;have k2:0<=(t':Int)*bs:=Int.mul_nonneg (by omega) (by omega);rcases Nat.lt_trichotomy t' t3 with c | c | c
      · have k1:((t':Int)+1)*bs<=(t3:Int)*bs:=Int.mul_le_mul_of_nonneg_right (by omega) (by omega);rw [Int.add_mul,Int.one_mul] at k1;exact ((hs3 t' c).same km4 (by omega) (.inl (by omega))) i j g1 g2 (by omega)
      · subst c;exact ks4 i j (by omega) g2 g4
      · have k1:((t3:Int)+1)*bs<=(t':Int)*bs:=Int.mul_le_mul_of_nonneg_right (by omega) (by omega);rw [Int.add_mul,Int.one_mul] at k1;omega
    refine M.o_grd (gA2 (by omega) (by omega)) (M.o_if (fun hb=>?_) (fun hb=>?_))
    · have hb:=of_decide_eq_true hb;refine M.o_bind (sym_out hc _ q3 a3 (a3+bs) n rfl (by omega) (by omega) hb (by omega) (by omega) (fun d hd=>ho d (hm3.pm.mem_iff.1 hd)) ?_ ?_) ?_
      · intro i j g1 g2 g3;exact hr3 (2*t3) (by omega) i j (by omega) g2 (by omega) (by omega)
      · intro i j g1 g2 g3;exact hr3 (2*t3+1) (by omega) i j (by omega) g2 (by omega) g3
      · rintro q4 ⟨km4,ks4⟩;exact M.o_grd (gA2 (by omega) (by omega)) (M.o_pure ⟨Int.toNat (n-bs*2),by omega,rfl,⟨by dsimp only; omega,by dsimp only; omega⟩,hm3.trans (km4.mono (by omega) (by omega) (Int.le_refl _)),fin q4 km4 ks4⟩)
    · have hb:=of_decide_eq_false hb;refine M.o_grd (gA2 (by omega) (by omega)) (M.o_pure ⟨Int.toNat (n-bs*2),by omega,rfl,⟨by dsimp only; omega,by dsimp only; omega⟩,hm3,fin q3 (Mv.refl _ _ _) fun i j g1 g2 g3=>?_⟩);exact hr3 (2*t3) (by omega) i j (by omega) g2 (by omega) g3
  · have hlt:=of_decide_eq_false hlt;exact hb2 0 i j (by omega) g2 (by omega) g3
theorem sort_out {l:List Dem} (h4:l.length<=1000) (ho:∀ d∈l,ok d) :
    (zbS l dn tr sp tw dl dh fl dn tr sp tw dl dh fl).Out (fun l'=>l'.Perm l/\Srt dp l' 0 l.length):=by
  unfold zbS;exact M.o_bind (stable_out hc h4 ho) fun l' h=>M.o_pure ⟨h.1.pm,h.2⟩
end
end Go.Proofs.YtbgoclcmgbpckaaGreat
-- libW/VX.lean
namespace Go.Nm
namespace Wn
def stn (tw:List Town) (d:Dem):Int:=(tw.getD (Int.toNat d.town) default).station
def led (tw:List Town) (d:Dem):Int:=(tw.getD (Int.toNat d.town) default).lead
def meetB (dn:List Int) (tr:List Span) (tw:List Town) (dh:Int) (d:Dem) (s:Int):Bool:=decide (stn tw d∈P dn s)&&decide (led tw d+dh<=sm (lo tr) (upto (P dn s) (stn tw d)))
/-- The stretch of a demand. -/
def Sd (dn:List Int) (tr:List Span) (tw:List Town) (dh:Int) (d:Dem):List Int:=(P dn d.spring).filter (meetB dn tr tw dh d)
def OkD (dn:List Int) (tw:List Town) (d:Dem):Prop:=(0<=d.spring/\d.spring<dn.length)/\0<=d.town/\d.town<tw.length
def lst (dn:List Int) (tr:List Span) (tw:List Town) (dh:Int) (d:Dem):Int:=(Sd dn tr tw dh d).getD ((Sd dn tr tw dh d).length-1) 0
def deepD (dn:List Int) (tr:List Span) (tw:List Town) (dh:Int) (d:Dem):Int:=((P dn (lst dn tr tw dh d)).length:Int)
variable {dn:List Int} {tr:List Span} {tw:List Town} {dh:Int}
theorem mem_Sd {d:Dem} {s:Int}:s∈Sd dn tr tw dh d↔s∈P dn d.spring/\stn tw d∈P dn s/\led tw d+dh<=sm (lo tr) (upto (P dn s) (stn tw d)):=by
  unfold Sd meetB;rw [List.mem_filter,Bool.and_eq_true,decide_eq_true_eq,decide_eq_true_eq]
theorem lst_mem {d:Dem} (h:Sd dn tr tw dh d ≠ []):lst dn tr tw dh d∈Sd dn tr tw dh d:=by
  have:0<(Sd dn tr tw dh d).length:=List.length_pos_iff.2 h;unfold lst;rw [getD_el _ (by omega)];exact List.getElem_mem _
theorem lst_max (hD:Dn dn) {d:Dem} (hs:Stn dn d.spring) {x:Int} (hx:x∈Sd dn tr tw dh d):x<=lst dn tr tw dh d:=by
  have hu:(Sd dn tr tw dh d).Pairwise (· < ·):=(P_up hD _ hs).sublist List.filter_sublist;obtain ⟨i,hi,rfl⟩:=List.getElem_of_mem hx;unfold lst;rw [getD_el _ (by omega)];rcases Nat.lt_or_eq_of_le (show i<=(Sd dn tr tw dh d).length-1 by omega) with g | g
  · exact Int.le_of_lt (List.pairwise_iff_getElem.1 hu i _ hi (by omega) g)
  · simp only [← g];exact Int.le_refl _
/-- Of two stations of a path the further one is on the path of the other. -/
theorem P_fwd (hD:Dn dn) {x a b:Int} (hx:Stn dn x) (ha:a∈P dn x) (hb:b∈P dn x) (hab:a<=b):b∈P dn a:=by
  have e:=P_split hD hx ha;have hu:=P_up hD x hx;rw [e] at hb hu;rw [List.pairwise_append] at hu;rcases List.mem_append.1 hb with h | h
  · have hA:=P_mem hD x hx a ha;have:=hu.2.2 b h a (P_self hD hA.2.1 hA.2.2);omega
  · exact h
theorem P_len_lt (hD:Dn dn) {a b:Int} (ha:0<=a/\a<dn.length) (hb:b∈P dn a) (hne:a ≠ b):(P dn b).length<(P dn a).length:=by
  have e:=P_split hD (.inr ha) hb;have:upto (P dn a) b ≠ []:=by
    rw [P_cons hD ha.1 ha.2];unfold upto;rw [List.takeWhile_cons,if_pos (by simp [hne])];simp
  have:=List.length_pos_iff.2 this;have:=congrArg List.length e;rw [List.length_append] at this;omega
/-- A stretch that leads down to a later demand's meets it. -/
theorem cross (hD:Dn dn) (hlo:∀ x:Int,0<=x->x<(dn.length:Int)->0<=lo tr x/\lo tr x<=1000) {a b:Dem} (ha:OkD dn tw a) (hb:OkD dn tw b) (na:Sd dn tr tw dh a ≠ []) (nb:Sd dn tr tw dh b ≠ []) (hd:deepD dn tr tw dh b<=deepD dn tr tw dh a)
    {x:Int} (xa:x∈Sd dn tr tw dh a) (xb:x∈Sd dn tr tw dh b):lst dn tr tw dh a∈Sd dn tr tw dh b:=by
  have la:=lst_mem na;have lb:=lst_mem nb;have ma:=lst_max hD (.inr ha.1) xa;have mb:=lst_max hD (.inr hb.1) xb;obtain ⟨xa1,_,_⟩:=mem_Sd.1 xa;obtain ⟨xb1,_,_⟩:=mem_Sd.1 xb;obtain ⟨la1,_,_⟩:=mem_Sd.1 la;obtain ⟨lb1,lb2,lb3⟩:=mem_Sd.1 lb;have xr:=P_mem hD _ (.inr ha.1) x xa1;have hA:lst dn tr tw dh a∈P dn x:=P_fwd hD (.inr ha.1) xa1 la1 ma;have hB:lst dn tr tw dh b∈P dn x:=P_fwd hD (.inr hb.1) xb1 lb1 mb;have rA:=P_mem hD _ (.inr xr.2) _ hA;have rB:=P_mem hD _ (.inr xr.2) _ hB;have hAB:lst dn tr tw dh a<=lst dn tr tw dh b:=by
    rcases Int.lt_or_le (lst dn tr tw dh b) (lst dn tr tw dh a) with g | g
    · have h1:=P_fwd hD (.inr xr.2) hB hA (by omega);have h2:=P_len_lt hD rB.2 h1 (by omega);unfold deepD at hd;omega
    · exact g
  have hC:=P_fwd hD (.inr xr.2) hA hB hAB;obtain ⟨c1,c2⟩:=upto_trans hD (.inr rA.2) hC lb2;refine mem_Sd.2 ⟨(upto_trans hD (.inr hb.1) xb1 hA).1,c1,?_⟩;rw [c2,sm_app];have:=sm_bound (lo tr) (upto (P dn (lst dn tr tw dh a)) (lst dn tr tw dh b)) fun w hw=>by
    have h1:=P_mem hD _ (.inr rA.2) w (upto_mem hw).1;exact hlo w h1.2.1 h1.2.2
  omega
/-- Demands whose stretches have no station in common. -/
def Dj (dn:List Int) (tr:List Span) (tw:List Town) (dh:Int) (a b:Dem):Prop:=∀ x∈Sd dn tr tw dh a,x ∉ Sd dn tr tw dh b
/-- The fewest watches, and demands that prove it. -/
structure Few (dn:List Int) (tr:List Span) (tw:List Town) (dh:Int) (D:List Dem) (ws:List Int) (ap:List Dem):Prop where
  up:ws.Pairwise (· < ·)
  bd:∀ x∈ws,0<=x/\x<(dn.length:Int)
  ln:ap.length=ws.length
  sub:∀ a∈ap,a∈D
  mem:∀ x,x∈ws↔∃ a∈ap,x=lst dn tr tw dh a
  dj:ap.Pairwise (Dj dn tr tw dh)
  cov:∀ d∈D,∃ s∈Sd dn tr tw dh d,s∈ws
end Wn
end Go.Nm
namespace Go.Proofs.YtbgoclcmgbpckaaGreat
open Go Go.Nm
variable {dn:List Int} {tr:List Span} {sp:List Int} {tw:List Town} {dl dh:Int} {fl:List Flood}
theorem dem_town (R:Wn.Rv dn tr sp tw dl dh fl) {d:Dem} (hd:Wn.OkD dn tw d):(0<=Wn.stn tw d/\Wn.stn tw d<(dn.length:Int))/\0<=Wn.led tw d/\Wn.led tw d<=1000:=by
  have h2:=hd.2;have hm:tw.getD (Int.toNat d.town) default∈tw:=by rw [getD_el tw (by omega)]; exact List.getElem_mem _
  have:=R.tok _ hm;unfold Wn.stn Wn.led;omega
theorem lo_small (R:Wn.Rv dn tr sp tw dl dh fl):∀ x:Int,0<=x->x<(dn.length:Int)->0<=Wn.lo tr x/\Wn.lo tr x<=1000:=fun x h0 h1=>by
  have:=R.hr (Int.toNat x) (by have:=R.tl; omega);unfold Wn.lo;omega
theorem stretch_ends (R:Wn.Rv dn tr sp tw dl dh fl) {d:Dem} (hd:Wn.OkD dn tw d):(zaa dn tr sp tw dl dh fl d).Ends (Wn.Sd dn tr tw dh d):=by
  refine M.Out.ends ?_;unfold zaa;have hp:(zai dn tr sp tw dl dh fl d.spring).Ends (d.spring,dl,dh):=M.i_pure;have hst:Wn.Stn dn d.spring:=.inr hd.1;have h12:=R.n12;have hsh:=Wn.P_short R.nx hst;have ht:=dem_town R hd;have d0:=R.d0;have d1:=R.d1;have d2:=R.d2;refine M.o_grd (gA2 hd.2.1 hd.2.2) (M.o_bindE hp ?_);dsimp only;refine M.o_bind (path_out (Q:=fun x=>x=(.inl (Wn.Sd dn tr tw dh d):List Int ⊕ Unit)) R.nx R.n12 hst (fun k (l:List Int)=>l=((Wn.P dn d.spring).take k).filter (Wn.meetB dn tr tw dh d)) (by simp) ?_ ?_ _ _ _ _ _ _) ?_
  · rintro k hk _ rfl;have hm:=Wn.P_mem R.nx _ hst _ (List.getElem_mem hk);have A:=travels_ends R (.inr hm.2) (Wn.stn tw d);have hl:(((Wn.P dn d.spring).take k).filter (Wn.meetB dn tr tw dh d)).length<=12:=by
      have:=List.length_filter_le (Wn.meetB dn tr tw dh d) ((Wn.P dn d.spring).take k);rw [List.length_take] at this;omega
    have hn:((Wn.P dn d.spring).take (k+1)).filter (Wn.meetB dn tr tw dh d)=((Wn.P dn d.spring).take k).filter (Wn.meetB dn tr tw dh d)++if Wn.meetB dn tr tw dh d (Wn.P dn d.spring)[k]=true then [(Wn.P dn d.spring)[k]] else []:=by
      rw [List.take_succ_eq_append_getElem hk,List.filter_append]
      congr 1
      by_cases e:Wn.meetB dn tr tw dh d (Wn.P dn d.spring)[k]=true
      · rw [if_pos e,List.filter_cons_of_pos e]; rfl
      · rw [if_neg e,List.filter_cons_of_neg e]; rfl
    simp only [zaz];rw [hn];unfold Wn.stn at A;by_cases hy:(tw.getD (Int.toNat d.town) default).station∈Wn.P dn (Wn.P dn d.spring)[k]
    · rw [if_pos hy] at A;refine M.o_bindE A ?_;dsimp only;refine M.o_grd (gOr2 (by unfold Wn.led at ht; omega) (by unfold Wn.led at ht; omega)) (M.o_if (fun hb=>M.o_grdD (by simp; omega) (M.o_pure ?_)) (fun hb=>M.o_pure ?_))
      · dsimp only;rw [if_pos];unfold Wn.meetB Wn.stn Wn.led;rw [decide_eq_true hy];exact hb
      · dsimp only;rw [if_neg,List.append_nil];unfold Wn.meetB Wn.stn Wn.led;rw [decide_eq_true hy];rw [hb];exact Bool.false_ne_true
    · rw [if_neg hy] at A;refine M.o_bindE A ?_;dsimp only;refine M.o_grd rfl (M.o_f rfl (M.o_pure ?_));dsimp only;rw [if_neg,List.append_nil];unfold Wn.meetB Wn.stn;rw [decide_eq_false hy];exact Bool.false_ne_true
  · rintro _ rfl;rw [List.take_length];rfl
  · rintro ⟨x,q⟩ hq;dsimp only at hq;subst hq;exact M.o_pure rfl
theorem demands_is (R:Wn.Rv dn tr sp tw dl dh fl):∃ D,(zam dn tr sp tw dl dh fl).Ends D/\D.length<=64/\∀ d,d∈D↔d.spring∈sp/\(0<=d.town/\d.town<(tw.length:Int))/\Wn.stn tw d∈Wn.P dn d.spring:=by
  have t8:=R.t8;have s8:=R.s8
  suffices h:(zam dn tr sp tw dl dh fl).Out (fun l=>l.length<=64/\∀ d,d∈l↔d.spring∈sp/\(0<=d.town/\d.town<(tw.length:Int))/\Wn.stn tw d∈Wn.P dn d.spring) by
    obtain ⟨D,h1,h2⟩:=h;exact ⟨D,h1,h2⟩
  unfold zam;refine M.o_bind (P:=fun y=>y.2.length<=64/\∀ d,d∈y.2↔d.spring∈sp/\(0<=d.town/\d.town<(tw.length:Int))/\Wn.stn tw d∈Wn.P dn d.spring) ?_ (fun y hy=>M.o_pure hy);refine M.o_for sp.length (fun i (t:Nat × List Dem)=>t.1=i/\t.2.length<=8*i/\∀ d,d∈t.2↔d.spring∈sp.take i/\(0<=d.town/\d.town<(tw.length:Int))/\Wn.stn tw d∈Wn.P dn d.spring) ?_ ?_ ⟨rfl,by simp,fun d=>by simp⟩
  · rintro _ ⟨i,l⟩ hi ⟨rfl,h1,h2⟩;dsimp only at hi h1 h2;simp only [zbU];have hsp:=R.si (sp.getD i 0) (by rw [getD_el sp hi]; exact List.getElem_mem hi);refine M.o_t (decide_eq_true (by omega)) (M.o_grdD (by omega) (M.o_bind (P:=fun y=>y.2.length<=8*i+8/\∀ d,d∈y.2↔d∈l∨d.spring=sp.getD i 0/\(0<=d.town/\d.town<(tw.length:Int))/\Wn.stn tw d∈Wn.P dn d.spring) ?_ (fun y hy=>M.o_pure ⟨rfl,by dsimp only; omega,fun d=>?_⟩)))
    · refine M.o_for tw.length (fun k (t:Nat × List Dem)=>t.1=k/\t.2.length<=8*i+k/\∀ d,d∈t.2↔d∈l∨d.spring=sp.getD i 0/\(0<=d.town/\d.town<(k:Int))/\Wn.stn tw d∈Wn.P dn d.spring) ?_ ?_ ⟨rfl,h1,fun d=>⟨fun h=>.inl h,fun h=>h.resolve_right fun h=>by omega⟩⟩
      · rintro _ ⟨k,l4⟩ hk ⟨rfl,g1,g2⟩;dsimp only at hk g1 g2;simp only [zct];refine M.o_t (decide_eq_true (by omega)) (M.o_grdD (by omega) (M.o_bindE (travels_ends R (.inr hsp) _) ?_));have ek:Wn.stn tw ⟨sp.getD i 0,(k:Int)⟩=(tw.getD k default).station:=rfl;have key:∀ d:Dem,d.spring=sp.getD i 0->d.town=(k:Int)->d=⟨sp.getD i 0,(k:Int)⟩:=fun d e1 e2=>by
          cases d;dsimp only at e1 e2;rw [e1,e2]
        by_cases hy:(tw.getD k default).station∈Wn.P dn (sp.getD i 0)
        · rw [if_pos hy];dsimp only;refine M.o_t rfl (M.o_grdD (by simp; omega) (M.o_pure ⟨rfl,by dsimp only; simp; omega,fun d=>?_⟩));dsimp only;rw [List.mem_append,List.mem_singleton,g2 d];constructor
          · rintro ((h | h) | rfl)
            · exact .inl h
            · exact .inr ⟨h.1,by omega,h.2.2⟩
            · exact .inr ⟨rfl,by dsimp only; omega,by rw [ek]; exact hy⟩
          · rintro (h | ⟨e1,e2,e3⟩)
            · exact .inl (.inl h)
            · by_cases c:d.town=(k:Int)
              · exact .inr (key d e1 c)
              · exact .inl (.inr ⟨e1,by omega,e3⟩)
        · rw [if_neg hy];dsimp only;refine M.o_f rfl (M.o_pure ⟨rfl,by dsimp only; omega,fun d=>?_⟩);dsimp only;rw [g2 d];constructor
          · rintro (h | h)
            · exact .inl h
            · exact .inr ⟨h.1,by omega,h.2.2⟩
          · rintro (h | ⟨e1,e2,e3⟩)
            · exact .inl h
            · by_cases c:d.town=(k:Int)
              · rw [key d e1 c] at e3;exact absurd e3 hy
              · exact .inr ⟨e1,by omega,e3⟩
      · rintro ⟨k,l4⟩ ⟨e,g1,g2⟩;dsimp only at e g1 g2;subst e;simp only [zct];exact M.o_f (decide_eq_false (by omega)) (M.o_pure ⟨by dsimp only; omega,g2⟩)
    · dsimp only;rw [hy.2 d,h2 d,List.take_succ_eq_append_getElem hi,List.mem_append,List.mem_singleton,← getD_el sp hi 0];constructor
      · rintro (h | h)
        · exact ⟨.inl h.1,h.2⟩
        · exact ⟨.inr h.1,h.2⟩
      · rintro ⟨h | h,h'⟩
        · exact .inl ⟨h,h'⟩
        · exact .inr ⟨h,h'⟩
  · rintro ⟨i,l⟩ ⟨e,h1,h2⟩;dsimp only at e h1 h2;subst e;rw [List.take_length] at h2;simp only [zbU];exact M.o_f (decide_eq_false (by omega)) (M.o_pure ⟨by dsimp only; omega,h2⟩)
theorem deep_ends (R:Wn.Rv dn tr sp tw dl dh fl) {d:Dem} (hd:Wn.OkD dn tw d) (hn:Wn.Sd dn tr tw dh d ≠ []):(zaG d dn tr sp tw dl dh fl dn tr sp tw dl dh fl).Ends (Wn.deepD dn tr tw dh d):=by
  refine M.Out.ends ?_;unfold zaG;have hlen:0<(Wn.Sd dn tr tw dh d).length:=List.length_pos_iff.2 hn;have e:(Wn.Sd dn tr tw dh d).getD (Int.toNat (((Wn.Sd dn tr tw dh d).length:Int)-1)) 0=Wn.lst dn tr tw dh d:=by
    unfold Wn.lst
    congr 1
    omega
  have hl:=Wn.lst_mem hn;have hm:=Wn.P_mem R.nx _ (.inr hd.1) _ (Wn.mem_Sd.1 hl).1;have hst:Wn.Stn dn (Wn.lst dn tr tw dh d):=.inr hm.2;have hsh:=Wn.P_short R.nx hst;have h12:=R.n12;have hp:(zai dn tr sp tw dl dh fl (Wn.lst dn tr tw dh d)).Ends (Wn.lst dn tr tw dh d,dl,dh):=M.i_pure;refine M.o_bindE (stretch_ends R hd) (M.o_grd (gA2 (by omega) (by omega)) ?_);rw [e];refine M.o_bindE hp ?_;dsimp only;refine M.o_bind (path_out (Q:=fun x=>x=(.inl ((Wn.P dn (Wn.lst dn tr tw dh d)).length:Int):Int ⊕ Unit)) R.nx R.n12 hst (fun k (c:Int)=>c=(k:Int)) rfl ?_ ?_ _ _ _ _ _ _) ?_
  · rintro k hk _ rfl;simp only [zaA];exact M.o_grd (gA2 (by omega) (by omega)) (M.o_pure (by omega))
  · rintro _ rfl;rfl
  · rintro ⟨x,q⟩ hq;dsimp only at hq;subst hq;exact M.o_pure rfl
theorem comp_ends (a b:Int):(m_cmp_Compare_int a b).Ends (cv a b):=by
  unfold m_cmp_Compare_int m_cmp_isNaN_int cv;refine M.i_bind M.i_pure (M.i_bind M.i_pure (M.i_f (by simp) (M.i_f (by simp) ?_)));by_cases h:a<b
  · rw [if_pos h];exact M.i_t (decide_eq_true h) M.i_pure
  · rw [if_neg h];refine M.i_f (decide_eq_false h) ?_;by_cases h2:b<a
    · rw [if_pos h2];exact M.i_t (decide_eq_true h2) M.i_pure
    · rw [if_neg h2];exact M.i_f (decide_eq_false h2) M.i_pure
theorem cmp_ends (R:Wn.Rv dn tr sp tw dl dh fl) (x y:Dem) (hx:Wn.OkD dn tw x/\Wn.Sd dn tr tw dh x ≠ []) (hy:Wn.OkD dn tw y/\Wn.Sd dn tr tw dh y ≠ []) :
    (zap x y dn tr sp tw dl dh fl dn tr sp tw dl dh fl).Ends (cv (Wn.deepD dn tr tw dh y) (Wn.deepD dn tr tw dh x)):=by
  unfold zap;exact M.i_bind (deep_ends R hy.1 hy.2) (M.i_bind (deep_ends R hx.1 hx.2) (M.i_bind (comp_ends _ _) M.i_pure))
end Go.Proofs.YtbgoclcmgbpckaaGreat
-- libW/VY.lean
namespace Go.Proofs.YtbgoclcmgbpckaaGreat
open Go Go.Nm
variable {dn:List Int} {tr:List Span} {sp:List Int} {tw:List Town} {dl dh:Int} {fl:List Flood} {ws:List Int}
theorem posted_iff (R:Wn.Rv dn tr sp tw dl dh fl) (hu:ws.Pairwise (· < ·)) (hb:∀ x∈ws,0<=x/\x<(dn.length:Int)) :
    (zb6 dn tr sp tw dl dh fl ws).Out (fun y=>∃ ar:List Bool,y = .inr (dl,dh,ar,0)/\∀ j:Nat,ar.getD j false=true↔(j:Int)∈ws):=by
  have h12:=R.n12;unfold zb6;refine M.o_bindE (opened_ends R) ?_;dsimp only;refine M.o_bindE (M.i_opt (fun _=>rising_true (by omega) hu hb) (fun h=>by cases h)) (M.o_f rfl ?_);unfold za1;refine M.o_f rfl (M.o_bind (P:=fun ar:List Bool=>∀ j:Nat,ar.getD j false=true↔(j:Int)∈ws) ?_ fun ar h=>M.o_pure ⟨ar,rfl,h⟩);refine M.o_for ws.length (fun i (t:List Bool × Nat)=>t.2=i/\t.1.length=12/\∀ j:Nat,t.1.getD j false=true↔(j:Int)∈ws.take i) ?_ ?_ ⟨rfl,by simp,fun j=>?_⟩
  · rintro _ ⟨ar,i⟩ hi ⟨rfl,h0,h⟩;dsimp only at hi h0 h;simp only [zcj];have hm:ws.getD i 0∈ws:=by rw [getD_el ws hi]; exact List.getElem_mem hi
    have hx:=hb _ hm;refine M.o_t (decide_eq_true (by omega)) (M.o_grdD (by omega) (M.o_grd (gA2 (by omega) (by omega)) (M.o_pure ⟨rfl,by dsimp only; rw [List.length_set,h0],fun j=>?_⟩)));dsimp only;rw [List.take_succ_eq_append_getElem hi,List.mem_append,List.mem_singleton,← getD_el ws hi 0,gset _ _ _ _ _ (by omega)];by_cases e:j=Int.toNat (ws.getD i 0)
    · rw [if_pos e];exact ⟨fun _=>.inr (by omega),fun _=>rfl⟩
    · rw [if_neg e,h j];exact ⟨fun g=>.inl g,fun g=>by
        rcases g with g | g
        · exact g
        · omega⟩
  · rintro ⟨ar,i⟩ ⟨e,_,h⟩;dsimp only at e h;subst e;rw [List.take_length] at h;simp only [zcj];exact M.o_f (decide_eq_false (by omega)) (M.o_pure h)
  · dsimp only;rw [List.getD_eq_getElem?_getD,List.getElem?_replicate];constructor
    · intro hj;split at hj <;> cases hj
    · intro hj;simp at hj
theorem stretch_in (R:Wn.Rv dn tr sp tw dl dh fl) {d:Dem} (hd:Wn.OkD dn tw d):∀ s∈Wn.Sd dn tr tw dh d,0<=s/\s<(dn.length:Int):=fun s hs=>(Wn.P_mem R.nx _ (.inr hd.1) s (Wn.mem_Sd.1 hs).1).2
theorem every_68 (R:Wn.Rv dn tr sp tw dl dh fl) {D:List Dem} (ho:∀ d∈D,Wn.OkD dn tw d):(zbK D dn tr sp tw dl dh fl).Ends (D.all fun d=>decide (0<((Wn.Sd dn tr tw dh d).length:Int))):=by
  refine M.Out.ends ?_;unfold zbK zcT zdo;refine M.o_bind (P:=fun b=>b = !D.all fun d=>decide (0<((Wn.Sd dn tr tw dh d).length:Int))) (M.o_bind (P:=fun r=>decide (0<=r) = !D.all fun d=>decide (0<((Wn.Sd dn tr tw dh d).length:Int))) (M.o_bind (P:=fun r=>match r with | .inl r=>(0:Int)<=r/\(D.all fun d=>decide (0<((Wn.Sd dn tr tw dh d).length:Int)))=false | .inr (_:Unit)=>(D.all fun d=>decide (0<((Wn.Sd dn tr tw dh d).length:Int)))=true) ?_ ?_) (fun r h=>M.o_pure h)) (fun r h=>M.o_pure (by rw [h]; simp))
  · refine M.o_for D.length (fun i (k:Nat)=>k=i/\∀ j,j<i->decide (0<((Wn.Sd dn tr tw dh (D.getD j default)).length:Int))=true) ?_ ?_ ⟨rfl,fun j hj=>by omega⟩
    · rintro _ i hi ⟨rfl,hp⟩;simp only [zbT];have hm:D.getD i default∈D:=by rw [getD_el D hi]; exact List.getElem_mem hi
      refine M.o_t (decide_eq_true (by omega)) (M.o_grdD (by omega) (M.o_bindE (a:=!decide (0<((Wn.Sd dn tr tw dh (D.getD i default)).length:Int))) ?_ (M.o_if (fun hb=>M.o_pure ⟨by omega,?_⟩) (fun hb=>M.o_pure ⟨rfl,fun j hj=>?_⟩))))
      · unfold zcY zdh;exact M.i_bind (M.i_bind (stretch_ends R (ho _ hm)) M.i_pure) M.i_pure
      · rw [List.all_eq_false];exact ⟨_,hm,by simpa using hb⟩
      · rcases Nat.lt_or_eq_of_le (Nat.le_of_lt_succ hj) with e | e
        · exact hp j e
        · subst e
          simpa using hb
    · rintro _ ⟨rfl,hp⟩;simp only [zbT];refine M.o_f (decide_eq_false (by omega)) (M.o_pure ?_);rw [List.all_eq_true];intro x hx;obtain ⟨i,hi,e⟩:=mem_getD hx default;rw [← e];exact hp i hi
  · rintro (r | r) h
    · exact M.o_pure (by rw [h.2,decide_eq_true h.1]; rfl)
    · exact M.o_pure (by dsimp only at h; rw [h]; rfl)
theorem few_b2 {ar:List Bool} {r4:List Int} (hr:∀ s∈r4,0<=s/\s<12):(M.iter (zbj ar r4) 0).Out (fun x=>match x with | .inl (_:Unit)=>∃ s∈r4,ar.getD (Int.toNat s) false=true | .inr (_:Unit)=>∀ s∈r4,ar.getD (Int.toNat s) false=false):=by
  refine M.o_for r4.length (fun i (k:Nat)=>k=i/\∀ j,j<i->ar.getD (Int.toNat (r4.getD j 0)) false=false) ?_ ?_ ⟨rfl,fun j hj=>by omega⟩
  · rintro _ i hi ⟨rfl,hp⟩;simp only [zbj];have hm:r4.getD i 0∈r4:=by rw [getD_el r4 hi]; exact List.getElem_mem hi
    have:=hr _ hm;refine M.o_t (decide_eq_true (by omega)) (M.o_grdD (by omega) (M.o_grd (gA2 (by omega) (by omega)) (M.o_if (fun hb=>M.o_pure ⟨_,hm,hb⟩) (fun hb=>M.o_pure ⟨rfl,fun j hj=>?_⟩))));rcases Nat.lt_or_eq_of_le (Nat.le_of_lt_succ hj) with e | e
    · exact hp j e
    · subst e;exact hb
  · rintro _ ⟨rfl,hp⟩;simp only [zbj];refine M.o_f (decide_eq_false (by omega)) (M.o_pure fun s hs=>?_);obtain ⟨j,hj,rfl⟩:=mem_getD hs 0;exact hp j hj
/-- The choice of watches. -/
theorem few_b3 (R:Wn.Rv dn tr sp tw dl dh fl) {X:List Dem} (hX:X.length<=64) (ho:∀ d∈X,Wn.OkD dn tw d/\Wn.Sd dn tr tw dh d ≠ []) (hs:Srt (Wn.deepD dn tr tw dh) X 0 X.length) :
    (M.iter (za5 dn tr sp tw dl dh fl X) (0,List.replicate 12 false,[],[])).Out (fun y=>y.2.2.1=y.2.2.2.1.map (Wn.lst dn tr tw dh)/\y.2.2.2.1.length<=64/\(∀ a∈y.2.2.2.1,a∈X)/\y.2.2.2.1.Pairwise (Wn.Dj dn tr tw dh)/\∀ d∈X,∃ s∈Wn.Sd dn tr tw dh d,s∈y.2.2.1):=by
  have h12:=R.n12;refine M.o_for X.length (fun i (t:Nat × List Bool × List Int × List Dem)=>t.1=i/\(t.2.1.length=12/\∀ j:Nat,t.2.1.getD j false=true↔(j:Int)∈t.2.2.1)/\t.2.2.1=t.2.2.2.map (Wn.lst dn tr tw dh)/\t.2.2.2.length<=i/\(∀ a∈t.2.2.2,∃ k,k<i/\X.getD k default=a)/\t.2.2.2.Pairwise (Wn.Dj dn tr tw dh)/\∀ k,k<i->∃ s∈Wn.Sd dn tr tw dh (X.getD k default),s∈t.2.2.1) ?_ ?_ ⟨rfl,⟨by simp,fun j=>?_⟩,rfl,Nat.le_refl _,fun a ha=>(by cases ha),List.Pairwise.nil,fun k hk=>by omega⟩
  · rintro _ ⟨i,ar,l,l2⟩ hi ⟨rfl,⟨a1,a2⟩,e,h1,h2,h3,h4⟩;dsimp only at hi a1 a2 e h1 h2 h3 h4;simp only [za5];have hm:X.getD i default∈X:=by rw [getD_el X hi]; exact List.getElem_mem hi
    have hok:=ho _ hm;have hin:=stretch_in R hok.1;have hlen:0<(Wn.Sd dn tr tw dh (X.getD i default)).length:=List.length_pos_iff.2 hok.2;have hl:=Wn.lst_mem hok.2;have el:(Wn.Sd dn tr tw dh (X.getD i default)).getD (Int.toNat (((Wn.Sd dn tr tw dh (X.getD i default)).length:Int)-1)) 0=Wn.lst dn tr tw dh (X.getD i default):=by
      unfold Wn.lst
      congr 1
      omega
    have hll:l.length<=i:=by rw [e,List.length_map]; exact h1
    refine M.o_t (decide_eq_true (by omega)) (M.o_grdD (by omega) (M.o_bindE (stretch_ends R hok.1) (M.o_bind (few_b2 fun s hs=>by have:=hin s hs; omega) ?_)));rintro (u | u) hu
    · obtain ⟨s,s1,s2⟩:=hu;refine M.o_pure ⟨rfl,⟨a1,a2⟩,e,by dsimp only; omega,fun a ha=>?_,h3,fun k hk=>?_⟩
      · obtain ⟨k,k1,k2⟩:=h2 a ha;exact ⟨k,by omega,k2⟩
      · rcases Nat.lt_or_eq_of_le (Nat.le_of_lt_succ hk) with g | g
        · exact h4 k g
        · subst g;refine ⟨s,s1,?_⟩;have:=(a2 _).1 s2
          rwa [Int.toNat_of_nonneg (hin s s1).1] at this
    · dsimp only at hu ⊢;have hlr:=hin _ hl;have hfree:∀ s∈Wn.Sd dn tr tw dh (X.getD i default),s ∉ l:=fun s hs hsl=>by
        have h5:=hu s hs;have:=(a2 (Int.toNat s)).2 (by rw [Int.toNat_of_nonneg (hin s hs).1]; exact hsl);rw [h5] at this;cases this
      rw [el];refine M.o_grd (gA2 (by omega) (by omega)) (M.o_grd (gA2 (by omega) (by omega)) (M.o_grdD (by simp; omega) (M.o_grdD (by simp; omega) (M.o_pure ⟨rfl,⟨by dsimp only; rw [List.length_set,a1],fun j=>?_⟩,?_,by dsimp only; simp; omega,fun a ha=>?_,?_,fun k hk=>?_⟩))))
      · dsimp only;rw [gset _ _ _ _ _ (by omega),List.mem_append,List.mem_singleton];by_cases c:j=Int.toNat (Wn.lst dn tr tw dh (X.getD i default))
        · rw [if_pos c];exact ⟨fun _=>.inr (by omega),fun _=>rfl⟩
        · rw [if_neg c,a2 j];exact ⟨fun g=>.inl g,fun g=>g.resolve_right (by omega)⟩
      · dsimp only;rw [List.map_append,e];rfl
      · rcases List.mem_append.1 ha with ha | ha
        · obtain ⟨k,k1,k2⟩:=h2 a ha;exact ⟨k,by omega,k2⟩
        · exact ⟨i,Nat.lt_succ_self _,(List.mem_singleton.1 ha).symm⟩
      · dsimp only;rw [List.pairwise_append];refine ⟨h3,List.pairwise_singleton _ _,fun a ha b hb=>?_⟩;rw [List.mem_singleton] at hb;subst hb;intro x xa xb;obtain ⟨k,k1,k2⟩:=h2 a ha;have ham:a∈X:=by rw [← k2,getD_el X (by omega)]; exact List.getElem_mem _
        have hoa:=ho a ham;have hdeep:Wn.deepD dn tr tw dh (X.getD i default)<=Wn.deepD dn tr tw dh a:=by
          have:=hs (k:Int) (i:Int) (by omega) (by omega) (by omega);unfold G at this;rw [show Int.toNat (k:Int)=k from rfl,show Int.toNat (i:Int)=i from rfl,k2] at this;exact this
        have hc:=Wn.cross R.nx (lo_small R) hoa.1 hok.1 hoa.2 hok.2 hdeep xa xb;refine hfree _ hc ?_;rw [e];exact List.mem_map.2 ⟨a,ha,rfl⟩
      · dsimp only;rcases Nat.lt_or_eq_of_le (Nat.le_of_lt_succ hk) with g | g
        · obtain ⟨s,s1,s2⟩:=h4 k g;exact ⟨s,s1,List.mem_append_left _ s2⟩
        · subst g;exact ⟨_,hl,List.mem_append_right _ (List.mem_singleton.2 rfl)⟩
  · rintro ⟨i,ar,l,l2⟩ ⟨e0,⟨a1,a2⟩,e,h1,h2,h3,h4⟩;dsimp only at e0 a1 a2 e h1 h2 h3 h4;subst e0;simp only [za5];refine M.o_f (decide_eq_false (by omega)) (M.o_pure ⟨e,by dsimp only; omega,fun a ha=>?_,h3,fun d hd=>?_⟩)
    · obtain ⟨k,k1,k2⟩:=h2 a ha;rw [← k2,getD_el X k1];exact List.getElem_mem _
    · obtain ⟨k,hk,e2⟩:=mem_getD hd default;obtain ⟨s,s1,s2⟩:=h4 k hk;rw [e2] at s1;exact ⟨s,s1,s2⟩
  · dsimp only;rw [List.getD_eq_getElem?_getD,List.getElem?_replicate];constructor
    · intro hj;split at hj <;> cases hj
    · intro hj;cases hj
theorem fewest_is (R:Wn.Rv dn tr sp tw dl dh fl) {D:List Dem} (hD:(zam dn tr sp tw dl dh fl).Ends D) (hl:D.length<=64) (ho:∀ d∈D,Wn.OkD dn tw d/\Wn.Sd dn tr tw dh d ≠ []) :
    ∃ ws ap,(zaM dn tr sp tw dl dh fl).Ends (ws,ap,true)/\Wn.Few dn tr tw dh D ws ap:=by
  suffices h:(zaM dn tr sp tw dl dh fl).Out (fun y=>y.2.2=true/\Wn.Few dn tr tw dh D y.1 y.2.1) by
    obtain ⟨⟨ws,ap,b⟩,h1,h2,h3⟩:=h;dsimp only at h2 h3;subst h2;exact ⟨ws,ap,h1,h3⟩
  unfold zaM;have hall:(D.all fun d=>decide (0<((Wn.Sd dn tr tw dh d).length:Int)))=true:=by
    rw [List.all_eq_true];intro d hd;have:=List.length_pos_iff.2 (ho d hd).2;exact decide_eq_true (by omega)
  have hev:=every_68 R (fun d hd=>(ho d hd).1);rw [hall] at hev;refine M.o_bindE hD (M.o_bindE hev (M.o_f rfl (M.o_bind (sort_out (ok:=fun d=>Wn.OkD dn tw d/\Wn.Sd dn tr tw dh d ≠ []) (dp:=Wn.deepD dn tr tw dh) (cmp_ends R) (by omega) ho) ?_)));rintro X ⟨hp,hs⟩;have hoX:∀ d∈X,Wn.OkD dn tw d/\Wn.Sd dn tr tw dh d ≠ []:=fun d hd=>ho d (hp.mem_iff.1 hd);have hlen:=hp.length_eq;refine M.o_bind (few_b3 R (by omega) hoX (by rw [hlen]; exact hs)) ?_;rintro ⟨x1,x2,l,ap,ar⟩ ⟨e,h1,h2,h3,h4⟩;dsimp only at e h1 h2 h3 h4 ⊢;subst e;have hnd:(ap.map (Wn.lst dn tr tw dh)).Nodup:=by
    unfold List.Nodup;rw [List.pairwise_map,List.pairwise_iff_getElem];intro i j hi hj hij he;have:=List.pairwise_iff_getElem.1 h3 i j hi hj hij;have a1:=Wn.lst_mem (hoX _ (h2 _ (List.getElem_mem hi))).2;have a2:=Wn.lst_mem (hoX _ (h2 _ (List.getElem_mem hj))).2;rw [← he] at a2;exact this _ a1 a2
  have hmem:∀ x,x∈isort (ap.map (Wn.lst dn tr tw dh))↔∃ a∈ap,x=Wn.lst dn tr tw dh a:=fun x=>by
    rw [(isort_perm _).mem_iff,List.mem_map];exact ⟨fun ⟨a,h,e⟩=>⟨a,h,e.symm⟩,fun ⟨a,h,e⟩=>⟨a,h,e.symm⟩⟩
  refine M.o_grdD (by rw [List.length_map]; omega) (M.o_pure ⟨rfl,?_⟩);refine ⟨?_,fun x hx=>?_,?_,fun a ha=>hp.mem_iff.1 (h2 a ha),hmem,h3,fun d hd=>?_⟩
  · have n1:(isort (ap.map (Wn.lst dn tr tw dh))).Nodup:=(isort_perm _).nodup_iff.2 hnd;exact ((isort_asc _).and n1).imp fun h=>by omega
  · obtain ⟨a,ha,rfl⟩:=(hmem x).1 hx;have:=hoX _ (h2 a ha);exact stretch_in R this.1 _ (Wn.lst_mem this.2)
  · dsimp only;rw [(isort_perm _).length_eq,List.length_map]
  · obtain ⟨s,s1,s2⟩:=h4 d (hp.mem_iff.2 hd);exact ⟨s,s1,(isort_perm _).mem_iff.2 s2⟩
end Go.Proofs.YtbgoclcmgbpckaaGreat
-- libW/VZ.lean
namespace Go.Proofs.YtbgoclcmgbpckaaGreat
open Go Go.Nm
variable {dn:List Int} {tr:List Span} {sp:List Int} {tw:List Town} {dl dh:Int} {fl:List Flood} {W:List Int} {D:List Dem}
theorem contains_dem (l:List Dem) (f:Dem->M Bool) (p:Dem->Bool) (h:∀ t∈l,(f t).Ends (p t)):(zcG l f).Ends (l.any p):=by
  refine M.Out.ends ?_;unfold zcG zde;refine M.o_bind (P:=fun r=>decide (0<=r)=l.any p) (M.o_bind (P:=fun r=>match r with | .inl r=>(0:Int)<=r/\l.any p=true | .inr (_:Unit)=>l.any p=false) ?_ ?_) (fun r h=>M.o_pure h)
  · refine M.o_for l.length (fun i (k:Nat)=>k=i/\∀ j,j<i->p (l.getD j default)=false) ?_ ?_ ⟨rfl,fun j hj=>by omega⟩
    · rintro _ i hi ⟨rfl,hp⟩;simp only [zby];have hm:l.getD i default∈l:=by rw [getD_el l hi]; exact List.getElem_mem hi
      refine M.o_t (decide_eq_true (by omega)) (M.o_grdD (by omega) (M.o_bindE (h _ hm) (M.o_if (fun hb=>M.o_pure ⟨by omega,?_⟩) (fun hb=>M.o_pure ⟨rfl,fun j hj=>?_⟩))))
      · rw [List.any_eq_true];exact ⟨_,hm,hb⟩
      · rcases Nat.lt_or_eq_of_le (Nat.le_of_lt_succ hj) with e | e
        · exact hp j e
        · subst e;exact hb
    · rintro _ ⟨rfl,hp⟩;simp only [zby];refine M.o_f (decide_eq_false (by omega)) (M.o_pure ?_);rw [List.any_eq_false];intro x hx;obtain ⟨i,hi,e⟩:=mem_getD hx default;rw [← e,hp i hi];exact Bool.false_ne_true
  · rintro (r | r) h
    · exact M.o_pure (by rw [h.2,decide_eq_true h.1])
    · exact M.o_pure (by dsimp only at h; rw [h]; rfl)
theorem is_ends (hD:(zam dn tr sp tw dl dh fl).Ends D) (d:Dem):(zbB dn tr sp tw dl dh fl d).Ends (decide (d∈D)):=by
  unfold zbB;refine M.i_bind hD (M.i_bind (contains_dem D _ (fun x=>decide (x=d)) fun x _=>?_) ?_)
  · unfold zcb;exact M.i_pure
  · have e:(D.any fun x=>decide (x=d))=decide (d∈D):=by
      rw [Bool.eq_iff_iff,List.any_eq_true,decide_eq_true_eq];exact ⟨fun ⟨x,h1,h2⟩=>of_decide_eq_true h2 ▸ h1,fun h=>⟨d,h,decide_eq_true rfl⟩⟩
    rw [e];exact M.i_pure
theorem copy_town {l:List Town} (h:l.length<=1000):(zc6 l).Ends l:=M.i_grd (decide_eq_true (by simp; omega)) M.i_pure
theorem demandsx_ends (R:Wn.Rv dn tr sp tw dl dh fl) (hD:(zam dn tr sp tw dl dh fl).Ends D):(zbQ dn tr sp tw dl dh fl).Ends (D,0):=by
  unfold zbQ;refine M.i_bind (opened_ends R) ?_;dsimp only;exact M.i_f rfl (M.i_bind hD M.i_pure)
theorem stretchx_ends (R:Wn.Rv dn tr sp tw dl dh fl) (hD:(zam dn tr sp tw dl dh fl).Ends D) {d:Dem} (hd:d∈D) (ho:Wn.OkD dn tw d):(zb2 dn tr sp tw dl dh fl d).Ends (Wn.Sd dn tr tw dh d,0):=by
  have h:=is_ends hD d;rw [decide_eq_true hd] at h;have hsh:=Wn.P_short R.nx (.inr ho.1);have h12:=R.n12;have hle:(Wn.Sd dn tr tw dh d).length<=(Wn.P dn d.spring).length:=List.length_filter_le _ _;unfold zb2;refine M.i_bind (opened_ends R) ?_;dsimp only;exact M.i_f rfl (M.i_bind h (M.i_f rfl (M.i_bind (stretch_ends R ho) (M.i_grd (decide_eq_true (by omega)) M.i_pure))))
theorem dem_ok (R:Wn.Rv dn tr sp tw dl dh fl) (hm:∀ d,d∈D↔d.spring∈sp/\(0<=d.town/\d.town<(tw.length:Int))/\Wn.stn tw d∈Wn.P dn d.spring):∀ d∈D,Wn.OkD dn tw d:=fun d hd=>by
  have:=(hm d).1 hd;exact ⟨R.si _ this.1,this.2.1⟩
/-- No demand is beyond what can be met. -/
def Met (dn:List Int) (tr:List Span) (sp:List Int) (tw:List Town) (dl dh:Int) (fl:List Flood):Prop:=∀ D,(zam dn tr sp tw dl dh fl).Ends D->∀ d∈D,Wn.Sd dn tr tw dh d ≠ []
theorem kept_out (R:Wn.Rv dn tr sp tw dl dh fl):(zbD dn tr sp tw dl dh fl).Out (fun y=>∃ tw',y=(dl,dh,true,tw')/\Wn.Rv dn tr sp tw' dl dh fl/\Met dn tr sp tw' dl dh fl):=by
  unfold zbD;refine M.o_bind (P:=fun x=>match x with | .inl _=>False | .inr z=>Wn.Rv dn tr sp z.2 dl dh fl/\Met dn tr sp z.2 dl dh fl) ?_ ?_
  · refine M.o_iter (fun (w:Nat) (t:List Town × Bool)=>w=t.1.length+(if t.2=true then 1 else 0)/\Wn.Rv dn tr sp t.1 dl dh fl/\(t.2=false->Met dn tr sp t.1 dl dh fl)) ?_ _ _ ⟨rfl,R,fun h=>(by cases h)⟩;rintro _ ⟨l,again⟩ ⟨rfl,R',hM⟩;dsimp only at R' hM;simp only [zc5];refine M.o_if (fun hb=>?_) (fun hb=>M.o_pure ⟨R',hM hb⟩);subst hb;obtain ⟨D,hD,hl,hm⟩:=demands_is R';have ho:=dem_ok R' hm;have t8:=R'.t8;refine M.o_bindE (demandsx_ends R' hD) ?_;dsimp only;refine M.o_f rfl (M.o_bind (P:=fun x=>match x with | .inl _=>False | .inr z=>(z.2.1=false/\z.2.2=l/\∀ i,i<D.length->Wn.Sd dn tr l dh (D.getD i default) ≠ [])∨(z.2.1=true/\Wn.Rv dn tr sp z.2.2 dl dh fl/\z.2.2.length<l.length)) ?_ ?_)
    · refine M.o_iter (fun (w:Nat) (t:List Town × Bool × Nat)=>(t.2.1=false/\t.1=l/\t.2.2<=D.length/\w=D.length-t.2.2+1/\∀ i,i<t.2.2->Wn.Sd dn tr l dh (D.getD i default) ≠ [])∨(w=0/\t.2.1=true/\Wn.Rv dn tr sp t.1 dl dh fl/\t.1.length<l.length)) ?_ _ _ (.inl ⟨rfl,rfl,Nat.zero_le _,rfl,fun i hi=>by dsimp only at hi; omega⟩);rintro w ⟨l2,ag,i⟩ h;dsimp only at h;rcases h with ⟨rfl,rfl,h1,rfl,h2⟩ | ⟨rfl,rfl,h1,h2⟩
      · skip
        simp only [zcd];by_cases hi:i<D.length
        · have hd:D.getD i default∈D:=by rw [getD_el D hi]; exact List.getElem_mem hi
          have hok:=ho _ hd;have hto:=hok.2;refine M.o_t (by rw [decide_eq_true (by omega)]; rfl) (M.o_grdD (by omega) (M.o_bindE (stretchx_ends R' hD hd hok) ?_));dsimp only;refine M.o_f (by rw [decide_eq_false (by omega),decide_eq_false (by omega)]; rfl) (M.o_if (fun hz=>?_) (fun hz=>?_))
          · obtain ⟨q,hq⟩:∃ q:Nat,(D.getD i default).town=q:=⟨Int.toNat (D.getD i default).town,by omega⟩
            rw [hq] at hto ⊢;have e1:Int.toNat ((q:Int)+1)=q+1:=by omega
            rw [Int.toNat_natCast,e1];have hlen:(l2.take q++l2.drop (q+1)).length+1=l2.length:=by rw [List.length_append,List.length_take,List.length_drop]; omega
            refine M.o_grd (gA2 (by omega) (by omega)) (M.o_bindE (copy_town (by rw [List.length_take]; omega)) (M.o_grdD (by rw [List.length_append] at hlen; omega) (M.o_pure ⟨0,by omega,.inr ⟨rfl,rfl,?_,by dsimp only; omega⟩⟩)));refine ⟨R'.n1,R'.n12,R'.nx,R'.tl,R'.hr,R'.s1,R'.s8,R'.sr,R'.si,by dsimp only; omega,fun t ht=>?_,R'.d0,R'.d1,R'.d2,R'.f20,R'.fok⟩;rcases List.mem_append.1 ht with ht | ht
            · exact R'.tok t (List.mem_of_mem_take ht)
            · exact R'.tok t (List.mem_of_mem_drop ht)
          · have hz:=beq_eq_false_iff_ne.1 hz;refine M.o_pure ⟨D.length-(i+1)+1,by omega,.inl ⟨rfl,rfl,hi,rfl,fun k hk=>?_⟩⟩;rcases Nat.lt_or_eq_of_le (Nat.le_of_lt_succ hk) with g | g
            · exact h2 k g
            · subst g;intro h;rw [h] at hz;exact hz rfl
        · refine M.o_f (by rw [decide_eq_false (by omega)]; rfl) (M.o_pure (.inl ⟨rfl,rfl,fun k hk=>h2 k (by omega)⟩))
      · simp only [zcd];exact M.o_f (by simp) (M.o_pure (.inr ⟨rfl,h1,h2⟩))
    · rintro (x | ⟨l5,ag,l6⟩) h
      · exact h.elim
      · dsimp only at h ⊢;rcases h with ⟨rfl,rfl,h⟩ | ⟨rfl,h1,h2⟩
        · refine M.o_pure ⟨l6.length,by simp,by simp,R',fun _ D' hD' d hd=>?_⟩;rw [hD'.det hD] at hd;obtain ⟨i,hi,rfl⟩:=mem_getD hd default;exact h i hi
        · exact M.o_pure ⟨l6.length+1,by simp; omega,by simp,h1,fun h=>(by cases h)⟩
  · rintro (x | ⟨a,b⟩) h
    · exact h.elim
    · exact M.o_pure ⟨b,rfl,h.1,h.2⟩
end Go.Proofs.YtbgoclcmgbpckaaGreat
-- libW/VN.lean
namespace Go.Proofs.YtbgoclcmgbpckaaGreat
open Go Go.Nm
variable {dn:List Int} {tr:List Span} {sp:List Int} {tw:List Town} {dl dh:Int} {fl:List Flood} {ws:List Int} {D:List Dem}
theorem watches_end (R:Wn.Rv dn tr sp tw dl dh fl) {ap:List Dem} (h:(zaM dn tr sp tw dl dh fl).Ends (ws,ap,true)):(zbp dn tr sp tw dl dh fl).Ends (ws,0):=by
  unfold zbp;refine M.i_bind (opened_ends R) ?_;dsimp only;exact M.i_f rfl (M.i_bind h (M.i_f rfl M.i_pure))
theorem path_endsI (R:Wn.Rv dn tr sp tw dl dh fl) {s:Int} (h0:0<=s) (h1:s<dn.length):(za4 dn tr sp tw dl dh fl s).Ends (Wn.P dn s,0):=by
  refine M.Out.ends ?_;unfold za4;have h12:=R.n12;have hst:Wn.Stn dn s:=.inr ⟨h0,h1⟩;have hsh:=Wn.P_short R.nx hst;have hp:(zai dn tr sp tw dl dh fl s).Ends (s,dl,dh):=M.i_pure;refine M.o_bindE (opened_ends R) ?_;dsimp only;refine M.o_f rfl (M.o_bindE (station_true R h0 h1) (M.o_f rfl (M.o_bindE hp ?_)));dsimp only;refine M.o_bind (path_out (Q:=fun x=>x=(.inl (Wn.P dn s):List Int ⊕ Unit)) R.nx R.n12 hst (fun k (l:List Int)=>l=(Wn.P dn s).take k) (by simp) ?_ ?_ _ _ _ _ _ _) ?_
  · rintro k hk _ rfl;simp only [zaC];refine M.o_grdD (by rw [List.length_take]; simp; omega) (M.o_pure ?_);dsimp only;rw [List.take_succ_eq_append_getElem hk]
  · rintro _ rfl;rw [List.take_length]
  · rintro ⟨x,q⟩ hq;dsimp only at hq;subst hq;exact M.o_pure rfl
/-- Who reports a flood: the first watch on its path. -/
def Fst (p ws:List Int) (r:Int):Prop:=(r = -1/\∀ x∈p,x ∉ ws)∨∃ m:Nat,∃ hm:m<p.length,r=p[m]/\p[m]∈ws/\∀ x∈p.take m,x ∉ ws
theorem reported_first (R:Wn.Rv dn tr sp tw dl dh fl) {p:List Bool} (hp:∀ j:Nat,p.getD j false=true↔(j:Int)∈ws) {f:Flood} (hf:f∈fl):(zbf dn tr sp tw dl dh fl f p).Out (fun y=>Fst (Wn.P dn f.spring) ws y.1):=by
  unfold zbf;have h1:(zai dn tr sp tw dl dh fl f.spring).Ends (f.spring,dl,dh):=M.i_pure;obtain ⟨k1,k2,k3⟩:=R.fok f hf;have hs:=R.si _ k1;have hst:Wn.Stn dn f.spring:=.inr hs;have h12:=R.n12;refine M.o_bindE h1 ?_;dsimp only;refine M.o_bind (path_out (Q:=fun x=>match x with | .inl t=>Fst (Wn.P dn f.spring) ws t.1 | .inr (_:Unit)=>False) R.nx R.n12 hst
    (fun k (t:Int × Int × Bool)=>(t.1 = -1/\∀ x∈(Wn.P dn f.spring).take k,x ∉ ws)∨∃ m:Nat,∃ hm:m<(Wn.P dn f.spring).length,m<k/\t.1=(Wn.P dn f.spring)[m]/\(Wn.P dn f.spring)[m]∈ws/\∀ x∈(Wn.P dn f.spring).take m,x ∉ ws) (.inl ⟨rfl,by simp⟩) ?_ (fun t ht=>?_) _ _ _ _ _ _) ?_
  · rintro k hk ⟨a,b,c⟩ ht;have hm:=Wn.P_mem R.nx _ hst _ (List.getElem_mem hk);have hc:(zar tw (fun xqz=>zax xqz (Wn.P dn f.spring)[k] f.spring f.stages (k:Int))).Out (fun _=>True):=by
      refine contains_town _ _ fun t _=>?_;unfold zax;exact M.o_grd (gOr2 (by omega) (by omega)) (M.o_pure trivial)
    have hin:p.getD (Int.toNat (Wn.P dn f.spring)[k]) false=true↔(Wn.P dn f.spring)[k]∈ws:=by
      rw [hp,Int.toNat_of_nonneg hm.2.1]
    simp only [zau];dsimp only at ht;refine M.o_grd (gA2 (by omega) (by omega)) (M.o_if (fun hb=>?_) (fun hb=>?_))
    · rw [Bool.and_eq_true] at hb;have hn:∀ x∈(Wn.P dn f.spring).take k,x ∉ ws:=by
        rcases ht with ht | ⟨m,hm',_,e,_⟩
        · exact ht.2
        · have h3:=Wn.P_mem R.nx _ hst _ (List.getElem_mem hm');have h4:=beq_iff_eq.1 hb.2;omega
      have hg:∀ z:Int,z=(Wn.P dn f.spring)[k]->(z = -1/\∀ x∈(Wn.P dn f.spring).take (k+1),x ∉ ws)∨∃ m:Nat,∃ hm:m<(Wn.P dn f.spring).length,m<k+1/\z=(Wn.P dn f.spring)[m]/\(Wn.P dn f.spring)[m]∈ws/\∀ x∈(Wn.P dn f.spring).take m,x ∉ ws :=
        fun z hz=>.inr ⟨k,hk,Nat.lt_succ_self _,hz,hin.1 hb.1,hn⟩
      refine M.o_grd (gA2 (by omega) (by omega)) (M.o_bind hc fun r _=>?_);exact M.o_if (fun _=>M.o_pure (hg _ rfl)) (fun _=>M.o_pure (hg _ rfl))
    · have hg:(a = -1/\∀ x∈(Wn.P dn f.spring).take (k+1),x ∉ ws)∨∃ m:Nat,∃ hm:m<(Wn.P dn f.spring).length,m<k+1/\a=(Wn.P dn f.spring)[m]/\(Wn.P dn f.spring)[m]∈ws/\∀ x∈(Wn.P dn f.spring).take m,x ∉ ws:=by
        rcases ht with ht | ⟨m,hm',h4,h5⟩
        · refine .inl ⟨ht.1,fun x hx=>?_⟩;rw [List.take_succ_eq_append_getElem hk,List.mem_append,List.mem_singleton] at hx;rcases hx with hx | rfl
          · exact ht.2 x hx
          · intro h6;rw [hin.2 h6,ht.1] at hb;cases hb
        · exact .inr ⟨m,hm',by omega,h5⟩
      refine M.o_bind hc fun r _=>?_;exact M.o_if (fun _=>M.o_pure hg) (fun _=>M.o_pure hg)
  · rw [List.take_length] at ht;rcases ht with ht | ⟨m,hm,_,h5⟩
    · exact .inl ht
    · exact .inr ⟨m,hm,h5⟩
  · rintro ⟨x,q⟩ hq;cases x with
    | inl t=>exact M.o_pure hq
    | inr u=>exact hq.elim
theorem reports_first (R:Wn.Rv dn tr sp tw dl dh fl) (hu:ws.Pairwise (· < ·)) (hb:∀ x∈ws,0<=x/\x<(dn.length:Int)) {i:Nat} (hi:i<fl.length):(zcK dn tr sp tw dl dh fl ws (i:Int)).Out (fun y=>Fst (Wn.P dn (fl.getD i default).spring) ws y.1/\y.2.2=0):=by
  unfold zcK;have h20:=R.f20;refine M.o_bind (posted_iff R hu hb) ?_;rintro _ ⟨ar,rfl,h⟩;dsimp only;refine M.o_bindE (M.i_opt (fun _=>in_true (by omega) (by omega)) (fun h=>by cases h)) (M.o_f rfl (M.o_f rfl (M.o_grd (gA2 (by omega) (by omega)) ?_)));rw [Int.toNat_natCast];refine M.o_bind (reported_first R h (f:=fl.getD i default) (by rw [getD_el fl hi]; exact List.getElem_mem hi)) ?_;rintro ⟨a,b,c⟩ hy;exact M.o_pure ⟨hy,rfl⟩
/-- The place of the watch that reports. -/
def Wpl (p:List Int) (r:Int):Option Nat->Prop
  | none=>∀ z∈p,z ≠ r
  | some i=>∃ h:i<p.length,r=p[i]
theorem seg_upto (hD:Wn.Dn dn) {x:Int} (hx:Wn.Stn dn x) {m k:Nat} (hmk:m<=k) (hk:k<(Wn.P dn x).length):Wn.upto (Wn.P dn (Wn.P dn x)[m]) (Wn.P dn x)[k]=((Wn.P dn x).take k).drop m:=by
  have e:=Wn.P_drop hD x hx m (by omega);have hu:=Wn.P_up hD x hx;rw [e,List.drop_take];refine Wn.upto_take ?_ ?_
  · rw [List.getElem?_drop,List.getElem?_eq_getElem (by omega)];simp only [show m+(k-m)=k by omega]
  · intro z hz;obtain ⟨j,hj,rfl⟩:=List.getElem_of_mem hz;rw [List.length_take,List.length_drop] at hj;rw [List.getElem_take,List.getElem_drop];have:=List.pairwise_iff_getElem.1 hu (m+j) k (by omega) hk (by omega);omega
theorem seg_succ {p:List Int} {m k:Nat} (hmk:m<=k) (hk:k<p.length) (f:Int->Int):Wn.sm f ((p.take (k+1)).drop m)=Wn.sm f ((p.take k).drop m)+f p[k]:=by
  rw [List.take_succ_eq_append_getElem hk,List.drop_append_of_le_length (by rw [List.length_take]; omega),Wn.sm_app];simp [Wn.sm]
/-- What a town asks: it has heard of the flood in time. -/
structure Intime (dn:List Int) (tr:List Span) (tw:List Town) (dh:Int) (x:Int) (ws:List Int) (m:Option Nat):Prop where
  it:∀ (k:Nat) (hk:k<(Wn.P dn x).length) (t:Nat),t<tw.length->(tw.getD t default).station=(Wn.P dn x)[k]->∃ i,∃ hi:i<=k,m=some i/\(tw.getD t default).lead+dh<=Wn.sm (Wn.lo tr) (((Wn.P dn x).take k).drop i)
theorem intime_of (R:Wn.Rv dn tr sp tw dl dh fl) (hm:∀ d,d∈D↔d.spring∈sp/\(0<=d.town/\d.town<(tw.length:Int))/\Wn.stn tw d∈Wn.P dn d.spring) (cov:∀ d∈D,∃ s∈Wn.Sd dn tr tw dh d,s∈ws) {x:Int} (hx:x∈sp) {r:Int} (hr:Fst (Wn.P dn x) ws r) :
    ∃ m:Option Nat,Intime dn tr tw dh x ws m/\Wpl (Wn.P dn x) r m:=by
  have hst:Wn.Stn dn x:=.inr (R.si _ hx);have hu:=Wn.P_up R.nx x hst;have key:∀ (k:Nat) (hk:k<(Wn.P dn x).length) (t:Nat),t<tw.length->(tw.getD t default).station=(Wn.P dn x)[k]->∃ j,∃ hj:j<=k,(Wn.P dn x)[j]∈ws/\(tw.getD t default).lead+dh<=Wn.sm (Wn.lo tr) (((Wn.P dn x).take k).drop j):=by
    intro k hk t ht e;obtain ⟨s,s1,s2⟩:=cov ⟨x,(t:Int)⟩ ((hm _).2 ⟨hx,⟨by dsimp only; omega,by dsimp only; omega⟩,by
      show (tw.getD (Int.toNat (t:Int)) default).station∈_;rw [Int.toNat_natCast,e];exact List.getElem_mem hk⟩)
    obtain ⟨a1,a2,a3⟩:=Wn.mem_Sd.1 s1;have es:Wn.stn tw ⟨x,(t:Int)⟩=(Wn.P dn x)[k]:=e;have el:Wn.led tw ⟨x,(t:Int)⟩=(tw.getD t default).lead:=rfl;rw [es] at a2 a3;rw [el] at a3;dsimp only at a1;obtain ⟨j,hj,rfl⟩:=List.getElem_of_mem a1;have hjk:j<=k:=by
      have h1:=Wn.P_mem R.nx _ (.inr (Wn.P_mem R.nx _ hst _ a1).2) _ a2;rcases Nat.lt_or_ge k j with g | g
      · have:=List.pairwise_iff_getElem.1 hu k j hk hj g;omega
      · exact g
    exact ⟨j,hjk,s2,by rw [← seg_upto R.nx hst hjk hk]; exact a3⟩
  rcases hr with ⟨rfl,hn⟩ | ⟨m,hml,rfl,hmw,hmn⟩
  · refine ⟨none,⟨fun k hk t ht e=>?_⟩,fun z hz=>?_⟩
    · obtain ⟨j,hj,j1,_⟩:=key k hk t ht e;exact absurd j1 (hn _ (List.getElem_mem _))
    · have:=Wn.P_mem R.nx _ hst z hz;omega
  · refine ⟨some m,⟨fun k hk t ht e=>?_⟩,hml,rfl⟩;obtain ⟨j,hj,j1,j2⟩:=key k hk t ht e;have hmj:m<=j:=by
      rcases Nat.lt_or_ge j m with g | g
      · refine absurd j1 (hmn _ ?_);rw [List.mem_take_iff_getElem];exact ⟨j,by omega,rfl⟩
      · exact g
    refine ⟨m,by omega,rfl,Int.le_trans j2 ?_⟩;have e1:((Wn.P dn x).take k).drop m=(((Wn.P dn x).take j).drop m)++((Wn.P dn x).take k).drop j:=by
      rw [← seg_upto R.nx hst (show m<=k by omega) hk,← seg_upto R.nx hst hmj (by omega),← seg_upto R.nx hst hj hk];have hmem:∀ i (hi:i<(Wn.P dn x).length),Wn.Stn dn (Wn.P dn x)[i]:=fun i hi=>.inr (Wn.P_mem R.nx _ hst _ (List.getElem_mem hi)).2;refine (Wn.upto_trans R.nx (hmem m hml) (Wn.P_fwd R.nx hst (List.getElem_mem hml) (List.getElem_mem (by omega)) ?_) (Wn.P_fwd R.nx hst (List.getElem_mem (by omega)) (List.getElem_mem hk) ?_)).2
      · rcases Nat.lt_or_eq_of_le hmj with g | g
        · have:=List.pairwise_iff_getElem.1 hu m j hml (by omega) g;omega
        · subst g; exact Int.le_refl _
      · rcases Nat.lt_or_eq_of_le hj with g | g
        · have:=List.pairwise_iff_getElem.1 hu j k (by omega) hk g;omega
        · subst g; exact Int.le_refl _
    rw [e1,Wn.sm_app];have:=Wn.sm_bound (Wn.lo tr) (((Wn.P dn x).take j).drop m) fun w hw=>by
      have h1:=Wn.P_mem R.nx _ hst w (List.mem_of_mem_take (List.mem_of_mem_drop hw));exact lo_small R w h1.2.1 h1.2.2
    omega
end Go.Proofs.YtbgoclcmgbpckaaGreat
namespace Go.Nm
namespace Cw
/-- A visit whose numbers are right. -/
structure VOk (v:Vis):Prop where
  w0:0<=v.wlo
  w1:v.wlo<=v.whi
  w2:v.whi<=80
  k0:0<=v.klo
  k1:v.klo<=v.khi
  k2:v.khi<=60
  p0:0<=v.opn
  p1:v.opn<=v.cls
  p2:v.cls<=2000
/-- When a visit's work is done. -/
def Sv (f g:Vis->Int) (l:List Vis):Nat->Int
  | 0=>0
  | k+1=>max (Sv f g l k+f (l.getD k default)) (l.getD k default).opn+g (l.getD k default)
/-- When a visit begins. -/
def Bv (f g:Vis->Int) (l:List Vis) (k:Nat):Int:=max (Sv f g l k+f (l.getD k default)) (l.getD k default).opn
variable {l:List Vis} {f g:Vis->Int}
theorem Sv.bd (h:∀ k,k<l.length->VOk (l.getD k default)) (hf:∀ v,VOk v->0<=f v/\f v<=80) (hg:∀ v,VOk v->0<=g v/\g v<=60):∀ k,k<=l.length->0<=Sv f g l k/\Sv f g l k<=2000+200*k
  | 0,_=>by simp [Sv]
  | k+1,hk=>by
    have ih:=Sv.bd h hf hg k (by omega);have a:=h k (by omega);have b:=hf _ a;have c:=hg _ a;have p0:=a.p0;have p1:=a.p1;have p2:=a.p2;simp only [Sv];omega
theorem Bv.bd (h:∀ k,k<l.length->VOk (l.getD k default)) (hf:∀ v,VOk v->0<=f v/\f v<=80) (hg:∀ v,VOk v->0<=g v/\g v<=60) {k:Nat} (hk:k<l.length):0<=Bv f g l k/\Bv f g l k<=2200+200*k:=by
  have ih:=Sv.bd h hf hg k (by omega);have a:=h k hk;have b:=hf _ a;have p0:=a.p0;have p1:=a.p1;have p2:=a.p2;simp only [Bv];omega
abbrev SL_ (l:List Vis):=Sv Vis.wlo Vis.klo l
abbrev SH_ (l:List Vis):=Sv Vis.whi Vis.khi l
abbrev BL_ (l:List Vis):=Bv Vis.wlo Vis.klo l
abbrev BH_ (l:List Vis):=Bv Vis.whi Vis.khi l
/-- What is told of a round. -/
structure HOk (l:List Vis) (r:List Span):Prop where
  ln:r.length=l.length
  lo:∀ k,k<l.length->(r.getD k default).lo=BL_ l k
  hi:∀ k,k<l.length->(r.getD k default).hi=BH_ l k
end Cw
end Go.Nm
namespace Go.Proofs.YtbgoclcmgbpckaaGreat
open Go Go.Nm
variable {l:List Vis}
theorem getD_snoc {α:Type} {l:List α} {x d:α} {k:Nat} (h:k<=l.length):(l++[x]).getD k d=if k<l.length then l.getD k d else x:=by
  simp only [List.getD_eq_getElem?_getD,List.getElem?_append];by_cases e:k<l.length
  · simp [e]
  · have:k=l.length:=by omega
    subst this;simp
theorem contains_vis (l:List Vis) (f:Vis->M Bool) (p:Vis->Bool) (h:∀ t∈l,(f t).Ends (p t)):(zcl l f).Ends (l.any p):=by
  refine M.Out.ends ?_;unfold zcl zdg;have key:(M.iter (za7 l f) 0).Out (fun x=>match x with | .inl k=>0<=k/\l.any p=true | .inr (_:Unit)=>l.any p=false):=by
    refine M.o_for l.length (fun i (s:Nat)=>s=i/\∀ j,j<i->p (l.getD j default)=false) ?_ ?_ ⟨rfl,fun j hj=>by omega⟩
    · rintro _ s hs ⟨rfl,hj⟩;simp only [za7];have hm:l.getD s default∈l:=by rw [getD_el l hs]; exact List.getElem_mem hs
      refine M.o_t (decide_eq_true (by omega)) (M.o_grdD (by omega) (M.o_bindE (h _ hm) (M.o_if (fun hb=>M.o_pure ⟨by omega,?_⟩) (fun hb=>M.o_pure ⟨rfl,fun j hj'=>?_⟩))))
      · exact List.any_eq_true.2 ⟨_,hm,hb⟩
      · rcases Nat.lt_or_ge j s with g | g
        · exact hj j g
        · obtain rfl:j=s:=by omega
          exact hb
    · rintro _ ⟨rfl,hj⟩;simp only [za7];refine M.o_f (decide_eq_false (by omega)) (M.o_pure ?_);refine List.any_eq_false.2 fun x hx=>?_;obtain ⟨k,hk,rfl⟩:=List.getElem_of_mem hx;have:=hj k hk;rw [getD_el l hk] at this;simp [this]
  refine M.o_bind (P:=fun r=>decide (0<=r)=l.any p) (M.o_bind key ?_) (fun r hr=>M.o_pure hr);rintro (k | u) hk
  · exact M.o_pure (by rw [hk.2]; exact decide_eq_true hk.1)
  · exact M.o_pure (by rw [show l.any p=false from hk]; rfl)
theorem in_t {n a b:Int} (h1:a<=n) (h2:n<=b):(zah n a b).Ends true:=by
  unfold zah;have:(decide (a<=n)&&decide (n<=b))=true:=by rw [decide_eq_true h1,decide_eq_true h2]; rfl
  rw [this];exact M.i_pure
theorem minute_t {n:Int} (h1:0<=n) (h2:n<=100000):(zaT n).Ends true:=M.i_bind (in_t h1 h2) M.i_pure
theorem minutes_t {s:Span} (h1:0<=s.lo) (h2:s.lo<=s.hi) (h3:s.hi<=100000):(zbN s).Ends true :=
  M.i_bind (in_t h1 h2) (M.i_bind (M.i_opt (fun _=>minute_t (by omega) h3) (fun h=>by cases h)) M.i_pure)
theorem rounded_t (h:∀ v∈l,Cw.VOk v) (h1:1<=l.length) (h2:l.length<=20):(zce l).Ends 0:=by
  unfold zce;refine M.i_bind (in_t (by omega) (by omega)) (M.i_f rfl (M.i_bind (a:=true) ?_ (M.i_f rfl M.i_pure)));unfold zc3;refine M.i_bind (a:=false) ?_ M.i_pure;have:=contains_vis l (fun x=>zbJ x fun xqz=>zbw xqz) (fun _=>false) fun t ht=>?_
  · rwa [show l.any (fun _=>false)=false by simp] at this
  · have v:=h t ht;refine M.i_bind (a:=true) ?_ M.i_pure;unfold zbw;have w0:=v.w0;have w1:=v.w1;have w2:=v.w2;have k0:=v.k0;have k1:=v.k1;have k2:=v.k2;have p0:=v.p0;have p1:=v.p1;have p2:=v.p2;exact M.i_bind (minutes_t w0 w1 (by dsimp only; omega)) (M.i_bind (M.i_opt (fun _=>minutes_t k0 k1 (by dsimp only; omega)) (fun h=>by cases h)) (M.i_bind (M.i_opt (fun _=>in_t p0 p1) (fun h=>by cases h)) (M.i_bind (M.i_opt (fun _=>minute_t (by omega) (by omega)) (fun h=>by cases h)) M.i_pure)))
theorem voks (h:∀ v∈l,Cw.VOk v):∀ k,k<l.length->Cw.VOk (l.getD k default):=fun k hk=>by
  rw [getD_el l hk];exact h _ (List.getElem_mem hk)
theorem begins_lo (h:∀ v∈l,Cw.VOk v) (h2:l.length<=20):(zca 0 l).Out (fun r=>r.length=l.length/\∀ k,k<l.length->r.getD k 0=Cw.BL_ l k):=by
  unfold zca;have hv:=voks h;refine M.o_bind (M.o_for (Q:=fun x=>x.2.length=l.length/\∀ k,k<l.length->x.2.getD k 0=Cw.BL_ l k) l.length (fun i (s:Int × Nat × List Int)=>s.2.1=i/\s.1=Cw.SL_ l i/\s.2.2.length=i/\∀ k,k<i->s.2.2.getD k 0=Cw.BL_ l k) ?_ ?_ ⟨rfl,rfl,rfl,fun k hk=>by omega⟩) fun x hx=>M.o_pure hx
  · rintro _ ⟨a,s,o⟩ hs ⟨rfl,ea,ho,hk⟩;dsimp only at hs ea ho hk;subst ea;simp only [zbM];have hb:0<=Cw.SL_ l s/\Cw.SL_ l s<=2000+200*s:=Cw.Sv.bd (f:=Vis.wlo) (g:=Vis.klo) hv (fun v hv=>⟨hv.w0,by have:=hv.w1; have:=hv.w2; omega⟩) (fun v hv=>⟨hv.k0,by have:=hv.k1; have:=hv.k2; omega⟩) s (by omega);have v:=hv s hs;have w0:=v.w0;have w1:=v.w1;have w2:=v.w2;have k0:=v.k0;have k1:=v.k1;have k2:=v.k2;have p0:=v.p0;have p1:=v.p1;have p2:=v.p2;refine M.o_t (decide_eq_true (by omega)) (M.o_grdD (by omega) (M.o_bindE (a:=(l.getD s default).wlo) M.i_pure (M.o_grd (gA2 (by omega) (by omega)) (M.o_grdD (by simp; omega) (M.o_bindE (a:=(l.getD s default).klo) M.i_pure (M.o_grd (gA2 (by omega) (by omega)) (M.o_pure ⟨rfl,rfl,by simp [ho],fun k hk'=>?_⟩)))))));dsimp only;rw [getD_snoc (by omega)];split
    · exact hk k (by omega)
    · obtain rfl:k=s:=by omega
      rfl
  · rintro ⟨a,s,o⟩ ⟨e,_,ho,hk⟩;dsimp only at e ho hk;subst e;simp only [zbM];exact M.o_f (decide_eq_false (by omega)) (M.o_pure ⟨ho,hk⟩)
theorem begins_hi (h:∀ v∈l,Cw.VOk v) (h2:l.length<=20):(zbA 0 l).Out (fun r=>r.length=l.length/\∀ k,k<l.length->r.getD k 0=Cw.BH_ l k):=by
  unfold zbA;have hv:=voks h;refine M.o_bind (M.o_for (Q:=fun x=>x.2.length=l.length/\∀ k,k<l.length->x.2.getD k 0=Cw.BH_ l k) l.length (fun i (s:Int × Nat × List Int)=>s.2.1=i/\s.1=Cw.SH_ l i/\s.2.2.length=i/\∀ k,k<i->s.2.2.getD k 0=Cw.BH_ l k) ?_ ?_ ⟨rfl,rfl,rfl,fun k hk=>by omega⟩) fun x hx=>M.o_pure hx
  · rintro _ ⟨a,s,o⟩ hs ⟨rfl,ea,ho,hk⟩;dsimp only at hs ea ho hk;subst ea;simp only [zcF];have hb:0<=Cw.SH_ l s/\Cw.SH_ l s<=2000+200*s:=Cw.Sv.bd (f:=Vis.whi) (g:=Vis.khi) hv (fun v hv=>⟨by have:=hv.w0; have:=hv.w1; omega,hv.w2⟩) (fun v hv=>⟨by have:=hv.k0; have:=hv.k1; omega,hv.k2⟩) s (by omega);have v:=hv s hs;have w0:=v.w0;have w1:=v.w1;have w2:=v.w2;have k0:=v.k0;have k1:=v.k1;have k2:=v.k2;have p0:=v.p0;have p1:=v.p1;have p2:=v.p2;refine M.o_t (decide_eq_true (by omega)) (M.o_grdD (by omega) (M.o_bindE (a:=(l.getD s default).whi) M.i_pure (M.o_grd (gA2 (by omega) (by omega)) (M.o_grdD (by simp; omega) (M.o_bindE (a:=(l.getD s default).khi) M.i_pure (M.o_grd (gA2 (by omega) (by omega)) (M.o_pure ⟨rfl,rfl,by simp [ho],fun k hk'=>?_⟩)))))));dsimp only;rw [getD_snoc (by omega)];split
    · exact hk k (by omega)
    · obtain rfl:k=s:=by omega
      rfl
  · rintro ⟨a,s,o⟩ ⟨e,_,ho,hk⟩;dsimp only at e ho hk;subst e;simp only [zcF];exact M.o_f (decide_eq_false (by omega)) (M.o_pure ⟨ho,hk⟩)
theorem hours_out (h:∀ v∈l,Cw.VOk v) (h1:1<=l.length) (h2:l.length<=20):(zb4 0 l).Out (fun y=>y.2=0/\Cw.HOk l y.1):=by
  unfold zb4;refine M.o_bindE (rounded_t h h1 h2) (M.o_f rfl (M.o_bindE (minute_t (by omega) (by omega)) (M.o_f rfl (M.o_bindE (a:=()) M.i_pure (M.o_bind (begins_lo h h2) ?_)))));rintro a ⟨a1,a2⟩;refine M.o_bindE (a:=()) M.i_pure (M.o_bind (begins_hi h h2) ?_);rintro b ⟨b1,b2⟩;refine M.o_bind (M.o_for (Q:=fun x=>Cw.HOk l x.2) l.length (fun i (s:Nat × List Span)=>s.1=i/\s.2.length=i/\∀ k,k<i->(s.2.getD k default).lo=Cw.BL_ l k/\(s.2.getD k default).hi=Cw.BH_ l k) ?_ ?_ ⟨rfl,rfl,fun k hk=>by omega⟩) fun x hx=>M.o_pure ⟨rfl,hx⟩
  · rintro _ ⟨s,o⟩ hs ⟨rfl,ho,hk⟩;dsimp only at hs ho hk;simp only [zbX];refine M.o_t (decide_eq_true (by omega)) (M.o_grdD (by omega) (M.o_grdD (by omega) (M.o_grdD (by simp; omega) (M.o_pure ⟨rfl,by simp [ho],fun k hk'=>?_⟩))));dsimp only;rw [getD_snoc (by omega)];split
    · exact hk k (by omega)
    · obtain rfl:k=s:=by omega
      exact ⟨a2 _ hs,b2 _ hs⟩
  · rintro ⟨s,o⟩ ⟨e,ho,hk⟩;dsimp only at e ho hk;subst e;simp only [zbX];exact M.o_f (decide_eq_false (by omega)) (M.o_pure ⟨ho,fun k h=>(hk k h).1,fun k h=>(hk k h).2⟩)
theorem toured_out {b:List UInt8} {c u x:Int} (hS:SOk c u x) (hc:c<=1000):(zbG b u x 4).Out (fun y=>(1<=y.1.length/\y.1.length<=4)/\(∀ v∈y.1,Cw.VOk v)/\SOk (c+100) y.2.1 y.2.2):=by
  unfold zbG;refine M.o_bind (within_out hS (by omega) (by omega) (by omega) (by omega)) ?_;rintro ⟨r,u1,x1⟩ ⟨k1,g1,g2⟩;dsimp only at k1 g1 g2 ⊢;obtain ⟨n,rfl⟩:=Int.eq_ofNat_of_zero_le (show 0<=r by omega);refine M.o_bind (M.o_for (Q:=fun (x:List Vis × List Vis × Int × Int)=>x.2.1.length=n/\(∀ v∈x.2.1,Cw.VOk v)/\SOk (c+100) x.2.2.1 x.2.2.2) n (fun i (s:Int × Int × Int × Nat × List Vis)=>s.2.2.2.1=i/\SOk (c+1+6*i) s.1 s.2.1/\(0<=s.2.2.1/\s.2.2.1<=200*i)/\s.2.2.2.2.length=i/\∀ v∈s.2.2.2.2,Cw.VOk v) ?_ ?_ ⟨rfl,k1.mono (by omega),⟨by dsimp only; omega,by dsimp only; omega⟩,rfl,fun v hv=>by cases hv⟩) ?_
  · rintro _ ⟨a,a2,t,s,o⟩ hs ⟨rfl,kS,⟨t0,t1⟩,ho,hv⟩;dsimp only at hs kS t0 t1 ho hv;simp only [zb1];refine M.o_t (decide_eq_true (by omega)) (M.o_bind (next_out kS (by omega) (by omega)) ?_);rintro ⟨r3,u3,x3⟩ ⟨j3,l3,_⟩;have l3:=l3 (by omega);dsimp only at j3 l3 ⊢;refine M.o_bind (next_out j3 (by omega) (by omega)) ?_;rintro ⟨r4,u4,x4⟩ ⟨j4,l4,_⟩;have l4:=l4 (by omega);dsimp only at j4 l4 ⊢;refine M.o_grd (gA2 (by omega) (by omega)) (M.o_bind (next_out j4 (by omega) (by omega)) ?_);rintro ⟨r5,u5,x5⟩ ⟨j5,l5,_⟩;have l5:=l5 (by omega);dsimp only at j5 l5 ⊢;refine M.o_bind (next_out j5 (by omega) (by omega)) ?_;rintro ⟨r6,u6,x6⟩ ⟨j6,l6,_⟩;have l6:=l6 (by omega);dsimp only at j6 l6 ⊢;refine M.o_grd (gA2 (by omega) (by omega)) (M.o_grd (gA2 (by omega) (by omega)) (M.o_bind (within_out j6 (by omega) (by omega) (by omega) (by omega)) ?_));rintro ⟨r7,u7,x7⟩ ⟨j7,l7⟩;dsimp only at j7 l7 ⊢;refine M.o_grd (gA2 (by omega) (by omega)) (M.o_bind (within_out j7 (by omega) (by omega) (by omega) (by omega)) ?_);rintro ⟨r8,u8,x8⟩ ⟨j8,l8⟩;dsimp only at j8 l8 ⊢;refine M.o_grd (gA2 (by omega) (by omega)) (M.o_grd (gA2 (by omega) (by omega)) (M.o_grdD (by simp; omega) (M.o_grd (gA2 (by omega) (by omega)) (M.o_pure ⟨rfl,j8.mono (by omega),⟨by dsimp only; omega,by dsimp only; omega⟩,by simp [ho],fun v hv'=>?_⟩))));dsimp only at hv';rw [List.mem_append,List.mem_singleton] at hv';rcases hv' with hv' | rfl
    · exact hv v hv'
    · exact ⟨by dsimp only; omega,by dsimp only; omega,by dsimp only; omega,by dsimp only; omega,by dsimp only; omega,by dsimp only; omega,by dsimp only; omega,by dsimp only; omega,by dsimp only; omega⟩
  · rintro ⟨a,a2,t,s,o⟩ ⟨e,kS,_,ho,hv⟩;dsimp only at e kS ho hv;subst e;simp only [zb1];exact M.o_f (decide_eq_false (by omega)) (M.o_pure ⟨ho,hv,kS.mono (by omega)⟩)
  · rintro ⟨o,o2,u2,x2⟩ ⟨h1,h2,h3⟩;dsimp only at h1 h2 h3 ⊢;exact M.o_pure ⟨⟨by dsimp only; omega,by dsimp only; omega⟩,h2,h3⟩
end Go.Proofs.YtbgoclcmgbpckaaGreat
namespace Go.Nm
namespace Cw
/-- A ride whose numbers are right. -/
structure ROk (r:Ride):Prop where
  s0:0<=r.src
  s1:r.src<=59
  l0:1<=r.long
  l1:r.long<=30
  w0:0<=r.wlo
  w1:r.wlo<=r.whi
  w2:r.whi<=200
/-- A cableway whose numbers are right. -/
structure COk (car wide sag most:Int):Prop where
  c0:0<=car
  c1:car<=100
  d0:1<=wide
  d1:wide<=200
  s0:1<=sag
  s1:sag<=500
  m0:0<=most
  m1:most<=2400000
def bey (wide sag most load:Int):Bool:=decide (most*sag<load*wide*25)
def on (n:Int) (r:Ride):Bool:=decide (r.src<=n)&&decide (n-r.src<r.long)
/-- The greatest weights of those on the cable. -/
def ld (rs:List Ride) (n:Int):Int:=((rs.filter (on n)).map Ride.whi).sum
theorem mulb {a b A B:Int} (a0:0<=a) (a1:a<=A) (b0:0<=b) (b1:b<=B):0<=a*b/\a*b<=A*B :=
  ⟨Int.mul_nonneg a0 b0,Int.le_trans (Int.mul_le_mul_of_nonneg_right a1 b0) (Int.mul_le_mul_of_nonneg_left b1 (Int.le_trans a0 a1))⟩
theorem bey_mono {wide sag most a b:Int} (hw:0<=wide) (h:a<=b) (hb:bey wide sag most b=false):bey wide sag most a=false:=by
  have:=Int.mul_le_mul_of_nonneg_right h hw;unfold bey at hb ⊢;simp only [decide_eq_false_iff_not] at hb ⊢;omega
theorem ld_app (a b:List Ride) (n:Int):ld (a++b) n=ld a n+ld b n:=by
  simp [ld,List.filter_append,List.map_append,List.sum_append]
theorem sum_nn:∀ {l:List Ride},(∀ r∈l,0<=r.whi/\r.whi<=200)->0<=(l.map Ride.whi).sum/\(l.map Ride.whi).sum<=200*l.length
  | [],_=>by simp
  | r :: l,h=>by
    have ih:=sum_nn fun x hx=>h x (List.mem_cons_of_mem _ hx);have:=h r List.mem_cons_self;simp only [List.map_cons,List.sum_cons,List.length_cons];omega
theorem ld_bd {l:List Ride} {n:Int} (h:∀ r∈l,0<=r.whi/\r.whi<=200):0<=ld l n/\ld l n<=200*l.length:=by
  have:=sum_nn (l:=l.filter (on n)) fun r hr=>h r (List.mem_filter.1 hr).1;have h2:=List.length_filter_le (on n) l;unfold ld;omega
end Cw
end Go.Nm
namespace Go.Proofs.YtbgoclcmgbpckaaGreat
open Go Go.Nm
variable {car wide sag most:Int} {rs l:List Ride}
theorem contains_ride (l:List Ride) (f:Ride->M Bool) (p:Ride->Bool) (h:∀ t∈l,(f t).Ends (p t)):(zcf l f).Ends (l.any p):=by
  refine M.Out.ends ?_;unfold zcf zdf;have key:(M.iter (zbs l f) 0).Out (fun x=>match x with | .inl k=>0<=k/\l.any p=true | .inr (_:Unit)=>l.any p=false):=by
    refine M.o_for l.length (fun i (s:Nat)=>s=i/\∀ j,j<i->p (l.getD j default)=false) ?_ ?_ ⟨rfl,fun j hj=>by omega⟩
    · rintro _ s hs ⟨rfl,hj⟩;simp only [zbs];have hm:l.getD s default∈l:=by rw [getD_el l hs]; exact List.getElem_mem hs
      refine M.o_t (decide_eq_true (by omega)) (M.o_grdD (by omega) (M.o_bindE (h _ hm) (M.o_if (fun hb=>M.o_pure ⟨by omega,?_⟩) (fun hb=>M.o_pure ⟨rfl,fun j hj'=>?_⟩))))
      · exact List.any_eq_true.2 ⟨_,hm,hb⟩
      · rcases Nat.lt_or_ge j s with g | g
        · exact hj j g
        · obtain rfl:j=s:=by omega
          exact hb
    · rintro _ ⟨rfl,hj⟩;simp only [zbs];refine M.o_f (decide_eq_false (by omega)) (M.o_pure ?_);refine List.any_eq_false.2 fun x hx=>?_;obtain ⟨k,hk,rfl⟩:=List.getElem_of_mem hx;have:=hj k hk;rw [getD_el l hk] at this;simp [this]
  refine M.o_bind (P:=fun r=>decide (0<=r)=l.any p) (M.o_bind key ?_) (fun r hr=>M.o_pure hr);rintro (k | u) hk
  · exact M.o_pure (by rw [hk.2]; exact decide_eq_true hk.1)
  · exact M.o_pure (by rw [show l.any p=false from hk]; rfl)
theorem every_ride (l:List Ride) (f:Ride->M Bool) (p:Ride->Bool) (h:∀ t∈l,(f t).Ends (p t)):(zaD l f).Ends (l.all p):=by
  unfold zaD;have:=contains_ride l (fun x=>zcv x f) (fun t=>!p t) fun t ht=>M.i_bind (h t ht) M.i_pure;refine M.i_bind this ?_;rw [show (!l.any fun t=>!p t)=l.all p by simp [List.all_eq_not_any_not]];exact M.i_pure
theorem beyond_ends (C:Cw.COk car wide sag most) (rs:List Ride) {load:Int} (h0:0<=load) (h1:load<=100000):(zaP car wide sag most rs load).Ends (Cw.bey wide sag most load):=by
  unfold zaP;have d0:=C.d0;have d1:=C.d1;have s0:=C.s0;have s1:=C.s1;have m0:=C.m0;have m1:=C.m1;have a:=Cw.mulb h0 h1 (show 0<=wide by omega) d1;have b:=Cw.mulb m0 m1 (show 0<=sag by omega) s1;exact M.i_grd (gA2 (by omega) (by omega)) (M.i_grd (gA2 (by omega) (by omega)) (M.i_grd (gA2 (by omega) (by omega)) M.i_pure))
theorem check_cable (C:Cw.COk car wide sag most) (h:∀ r∈rs,Cw.ROk r) (hl:rs.length<=30):(zbW car wide sag most rs).Ends 0:=by
  unfold zbW;have c0:=C.c0;have c1:=C.c1;have d0:=C.d0;have d1:=C.d1;have s0:=C.s0;have s1:=C.s1;have m0:=C.m0;have m1:=C.m1;have he:(zaD rs (fun xqz=>zaJ xqz)).Ends true:=by
    have:=every_ride rs (fun xqz=>zaJ xqz) (fun _=>true) fun t ht=>by
      have r:=h t ht;have s0:=r.s0;have s1:=r.s1;have l0:=r.l0;have l1:=r.l1;have w0:=r.w0;have w1:=r.w1;have w2:=r.w2;unfold zaJ;refine M.i_bind (minute_t (by omega) (by omega)) (M.i_bind (M.i_opt (fun _=>in_t (by omega) (by omega)) (fun h=>by cases h)) (M.i_bind (M.i_opt (fun _=>in_t (by omega) (by omega)) (fun h=>by cases h)) ?_));rw [show (((true&&true)&&true)&&decide (t.whi<=1000))=true by rw [decide_eq_true (by omega)]; rfl];exact M.i_pure
    rwa [show rs.all (fun _=>true)=true by simp] at this
  exact M.i_f (decide_eq_false (by omega)) (M.i_bind (in_t (by omega) (by omega)) (M.i_bind (M.i_opt (fun _=>in_t (by omega) (by omega)) (fun h=>by cases h)) (M.i_bind (M.i_opt (fun _=>in_t (by omega) (by omega)) (fun h=>by cases h)) (M.i_bind (M.i_opt (fun _=>in_t (by omega) (by omega)) (fun h=>by cases h)) (M.i_bind (M.i_opt (fun _=>he) (fun h=>by cases h)) (M.i_f rfl M.i_pure))))))
theorem on_ends {r:Ride} {n:Int} (h0:-100000<=r.src/\r.src<=100000) (h1:-100000<=n/\n<=100000):(zcC r n).Ends (Cw.on n r):=M.i_grd (gOr2 (by omega) (by omega)) M.i_pure
theorem sum_ends:∀ {l:List Int},(∀ x∈l,0<=x/\x<=1000)->l.length<=1000->(zcr l).Ends l.sum:=by
  intro l h hl;unfold zcr;refine M.i_bind (a:=l.sum) ?_ M.i_pure;have hb:∀ k,k<=l.length->0<=(l.take k).sum/\(l.take k).sum<=1000*k:=by
    intro k;induction k with
    | zero=>intro _; simp
    | succ k ih =>
      intro hk;have:=ih (by omega);have h2:=h l[k] (List.getElem_mem (by omega));rw [List.take_succ_eq_append_getElem (by omega),List.sum_append];simp only [List.sum_cons,List.sum_nil];omega
  have key:=M.i_for (body:=zbm l) (r:=l.sum) (fun i=>((l.take i).sum,i)) l.length (fun i hi=>?_) ?_
  · simpa using key
  · simp only [zbm];have a:=hb i (by omega);have b:=h l[i] (List.getElem_mem hi);have e:l.getD i 0=l[i]:=getD_el l hi 0;refine M.i_t (decide_eq_true (by omega)) (M.i_grd (decide_eq_true (by omega)) ?_);rw [e,List.take_succ_eq_append_getElem hi,List.sum_append];simp only [List.sum_cons,List.sum_nil,Int.add_zero];exact M.i_grd (gA2 (by omega) (by omega)) M.i_pure
  · simp only [zbm];refine M.i_f (decide_eq_false (by omega)) ?_;simp only [List.take_length];exact M.i_pure
/-- Rides as they are placed. -/
def RP (rs:List Ride):Prop:=∀ r∈rs,(0<=r.src/\r.src<=1000)/\(1<=r.long/\r.long<=30)/\0<=r.whi/\r.whi<=200
theorem load_ends (C:Cw.COk car wide sag most) (h:RP rs) (hl:rs.length<=30) {n:Int} (h0:0<=n) (h1:n<=1000):(zbP car wide sag most rs n).Ends (car+Cw.ld rs n):=by
  have c0:=C.c0;have c1:=C.c1;unfold zbP;have key:=M.i_for (body:=zbg rs n) (r:=(car :: (rs.filter (Cw.on n)).map Ride.whi,car :: (rs.filter (Cw.on n)).map Ride.whi)) (fun i=>(car :: ((rs.take i).filter (Cw.on n)).map Ride.whi,i)) rs.length (fun i hi=>?_) ?_
  · refine M.i_bind (a:=(car :: (rs.filter (Cw.on n)).map Ride.whi,car :: (rs.filter (Cw.on n)).map Ride.whi)) (by simpa using key) ?_;dsimp only;refine M.i_bind (sum_ends (fun x hx=>?_) ?_) ?_
    · rw [List.mem_cons] at hx;rcases hx with rfl | hx
      · omega
      · obtain ⟨r,hr,rfl⟩:=List.mem_map.1 hx;have:=h r (List.mem_filter.1 hr).1;omega
    · have:=List.length_filter_le (Cw.on n) rs;simp only [List.length_cons,List.length_map];omega
    · rw [List.sum_cons];exact M.i_pure
  · simp only [zbg];have e:rs.getD i default=rs[i]:=getD_el rs hi _;have hr:=h rs[i] (List.getElem_mem hi);refine M.i_t (decide_eq_true (by omega)) (M.i_grd (decide_eq_true (by omega)) ?_);rw [e];refine M.i_bind (on_ends (by omega) (by omega)) ?_;rw [List.take_succ_eq_append_getElem hi,List.filter_append,List.map_append];have hlen:(((rs.take i).filter (Cw.on n)).map Ride.whi).length<=30:=by
      have:=List.length_filter_le (Cw.on n) (rs.take i);rw [List.length_take] at this;simp only [List.length_map];omega
    cases hb:Cw.on n rs[i] with
    | true =>
      refine M.i_t rfl (M.i_bind (a:=rs[i].whi) M.i_pure (M.i_grd (decide_eq_true (by simp only [List.length_cons,List.length_nil]; omega)) ?_));simp only [List.filter_cons,hb,List.filter_nil,if_true,List.map_cons,List.map_nil,List.cons_append];exact M.i_pure
    | false =>
      refine M.i_f rfl ?_;simp only [List.filter_cons,hb,List.filter_nil,Bool.false_eq_true,if_false,List.map_nil,List.append_nil];exact M.i_pure
  · simp only [zbg];refine M.i_f (decide_eq_false (by omega)) ?_;simp only [List.take_length];exact M.i_pure
theorem full_ends (C:Cw.COk car wide sag most) (h:RP rs) (hl:rs.length<=30) {r:Ride} (h0:0<=r.src) (h1:r.src<=1000):(zcL car wide sag most rs r).Ends (Cw.bey wide sag most (car+Cw.ld rs r.src)):=by
  have c0:=C.c0;have c1:=C.c1;have:=Cw.ld_bd (l:=rs) (n:=r.src) fun x hx=>(h x hx).2.2;unfold zcL;exact M.i_bind (a:=()) M.i_pure (M.i_bind (load_ends C h hl h0 h1) (M.i_bind (beyond_ends C rs (by omega) (by omega)) M.i_pure))
/-- The end of a ride that is on the cable. -/
def Nxt (l:List Ride) (at_:Int) (x:Int):Prop:=(x = -1/\∀ r∈l,Cw.on at_ r=false)∨∃ r∈l,Cw.on at_ r=true/\x=r.src+r.long
theorem next_end (h:RP l) {at_:Int} (h0:0<=at_) (h1:at_<=1000):(M.iter (zaQ l at_) (-1,0)).Out (Nxt l at_):=by
  refine M.o_for l.length (fun i (s:Int × Nat)=>s.2=i/\Nxt (l.take i) at_ s.1) ?_ ?_ ⟨rfl,.inl ⟨rfl,by simp⟩⟩
  · rintro _ ⟨x,s⟩ hs ⟨rfl,hx⟩;dsimp only at hs hx;have hr:=h l[s] (List.getElem_mem hs);have e:l.getD s default=l[s]:=getD_el l hs _;have hx1:-1<=x/\x<=2000:=by
      rcases hx with ⟨rfl,_⟩ | ⟨r,hr,_,rfl⟩
      · omega
      · have:=h r (List.mem_of_mem_take hr);omega
    simp only [zaQ];refine M.o_t (decide_eq_true (by omega)) (M.o_grdD (by omega) ?_);rw [e];refine M.o_bindE (on_ends (by omega) (by omega)) (M.o_grd (gOr2 (by omega) (by omega)) (M.o_if (fun hb=>?_) (fun hb=>?_)))
    · rw [Bool.and_eq_true] at hb;refine M.o_grd (gA2 (by omega) (by omega)) (M.o_pure ⟨rfl,.inr ⟨l[s],?_,hb.1,rfl⟩⟩);rw [List.mem_take_iff_getElem];exact ⟨s,by omega,rfl⟩
    · refine M.o_pure ⟨rfl,?_⟩;rw [List.take_succ_eq_append_getElem hs];rcases hx with ⟨rfl,hn⟩ | ⟨r,hr',h2,h3⟩
      · refine .inl ⟨rfl,fun r hr'=>?_⟩;rw [List.mem_append,List.mem_singleton] at hr';rcases hr' with hr' | rfl
        · exact hn r hr'
        · simpa using hb
      · exact .inr ⟨r,List.mem_append_left _ hr',h2,h3⟩
  · rintro ⟨x,s⟩ ⟨e,hx⟩;dsimp only at e hx;subst e;simp only [zaQ];rw [List.take_length] at hx;exact M.o_f (decide_eq_false (by omega)) (M.o_pure hx)
theorem count_le {α:Type} {p q:α->Bool}:∀ {l:List α},(∀ x∈l,q x=true->p x=true)->(l.filter q).length<=(l.filter p).length
  | [],_=>by simp
  | b :: l,h=>by
    have ih:=count_le fun x hx=>h x (List.mem_cons_of_mem _ hx);have hb:=h b List.mem_cons_self;simp only [List.filter_cons];cases e:q b with
    | true=>rw [hb e]; simp; omega
    | false=>cases p b <;> simp <;> omega
theorem count_lt {α:Type} {p q:α->Bool}:∀ {l:List α},(∀ x∈l,q x=true->p x=true)->(∃ x∈l,p x=true/\q x=false)->(l.filter q).length<(l.filter p).length
  | [],_,h=>by obtain ⟨x,hx,_⟩:=h; cases hx
  | a :: l,h,h2=>by
    have hle:=count_le fun x hx=>h x (List.mem_cons_of_mem a hx);obtain ⟨x,hx,h3,h4⟩:=h2;simp only [List.filter_cons];rw [List.mem_cons] at hx;rcases hx with rfl | hx
    · rw [h3,h4]; simp; omega
    · have ih:=count_lt (fun x hx=>h x (List.mem_cons_of_mem _ hx)) ⟨x,hx,h3,h4⟩;have ha:=h a List.mem_cons_self;cases e:q a with
      | true=>rw [ha e]; simpa using ih
      | false=>cases p a <;> simp <;> omega
/-- A ride as it is placed at a minute. -/
def mv (r:Ride) (n:Int):Ride:=⟨n,r.long,r.wlo,r.whi⟩
theorem ld_one {r:Ride} {n:Int} (h:1<=r.long):Cw.ld [mv r n] n=r.whi:=by
  have:Cw.on n (mv r n)=true:=by simp [Cw.on,mv]; omega
  unfold Cw.ld;rw [List.filter_cons_of_pos this];simp [mv]
/-- The inner loop: the ride waits. -/
theorem wait_out (C:Cw.COk car wide sag most) {L:Int} (hL:0<=L/\L<=900) (h:RP l) (hs:∀ r∈l,r.src<=L) (hl:l.length<30) {k:Nat} {q:List Ride} (hk:Cw.ROk (q.getD k default)) (hone:Cw.bey wide sag most (car+(q.getD k default).whi)=false) {a:Int} (ha:L<=a) (ha':a<=L+90) :
    (M.iter (zba car wide sag most q k l) (a,a,l++[mv (q.getD k default) a])).Out (fun y=>(a<=y.1/\y.1<=L+90)/\y.2.2.1=l++[mv (q.getD k default) y.1]/\Cw.bey wide sag most (car+Cw.ld (l++[mv (q.getD k default) y.1]) y.1)=false):=by
  refine M.o_iter (fun m (s:Int × Int × List Ride)=>(a<=s.1/\s.1<=L+90)/\s.2.1=s.1/\s.2.2=l++[mv (q.getD k default) s.1]/\(l.filter (Cw.on s.1)).length=m) ?_ _ _ ⟨⟨Int.le_refl _,by omega⟩,rfl,rfl,rfl⟩;rintro m ⟨t,t2,o⟩ ⟨⟨t0,t1⟩,e2,eo,hm⟩;dsimp only at t0 t1 e2 eo hm;replace e2:=e2.symm;subst e2 eo;generalize hr:q.getD k default=r at *;have l0:=hk.l0;have l1:=hk.l1;have w0:=hk.w0;have w1:=hk.w1;have w2:=hk.w2;simp only [zba];rw [hr];have hP:RP (l++[mv r t]):=fun x hx=>by
    rw [List.mem_append,List.mem_singleton] at hx;rcases hx with hx | rfl
    · exact h x hx
    · exact ⟨⟨by show 0<=t; omega,by show t<=1000; omega⟩,⟨l0,l1⟩,by show 0<=r.whi; omega,w2⟩
  refine M.o_bindE (full_ends C hP (by simp; omega) (r:=mv r t) (by show 0<=t; omega) (by show t<=1000; omega)) (M.o_if (fun hb=>?_) (fun hb=>?_))
  · have hb:Cw.bey wide sag most (car+Cw.ld (l++[mv r t]) t)=true:=hb;refine M.o_bind (next_end h (at_:=t) (by omega) (by omega)) ?_;intro x hx;have hx:∃ r∈l,Cw.on t r=true/\x=r.src+r.long:=by
      rcases hx with ⟨_,hn⟩ | hx
      · exfalso;have e:Cw.ld l t=0:=by
          unfold Cw.ld;rw [List.filter_eq_nil_iff.2 (fun y hy=>by rw [hn y hy]; simp)];rfl
        rw [Cw.ld_app,e,ld_one l0,Int.zero_add,hone] at hb;cases hb
      · exact hx
    obtain ⟨z,hz,z1,rfl⟩:=hx;have hz1:=h z hz;have hz2:=hs z hz;have z2:z.src<=t/\t-z.src<z.long:=by simpa [Cw.on] using z1
    refine M.o_grd (gA2 (by simp) (by omega)) (M.o_pure ⟨_,?_,⟨by dsimp only; omega,by dsimp only; omega⟩,rfl,?_,rfl⟩)
    · rw [← hm];refine count_lt (fun y hy hq=>?_) ⟨z,hz,z1,?_⟩
      · have:=hs y hy;simp only [Cw.on,Bool.and_eq_true,decide_eq_true_eq] at hq ⊢;omega
      · simp only [Cw.on,Bool.and_eq_false_iff,decide_eq_false_iff_not];omega
    · dsimp only;rw [show Int.toNat (((l++[mv r t]).length:Int)-1)=l.length by simp];simp [List.set_append_right,mv]
  · have hb:Cw.bey wide sag most (car+Cw.ld (l++[mv r t]) t)=false:=hb;exact M.o_pure ⟨⟨t0,t1⟩,rfl,hb⟩
/-- What the queue has placed. -/
structure Pl (car wide sag most:Int) (rs:List Ride) (n:Nat) (a:Int) (l:List Ride) (q:List Int):Prop where
  ll:l.length=n
  ql:q.length=n
  le:n<=rs.length
  a0:0<=a
  a1:a<=59+90*n
  el:∀ k,k<n->l.getD k default=mv (rs.getD k default) (q.getD k 0)
  up:∀ k,k<n->0<=q.getD k 0/\q.getD k 0<=a
  mo:∀ j k,j<=k->k<n->q.getD j 0<=q.getD k 0
  fr:∀ k,k<n->(rs.getD k default).src<=q.getD k 0
  ok:∀ k,k<n->Cw.bey wide sag most (car+Cw.ld (l.take (k+1)) (q.getD k 0))=false
theorem queue_out (C:Cw.COk car wide sag most) (h:∀ r∈rs,Cw.ROk r) (hl:rs.length<=8):(zbF car wide sag most rs).Out (fun y=>y.2=6∨y.2=0/\∃ a l,Pl car wide sag most rs rs.length a l y.1):=by
  have c0:=C.c0;have c1:=C.c1;have d0:=C.d0;unfold zbF;have he:=every_ride rs (fun xqz=>za6 xqz car wide sag most rs) (fun r=>!Cw.bey wide sag most (car+r.whi)) fun t ht=>by
    have r:=h t ht;have w0:=r.w0;have w1:=r.w1;have w2:=r.w2;unfold za6;exact M.i_grd (gA2 (by omega) (by omega)) (M.i_bind (beyond_ends C rs (by omega) (by omega)) M.i_pure)
  refine M.o_bindE (check_cable C h (by omega)) (M.o_f rfl (M.o_bindE (beyond_ends C rs c0 (by omega)) (M.o_bind (P:=fun r4=>Cw.bey wide sag most car=false->r4=rs.all fun r=>!Cw.bey wide sag most (car+r.whi)) (M.o_opt (fun _=>M.o_of he fun _=>rfl) (fun hb hc=>by rw [hc] at hb; cases hb)) ?_)));intro r4 hr4;refine M.o_if (fun hb=>M.o_pure (.inl rfl)) (fun hb=>?_);have hone:∀ r∈rs,Cw.bey wide sag most (car+r.whi)=false:=by
    rw [Bool.or_eq_false_iff] at hb;obtain ⟨b1,b2⟩:=hb;intro r hr;have:rs.all (fun r=>!Cw.bey wide sag most (car+r.whi))=true:=by rw [← hr4 b1]; simpa using b2
    have:=List.all_eq_true.1 this r hr
    simpa using this
  refine M.o_bind (M.o_for (Q:=fun x=>∃ a l,Pl car wide sag most rs rs.length a l x.2.1) rs.length (fun i (s:Int × Nat × List Ride × List Int)=>s.2.1=i/\Pl car wide sag most rs i s.1 s.2.2.1 s.2.2.2) ?_ ?_ ⟨rfl,⟨rfl,rfl,Nat.zero_le _,Int.le_refl _,by dsimp only; omega,fun k hk=>by omega,fun k hk=>by omega,fun j k _ hk=>by omega,fun k hk=>by omega,fun k hk=>by omega⟩⟩) fun x hx=>M.o_pure (.inr ⟨rfl,hx⟩)
  · rintro _ ⟨a,s,l,q⟩ hs ⟨rfl,P⟩;dsimp only at hs P;simp only [zcz];have hm:rs.getD s default∈rs:=by rw [getD_el rs hs]; exact List.getElem_mem hs
    have r:=h _ hm;have s0:=r.s0;have s1:=r.s1;have a0:=P.a0;have a1:=P.a1;have ll:=P.ll;have ql:=P.ql;have hin:∀ x∈l,∃ k,k<s/\x=mv (rs.getD k default) (q.getD k 0):=fun x hx=>by
      obtain ⟨k,hk,rfl⟩:=List.getElem_of_mem hx;refine ⟨k,by omega,?_⟩;rw [← P.el k (by omega),getD_el l hk]
    have hP:RP l:=fun x hx=>by
      obtain ⟨k,hk,rfl⟩:=hin x hx;have hmk:rs.getD k default∈rs:=by rw [getD_el rs (by omega)]; exact List.getElem_mem (by omega)
      have rk:=h _ hmk;have u:=P.up k hk;have w0:=rk.w0;have w1:=rk.w1;exact ⟨⟨u.1,by show q.getD k 0<=1000; omega⟩,⟨rk.l0,rk.l1⟩,by show 0<=(rs.getD k default).whi; omega,rk.w2⟩
    refine M.o_t (decide_eq_true (by omega)) (M.o_grdD (by omega) (M.o_grdD (by omega) (M.o_grdD (by simp; omega) ?_)));refine M.o_bind (wait_out C (L:=max a (rs.getD s default).src) ⟨by omega,by omega⟩ hP (fun x hx=>?_) (by omega) r (hone _ hm) (a:=max a (rs.getD s default).src) (Int.le_refl _) (by omega)) ?_
    · obtain ⟨k,hk,rfl⟩:=hin x hx;have:=(P.up k hk).2;show q.getD k 0<=_;omega
    · rintro ⟨t,l2,l3,t2⟩ ⟨⟨t0,t1⟩,e,hb⟩;dsimp only at t0 t1 e hb ⊢;subst e;refine M.o_grdD (by simp; omega) (M.o_pure ⟨rfl,⟨by simp [ll],by simp [ql],hs,by dsimp only; omega,by dsimp only; omega,fun k hk=>?_,fun k hk=>?_,fun j k hjk hk=>?_,fun k hk=>?_,fun k hk=>?_⟩⟩)
      · dsimp only;rw [getD_snoc (by omega),getD_snoc (by omega)];split
        · rw [if_pos (by omega)]; exact P.el k (by omega)
        · rw [if_neg (by omega)];obtain rfl:k=s:=by omega
          rfl
      · dsimp only;rw [getD_snoc (by omega)];split
        · have:=P.up k (by omega); omega
        · omega
      · dsimp only;rw [getD_snoc (by omega),getD_snoc (by omega)];split
        · split
          · exact P.mo j k hjk (by omega)
          · have:=P.up j (by omega); omega
        · rw [if_neg (by omega)]; omega
      · dsimp only;rw [getD_snoc (by omega)];split
        · exact P.fr k (by omega)
        · obtain rfl:k=s:=by omega
          omega
      · dsimp only;rw [getD_snoc (by omega)];split
        · have:=P.ok k (by omega)
          rwa [List.take_append_of_le_length (by omega)]
        · rw [List.take_of_length_le (by simp; omega)];exact hb
  · rintro ⟨a,s,l,q⟩ ⟨e,P⟩;dsimp only at e P;subst e;simp only [zcz];exact M.o_f (decide_eq_false (by omega)) (M.o_pure ⟨a,l,P⟩)
end Go.Proofs.YtbgoclcmgbpckaaGreat
namespace Go.Nm
namespace Cw
def Zs (f:Nat->Int):Nat->Int
  | 0=>0
  | m+1=>Zs f m+f m
theorem Zs.bd {f:Nat->Int} {A:Int} {n:Nat} (h:∀ k,k<n->0<=f k/\f k<=A):∀ m,m<=n->0<=Zs f m/\Zs f m<=A*m
  | 0,_=>by simp [Zs]
  | m+1,hm=>by
    have ih:=Zs.bd h m (by omega);have:=h m (by omega);have e:A*((m+1:Nat):Int)=A*(m:Int)+A:=by rw [Int.natCast_add,Int.mul_add]; simp
    rw [e];simp only [Zs];omega
theorem Zs.zero {f:Nat->Int} {m:Nat}:∀ {n:Nat},(∀ k,m<=k->k<n->f k=0)->m<=n->Zs f n=Zs f m
  | 0,_,h=>by
    obtain rfl:m=0:=by omega
    rfl
  | n+1,h,hm=>by
    rcases Nat.lt_or_ge n m with g | g
    · obtain rfl:m=n+1:=by omega
      rfl
    · have ih:=Zs.zero (n:=n) (fun k h1 h2=>h k h1 (by omega)) g;have:=h n g (by omega);simp only [Zs];omega
/-- The last one of those that are the same. -/
theorem last_eq {q:Nat->Int} {n:Nat} (mo:∀ j k,j<=k->k<n->q j<=q k):∀ (d i:Nat),n-i=d->i<n->∃ j,i<=j/\j<n/\q j=q i/\∀ k,j<k->k<n->q j<q k
  | 0,i,hd,hi=>by omega
  | d+1,i,hd,hi=>by
    by_cases e:i+1<n/\q (i+1)=q i
    · obtain ⟨j,h1,h2,h3,h4⟩:=last_eq mo d (i+1) (by omega) e.1;exact ⟨j,by omega,h2,by omega,h4⟩
    · refine ⟨i,Nat.le_refl _,hi,rfl,fun k h1 h2=>?_⟩;have a:=mo i (i+1) (by omega) (by omega);have b:=mo (i+1) k (by omega) h2;have c:q (i+1) ≠ q i:=fun h=>e ⟨by omega,h⟩;omega
end Cw
end Go.Nm
namespace Go.Proofs.YtbgoclcmgbpckaaGreat
open Go Go.Nm
variable {car wide sag most:Int} {rs l:List Ride}
theorem hung_out {b:List UInt8} {c u x:Int} (hS:SOk c u x) (hc:c<=1000):(zb0 b u x 8).Out (fun y=>Cw.COk y.1 y.2.1 y.2.2.1 y.2.2.2.1/\(∀ r∈y.2.2.2.2.1,Cw.ROk r)/\y.2.2.2.2.1.length<=8):=by
  unfold zb0;refine M.o_bind (next_out hS (by omega) (by omega)) ?_;rintro ⟨r2,u2,x2⟩ ⟨j2,l2,_⟩;have l2:=l2 (by omega);dsimp only at j2 l2 ⊢;refine M.o_bind (within_out j2 (by omega) (by omega) (by omega) (by omega)) ?_;rintro ⟨r3,u3,x3⟩ ⟨j3,l3⟩;dsimp only at j3 l3 ⊢;refine M.o_bind (within_out j3 (by omega) (by omega) (by omega) (by omega)) ?_;rintro ⟨r4,u4,x4⟩ ⟨j4,l4⟩;dsimp only at j4 l4 ⊢;refine M.o_bind (within_out j4 (by omega) (by omega) (by omega) (by omega)) ?_;rintro ⟨r5,u5,x5⟩ ⟨j5,l5⟩;dsimp only at j5 l5 ⊢;have hm:=Cw.mulb (a:=r2+r5) (b:=r3) (A:=480) (B:=200) (by omega) (by omega) (by omega) (by omega);have hd0:0<=(((r2+r5)*r3)*25) / r4:=Int.ediv_nonneg (by omega) (by omega);have hd1:(((r2+r5)*r3)*25) / r4<=((r2+r5)*r3)*25:=Int.ediv_le_self _ (by omega);refine M.o_grd (gA2 (by omega) (by omega)) (M.o_grd (gA2 (by omega) (by omega)) (M.o_grd (gA2 (by omega) (by omega)) (M.o_grd (by rw [decide_eq_true (by omega),decide_eq_true (by omega),decide_eq_true (by omega)]; rfl) (M.o_grd (gA2 (by omega) (by omega)) (M.o_bind (next_out j5 (by omega) (by omega)) ?_)))));rintro ⟨r6,u6,x6⟩ ⟨j6,l6,_⟩;have l6:=l6 (by omega);dsimp only at j6 l6 ⊢;obtain ⟨n,rfl⟩:=Int.eq_ofNat_of_zero_le l6.1;refine M.o_bind (M.o_for (Q:=fun (x:List Ride × List Ride × Int × Int)=>x.2.1.length=n/\∀ r∈x.2.1,Cw.ROk r) n (fun i (s:Int × Int × Nat × List Ride)=>s.2.2.1=i/\SOk (c+5+4*i) s.1 s.2.1/\s.2.2.2.length=i/\∀ r∈s.2.2.2,Cw.ROk r) ?_ ?_ ⟨rfl,j6.mono (by omega),rfl,fun v hv=>by cases hv⟩) ?_
  · rintro _ ⟨a,a2,s,o⟩ hs ⟨rfl,kS,ho,hv⟩;dsimp only at hs kS ho hv;simp only [zbx];refine M.o_t (decide_eq_true (by omega)) (M.o_bind (within_out kS (by omega) (by omega) (by omega) (by omega)) ?_);rintro ⟨r7,u7,x7⟩ ⟨j7,l7⟩;dsimp only at j7 l7 ⊢;refine M.o_bind (next_out j7 (by omega) (by omega)) ?_;rintro ⟨r8,u8,x8⟩ ⟨j8,l8,_⟩;have l8:=l8 (by omega);dsimp only at j8 l8 ⊢;refine M.o_bind (within_out j8 (by omega) (by omega) (by omega) (by omega)) ?_;rintro ⟨r9,u9,x9⟩ ⟨j9,l9⟩;dsimp only at j9 l9 ⊢;refine M.o_bind (next_out j9 (by omega) (by omega)) ?_;rintro ⟨r10,u10,x10⟩ ⟨j10,l10,_⟩;have l10:=l10 (by omega);dsimp only at j10 l10 ⊢;refine M.o_grd (gA2 (by omega) (by omega)) (M.o_bindE (a:=(r7,r7+r10)) M.i_pure ?_);dsimp only;refine M.o_grdD (by simp; omega) (M.o_grd (gA2 (by omega) (by omega)) (M.o_pure ⟨rfl,j10.mono (by omega),by simp [ho],fun r hr=>?_⟩));dsimp only at hr;rw [List.mem_append,List.mem_singleton] at hr;rcases hr with hr | rfl
    · exact hv r hr
    · exact ⟨by dsimp only; omega,by dsimp only; omega,by dsimp only; omega,by dsimp only; omega,by dsimp only; omega,by dsimp only; omega,by dsimp only; omega⟩
  · rintro ⟨a,a2,s,o⟩ ⟨e,kS,ho,hv⟩;dsimp only at e kS ho hv;subst e;simp only [zbx];exact M.o_f (decide_eq_false (by omega)) (M.o_pure ⟨ho,hv⟩)
  · rintro ⟨o,o2,u7,x7⟩ ⟨h1,h2⟩;dsimp only at h1 h2 ⊢;exact M.o_pure ⟨⟨by dsimp only; omega,by dsimp only; omega,by dsimp only; omega,by dsimp only; omega,by dsimp only; omega,by dsimp only; omega,hd0,by dsimp only; omega⟩,h2,by dsimp only; omega⟩
theorem getD_set {α:Type} {l:List α} {x d:α} {i k:Nat} (hi:i<l.length):(l.set i x).getD k d=if k=i then x else l.getD k d:=by
  simp only [List.getD_eq_getElem?_getD,List.getElem?_set];by_cases e:i=k
  · subst e; simp [hi]
  · rw [if_neg e,if_neg (fun h=>e h.symm)]
/-- The rides as they begin, with what they really weigh. -/
structure Rd (rs l:List Ride) (q ws:List Int) (n:Nat):Prop where
  ll:l.length=rs.length
  wl:ws.length=n
  a:∀ k,k<n->l.getD k default=mv (rs.getD k default) (q.getD k 0)
  b:∀ k,n<=k->l.getD k default=rs.getD k default
  w:∀ k,k<n->(rs.getD k default).wlo<=ws.getD k 0/\ws.getD k 0<=(rs.getD k default).whi
theorem ridden_out {b:List UInt8} {c u x:Int} (hS:SOk c u x) (hc:c<=100000) (C:Cw.COk car wide sag most) (h:∀ r∈rs,Cw.ROk r) (hl:rs.length<=8):(zbH car wide sag most rs b u x).Out (fun y=>y.1=true):=by
  have c0:=C.c0;have c1:=C.c1;have d0:=C.d0;have d1:=C.d1;have s0:=C.s0;have s1:=C.s1;have m0:=C.m0;have m1:=C.m1;unfold zbH;refine M.o_bind (queue_out C h hl) ?_;rintro ⟨q,e⟩ (rfl | ⟨rfl,a,lp,P⟩)
  · exact M.o_t rfl (M.o_pure rfl)
  dsimp only at P ⊢;have ql:=P.ql;have hR:∀ k,k<rs.length->Cw.ROk (rs.getD k default):=fun k hk=>by rw [getD_el rs hk]; exact h _ (List.getElem_mem hk)
  refine M.o_f rfl (M.o_f (by simp [ql]) ?_);refine M.o_bind (M.o_for (Q:=fun x=>match x with | .inl _=>False | .inr y=>Rd rs y.2.2.2.1 q y.2.2.1 rs.length) rs.length (fun i (s:Int × Int × List Ride × Nat × List Int)=>s.2.2.2.1=i/\SOk (c+i) s.1 s.2.1/\Rd rs s.2.2.1 q s.2.2.2.2 i) ?_ ?_ ⟨rfl,hS.mono (by omega),⟨rfl,rfl,fun k hk=>by omega,fun k _=>rfl,fun k hk=>by omega⟩⟩) ?_
  · rintro _ ⟨t,t2,l,i,ws⟩ hi ⟨rfl,kS,D⟩;dsimp only at hi kS D;simp only [zcm];have ll:=D.ll;have wl:=D.wl;have ei:=D.b i (Nat.le_refl _);have r:=hR i hi;have w0:=r.w0;have w1:=r.w1;have w2:=r.w2;have fr:=P.fr i hi;have hil:i<l.length:=by omega
    refine M.o_t (decide_eq_true (by omega)) (M.o_grdD (by omega) (M.o_grdD (by omega) (M.o_f (decide_eq_false (by rw [ei]; omega)) (M.o_grdD (by rw [List.length_set]; omega) ?_))));rw [getD_set hil,if_pos rfl,ei];refine M.o_bind (within_out kS (by omega) (by dsimp only; omega) (by dsimp only; omega) (by dsimp only; omega)) ?_;rintro ⟨r2,u2,x2⟩ ⟨k1,g1,g2⟩;dsimp only at k1 g1 g2 ⊢;refine M.o_grdD (by simp; omega) (M.o_pure ⟨rfl,k1.mono (by omega),⟨by simp [ll],by simp [wl],fun k hk=>?_,fun k hk=>?_,fun k hk=>?_⟩⟩)
    · dsimp only;rw [getD_set hil];split
      · next e=>subst e; rfl
      · exact D.a k (by omega)
    · dsimp only;rw [getD_set hil,if_neg (by omega)];exact D.b k (by omega)
    · dsimp only;rw [getD_snoc (by omega)];split
      · exact D.w k (by omega)
      · obtain rfl:k=i:=by omega
        exact ⟨g1,g2⟩
  · rintro ⟨t,t2,l,i,ws⟩ ⟨e,kS,D⟩;dsimp only at e kS D;subst e;simp only [zcm];exact M.o_f (decide_eq_false (by omega)) (M.o_pure D)
  · rintro (y | ⟨y1,y2,ws,l,u9,x9⟩) D
    · exact D.elim
    dsimp only at D ⊢;have ll:=D.ll;have wl:=D.wl;refine M.o_bind (P:=fun x=>x = .inr ()) (M.o_for rs.length (fun i (s:Nat)=>s=i) ?_ ?_ rfl) ?_
    · rintro _ i hi rfl;simp only [zbO];have hw:∀ k,k<rs.length->0<=(if Cw.on (q.getD i 0) (l.getD k default) then ws.getD k 0 else 0)/\(if Cw.on (q.getD i 0) (l.getD k default) then ws.getD k 0 else 0)<=200:=fun k hk=>by
        have a:=D.w k hk;have r:=hR k hk;have w0:=r.w0;have w2:=r.w2;split <;> omega
      have hb:=Cw.Zs.bd hw;have ui:=P.up i hi;have a1:=P.a1;refine M.o_t (decide_eq_true (by omega)) (M.o_bind (P:=fun x=>x=car+Cw.Zs (fun k=>if Cw.on (q.getD i 0) (l.getD k default) then ws.getD k 0 else 0) rs.length) (M.o_for rs.length (fun k (s:Int × Nat)=>s.2=k/\s.1=car+Cw.Zs (fun k=>if Cw.on (q.getD i 0) (l.getD k default) then ws.getD k 0 else 0) k) ?_ ?_ ⟨rfl,by simp [Cw.Zs]⟩) ?_)
      · rintro _ ⟨ld,k⟩ hk ⟨rfl,el⟩;dsimp only at hk el;subst el;simp only [zb3];have uk:=P.up k hk;have hbk:=hb k (by omega);have wk:=hw k hk;have ek:=D.a k hk;refine M.o_t (decide_eq_true (by omega)) (M.o_grdD (by omega) (M.o_grdD (by omega) (M.o_grd (gOr2 (by omega) (by omega)) (M.o_grd (by rw [decide_eq_true (show ((k:Nat):Int)<(l.length:Int) by omega)]; simp) ?_))));have eon:(decide (q.getD k 0<=q.getD i 0)&&decide (q.getD i 0-q.getD k 0<(l.getD k default).long))=Cw.on (q.getD i 0) (l.getD k default):=by rw [ek]; rfl
        rw [eon];cases eo:Cw.on (q.getD i 0) (l.getD k default) with
        | true =>
          rw [eo] at wk;simp only [if_true] at wk;refine M.o_t rfl (M.o_grdD (by omega) (M.o_grd (gA2 (by omega) (by omega)) (M.o_pure ⟨rfl,?_⟩)));simp only [Cw.Zs,eo,if_true];omega
        | false =>
          refine M.o_f rfl (M.o_pure ⟨rfl,?_⟩);simp only [Cw.Zs,eo,Bool.false_eq_true,if_false];omega
      · rintro ⟨ld,k⟩ ⟨e,el⟩;dsimp only at e el;subst e el;simp only [zb3];exact M.o_f (decide_eq_false (by omega)) (M.o_pure rfl)
      · rintro _ rfl;have hbn:=hb rs.length (Nat.le_refl _);obtain ⟨j,j1,j2,j3,j4⟩:=Cw.last_eq (q:=fun k=>q.getD k 0) P.mo _ i rfl hi;have j3:q.getD j 0=q.getD i 0:=j3;have hle:∀ m,m<=rs.length->Cw.Zs (fun k=>if Cw.on (q.getD i 0) (l.getD k default) then ws.getD k 0 else 0) m<=Cw.ld (lp.take m) (q.getD i 0):=by
          intro m;induction m with
          | zero=>intro _; simp [Cw.Zs,Cw.ld]
          | succ m ih =>
            intro hm;have ih:=ih (by omega);have hml:m<lp.length:=by have:=P.ll; omega
            have e1:lp[m]=mv (rs.getD m default) (q.getD m 0):=by rw [← P.el m (by omega),getD_el lp hml]
            have e2:=D.a m (by omega);have wm:=D.w m (by omega);rw [List.take_succ_eq_append_getElem hml,Cw.ld_app,e1];simp only [Cw.Zs,e2];cases eo:Cw.on (q.getD i 0) (mv (rs.getD m default) (q.getD m 0)) with
            | true =>
              simp only [Cw.ld,List.filter_cons,eo,List.filter_nil,if_true,List.map_cons,List.map_nil,List.sum_cons,List.sum_nil] at ih ⊢;show _<=_+((rs.getD m default).whi+0);omega
            | false =>
              simp only [Cw.ld,List.filter_cons,eo,List.filter_nil,Bool.false_eq_true,if_false,List.map_nil,List.sum_nil] at ih ⊢;omega
        have hz:Cw.Zs (fun k=>if Cw.on (q.getD i 0) (l.getD k default) then ws.getD k 0 else 0) rs.length=Cw.Zs (fun k=>if Cw.on (q.getD i 0) (l.getD k default) then ws.getD k 0 else 0) (j+1):=by
          refine Cw.Zs.zero (fun k k1 k2=>?_) j2;have:=j4 k (by omega) k2;have e2:=D.a k k2;have:Cw.on (q.getD i 0) (l.getD k default)=false:=by
            rw [e2];have hlt:¬ q.getD k 0<=q.getD i 0:=by omega
            show (decide (q.getD k 0<=q.getD i 0)&&_)=false;rw [decide_eq_false hlt];rfl
          rw [this];rfl
        have hfin:Cw.bey wide sag most (car+Cw.Zs (fun k=>if Cw.on (q.getD i 0) (l.getD k default) then ws.getD k 0 else 0) rs.length)=false:=by
          refine Cw.bey_mono (by omega) ?_ (P.ok j j2);have:=hle (j+1) j2;rw [j3];omega
        generalize Cw.Zs (fun k=>if Cw.on (q.getD i 0) (l.getD k default) then ws.getD k 0 else 0) rs.length=Z at *;have A:=Cw.mulb (show 0<=car+Z by omega) (show car+Z<=100000 by omega) (show 0<=wide by omega) d1;have B:=Cw.mulb m0 m1 (show 0<=sag by omega) s1;have hfin:decide (most*sag<(car+Z)*wide*25)=false:=hfin;refine M.o_grd (gOr2 (by omega) (by omega)) (M.o_grd (gOr2 (by omega) (by omega)) (M.o_grd (gOr2 (by omega) (by omega)) (M.o_f ?_ (M.o_pure rfl))));rw [hfin,decide_eq_false (by omega)];rfl
    · rintro _ rfl;simp only [zbO];exact M.o_f (decide_eq_false (by omega)) (M.o_pure rfl)
    · rintro _ rfl;exact M.o_pure rfl
end Go.Proofs.YtbgoclcmgbpckaaGreat
namespace Go.Proofs.YtbgoclcmgbpckaaGreat
open Go Go.Nm
variable {dn:List Int} {tr:List Span} {sp:List Int} {tw:List Town} {dl dh:Int} {fl:List Flood} {ws:List Int} {D:List Dem} {l:List Vis} {r0:List Span}
theorem aware12_ends:(zco).Ends true:=⟨400,by kernel_rfl⟩
theorem within_big {b:List UInt8} {c u x lo hi:Int} (h:SOk c u x) (hc:c<=1000000000000) (h0:0<=lo) (h1:lo<=hi) (h2:hi<=100000):(zae b u x lo hi).Out (fun y=>SOk (c+1) y.2.1 y.2.2/\lo<=y.1/\y.1<=hi):=by
  unfold zae;refine M.o_grd (gA2 (by omega) (by omega)) (M.o_grd (gA2 (by omega) (by omega)) (M.o_bind (next_out h hc (by omega)) ?_));rintro ⟨r,u',x'⟩ ⟨k,hl,_⟩;have:=hl (by omega);dsimp only at this k ⊢;exact M.o_grd (gA2 (by omega) (by omega)) (M.o_pure ⟨k,by dsimp only; omega,by dsimp only; omega⟩)
/-- The round as it really was. -/
theorem round_out {b:List UInt8} (hv:∀ v∈l,Cw.VOk v) (h1:1<=l.length) (h2:l.length<=20) (H:Cw.HOk l r0) {c u x:Int} (hS:SOk c u x) (hc:c<=1000) :
    (M.iter (zbl b l r0) (u,x,0,0)).Out (fun y=>match y with | .inl _=>False | .inr z=>SOk (c+40) z.1 z.2.1/\Cw.BL_ l (l.length-1)<=z.2.2/\z.2.2<=Cw.BH_ l (l.length-1)):=by
  have hk:=voks hv;have ln:=H.ln;refine M.o_for l.length (fun i (s:Int × Int × Int × Nat)=>s.2.2.2=i/\SOk (c+2*i) s.1 s.2.1/\(i<l.length->Cw.SL_ l i<=s.2.2.1/\s.2.2.1<=Cw.SH_ l i)/\(i=l.length->Cw.BL_ l (l.length-1)<=s.2.2.1/\s.2.2.1<=Cw.BH_ l (l.length-1))) ?_ ?_ ⟨rfl,hS.mono (by omega),fun _=>⟨Int.le_refl _,Int.le_refl _⟩,fun e=>by omega⟩
  · rintro _ ⟨s,s2,t,i⟩ hi ⟨rfl,kS,ht,_⟩;dsimp only at hi kS ht;obtain ⟨t0,t1⟩:=ht hi;simp only [zbl];have v:=hk i hi;have w0:=v.w0;have w1:=v.w1;have w2:=v.w2;have k0:=v.k0;have k1:=v.k1;have k2:=v.k2;have p0:=v.p0;have p1:=v.p1;have p2:=v.p2;have b1:0<=Cw.SL_ l i/\Cw.SL_ l i<=2000+200*i:=Cw.Sv.bd (f:=Vis.wlo) (g:=Vis.klo) hk (fun v hv=>⟨hv.w0,by have:=hv.w1; have:=hv.w2; omega⟩) (fun v hv=>⟨hv.k0,by have:=hv.k1; have:=hv.k2; omega⟩) i (by omega);have b2:0<=Cw.SH_ l i/\Cw.SH_ l i<=2000+200*i:=Cw.Sv.bd (f:=Vis.whi) (g:=Vis.khi) hk (fun v hv=>⟨by have:=hv.w0; have:=hv.w1; omega,hv.w2⟩) (fun v hv=>⟨by have:=hv.k0; have:=hv.k1; omega,hv.k2⟩) i (by omega);have e1:=H.lo i hi;have e2:=H.hi i hi;have e3:Cw.BL_ l i=max (Cw.SL_ l i+(l.getD i default).wlo) (l.getD i default).opn:=rfl;have e4:Cw.BH_ l i=max (Cw.SH_ l i+(l.getD i default).whi) (l.getD i default).opn:=rfl;have e5:Cw.SL_ l (i+1)=Cw.BL_ l i+(l.getD i default).klo:=rfl;have e6:Cw.SH_ l (i+1)=Cw.BH_ l i+(l.getD i default).khi:=rfl;refine M.o_t (decide_eq_true (by omega)) (M.o_grdD (by omega) (M.o_bind (within_out kS (by omega) (by omega) (by omega) (by omega)) ?_));rintro ⟨r4,u4,x4⟩ ⟨j4,g1,g2⟩;dsimp only at j4 g1 g2 ⊢;refine M.o_grd (gA2 (by omega) (by omega)) (M.o_grdD (by omega) (M.o_f ?_ (M.o_if (fun hb=>?_) (fun hb=>?_))))
    · rw [decide_eq_false (by omega),decide_eq_false (by omega)]; rfl
    · refine M.o_bind (within_out j4 (by omega) (by omega) (by omega) (by omega)) ?_;rintro ⟨r5,u5,x5⟩ ⟨j5,g3,g4⟩;dsimp only at j5 g3 g4 ⊢;have hb:=of_decide_eq_true hb;exact M.o_grd (gA2 (by omega) (by omega)) (M.o_pure ⟨rfl,j5.mono (by omega),fun _=>⟨by dsimp only; omega,by dsimp only; omega⟩,fun e=>by omega⟩)
    · have hb:=of_decide_eq_false hb;refine M.o_pure ⟨rfl,j4.mono (by omega),fun e=>by omega,fun e=>?_⟩;rw [show l.length-1=i by omega];exact ⟨by dsimp only; omega,by dsimp only; omega⟩
  · rintro ⟨s,s2,t,i⟩ ⟨e,kS,_,ht⟩;dsimp only at e kS ht;subst e;simp only [zbl];exact M.o_f (decide_eq_false (by omega)) (M.o_pure ⟨kS.mono (by omega),ht rfl⟩)
/-- A flood that runs, in minutes: when it is at a place of its path, and when its report is heard. -/
def Gr (tr:List Span) (p:List Int) (mn:Int) (m:Option Nat) (k:Nat) (at_ heard:Int):Prop :=
  (0<=at_/\at_<=60000*k)/\match m with
  | none=>heard = -1
  | some m=>(k<=m/\heard = -1)∨(m<k/\∃ h:Int,0<=h/\h<=60000*m/\heard=h+mn/\60*Wn.sm (Wn.lo tr) ((p.take k).drop m)<=at_-h)
def Gq (tr:List Span) (p:List Int) (mn:Int) (m:Option Nat) (k:Nat) (at_ heard:Int):Prop :=
  (0<=at_/\at_<=60000*k)/\match m with
  | none=>heard = -1
  | some m=>(k<m/\heard = -1)∨(m<=k/\∃ h:Int,0<=h/\h<=60000*m/\heard=h+mn/\60*Wn.sm (Wn.lo tr) ((p.take k).drop m)<=at_-h)
theorem sent_b8 (R:Wn.Rv dn tr sp tw dl dh fl) {mn:Int} (m0:0<=mn) (m1:mn<=60*dh) {x r:Int} (hx:x∈sp) {m:Option Nat} (hI:Intime dn tr tw dh x ws m) (hr:Wpl (Wn.P dn x) r m) {k:Nat} (hk:k<(Wn.P dn x).length) {at_ heard:Int} (hH:Gq tr (Wn.P dn x) mn m k at_ heard) :
    (M.iter (zbc tw (Wn.P dn x) at_ k heard) 0).Out (fun y=>y = .inr ()):=by
  have hst:Wn.Stn dn x:=.inr (R.si _ hx);have d0:=R.d0;have d1:=R.d1;have d2:=R.d2;have t8:=R.t8;have h12:=R.n12;have hsh:=Wn.P_short R.nx hst;refine M.o_for tw.length (fun i (t:Nat)=>t=i) ?_ ?_ rfl
  · rintro _ t ht rfl;simp only [zbc];have hT:=R.tok _ (show tw.getD t default∈tw by rw [getD_el tw ht]; exact List.getElem_mem ht);rw [getD_el (Wn.P dn x) hk];have hh:heard = -1∨0<=heard/\heard<=60000*k+mn:=by
      obtain ⟨⟨q0,q1⟩,hH⟩:=hH;cases m with
      | none=>exact .inl hH
      | some m =>
        dsimp only at hH;rcases hH with ⟨_,g⟩ | ⟨g0,h,a1,a2,rfl,_⟩
        · exact .inl g
        · exact .inr ⟨by omega,by omega⟩
    obtain ⟨⟨q0,q1⟩,hH⟩:=hH;refine M.o_t (decide_eq_true (by omega)) (M.o_grdD (by omega) (M.o_grd (gOr2 (by omega) (by omega)) (M.o_grd (gOr2 (by omega) (by omega)) ?_)));refine M.o_if (fun hb=>?_) (fun _=>M.o_pure rfl);exfalso;rw [Bool.and_eq_true,beq_iff_eq] at hb;obtain ⟨e,hb⟩:=hb;obtain ⟨i,hi,rfl,hlead⟩:=hI.it k hk t ht e;dsimp only at hH;rcases hH with ⟨g,_⟩ | ⟨_,h,a1,a2,rfl,a3⟩
    · omega
    · rw [Bool.or_eq_true,decide_eq_true_eq,decide_eq_true_eq] at hb;omega
  · rintro _ rfl;simp only [zbc];exact M.o_f (decide_eq_false (by omega)) (M.o_pure rfl)
theorem sent_b10 {b:List UInt8} (R:Wn.Rv dn tr sp tw dl dh fl) {mn:Int} (m0:0<=mn) (m1:mn<=60*dh) {x r:Int} (hx:x∈sp) {m:Option Nat} (hI:Intime dn tr tw dh x ws m) (hr:Wpl (Wn.P dn x) r m) {c u y:Int} (hS:SOk c u y) (hc:c<=1000000) :
    (M.iter (za9 b mn tr tw r (Wn.P dn x)) (u,y,0,-1,0)).Out (fun z=>∃ z1,z = .inr z1/\SOk (c+24) z1.1 z1.2):=by
  have hst:Wn.Stn dn x:=.inr (R.si _ hx);have d0:=R.d0;have d1:=R.d1;have d2:=R.d2;have h12:=R.n12;have hsh:=Wn.P_short R.nx hst;have hu:=Wn.P_up R.nx x hst;have j9:∀ (k:Nat) (hk:k<(Wn.P dn x).length) (at_ heard s s2:Int),SOk (c+k) s s2->Gq tr (Wn.P dn x) mn m k at_ heard →
      (zaV b tr tw (Wn.P dn x) s s2 at_ k heard).Out (fun z=>∃ a1 a2 a3 a4,z = .inl (a1,a2,a3,a4,k+1)/\SOk (c+(k+1:Nat)) a1 a2/\Gr tr (Wn.P dn x) mn m (k+1) a3 a4):=by
    intro k hk at_ heard s s2 hS hH;unfold zaV;have hm:=Wn.P_mem R.nx _ hst _ (List.getElem_mem hk);have htr:=R.hr (Int.toNat (Wn.P dn x)[k]) (by have:=R.tl; omega);have e:=getD_el (Wn.P dn x) hk 0;refine M.o_bind (sent_b8 R m0 m1 hx hI hr hk hH) ?_;rintro _ rfl;dsimp only;rw [e];refine M.o_grd (gA2 (by omega) (by have:=R.tl; omega)) (M.o_grd (gA2 (by omega) (by omega)) (M.o_grd (gA2 (by omega) (by omega)) (M.o_bind (within_big hS (by omega) (by omega) (by omega) (by omega)) ?_)));rintro ⟨r8,u2,x2⟩ ⟨k1,k2,k3⟩;dsimp only at k1 k2 k3 ⊢;obtain ⟨⟨q0,q1⟩,hH⟩:=hH;refine M.o_grd (gA2 (by omega) (by omega)) (M.o_pure ⟨_,_,_,_,rfl,k1.mono (by omega),⟨by omega,by omega⟩,?_⟩);cases m with
    | none=>exact hH
    | some m =>
      dsimp only at hH ⊢;rcases hH with ⟨g1,g2⟩ | ⟨g1,h,a1,a2,a5,a6⟩
      · exact .inl ⟨by omega,g2⟩
      · refine .inr ⟨by omega,h,a1,a2,a5,?_⟩;rw [seg_succ g1 hk];unfold Wn.lo at a6 ⊢;omega
  refine M.o_for (Wn.P dn x).length (fun i (t:Int × Int × Int × Int × Nat)=>t.2.2.2.2=i/\SOk (c+i) t.1 t.2.1/\Gr tr (Wn.P dn x) mn m i t.2.2.1 t.2.2.2.1) ?_ ?_ ⟨rfl,hS.mono (by omega),⟨by dsimp only; omega,by dsimp only; omega⟩,?_⟩
  · rintro _ ⟨s,s2,at_,heard,k⟩ hk ⟨rfl,h1,⟨q0,q1⟩,h2⟩;dsimp only at hk h1 q0 q1 h2;simp only [za9];have hm:=Wn.P_mem R.nx _ hst _ (List.getElem_mem hk);have e:=getD_el (Wn.P dn x) hk 0;rw [e];refine M.o_t (decide_eq_true (by omega)) (M.o_grdD (by omega) (M.o_f (by have:=R.tl; rw [decide_eq_false (by omega),decide_eq_false (by omega)]; rfl) (M.o_if (fun hb=>?_) (fun hb=>?_))))
    · have hb:(Wn.P dn x)[k]=r:=by simpa using hb
      obtain ⟨i,rfl⟩:∃ i,m=some i:=by
        cases m with
        | none=>exact absurd hb (hr _ (List.getElem_mem hk))
        | some i=>exact ⟨i,rfl⟩
      obtain ⟨hil,rfl⟩:=hr;have hki:k=i:=by
        rcases Nat.lt_trichotomy k i with g | g | g
        · have:=List.pairwise_iff_getElem.1 hu k i hk hil g;omega
        · exact g
        · have:=List.pairwise_iff_getElem.1 hu i k hil hk g;omega
      subst hki;refine M.o_grd (gA2 (by omega) (by omega)) ?_;obtain ⟨z,z1,a1,a2,a3,a4,rfl,z3,z4⟩:=j9 k hk at_ (at_+mn) s s2 h1 ⟨⟨q0,q1⟩,.inr ⟨Nat.le_refl _,at_,q0,q1,rfl,by
        rw [List.drop_eq_nil_of_le (by rw [List.length_take]; omega)];simp [Wn.sm]⟩⟩
      exact ⟨_,z1,rfl,z3,z4⟩
    · have hb:(Wn.P dn x)[k] ≠ r:=by simpa using hb
      obtain ⟨z,z1,a1,a2,a3,a4,rfl,z3,z4⟩:=j9 k hk at_ heard s s2 h1 ⟨⟨q0,q1⟩,by
        cases m with
        | none=>exact h2
        | some m =>
          dsimp only at h2 ⊢;rcases h2 with ⟨g1,g2⟩ | ⟨g1,g2⟩
          · refine .inl ⟨?_,g2⟩;rcases Nat.lt_or_eq_of_le g1 with g | g
            · exact g
            · subst g;obtain ⟨_,e⟩:=hr;exact absurd e.symm hb
          · exact .inr ⟨by omega,g2⟩⟩
      exact ⟨_,z1,rfl,z3,z4⟩
  · rintro ⟨s,s2,at_,heard,k⟩ ⟨e,h1,_⟩;dsimp only at e h1;subst e;simp only [za9];exact M.o_f (decide_eq_false (by omega)) (M.o_pure ⟨_,rfl,h1.mono (by omega)⟩)
  · cases m with
    | none=>rfl
    | some m=>exact .inl ⟨Nat.zero_le _,rfl⟩
theorem sent_b11 {b:List UInt8} (R:Wn.Rv dn tr sp tw dl dh fl) {mn:Int} (m0:0<=mn) (m1:mn<=60*dh) (hm:∀ d,d∈D↔d.spring∈sp/\(0<=d.town/\d.town<(tw.length:Int))/\Wn.stn tw d∈Wn.P dn d.spring) (hu:ws.Pairwise (· < ·)) (hb:∀ x∈ws,0<=x/\x<(dn.length:Int)) (cov:∀ d∈D,∃ s∈Wn.Sd dn tr tw dh d,s∈ws) {c u x:Int} (hS:SOk c u x) (hc:c<=1000) :
    (M.iter (zbn b mn dn tr sp fl dl dh tw ws) (u,x,0)).Out (fun z=>∃ z1,z = .inr z1/\SOk (c+1000) z1.1 z1.2):=by
  have h20:=R.f20;refine M.o_for fl.length (fun i (t:Int × Int × Nat)=>t.2.2=i/\SOk (c+24*i) t.1 t.2.1) ?_ ?_ ⟨rfl,hS.mono (by omega)⟩
  · rintro _ ⟨s,s2,i⟩ hi ⟨rfl,h1⟩;dsimp only at hi h1;simp only [zbn];have hf:fl.getD i default∈fl:=by rw [getD_el fl hi]; exact List.getElem_mem hi
    obtain ⟨k1,k2,k3⟩:=R.fok _ hf;have hs:=R.si _ k1;refine M.o_t (decide_eq_true (by omega)) (M.o_bind (reports_first R hu hb hi) ?_);rintro ⟨r,q,e⟩ ⟨hr,rfl⟩;dsimp only at hr ⊢;obtain ⟨m,hI,hW⟩:=intime_of R hm cov k1 hr;refine M.o_grdD (by omega) (M.o_bindE (path_endsI R hs.1 hs.2) ?_);dsimp only;refine M.o_f rfl (M.o_bind (sent_b10 R m0 m1 k1 hI hW h1 (by omega)) ?_);rintro _ ⟨⟨z1,z2⟩,rfl,hz⟩;exact M.o_pure ⟨rfl,hz.mono (by omega)⟩
  · rintro ⟨s,s2,i⟩ ⟨e,h1⟩;dsimp only at e h1;subst e;simp only [zbn];exact M.o_f (decide_eq_false (by omega)) (M.o_pure ⟨_,rfl,h1.mono (by omega)⟩)
theorem topSent_ends (rivers rounds cables truth:List UInt8):(zdl rivers rounds cables truth).Ends true:=by
  refine M.Out.ends ?_;unfold zdl;have hnew:∀ p,(zaL p).Ends (0,0):=fun p=>M.i_pure;refine M.o_bindE (hnew truth) (M.o_bindE (hnew rounds) (M.o_bind (toured_out SOk.zero (by omega)) ?_));rintro ⟨l,q1,q2⟩ ⟨⟨h1,h4⟩,hv,_⟩;dsimp only at h1 h4 hv ⊢;refine M.o_bind (hours_out hv h1 (by omega)) ?_;rintro ⟨r0,e⟩ ⟨rfl,H⟩;dsimp only at H ⊢;have ln:=H.ln;refine M.o_f ?_ (M.o_bind (round_out hv h1 (by omega) H SOk.zero (by omega)) ?_)
  · rw [ln,bne_self_eq_false,bne_self_eq_false,Bool.false_or,Bool.false_or];exact beq_eq_false_iff_ne.2 (by omega)
  rintro (y | ⟨s5,s6,mn⟩) hm
  · exact hm.elim
  obtain ⟨kS,g1,g2⟩:=hm;dsimp only at kS g1 g2 ⊢;refine M.o_bindE (hnew rivers) (M.o_bind (made_out SOk.zero) ?_);rintro ⟨dn,tr,sp,tw0,dl0,dh0,fl,q14,q24⟩ ⟨R0,_,_⟩;dsimp only at R0 ⊢;have hk:=voks hv;have b1:0<=Cw.BL_ l (l.length-1)/\Cw.BL_ l (l.length-1)<=2200+200*(l.length-1:Nat):=Cw.Bv.bd (f:=Vis.wlo) (g:=Vis.klo) hk (fun v hv=>⟨hv.w0,by have:=hv.w1; have:=hv.w2; omega⟩) (fun v hv=>⟨hv.k0,by have:=hv.k1; have:=hv.k2; omega⟩) (k:=l.length-1) (by omega);have b2:0<=Cw.BH_ l (l.length-1)/\Cw.BH_ l (l.length-1)<=2200+200*(l.length-1:Nat):=Cw.Bv.bd (f:=Vis.whi) (g:=Vis.khi) hk (fun v hv=>⟨by have:=hv.w0; have:=hv.w1; omega,hv.w2⟩) (fun v hv=>⟨by have:=hv.k0; have:=hv.k1; omega,hv.k2⟩) (k:=l.length-1) (by omega);have eN:Int.toNat ((r0.length:Int)-1)=l.length-1:=by omega
  have e1:=H.lo (l.length-1) (by omega);have e2:=H.hi (l.length-1) (by omega);rw [eN,e1,e2];refine M.o_grd (gA2 (by omega) (by omega)) (M.o_grd (gA2 (by omega) (by omega)) (M.o_grd (by rw [decide_eq_true (by omega),decide_eq_true (by omega),decide_eq_true (by omega)]; rfl) (M.o_f (decide_eq_false (by omega)) (M.o_grd (by rw [decide_eq_true (by omega),decide_eq_true (by omega),decide_eq_true (by omega)]; rfl) ?_))));have R1:Wn.Rv dn tr sp tw0 (Cw.BL_ l (l.length-1) / 60) ((Cw.BH_ l (l.length-1)+59) / 60) fl:={ R0 with d0:=by omega,d1:=by omega,d2:=by omega }
  refine M.o_bind (kept_out R1) ?_;rintro _ ⟨tw,rfl,R,hM⟩;dsimp only;obtain ⟨D,hD,hl,hm⟩:=demands_is R;have ho:∀ d∈D,Wn.OkD dn tw d/\Wn.Sd dn tr tw ((Cw.BH_ l (l.length-1)+59) / 60) d ≠ []:=fun d hd=>⟨dem_ok R hm d hd,hM D hD d hd⟩
  obtain ⟨ws,ap,hF,F⟩:=fewest_is R hD hl ho;refine M.o_bindE (watches_end R hF) ?_;dsimp only;refine M.o_f rfl (M.o_bind (sent_b11 R (mn:=mn) (by omega) (by omega) hm F.up F.bd F.cov kS (by omega)) ?_);rintro _ ⟨⟨z1,z2⟩,rfl,kS2⟩;dsimp only at kS2 ⊢;refine M.o_bindE (hnew cables) (M.o_bind (hung_out SOk.zero (by omega)) ?_);rintro ⟨car,wide,sag,most,rs,q16,q26⟩ ⟨C,hR,h8⟩;dsimp only at C hR h8 ⊢;refine M.o_bind (ridden_out kS2 (by omega) C hR h8) ?_;rintro ⟨r9,l9,q17,q27⟩ e;dsimp only at e ⊢;subst e;exact M.o_bindE (M.i_opt (fun _=>aware12_ends) (fun h=>by cases h)) (M.o_pure rfl)
end Go.Proofs.YtbgoclcmgbpckaaGreat
