/- Part 4 of the texts on which the proof rests. Conditions: none. -/
import Derived.Test.YtfdgkdkfbaghpaaGreatZA3
set_option linter.unusedVariables false
set_option linter.unusedSimpArgs false
set_option linter.unusedSectionVars false
section
set_option maxRecDepth 100000
set_option maxHeartbeats 16000000
namespace Go.Proofs.YtfdgkdkfbaghpaaGreat
open Go Go.Nm
attribute [local irreducible] gd execOp SL SLD SLT WR
def zas (aa:Int) (ab:List Line) (s5:Nat):(Int × (List Int) × (List Leg) × (List Bool))->Leg->M ((Int × (List Int) × (List Leg) × (List Bool)) ⊕ Unit):=fun (s,s2,s3,s4) x =>
  M.bind (zay aa ab x) fun r2 =>
  M.bind (zaI aa ab x) fun r3 =>
  M.grd (decide ((-9223372036854775808:Int)<=((s2.getD s5 0)+r3))&&decide (((s2.getD s5 0)+r3)<=(9223372036854775807:Int))) <|
  M.grd (decide ((0:Int)<=r2)&&decide (r2<(13:Int))) <|
  bif ((!(s4.getD (Int.toNat r2) false))||(decide (((s2.getD s5 0)+r3)<(s2.getD (Int.toNat r2) 0)))) then (
  M.pure (.inl (r2,s2.set (Int.toNat r2) ((s2.getD s5 0)+r3),s3.set (Int.toNat r2) x,s4.set (Int.toNat r2) true)))
  else (
  M.pure (.inl (s,s2,s3,s4)))
def zbl (aa:Int) (ab:List Line):(Nat × (List Int) × (List Leg) × (List Bool) × Int)->M ((Nat × (List Int) × (List Leg) × (List Bool) × Int) ⊕ ((List Int) × (List Leg) × (List Bool) × Int)):=fun (s5,s6,s7,s8,s9) =>
  bif decide ((s5:Int)<aa) then (
  M.grd (decide ((0:Int)<=(s5:Int))&&decide ((s5:Int)<(13:Int))) <|
  bif !(s8.getD s5 false) then (
  M.grd (decide ((-9223372036854775808:Int)<=((s5:Int)+1))&&decide (((s5:Int)+1)<=(9223372036854775807:Int))) <|
  M.pure (.inl (s5+1,s6,s7,s8,s9)))
  else (
  M.bind (zaN aa ab (s5:Int)) fun ac =>
  M.bind (zai (M.yl (zas aa ab s5)) (.inl (s9,s6,s7,s8)) aa ab ac) fun x_=>match x_ with
  | .inl (s,s2,s3,s4)=>(
  M.grd (decide ((-9223372036854775808:Int)<=((s5:Int)+1))&&decide (((s5:Int)+1)<=(9223372036854775807:Int))) <|
  M.pure (.inl (s5+1,s2,s3,s4,s)))
  | .inr _=>M.fail))
  else (
  M.pure (.inr (s6,s7,s8,s9)))
def zbc (ab:Int) (ah:List Line):((List Int) × (List Leg) × (List Bool) × Int × Nat)->M (((List Int) × (List Leg) × (List Bool) × Int × Nat) ⊕ ((List Int) × (List Leg) × (List Bool) × Int)):=fun (ac,ae,ag,ai,aa) =>
  bif decide ((aa:Int)<(ab+1)) then (
  M.bind (M.iter (zbl ab ah) (0,ac,ae,ag,-1)) fun (l,l2,l3,aj) =>
  M.grd (decide ((-9223372036854775808:Int)<=((aa:Int)+1))&&decide (((aa:Int)+1)<=(9223372036854775807:Int))) <|
  M.pure (.inl (l,l2,l3,aj,aa+1)))
  else (
  M.pure (.inr (ac,ae,ag,ai)))
def zbO (ac:Int) (ae:List Line) (l5:List Leg):(Int × Nat)->M ((Int × Nat) ⊕ Int):=fun (aa,ab) =>
  bif decide ((ab:Int)<ac) then (
  M.grd (decide ((0:Int)<=aa)&&decide (aa<(13:Int))) <|
  M.bind (zaq ac ae (l5.getD (Int.toNat aa) default)) fun r4 =>
  M.grd (decide ((-9223372036854775808:Int)<=((ab:Int)+1))&&decide (((ab:Int)+1)<=(9223372036854775807:Int))) <|
  M.pure (.inl (r4,ab+1)))
  else (
  M.pure (.inr aa))
def zbA (aa:Int) (ab:List Line) (l5:List Leg) (ac:Int):(Int × (List Leg))->M ((Int × (List Leg)) ⊕ ((List Leg) × (List Leg))):=fun (mark,l7) =>
  bif (((l7.length:Int)==0)||(mark != ac)) then (
  M.grd (decide ((0:Int)<=mark)&&decide (mark<(13:Int))) <|
  M.grd (decide ((l7.length+([(l5.getD (Int.toNat mark) default)]).length)*16<=140737488355328)) <|
  M.bind (zaq aa ab (l5.getD (Int.toNat mark) default)) fun r5 =>
  M.pure (.inl (r5,l7++([(l5.getD (Int.toNat mark) default)]))))
  else (
  M.pure (.inr (l7,l7)))
def zb5 (aa:Int) (ab:List Line) (ac:Int):M (List Leg) :=
  M.grd (decide ((0:Int)<=ac)&&decide (ac<(13:Int))) <|
  M.grd (decide ((-9223372036854775808:Int)<=(aa+1))&&decide ((aa+1)<=(9223372036854775807:Int))) <|
  M.bind (M.iter (zbc aa ab) (List.replicate 13 0,List.replicate 13 default,(List.replicate 13 false).set (Int.toNat ac) true,-1,0)) fun (l4,l5,l6,ae) =>
  bif ae==(-1) then (
  M.pure ([]))
  else (
  M.bind (M.iter (zbO aa ab l5) (ae,0)) fun ag =>
  M.bind (M.iter (zbA aa ab l5 ag) (ag,[])) fun (l8,l9) =>
  M.bind (zb0 l9) fun l_s =>
  M.grd (decide (0<l_s.length)) <|
  M.pure l_s)
theorem zdp {R:List Chunk} {ab:Nat} {bt:Cells} {aM:Value} (ae:Int) (aj:List Line) (aw:Int) (az:Reads R bt) (aD:Sl bt aM aj) (ao:Fld R ab [I ae,aM]) {r:(List Leg)} (hM:(zb5 ae aj aw).Ends r) (w:World) (H:St w w [] R):Ret Tryz.prog 64 #[Pq ab,I aw] w fun v w'=>∃ (y0:List Leg) (u0:Value),y0=r/\v=u0/\St w w' [cOwn (α:=Leg) 28 u0 y0] R/\(y0=[]->u0 = .slice none 0 0):=by
 refine ret_of_WD Tryz.func64 rfl rfl rfl ?_
 replace H:St w w [cMk ([])] R:=H.mk0
 have cp:=aD.len_le
 unfold zb5 at hM
 refine WD.seq<|WD.of<|W.region rfl ?_;refine t_b1 (Pq ab) H rfl rfl ?_;intro ah cq H;refine kg 2 ?_;refine WD.seq<|WD.of<|W.region rfl ?_;refine t_alloc (cs:=(List.flatten [[],encF (α:=Int) (List.replicate 13 0),encF (α:=Leg) (List.replicate 13 default),encF (α:=Bool) (List.replicate 13 false)])) H Al135 (by kernel_rfl) ?_;intro aa cr H;refine s_nil<|WD.seq<|WD.of ?_;obtain ⟨ct,hM⟩:=M.e_gd hM;refine kg 3 ?_;refine s_val (x_ix (v:=.pointer (some ⟨aa,39+Int.toNat aw*1,none⟩)) rfl rfl (run_indexS Tryz.underlying133 Sz4 (by omega) (by omega))) ?_;refine t_stS (α:=Bool) (kc:=0) (b:=aa) (k:=3) (off:=39) (i:=(Int.toNat aw)) (f:=0) (sz:=1) (segs:=[[],encF (α:=Int) (List.replicate 13 0),encF (α:=Leg) (List.replicate 13 default),encF (α:=Bool) (List.replicate 13 false)]) (segs':=[[],encF (α:=Int) (List.replicate 13 0),encF (α:=Leg) (List.replicate 13 default),encF (α:=Bool) ((List.replicate 13 false).set (Int.toNat aw) true)]) (l:=List.replicate 13 false) (l':=(List.replicate 13 false).set (Int.toNat aw) true) (vs:=[B true]) (L':=[cBlk aa (List.flatten [[],encF (α:=Int) (List.replicate 13 0),encF (α:=Leg) (List.replicate 13 default),encF (α:=Bool) ((List.replicate 13 false).set (Int.toNat aw) true)]) 135,cBlk ah [Pq ab] 93,cMk ([])]) H rfl rfl rfl Sz4 rfl rfl rfl rfl (sgo3 List.length_replicate List.length_replicate rfl) rfl rfl (by have ax:=(show (List.replicate 13 false).length=13 from List.length_replicate); omega) (by omega) false true rfl rfl rfl rfl ?_;intro cu H
 have bI:((List.replicate 13 false).set (Int.toNat aw) true).length=13:=List.length_set.trans List.length_replicate
 refine s_nil<|WD.seq<|WD.of<|W.region rfl ?_;refine t_alloc (cs:=[I 0]) H Al3 rfl ?_;intro ag cv H;refine t_sw 0 0 [I (-1)] (I (-1)) H rfl rfl Sz3 rfl rfl rfl rfl ?_;intro cw H;refine s_nil<|WD.seq<|WD.seq<|WD.of ?_;refine kg 5 ?_;refine s_val (x_ld (v:=I ae) rfl (fld_sc (pre:=[I ae,aM]) (i:=0) Sc3 (ao.at H) rfl)) ?_;obtain ⟨cx,hM⟩:=M.e_gd hM;refine kg 3 ?_;refine WD.block ?_;obtain ⟨bJ,aW,bK⟩:=M.e_bind hM
 obtain ⟨aX,aW⟩:=M.e_iter aW
 refine WD.loop (fun m bu σ W=>∃ (aA:List Int) (ac:List Leg) (aB:List Bool) (aN:Int) (aJ:Nat) (ρ:Env),σ=upds ρ [(2,Pq ah),(5,Pq aa),(6,Pq ag),(22,I (ae+1)),(23,I (aJ:Int))]/\M.iterN (zbc ae aj) m (aA,ac,aB,aN,aJ)=some bJ/\St w W [cBlk ag [I aN] 3,cBlk aa (List.flatten [[],encF (α:=Int) aA,encF (α:=Leg) ac,encF (α:=Bool) aB]) 135,cBlk ah [Pq ab] 93,cMk bu] R/\aA.length=13/\ac.length=13/\aB.length=13) ?_ ?_
 ·exact ⟨_,List.replicate 13 0,List.replicate 13 default,(List.replicate 13 false).set (Int.toNat aw) true,-1,0,_,upds_of _ _ ⟨rfl,rfl,rfl,rfl,rfl,trivial⟩,aW,H,List.length_replicate,List.length_replicate,bI⟩
 rintro cy bu σ cz ⟨aA,ac,aB,aN,aJ,ρ,rfl,bv,H,aY,aZ,bL⟩
 obtain ⟨bM,bN,cA,hM,bw⟩:=M.e_iterN bv
 simp only [zbc] at hM
 clear bv;refine WD.seq<|WD.of ?_;refine kg 3 ?_;refine WD.seq ?_
 refine WD.cond (decide ((aJ:Int)<(ae+1))) rfl (fun aE=>?_) (fun aE=>?_)
 ·replace hM:=M.e_t hM aE
  replace aE:=dI aE
  refine WD.of<|W.skip<|WD.seq<|WD.block<|WD.seq<|WD.of<|W.region rfl ?_;refine t_sw 0 0 [I (-1)] (I (-1)) H rfl rfl Sz3 rfl rfl rfl rfl ?_;intro cB H;refine s_nil<|WD.seq<|WD.of ?_;refine kg 5 ?_;refine s_val (x_ld (v:=I ae) rfl (fld_sc (pre:=[I ae,aM]) (i:=0) Sc3 (ao.at H) rfl)) ?_;refine kg 2 ?_;refine WD.block ?_;obtain ⟨bO,a7,bP⟩:=M.e_bind hM
  obtain ⟨aX,a7⟩:=M.e_iter a7
  refine WD.loop (fun m au σ W=>∃ (s5:Nat) (s6:List Int) (s7:List Leg) (s8:List Bool) (s9:Int) (ρ:Env),σ=upds ρ [(2,Pq ah),(5,Pq aa),(6,Pq ag),(22,I (ae+1)),(23,I (aJ:Int)),(29,I ae),(30,I (s5:Int))]/\M.iterN (zbl ae aj) m (s5,s6,s7,s8,s9)=some bO/\St w W [cBlk ag [I s9] 3,cBlk aa (List.flatten [[],encF (α:=Int) s6,encF (α:=Leg) s7,encF (α:=Bool) s8]) 135,cBlk ah [Pq ab] 93,cMk au] R/\s6.length=13/\s7.length=13/\s8.length=13) ?_ ?_
  ·exact ⟨_,0,aA,ac,aB,-1,_,upds_of _ _ ⟨rfl,rfl,rfl,rfl,rfl,rfl,rfl,trivial⟩,a7,H,aY,aZ,bL⟩
  rintro cC au σ cD ⟨s5,s6,s7,s8,s9,ρ,rfl,bx,H,aQ,aR,aS⟩
  obtain ⟨bz,bA,cE,hM,a8⟩:=M.e_iterN bx
  simp only [zbl] at hM
  clear bx;refine WD.seq<|WD.of ?_;refine kg 3 ?_;refine WD.seq ?_
  refine WD.cond (decide ((s5:Int)<ae)) rfl (fun aF=>?_) (fun aF=>?_)
  ·replace hM:=M.e_t hM aF
   replace aF:=dI aF
   refine WD.of<|W.skip<|WD.seq<|WD.block<|WD.seq<|WD.of ?_;refine kg 2 ?_;refine t_alloc (cs:=[I 0]) H Al3 rfl ?_;intro av cF H;refine t_sw 0 0 [I (s5:Int)] (I (s5:Int)) H rfl rfl Sz3 rfl rfl rfl rfl ?_;intro cG H;refine s_nil<|WD.seq<|WD.seq<|WD.of ?_;obtain ⟨cH,hM⟩:=M.e_gd hM;refine kg 3 ?_;refine s_val (x_ix (v:=.pointer (some ⟨aa,39+Int.toNat (s5:Int)*1,none⟩)) rfl rfl (run_indexS Tryz.underlying133 Sz4 (by omega) (by omega)))<|s_val (x_ld (v:=B (s8.getD s5 false)) rfl (ldS (α:=Bool) (k:=3) (off:=39) (i:=s5) (f:=0) (sz:=1) false Sc4 (H.bl 2) rfl (sgo3 aQ aR rfl) rfl (by decide) (by have ax:=aS; omega) (by omega) rfl)) ?_;refine kg 2 ?_
   refine WD.cond (!(s8.getD s5 false)) rfl (fun ba=>?_) (fun ba=>?_)
   ·replace hM:=M.e_t hM ba;refine WD.of ?_;refine W.exit<|WD.of ?_;obtain ⟨cI,hM⟩:=M.e_gd hM;refine kg 4 ?_
    exact ⟨bz,bA,s5+1,s6,s7,s8,s9,_,upds_of _ _ ⟨rfl,rfl,rfl,rfl,rfl,rfl,rfl,trivial⟩,M.e_inl hM a8,(H.pk [1,2,3,4]),aQ,aR,aS⟩
   replace hM:=M.e_f hM ba;refine WD.of<|W.skip<|WD.seq<|WD.of ?_;refine kg 3 ?_;obtain ⟨cJ,bQ,hM⟩:=M.e_bind hM;refine s_call cf71 [Pq ab,I (s5:Int)] rfl (zco ae aj (s5:Int) (az.app _) aD (ao.app _) bQ _ (H.gt 5)) ?_
   rintro vq cK ⟨ap,aq,ar,rfl,hvq,ai⟩
   subst vq;(try dsimp only at hM);replace H:=H.bk ai;clear ai;refine s_nil<|WD.block ?_;obtain ⟨cL,bR,hM⟩:=M.e_bind hM;refine WD.range (L:=[cBlk ag [I s9] 3,cBlk aa (List.flatten [[],encF (α:=Int) s6,encF (α:=Leg) s7,encF (α:=Bool) s8]) 135,cBlk aq [Pq ab] 93,cBlk ar [I ap] 3,cBlk av [I (s5:Int)] 3,cBlk ah [Pq ab] 93]) [Pq aq,Pq ar] (H.pk [6,3,4,0,1,2,5]) rfl cf82 ?_;intro aT aC bb bS bc H
   have hYC:YieldC Tryz.prog ([cMk (aC :: au),cBlk aq [Pq ab] 93,cBlk ar [I ap] 3,cBlk av [I (s5:Int)] 3,cBlk ah [Pq ab] 93]++R) arLeg (yJ aT bb (fun (s,s2,s3,s4) aU=>aU=[cBlk ag [I s] 3,cBlk aa (List.flatten [[],encF (α:=Int) s2,encF (α:=Leg) s3,encF (α:=Bool) s4]) 135]/\s2.length=13/\s3.length=13/\s4.length=13) (fun (_:Unit) _=>False) (fun _=>.ret)) (.func (.yield aT) #[] #[]) (M.yl (zas ae aj s5)):=by
    refine YieldC.mk2 bc (fun (s,s2,s3,s4) aU=>aU=[cBlk ag [I s] 3,cBlk aa (List.flatten [[],encF (α:=Int) s2,encF (α:=Leg) s3,encF (α:=Bool) s4]) 135]/\s2.length=13/\s3.length=13/\s4.length=13) (fun (_:Unit) _=>False) (fun _=>.ret) (zas ae aj s5) (by rintro ⟨s,s2,s3,s4⟩ _ h_; obtain ⟨rfl,_,_,_⟩:=h_; rfl) (fun _ _ h_=>h_.elim) rfl (arLeg_len rfl) ?_;intro C_ cM x bT
    obtain rfl:=bT
    intro w R aV aU s_ r bU hM H
    obtain ⟨s,s2,s3,s4⟩:=s_
    obtain ⟨rfl,ay,aG,aK⟩:=bU
    replace H:=H.nf;refine W.region rfl ?_;refine t_alloc (cs:=[I 0,B false]) H Al28 rfl ?_;intro aL cN H;refine t_sw 0 0 [I x.line,B x.back] (.agg #[I x.line,B x.back]) H rfl rfl Sz28 rfl rfl rfl rfl ?_;intro cO H;refine s_nil ?_
    refine ⟨rfl,[cBlk aL [I x.line,B x.back] 28],H.pick [0,1,2,3,4,5,6,7] (by decide) rfl,?_⟩
    clear H aV
    intro w R aV H
    replace az:=az.sub aV
    replace ao:=ao.sub aV
    replace hM:(zas ae aj s5 (s,s2,s3,s4) x).Ends r:=hM
    simp only [zas] at hM
    replace H:=H.nf;refine kg 2 ?_;refine W.draw (fun W=>St w W [cBlk aL [I x.line,B x.back] 28,cBlk ag [I s] 3,cBlk aa (List.flatten [[],encF (α:=Int) s2,encF (α:=Leg) s3,encF (α:=Bool) s4]) 135,cMk (aC :: au),cBlk aq [Pq ab] 93,cBlk ar [I ap] 3,cBlk av [I (s5:Int)] 3,cBlk ah [Pq ab] 93] R) [(0,true),(1,true),(3,true),(4,true),(5,true),(6,true),(7,true),(8,true),(2,false),(9,false),(10,true),(11,true),(12,true)] mixed (by decide +kernel) rfl ?_;intro cP al;replace H:=H.ext al;clear al
    refine ⟨(H.pk [0,1,2,3,4,5,6,7]),?_⟩
    refine kg 4 ?_;refine d_q rfl (fun w' H=>x_ix (v:=.pointer (some ⟨aa,0+Int.toNat (s5:Int)*1,none⟩)) rfl rfl (run_indexS Tryz.underlying96 Sz3 (by omega) (by omega)))<|d_q rfl (fun w' H=>x_ld (v:=I (s2.getD s5 0)) rfl (ldS (α:=Int) (k:=1) (off:=0) (i:=s5) (f:=0) (sz:=1) 0 Sc3 (H.bl 2) rfl (sgo1 rfl) rfl (by decide) (by have ax:=ay; omega) (by omega) rfl)) ?_;refine kg 2 ?_;refine d_l rfl ?_;obtain ⟨cQ,bV,hM⟩:=M.e_bind hM;refine s_call cf61 [Pq ab,.agg #[I x.line,B x.back]] rfl (zat ae aj x (az.app _) aD (ao.app _) bV _ (H.gt 8)) ?_
    rintro vq cR ⟨r2,rfl,hvq,ai⟩
    subst vq;(try dsimp only at hM);replace H:=H.bk ai;clear ai
    refine s_nil ⟨(H.pk [0,1,2,3,4,5,6,7]),?_⟩
    refine d_l rfl ?_;obtain ⟨cT,bW,hM⟩:=M.e_bind hM;refine s_call cf62 [Pq ab,.agg #[I x.line,B x.back]] rfl (zbS ae aj x (az.app _) aD (ao.app _) bW _ (H.gt 8)) ?_
    rintro vq cU ⟨r3,rfl,hvq,ai⟩
    subst vq;(try dsimp only at hM);replace H:=H.bk ai;clear ai
    refine s_nil ⟨(H.pk [0,1,2,3,4,5,6,7]),?_⟩
    obtain ⟨cV,hM⟩:=M.e_gd hM;obtain ⟨cW,hM⟩:=M.e_gd hM;refine kg 8 ?_;refine s_val (x_ix (v:=.pointer (some ⟨aa,39+Int.toNat r2*1,none⟩)) rfl rfl (run_indexS Tryz.underlying133 Sz4 (by omega) (by omega)))<|s_val (x_ld (v:=B (s4.getD (Int.toNat r2) false)) rfl (ldS (α:=Bool) (k:=3) (off:=39) (i:=(Int.toNat r2)) (f:=0) (sz:=1) false Sc4 (H.bl 2) rfl (sgo3 ay aG rfl) rfl (by decide) (by have ax:=aK; omega) (by omega) rfl)) ?_;refine kg 5 ?_;refine g_val (!(!(s4.getD (Int.toNat r2) false))) (gy_f rfl) (fun hg=>x_ix (v:=.pointer (some ⟨aa,0+Int.toNat r2*1,none⟩)) (gd_of hg (Pq aa)) (gd_of hg (I r2)) (run_indexS Tryz.underlying96 Sz3 (by first | omega | (have al:=hg; simp at al; omega)) (by first | omega | (have al:=hg; simp at al; omega))))<|g_val (!(!(s4.getD (Int.toNat r2) false))) (gy_f rfl) (fun hg=>x_ld (v:=I (s2.getD (Int.toNat r2) 0)) (gd_of hg (.pointer (some ⟨aa,0+Int.toNat r2*1,none⟩))) (ldS (α:=Int) (k:=1) (off:=0) (i:=(Int.toNat r2)) (f:=0) (sz:=1) 0 Sc3 (H.bl 2) rfl (sgo1 rfl) rfl (by decide) (by have ax:=ay; first | omega | (have al:=hg; simp at al; omega)) (by omega) rfl)) ?_;refine kg 3 ?_
    refine W.cond ((!(s4.getD (Int.toNat r2) false))||(decide (((s2.getD s5 0)+r3)<(s2.getD (Int.toNat r2) 0)))) rfl (fun bg=>?_) (fun bg=>?_)
    ·replace hM:=M.e_t hM bg;refine W.seq ?_;refine W.draw (fun W=>St w W [cBlk aL [I x.line,B x.back] 28,cBlk ag [I s] 3,cMk (aC :: au),cBlk aq [Pq ab] 93,cBlk ar [I ap] 3,cBlk av [I (s5:Int)] 3,cBlk ah [Pq ab] 93] R) [(0,true),(1,true),(2,true),(3,true),(4,true),(5,true),(6,true),(8,true),(11,true),(7,false),(9,true),(10,false),(12,true),(13,false)] mixed (by decide +kernel) rfl ?_;intro cX al;replace H:=H.ext al;clear al
     refine ⟨(H.pk [0,1,3,4,5,6,7]),?_⟩
     refine kg 6 ?_;refine d_q rfl (fun w' H=>x_ix (v:=.pointer (some ⟨aa,39+Int.toNat r2*1,none⟩)) rfl rfl (run_indexS Tryz.underlying133 Sz4 (by omega) (by omega))) ?_;refine kg 2 ?_;refine d_l rfl ?_;refine t_stS (α:=Bool) (kc:=2) (b:=aa) (k:=3) (off:=39) (i:=(Int.toNat r2)) (f:=0) (sz:=1) (segs:=[[],encF (α:=Int) s2,encF (α:=Leg) s3,encF (α:=Bool) s4]) (segs':=[[],encF (α:=Int) s2,encF (α:=Leg) s3,encF (α:=Bool) (s4.set (Int.toNat r2) true)]) (l:=s4) (l':=s4.set (Int.toNat r2) true) (vs:=[B true]) (L':=[cBlk aL [I x.line,B x.back] 28,cBlk ag [I s] 3,cBlk aa (List.flatten [[],encF (α:=Int) s2,encF (α:=Leg) s3,encF (α:=Bool) (s4.set (Int.toNat r2) true)]) 135,cMk (aC :: au),cBlk aq [Pq ab] 93,cBlk ar [I ap] 3,cBlk av [I (s5:Int)] 3,cBlk ah [Pq ab] 93]) H rfl rfl rfl Sz4 rfl rfl rfl rfl (sgo3 ay aG rfl) rfl rfl (by have ax:=aK; omega) (by omega) false true rfl rfl rfl rfl ?_;intro cY H
     have bX:(s4.set (Int.toNat r2) true).length=13:=List.length_set.trans aK
     refine s_nil ⟨(H.pk [0,1,3,4,5,6,7]),?_⟩
     refine d_q rfl (fun w' H=>x_ix (v:=.pointer (some ⟨aa,0+Int.toNat r2*1,none⟩)) rfl rfl (run_indexS Tryz.underlying96 Sz3 (by omega) (by omega)))<|d_l rfl ?_;refine t_stS (α:=Int) (kc:=2) (b:=aa) (k:=1) (off:=0) (i:=(Int.toNat r2)) (f:=0) (sz:=1) (segs:=[[],encF (α:=Int) s2,encF (α:=Leg) s3,encF (α:=Bool) (s4.set (Int.toNat r2) true)]) (segs':=[[],encF (α:=Int) (s2.set (Int.toNat r2) ((s2.getD s5 0)+r3)),encF (α:=Leg) s3,encF (α:=Bool) (s4.set (Int.toNat r2) true)]) (l:=s2) (l':=s2.set (Int.toNat r2) ((s2.getD s5 0)+r3)) (vs:=[I ((s2.getD s5 0)+r3)]) (L':=[cBlk aL [I x.line,B x.back] 28,cBlk ag [I s] 3,cBlk aa (List.flatten [[],encF (α:=Int) (s2.set (Int.toNat r2) ((s2.getD s5 0)+r3)),encF (α:=Leg) s3,encF (α:=Bool) (s4.set (Int.toNat r2) true)]) 135,cMk (aC :: au),cBlk aq [Pq ab] 93,cBlk ar [I ap] 3,cBlk av [I (s5:Int)] 3,cBlk ah [Pq ab] 93]) H rfl rfl rfl Sz3 rfl rfl rfl rfl (sgo1 rfl) rfl rfl (by have ax:=ay; omega) (by omega) 0 ((s2.getD s5 0)+r3) rfl rfl rfl rfl ?_;intro cZ H
     have bB:(s2.set (Int.toNat r2) ((s2.getD s5 0)+r3)).length=13:=List.length_set.trans ay
     refine s_nil ⟨(H.pk [0,1,3,4,5,6,7]),?_⟩
     refine d_q rfl (fun w' H=>x_ix (v:=.pointer (some ⟨aa,13+Int.toNat r2*2,none⟩)) rfl rfl (run_indexS Tryz.underlying99 Sz28 (by omega) (by omega)))<|d_l rfl ?_;refine t_stS (α:=Leg) (kc:=2) (b:=aa) (k:=2) (off:=13) (i:=(Int.toNat r2)) (f:=0) (sz:=2) (segs:=[[],encF (α:=Int) (s2.set (Int.toNat r2) ((s2.getD s5 0)+r3)),encF (α:=Leg) s3,encF (α:=Bool) (s4.set (Int.toNat r2) true)]) (segs':=[[],encF (α:=Int) (s2.set (Int.toNat r2) ((s2.getD s5 0)+r3)),encF (α:=Leg) (s3.set (Int.toNat r2) x),encF (α:=Bool) (s4.set (Int.toNat r2) true)]) (l:=s3) (l':=s3.set (Int.toNat r2) x) (vs:=[I x.line,B x.back]) (L':=[cBlk aL [I x.line,B x.back] 28,cBlk ag [I s] 3,cBlk aa (List.flatten [[],encF (α:=Int) (s2.set (Int.toNat r2) ((s2.getD s5 0)+r3)),encF (α:=Leg) (s3.set (Int.toNat r2) x),encF (α:=Bool) (s4.set (Int.toNat r2) true)]) 135,cMk (aC :: au),cBlk aq [Pq ab] 93,cBlk ar [I ap] 3,cBlk av [I (s5:Int)] 3,cBlk ah [Pq ab] 93]) H rfl rfl rfl Sz28 rfl rfl rfl rfl (sgo2 bB rfl) rfl rfl (by have ax:=aG; omega) (by omega) default x rfl rfl rfl rfl ?_;intro c5 H
     have bY:(s3.set (Int.toNat r2) x).length=13:=List.length_set.trans aG
     refine s_nil ⟨(H.pk [0,1,3,4,5,6,7]),?_⟩
     refine kg 3 ?_;refine t_sw 1 0 [I r2] (I r2) H rfl rfl Sz3 rfl rfl rfl rfl ?_;intro c6 H;refine s_nil ?_
     exact ⟨(r2,s2.set (Int.toNat r2) ((s2.getD s5 0)+r3),s3.set (Int.toNat r2) x,s4.set (Int.toNat r2) true),[cBlk ag [I r2] 3,cBlk aa (List.flatten [[],encF (α:=Int) (s2.set (Int.toNat r2) ((s2.getD s5 0)+r3)),encF (α:=Leg) (s3.set (Int.toNat r2) x),encF (α:=Bool) (s4.set (Int.toNat r2) true)]) 135],(M.e_pure hM).symm,⟨rfl,bB,bY,bX⟩,H.pick [1,2,3,4,5,6,7] (by decide) rfl⟩
    replace hM:=M.e_f hM bg;refine W.skip ?_
    exact ⟨(s,s2,s3,s4),[cBlk ag [I s] 3,cBlk aa (List.flatten [[],encF (α:=Int) s2,encF (α:=Leg) s3,encF (α:=Bool) s4]) 135],(M.e_pure hM).symm,⟨rfl,ay,aG,aK⟩,H.pick [1,2,3,4,5,6,7] (by decide) rfl⟩
   replace H:St w bS (cAll (cObj aT (.loop bb) :: [cBlk ag [I s9] 3,cBlk aa (List.flatten [[],encF (α:=Int) s6,encF (α:=Leg) s7,encF (α:=Bool) s8]) 135]) :: [cMk (aC :: au),cBlk aq [Pq ab] 93,cBlk ar [I ap] 3,cBlk av [I (s5:Int)] 3,cBlk ah [Pq ab] 93]) R:=St.bundleB (A:=cObj aT (.loop bb) :: [cBlk ag [I s9] 3,cBlk aa (List.flatten [[],encF (α:=Int) s6,encF (α:=Leg) s7,encF (α:=Bool) s8]) 135]) (T:=[cMk (aC :: au),cBlk aq [Pq ab] 93,cBlk ar [I ap] 3,cBlk av [I (s5:Int)] 3,cBlk ah [Pq ab] 93]) rfl (H.pk [0,2,3,1,4,5,6,7])
   refine (zcl (M.yl (zas ae aj s5)) (.inl (s9,s6,s7,s8)) ae aj ap hYC ⟨_,rfl,⟨rfl,aQ,aR,aS⟩⟩ (az.app _) aD (fun _ _ _=>Fld.cons (ao.app _) _) (Has.here (k:=1) rfl) (Has.here (k:=2) rfl) bR _ (H.gt 5)).mono ?_
   rintro vq c7 ⟨bZ,c8,rfl,hvq,ai,bC⟩
   replace H:=H.back ai rfl
   clear ai hYC
   rcases bZ with ⟨s,s2,s3,s4⟩ | _
   ·(try dsimp only at hM)
    obtain ⟨_,rfl,rfl,ay,aG,aK⟩:=bC
    refine ⟨_,[cBlk ag [I s] 3,cBlk aa (List.flatten [[],encF (α:=Int) s2,encF (α:=Leg) s3,encF (α:=Bool) s4]) 135,cBlk aq [Pq ab] 93,cBlk ar [I ap] 3,cBlk av [I (s5:Int)] 3,cBlk ah [Pq ab] 93],H.unbundle.pick [0,3,1,2,4,5,6,7] (by decide) rfl,bc.nb,?_⟩
    intro c9 H
    rw [bc.pd]
    replace H:=H.nf
    try simp only []
    refine WD.of ?_;obtain ⟨da,hM⟩:=M.e_gd hM;refine kg 4 ?_
    exact ⟨bz,bA,s5+1,s2,s3,s4,s,_,upds_of _ _ ⟨rfl,rfl,rfl,rfl,rfl,rfl,rfl,trivial⟩,M.e_inl hM a8,(H.pk [1,2,6,0]),ay,aG,aK⟩
   obtain ⟨_,_,h_⟩:=bC; exact h_.elim
  replace hM:=M.e_f hM aF
  replace aF:=dI aF
  refine WD.of ?_;refine W.exit ?_
  have b0:=M.e_inr hM a8
  subst b0;replace hM:=bP;(try dsimp only at hM);refine WD.of ?_;obtain ⟨db,hM⟩:=M.e_gd hM;refine kg 4 ?_
  exact ⟨bM,bN,s6,s7,s8,s9,aJ+1,_,upds_of _ _ ⟨rfl,rfl,rfl,rfl,rfl,trivial⟩,M.e_inl hM bw,H,aQ,aR,aS⟩
 replace hM:=M.e_f hM aE
 replace aE:=dI aE
 refine WD.of ?_;refine W.exit ?_
 have b7:=M.e_inr hM bw
 subst b7;replace hM:=bK;(try dsimp only at hM);refine WD.seq<|WD.seq<|WD.of ?_;refine kg 4 ?_
 refine WD.cond (aN==(-1)) rfl (fun aH=>?_) (fun aH=>?_)
 ·replace hM:=M.e_t hM aH
  replace aH:=dI aH
  refine WD.seq<|WD.of ?_;refine kg 3 ?_;refine WD.of ?_;refine W.ret ?_;refine bodyD_r (H.pk [3,0,1,2]) ?_;intro dc H;replace H:=H.nf
  have bh:=M.e_pure hM
  replace H:=H.nilOwn (α:=Leg) 28
  exact ⟨_,resE_tmp rfl,⟨([]),(.slice none 0 0),bh,rfl,(H.pk [0]),(fun _=>rfl)⟩⟩
 replace hM:=M.e_f hM aH
 replace aH:=dI aH
 refine WD.of<|W.skip<|WD.seq<|WD.seq<|WD.of ?_;refine kg 5 ?_;refine s_val (x_ld (v:=I ae) rfl (fld_sc (pre:=[I ae,aM]) (i:=0) Sc3 (ao.at H) rfl)) ?_;refine kg 2 ?_;refine WD.block ?_;obtain ⟨b8,bi,b9⟩:=M.e_bind hM
 obtain ⟨aX,bi⟩:=M.e_iter bi
 refine WD.loop (fun m bj σ W=>∃ (am:Int) (aO:Nat) (ρ:Env),σ=upds ρ [(2,Pq ah),(5,Pq aa),(6,Pq ag),(86,I ae),(87,I (aO:Int))]/\M.iterN (zbO ae aj ac) m (am,aO)=some b8/\St w W [cBlk ag [I am] 3,cBlk aa (List.flatten [[],encF (α:=Int) aA,encF (α:=Leg) ac,encF (α:=Bool) aB]) 135,cBlk ah [Pq ab] 93,cMk bj] R) ?_ ?_
 ·exact ⟨_,aN,0,_,upds_of _ _ ⟨rfl,rfl,rfl,rfl,rfl,trivial⟩,bi,H⟩
 rintro dh bj σ di ⟨am,aO,ρ,rfl,bD,H⟩
 obtain ⟨ca,cb,dj,hM,bE⟩:=M.e_iterN bD
 simp only [zbO] at hM
 clear bD;refine WD.seq<|WD.of ?_;refine kg 3 ?_;refine WD.seq ?_
 refine WD.cond (decide ((aO:Int)<ae)) rfl (fun aI=>?_) (fun aI=>?_)
 ·replace hM:=M.e_t hM aI
  replace aI:=dI aI
  refine WD.of<|W.skip<|WD.seq<|WD.block<|WD.of ?_;refine W.draw (fun W=>St w W [cBlk aa (List.flatten [[],encF (α:=Int) aA,encF (α:=Leg) ac,encF (α:=Bool) aB]) 135,cBlk ah [Pq ab] 93,cMk bj] R) [(0,true),(2,true),(1,false),(3,true),(4,true),(5,false),(6,false)] mixed (by decide +kernel) rfl ?_;intro dk al;replace H:=H.ext al;clear al
  refine ⟨(H.pk [1,2,3]),?_⟩
  refine kg 2 ?_;refine d_l rfl ?_;refine kg 1 ?_
  refine s_nil ⟨(H.pk [1,2,3]),?_⟩
  obtain ⟨dl,hM⟩:=M.e_gd hM;refine d_q rfl (fun w' H=>x_ix (v:=.pointer (some ⟨aa,13+Int.toNat am*2,none⟩)) rfl rfl (run_indexS Tryz.underlying99 Sz28 (by omega) (by omega)))<|d_q rfl (fun w' H=>x_ld (v:=.agg #[I ((ac.getD (Int.toNat am) default).line),B ((ac.getD (Int.toNat am) default).back)]) rfl (ldSA (α:=Leg) (k:=2) (off:=13) (i:=(Int.toNat am)) (sz:=2) default Ag28 Sz28 (H.bl 0) rfl (sgo2 aY rfl) rfl (by have ax:=aZ; omega) (by omega) rfl))<|d_l rfl ?_;obtain ⟨dm,cd,hM⟩:=M.e_bind hM;refine s_call cf60 [Pq ab,.agg #[I ((ac.getD (Int.toNat am) default).line),B ((ac.getD (Int.toNat am) default).back)]] rfl (zaH ae aj (ac.getD (Int.toNat am) default) (az.app _) aD (ao.app _) cd _ (H.gt 4)) ?_
  rintro vq dp ⟨r4,rfl,hvq,ai⟩
  subst vq;(try dsimp only at hM);replace H:=H.bk ai;clear ai
  refine s_nil ⟨(H.pk [1,2,3]),?_⟩
  refine d_l rfl ?_;refine t_sw 0 0 [I r4] (I r4) H rfl rfl Sz3 rfl rfl rfl rfl ?_;intro dt H
  refine s_nil ⟨(H.pk [1,2,3]),?_⟩
  refine d_nil<|WD.of ?_;obtain ⟨du,hM⟩:=M.e_gd hM;refine kg 4 ?_
  exact ⟨ca,cb,r4,aO+1,_,upds_of _ _ ⟨rfl,rfl,rfl,rfl,rfl,trivial⟩,M.e_inl hM bE,H⟩
 replace hM:=M.e_f hM aI
 replace aI:=dI aI
 refine WD.of ?_;refine W.exit ?_
 have ce:=M.e_inr hM bE
 subst ce;replace hM:=b9;(try dsimp only at hM);refine WD.seq<|WD.of ?_;refine kg 3 ?_;refine WD.seq<|WD.seq<|WD.of ?_;refine kg 4 ?_;refine WD.block ?_
 replace H:=H.nilOwn (α:=Leg) 28
 obtain ⟨cf,bn,cg⟩:=M.e_bind hM
 obtain ⟨aX,bn⟩:=M.e_iter bn
 refine WD.loop (fun m bF σ W=>∃ (mark:Int) (l7:List Leg) (aP:Value) (ρ:Env),σ=upds ρ [(2,Pq ah),(5,Pq aa),(6,Pq ag),(11,aP),(12,I mark)]/\M.iterN (zbA ae aj ac am) m (mark,l7)=some cf/\St w W [cOwn (α:=Leg) 28 aP l7,cBlk ag [I am] 3,cBlk aa (List.flatten [[],encF (α:=Int) aA,encF (α:=Leg) ac,encF (α:=Bool) aB]) 135,cBlk ah [Pq ab] 93,cMk bF] R) ?_ ?_
 ·exact ⟨_,am,[],(.slice none 0 0),_,upds_of _ _ ⟨rfl,rfl,rfl,rfl,rfl,trivial⟩,bn,H⟩
 rintro dv bF σ dw ⟨mark,l7,aP,ρ,rfl,bG,H⟩
 obtain ⟨ch,ci,dx,hM,bH⟩:=M.e_iterN bG
 simp only [zbA] at hM
 clear bG;refine WD.seq<|WD.seq<|WD.of ?_
 have dy:=((H.os 0)).len_le
 refine kg 10 ?_
 refine WD.cond (((l7.length:Int)==0)||(mark != am)) rfl (fun bp=>?_) (fun bp=>?_)
 ·replace hM:=M.e_t hM bp;refine WD.of<|W.skip<|WD.block<|WD.seq<|WD.of ?_;obtain ⟨dz,hM⟩:=M.e_gd hM;refine kg 3 ?_;refine s_val (x_ix (v:=.pointer (some ⟨aa,13+Int.toNat mark*2,none⟩)) rfl rfl (run_indexS Tryz.underlying99 Sz28 (by omega) (by omega)))<|s_val (x_ld (v:=.agg #[I ((ac.getD (Int.toNat mark) default).line),B ((ac.getD (Int.toNat mark) default).back)]) rfl (ldSA (α:=Leg) (k:=2) (off:=13) (i:=(Int.toNat mark)) (sz:=2) default Ag28 Sz28 (H.bl 2) rfl (sgo2 aY rfl) rfl (by have ax:=aZ; omega) (by omega) rfl)) ?_;refine t_alloc (cs:=[I 0,B false]) H Al28 rfl ?_;intro dA dB H;refine t_sw 0 0 [I ((ac.getD (Int.toNat mark) default).line),B ((ac.getD (Int.toNat mark) default).back)] (.agg #[I ((ac.getD (Int.toNat mark) default).line),B ((ac.getD (Int.toNat mark) default).back)]) H rfl rfl Sz28 rfl rfl rfl rfl ?_;intro dC H;refine s_nil<|WD.seq<|WD.of ?_;refine kg 3 ?_;refine t_bs (α:=Leg) T29 [.agg #[I ((ac.getD (Int.toNat mark) default).line),B ((ac.getD (Int.toNat mark) default).back)]] [(ac.getD (Int.toNat mark) default)] H rfl (.cons rfl (Flat.rep_enc _ (ac.getD (Int.toNat mark) default))<|.nil) rfl rfl rfl ?_;intro cj dD H;obtain ⟨dE,hM⟩:=M.e_gd hM;refine t_app (α:=Leg) (k:=2) (l:=l7) (l2:=[(ac.getD (Int.toNat mark) default)]) (l':=l7++([(ac.getD (Int.toNat mark) default)])) (vy:=cj) T29 rfl H rfl rfl rfl (H.os 0) (H.ol 0) (rfl) (by first | omega | (simp only [List.length_nil] at *; omega)) ?_;intro ck dF H;replace H:=H.nf;refine kg 2 ?_;refine WD.of ?_;refine kg 3 ?_;obtain ⟨dG,cm,hM⟩:=M.e_bind hM;refine s_call cf60 [Pq ab,.agg #[I ((ac.getD (Int.toNat mark) default).line),B ((ac.getD (Int.toNat mark) default).back)]] rfl (zaH ae aj (ac.getD (Int.toNat mark) default) (az.app _) aD (ao.app _) cm _ (H.gt 7)) ?_
  rintro vq dH ⟨r5,rfl,hvq,ai⟩
  subst vq;(try dsimp only at hM);replace H:=H.bk ai;clear ai;refine kg 2 ?_
  exact ⟨ch,ci,r5,l7++([(ac.getD (Int.toNat mark) default)]),ck,_,upds_of _ _ ⟨rfl,rfl,rfl,rfl,rfl,trivial⟩,M.e_inl hM bH,(H.pk [2,3,4,5,6])⟩
 replace hM:=M.e_f hM bp;refine WD.of ?_;refine W.exit ?_
 have cn:=M.e_inr hM bH
 subst cn;replace hM:=cg;(try dsimp only at hM);refine WD.seq<|WD.of ?_;refine kg 2 ?_;obtain ⟨dJ,co,hM⟩:=M.e_bind hM;refine s_call cf77 [aP] rfl (zdX l7 co _ (H.gt 4)) ?_
 rintro vq dK ⟨l_s,rfl,hvq,ai⟩
 subst vq;(try dsimp only at hM);replace H:=H.bk ai;clear ai;refine s_nil<|WD.seq<|WD.of ?_;refine kg 4 ?_;refine WD.of ?_;refine W.ret ?_;refine bodyD_r (H.pk [4,0,1,2,3]) ?_;intro dL H;replace H:=H.nf;obtain ⟨br,hM⟩:=M.e_grd hM
 simp only [decide_eq_true_eq] at br
 have bh:=M.e_pure hM
 exact ⟨_,resE_tmp rfl,⟨l_s,aP,bh,rfl,(H.pk [0]),(fun h_=>by rw [h_] at br; simp at br)⟩⟩

def zcx (n_Marks:Int) (n_Lines:List Line) (aa:Int):(Nat × (List Leg))->M ((Nat × (List Leg)) ⊕ ((List Leg) × (List Leg))):=fun (s,l) =>
  bif decide ((s:Int)<n_Marks) then (
  M.bind (zb5 aa n_Lines (s:Int)) fun r3 =>
  bif !r3.isEmpty then (
  M.pure (.inr (r3,l)))
  else (
  M.grd (decide ((-9223372036854775808:Int)<=((s:Int)+1))&&decide (((s:Int)+1)<=(9223372036854775807:Int))) <|
  M.pure (.inl (s+1,r3))))
  else (
  M.pure (.inr (l,l)))
def zcw (n_Marks:Int) (n_Lines:List Line):M ((List Leg) × Int) :=
  M.bind (zao n_Marks n_Lines) fun x_=>match x_ with
  | (.inl r1)=>(
  bif r1 != 0 then (
  M.pure (([]),r1))
  else (
  M.fail))
  | (.inr (aa,ab,ac,ae))=>(
  bif ae != 0 then (
  M.fail)
  else (
  M.bind (zav aa n_Lines ab ac) fun r2 =>
  bif !r2 then (
  M.pure (([]),5))
  else (
  M.bind (M.iter (zcx n_Marks n_Lines aa) (0,[])) fun (l2,l3) =>
  M.pure (l2,0))))
theorem zdB {R:List Chunk} {av:Cells} {ae:Value} (n_Marks:Int) (n_Lines:List Line) (am:Reads R av) (ao:Sl av ae n_Lines) {r:((List Leg) × Int)} (hM:(zcw n_Marks n_Lines).Ends r) (w:World) (H:St w w [] R):Ret Tryz.prog 30 #[.agg #[I n_Marks,ae]] w fun v w'=>∃ (y0:List Leg) (y1:Int) (u0:Value),(y0,y1)=r/\v = .tuple #[u0,I y1]/\St w w' [cOwn (α:=Leg) 28 u0 y0] R:=by
 refine ret_of_W Tryz.func30 rfl rfl rfl ?_;refine kg 2 ?_;refine t_bx [I n_Marks,ae] H rfl ?_;intro aB aQ H;refine kg 3 ?_;refine W.scope ?_;refine kg 3 ?_;obtain ⟨aR,aC,hM⟩:=M.e_bind hM;refine s_call cf47 [.agg #[I n_Marks,ae]] rfl (zcC n_Marks n_Lines (am.app _) ao aC _ (H.gt 1)) ?_
 rintro vq aS (⟨r1,aD,hvq,aa⟩ | ⟨ai,aw,ax,aE,aj,aF,hvq,aa,aG,aH⟩)
 ·subst aD;subst vq;(try dsimp only at hM);replace H:=H.bk aa;clear aa;refine kg 14 ?_
  refine W.cond (r1 != 0) rfl (fun ag=>?_) (fun ag=>?_)
  ·replace hM:=M.e_t hM ag
   replace ag:=dI ag
   refine kg 6 ?_;refine W.ret ?_
   have ab:=M.e_pure hM
   replace H:=H.nilOwn (α:=Leg) 28
   exact ⟨_,resE_tmp2 rfl,⟨([]),r1,(.slice none 0 0),ab,rfl,(H.pk [0])⟩⟩
  replace hM:=M.e_f hM ag
  exact (M.e_fail hM).elim
 subst aF;subst vq;(try dsimp only at hM);replace H:=H.bk aa;clear aa;refine kg 14 ?_
 refine W.cond (aE != 0) rfl (fun ah=>?_) (fun ah=>?_)
 ·replace hM:=M.e_t hM ah
  exact (M.e_fail hM).elim
 replace hM:=M.e_f hM ah
 replace ah:=dI ah
 refine kg 3 ?_;obtain ⟨aT,aI,hM⟩:=M.e_bind hM;refine s_call cf48 [Pq aj] rfl (zbY ai n_Lines aw ax (am.app _) ao aG aH (Has.here (k:=0) rfl) aI _ (H.gt 2)) ?_
 rintro vq aU ⟨r2,rfl,hvq,aa⟩
 subst vq;(try dsimp only at hM);replace H:=H.bk aa;clear aa;refine kg 3 ?_
 refine W.cond (!r2) rfl (fun ap=>?_) (fun ap=>?_)
 ·replace hM:=M.e_t hM ap;refine kg 5 ?_;refine W.ret ?_
  have ab:=M.e_pure hM
  replace H:=H.nilOwn (α:=Leg) 28
  exact ⟨_,resE_tmp2 rfl,⟨([]),5,(.slice none 0 0),ab,rfl,(H.pk [0])⟩⟩
 replace hM:=M.e_f hM ap;refine kg 6 ?_;refine W.label ?_;refine kg 8 ?_
 replace H:=H.nilOwn (α:=Leg) 28
 obtain ⟨aJ,aq,ay⟩:=M.e_bind hM
 obtain ⟨aV,aq⟩:=M.e_iter aq
 refine W.loop (fun m σ W=>∃ (s:Nat) (l:List Leg) (al:Value) (ρ:Env),σ=upds ρ [(4,Pq aj),(6,al),(22,I n_Marks),(23,I (s:Int))]/\M.iterN (zcx n_Marks n_Lines ai) m (s,l)=some aJ/\St w W [cOwn (α:=Leg) 28 al l,cBlk aj (List.flatten [[I ai,ae],encF (α:=Int) aw,encF (α:=Leg) ax]) 102,cBlk aB [I n_Marks,ae] 25] R) ?_ ?_
 ·exact ⟨_,0,[],(.slice none 0 0),_,upds_of _ _ ⟨rfl,rfl,rfl,rfl,trivial⟩,aq,H⟩
 rintro aW σ aX ⟨s,l,al,ρ,rfl,az,H⟩
 obtain ⟨aK,aL,aY,hM,ar⟩:=M.e_iterN az
 simp only [zcx] at hM
 clear az;refine kg 5 ?_
 refine W.cond (decide ((s:Int)<n_Marks)) rfl (fun ac=>?_) (fun ac=>?_)
 ·replace hM:=M.e_t hM ac
  replace ac:=dI ac
  refine kg 12 ?_;obtain ⟨aZ,aM,hM⟩:=M.e_bind hM;refine s_call cf64 [Pq aj,I (s:Int)] rfl (zdp ai n_Lines (s:Int) (am.app _) ao (Fld.here (k:=1) rfl rfl) aM _ (H.gt 3)) ?_
  rintro vq a7 ⟨r3,aA,rfl,hvq,aa,aN⟩
  subst vq;(try dsimp only at hM);replace H:=H.bk aa;clear aa;refine kg 5 ?_;refine s_val (x_nenil (α:=Leg) T29.und rfl rfl (H.os 0) aN)<|s_nil ?_
  refine W.cond (!r3.isEmpty) rfl (fun au=>?_) (fun au=>?_)
  ·replace hM:=M.e_t hM au;refine W.exit ?_
   have aO:=M.e_inr hM ar
   subst aO;replace hM:=ay;(try dsimp only at hM);refine kg 6 ?_;refine W.ret ?_
   have ab:=M.e_pure hM
   exact ⟨_,resE_tmp2 rfl,⟨r3,0,aA,ab,rfl,(H.pk [0])⟩⟩
  replace hM:=M.e_f hM au;obtain ⟨a8,hM⟩:=M.e_gd hM;refine kg 5 ?_
  exact ⟨aK,aL,s+1,r3,aA,_,upds_of _ _ ⟨rfl,rfl,rfl,rfl,trivial⟩,M.e_inl hM ar,(H.pk [0,2,3])⟩
 replace hM:=M.e_f hM ac
 replace ac:=dI ac
 refine W.exit ?_
 have aP:=M.e_inr hM ar
 subst aP;replace hM:=ay;(try dsimp only at hM);refine kg 6 ?_;refine W.ret ?_
 have ab:=M.e_pure hM
 exact ⟨_,resE_tmp2 rfl,⟨l,0,al,ab,rfl,(H.pk [0])⟩⟩

def zb6 (a b:List Leg):Nat->M (Nat ⊕ (Unit ⊕ Unit)):=fun i =>
  bif decide ((i:Int)<(a.length:Int)) then (
  M.grd (decide ((i:Int)<(a.length:Int))) <|
  M.grd (decide ((i:Int)<(b.length:Int))) <|
  bif !(decide ((a.getD i default)=(b.getD i default))) then (
  M.pure (.inr (.inl ())))
  else (
  M.pure (.inl (i+1))))
  else (
  M.pure (.inr (.inr ())))
def zbU (a b:List Leg):M Bool :=
  bif (a.length:Int) != (b.length:Int) then (
  M.pure false)
  else (
  M.bind (M.iter (zb6 a b) 0) fun x_=>match x_ with
  | (.inl (_:Unit))=>(
  M.pure false)
  | (.inr (_:Unit))=>(
  M.pure true))
theorem zdD {R:List Chunk} {al:Cells} {ae:Value} {am:Cells} {ag:Value} (a:List Leg) (b:List Leg) (aA:Reads R al) (ao:Sl al ae a) (aB:Reads R am) (au:Sl am ag b) {r:Bool} (hM:(zbU a b).Ends r) (w:World) (H:St w w [] R):Ret Tryz.prog 31 #[ae,ag] w fun v w'=>∃ (y0:Bool),y0=r/\v=B y0/\St w w' [] R:=by
 refine ret_of_W Tryz.func31 rfl rfl rfl ?_
 have aC:=(ao).len_le
 have aD:=(au).len_le
 refine kg 13 ?_
 refine W.cond ((a.length:Int) != (b.length:Int)) rfl (fun aa=>?_) (fun aa=>?_)
 ·replace hM:=M.e_t hM aa
  replace aa:=dI aa
  refine kg 4 ?_;refine W.ret ?_
  have ac:=M.e_pure hM
  exact ⟨_,resE_tmp rfl,⟨false,ac,rfl,H⟩⟩
 replace hM:=M.e_f hM aa
 replace aa:=dI aa
 refine kg 7 ?_;obtain ⟨av,ah,ap⟩:=M.e_bind hM
 obtain ⟨aE,ah⟩:=M.e_iter ah
 refine W.loop (fun m σ W=>∃ (i:Nat) (ρ:Env),σ=upds ρ [(0,ae),(1,ag),(5,I (i:Int))]/\M.iterN (zb6 a b) m i=some av/\St w W [] R) ?_ ?_
 ·exact ⟨_,0,_,upds_of _ _ ⟨rfl,rfl,rfl,trivial⟩,ah,H⟩
 rintro aF σ aG ⟨i,ρ,rfl,aq,H⟩
 obtain ⟨aw,ax,aH,hM,ai⟩:=M.e_iterN aq
 simp only [zb6] at hM
 clear aq
 have aI:=(ao).len_le
 refine kg 8 ?_
 refine W.cond (decide ((i:Int)<(a.length:Int))) rfl (fun ab=>?_) (fun ab=>?_)
 ·replace hM:=M.e_t hM ab
  replace ab:=dI ab
  refine kg 4 ?_;refine W.draw (fun W=>St w W [] R) [(0,true),(1,true),(2,true),(3,true),(4,true),(5,true),(6,true),(7,true),(8,true)] mixed (by decide +kernel) rfl ?_;intro aJ ar;replace H:=H.ext ar;clear ar
  refine ⟨(H.pk []),?_⟩
  obtain ⟨aK,hM⟩:=M.e_gd hM;obtain ⟨aL,hM⟩:=M.e_gd hM;refine kg 8 ?_;refine d_q rfl (fun w' H=>x_neS (eqT28 (a.getD i default) (b.getD i default) _) gdT28 rfl rfl) ?_;refine d_nil ?_
  refine W.cond (!(decide ((a.getD i default)=(b.getD i default)))) rfl (fun aj=>?_) (fun aj=>?_)
  ·replace hM:=M.e_t hM aj;refine kg 4 ?_;refine W.ret ?_
   have ay:=M.e_inr hM ai
   subst ay;replace hM:=ap;(try dsimp only at hM)
   have ac:=M.e_pure hM
   exact ⟨_,resE_tmp rfl,⟨false,ac,rfl,H⟩⟩
  replace hM:=M.e_f hM aj;refine kg 6 ?_
  exact ⟨aw,ax,i+1,_,upds_of _ _ ⟨rfl,rfl,rfl,trivial⟩,M.e_inl hM ai,H⟩
 replace hM:=M.e_f hM ab
 replace ab:=dI ab
 refine W.exit ?_
 have az:=M.e_inr hM ai
 subst az;replace hM:=ap;(try dsimp only at hM);refine kg 4 ?_;refine W.ret ?_
 have ac:=M.e_pure hM
 exact ⟨_,resE_tmp rfl,⟨true,ac,rfl,H⟩⟩

def za0 (n_Marks:Int) (n_Lines:List Line) (ab:List Leg) (r0:Int) (r1:List Line) (r3:List Leg):M Bool :=
  M.bind (zaZ r0 r1 n_Marks n_Lines) fun r9 =>
  M.bind (M.opt r9 (zbU r3 ab) false) fun aa =>
  M.bind (M.opt (r9&&aa) (zax) false) fun ac =>
  M.pure ((r9&&aa)&&ac)
def zbp (n_Marks:Int) (n_Lines:List Line) (ac:List Leg) (r0:Int) (r1:List Line) (r3:List Leg) (s2:Int):M Bool :=
  M.bind (zcw r0 r1) fun (aa,ab) =>
  bif ((ab != s2)||((ab != 0)&&(decide (0<(aa.length:Int))))) then (
  M.pure false)
  else (
  bif ab==0 then (
  M.bind (zad n_Marks n_Lines) fun (aj,al) =>
  M.bind (zaT aa) fun r7 =>
  M.bind (za7 aj al r7) fun (ae,ag,ah,ai) =>
  M.bind (M.opt (!(((ai != 0)||(ae != ag))||(decide (0<=ah)))) (zbi n_Marks n_Lines aa false) false) fun r8 =>
  bif ((((ai != 0)||(ae != ag))||(decide (0<=ah)))||r8) then (
  M.pure false)
  else (
  za0 n_Marks n_Lines ac r0 r1 r3))
  else (
  za0 n_Marks n_Lines ac r0 r1 r3))
def zbm (n_Marks:Int) (n_Lines:List Line) (aa:List Leg) (r0:Int) (r1:List Line) (r3:List Leg):M Bool :=
  M.bind (zad n_Marks n_Lines) fun (ab,ac) =>
  M.bind (zbj ab ac) fun (ae,ag) =>
  bif ae then (
  zbp n_Marks n_Lines aa r0 r1 r3 5)
  else (
  zbp n_Marks n_Lines aa r0 r1 r3 ag)
def zbh (n_Marks:Int) (n_Lines:List Line) (aa ab:Int) (ag:List Leg) (r0:Int) (r1:List Line) (r3:List Leg) (ah s:Int):M Bool :=
  M.bind (zcQ r0 r1 aa ab) fun (ac,ae) =>
  bif ((ae != s)||((ae != 0)&&(decide (0<(ac.length:Int))))) then (
  M.pure false)
  else (
  bif ae==0 then (
  M.bind (zad n_Marks n_Lines) fun (ao,ap) =>
  M.bind (zaT ac) fun r5 =>
  M.bind (za7 ao ap r5) fun (ai,aj,al,am) =>
  M.bind (M.opt (!((((am != 0)||(ai != aa))||(aj != ab))||(al != ah))) (zbi n_Marks n_Lines ac true) false) fun r6 =>
  bif (((((am != 0)||(ai != aa))||(aj != ab))||(al != ah))||r6) then (
  M.pure false)
  else (
  zbm n_Marks n_Lines ag r0 r1 r3))
  else (
  zbm n_Marks n_Lines ag r0 r1 r3))
def zaG (n_Marks:Int) (n_Lines:List Line) (aa ab:Int) (ac:List Leg):M Bool :=
  bif ((decide (35<(n_Lines.length:Int)))||(decide (70<(ac.length:Int)))) then (
  M.bind (zax) fun r2 =>
  M.pure r2)
  else (
  M.bind (za2 n_Marks n_Lines) fun (r0,r1) =>
  M.bind (zcO ac) fun r3 =>
  M.bind (zaj r0 r1 aa ab) fun (ah,ai,aj) =>
  M.bind (zad n_Marks n_Lines) fun (al,am) =>
  M.bind (zaF al am aa ab) fun (ao,ag,ae) =>
  bif ((!(decide ((⟨(ah:Int),(ai:Int)⟩:Span)=(⟨(ao:Int),(ag:Int)⟩:Span))))||(aj != ae)) then (
  M.pure false)
  else (
  M.bind (zbs r0 r1 r3) fun (ap,aq,ar,au) =>
  M.bind (zad n_Marks n_Lines) fun (av,aw) =>
  M.bind (zaT ac) fun r4 =>
  M.bind (za7 av aw r4) fun (ax,ay,az,aA) =>
  bif ((((ap != ax)||(aq != ay))||(ar != az))||(au != aA)) then (
  M.pure false)
  else (
  bif ((aa==ab)&&((ae==0)||(ae==7))) then (
  zbh n_Marks n_Lines aa ab ac r0 r1 r3 ag 2)
  else (
  zbh n_Marks n_Lines aa ab ac r0 r1 r3 ag ae))))
theorem zcD {R:List Chunk} {ba:Cells} {ac:Value} {bb:Cells} {al:Value} (n_Marks:Int) (n_Lines:List Line) (ag:Int) (ah:Int) (am:List Leg) (ap:Reads R ba) (ao:Sl ba ac n_Lines) (aN:Reads R bb) (aI:Sl bb al am) {r:Bool} (hM:(zaG n_Marks n_Lines ag ah am).Ends r) (w:World) (H:St w w [] R):Ret Tryz.prog 6 #[.agg #[I n_Marks,ac],I ag,I ah,al] w fun v w'=>∃ (y0:Bool),y0=r/\v=B y0/\St w w' [] R:=by
 refine ret_of_W Tryz.func6 rfl rfl rfl ?_;refine kg 2 ?_;refine t_bx [I n_Marks,ac] H rfl ?_;intro aq co H
 have cp:=(ao).len_le
 have cq:=(aI).len_le
 refine kg 15 ?_
 refine W.cond ((decide (35<(n_Lines.length:Int)))||(decide (70<(am.length:Int)))) rfl (fun aO=>?_) (fun aO=>?_)
 ·replace hM:=M.e_t hM aO;refine kg 2 ?_;obtain ⟨cr,bA,hM⟩:=M.e_bind hM;refine s_call cf11 [] rfl (zau bA _ (H.gt 1)) ?_
  rintro vq ct ⟨r2,rfl,hvq,aa⟩
  subst vq;(try dsimp only at hM);replace H:=H.bk aa;clear aa;refine kg 2 ?_;refine W.ret ?_
  have ab:=M.e_pure hM
  exact ⟨_,resE_tmp rfl,⟨r2,ab,rfl,(H.pk [])⟩⟩
 replace hM:=M.e_f hM aO;refine kg 4 ?_;obtain ⟨cu,bB,hM⟩:=M.e_bind hM;refine s_call cf12 [.agg #[I n_Marks,ac]] rfl (zcX n_Marks n_Lines (ap.app _) ao bB _ (H.gt 1)) ?_
 rintro vq cv ⟨r0,r1,ae,rfl,hvq,aa⟩
 subst vq;(try dsimp only at hM);replace H:=H.bk aa;clear aa;refine kg 1 ?_;obtain ⟨cw,bC,hM⟩:=M.e_bind hM;refine s_call cf23 [al] rfl (zdS am (aN.app _) aI bC _ (H.gt 2)) ?_
 rintro vq cx ⟨r3,ai,rfl,hvq,aa⟩
 subst vq;(try dsimp only at hM);replace H:=H.bk aa;clear aa;refine t_alloc (cs:=[I 0,.slice none 0 0]) H Al25 rfl ?_;intro ar cy H;refine t_sw 0 0 [I r0,ae] (.agg #[I r0,ae]) H rfl rfl Sz25 rfl rfl rfl (by simp only [List.all_cons,List.all_nil,Bool.true_and,Bool.and_true,Sl.oc (H.os 2)]; try rfl) ?_;intro cz H;refine kg 7 ?_;obtain ⟨cA,bD,hM⟩:=M.e_bind hM;refine s_call cf9 [.agg #[I r0,ae],I ag,I ah] rfl (zcI r0 r1 ag ah (rdo 2) (H.os 2) bD _ (H.gt 4)) ?_
 rintro vq cB ⟨au,av,bE,rfl,hvq,aa⟩
 subst vq;(try dsimp only at hM);replace H:=H.bk aa;clear aa;refine kg 3 ?_;refine t_alloc (cs:=[I 0,I 0]) H Al42 rfl ?_;intro aJ cC H;refine t_sw 0 0 [I au,I av] (.agg #[I au,I av]) H rfl rfl Sz42 rfl rfl rfl rfl ?_;intro cD H;refine kg 5 ?_;obtain ⟨cE,bF,hM⟩:=M.e_bind hM;refine s_call cf15 [.agg #[I n_Marks,ac]] rfl (zac n_Marks n_Lines (ap.app _) ao bF _ (H.gt 5)) ?_
 rintro vq cF ⟨bc,aC,aD,rfl,hvq,aa⟩
 subst vq;(try dsimp only at hM);replace H:=H.bk aa;clear aa;refine kg 2 ?_;obtain ⟨cG,bG,hM⟩:=M.e_bind hM;refine s_call cf24 [.agg #[I bc,aD],I ag,I ah] rfl (zdL bc aC ag ah (rdo 0) (H.os 0) bG _ (H.gt 6)) ?_
 rintro vq cH ⟨aw,aj,aK,rfl,hvq,aa⟩
 subst vq;(try dsimp only at hM);replace H:=H.bk aa;clear aa;refine kg 3 ?_;refine t_alloc (cs:=[I 0,I 0]) H Al42 rfl ?_;intro aE cI H;refine t_sw 0 0 [I aw,I aj] (.agg #[I aw,I aj]) H rfl rfl Sz42 rfl rfl rfl rfl ?_;intro cJ H;refine kg 7 ?_;refine s_val (x_neS (eqT42 (⟨(au:Int),(av:Int)⟩:Span) (⟨(aw:Int),(aj:Int)⟩:Span) _) gdT42 rfl rfl) ?_;refine kg 6 ?_
 refine W.cond ((!(decide ((⟨(au:Int),(av:Int)⟩:Span)=(⟨(aw:Int),(aj:Int)⟩:Span))))||(bE != aK)) rfl (fun aP=>?_) (fun aP=>?_)
 ·replace hM:=M.e_t hM aP;refine kg 4 ?_;refine W.ret ?_
  have ab:=M.e_pure hM
  exact ⟨_,resE_tmp rfl,⟨false,ab,rfl,(H.pk [])⟩⟩
 replace hM:=M.e_f hM aP;refine kg 5 ?_;obtain ⟨cK,bH,hM⟩:=M.e_bind hM;refine s_call cf25 [.agg #[I r0,ae],ai] rfl (zcT r0 r1 r3 (rdo 5) (H.os 5) (rdo 4) (H.os 4) bH _ (H.gt 7)) ?_
 rintro vq cL ⟨bI,bJ,bK,bL,rfl,hvq,aa⟩
 subst vq;(try dsimp only at hM);replace H:=H.bk aa;clear aa;refine kg 13 ?_;obtain ⟨cM,bM,hM⟩:=M.e_bind hM;refine s_call cf15 [.agg #[I n_Marks,ac]] rfl (zac n_Marks n_Lines (ap.app _) ao bM _ (H.gt 7)) ?_
 rintro vq cN ⟨bg,aF,aG,rfl,hvq,aa⟩
 subst vq;(try dsimp only at hM);replace H:=H.bk aa;clear aa;refine kg 1 ?_;obtain ⟨cO,bN,hM⟩:=M.e_bind hM;refine s_call cf27 [al] rfl (zcS am (aN.app _) aI bN _ (H.gt 8)) ?_
 rintro vq cP ⟨r4,aH,rfl,hvq,aa⟩
 subst vq;(try dsimp only at hM);replace H:=H.bk aa;clear aa;obtain ⟨cQ,bO,hM⟩:=M.e_bind hM;refine s_call cf26 [.agg #[I bg,aG],aH] rfl (zcZ bg aF r4 (rdo 1) (H.os 1) (rdo 0) (H.os 0) bO _ (H.gt 9)) ?_
 rintro vq cR ⟨bP,bQ,bR,bS,rfl,hvq,aa⟩
 subst vq;(try dsimp only at hM);replace H:=H.bk aa;clear aa;refine kg 32 ?_
 refine W.cond ((((bI != bP)||(bJ != bQ))||(bK != bR))||(bL != bS)) rfl (fun aQ=>?_) (fun aQ=>?_)
 ·replace hM:=M.e_t hM aQ;refine kg 4 ?_;refine W.ret ?_
  have ab:=M.e_pure hM
  exact ⟨_,resE_tmp rfl,⟨false,ab,rfl,(H.pk [])⟩⟩
 replace hM:=M.e_f hM aQ;refine W.skip ?_;refine W.seqJ (fun σ W=>∃ (s:Int) (ρ:Env),σ=upds ρ [(1,I ag),(2,I ah),(3,al),(4,Pq aq),(9,Pq ar),(10,ai),(13,Pq aE),(14,I s)]/\(zbh n_Marks n_Lines ag ah am r0 r1 r3 aj s).Ends r/\St w W [cOwn (α:=Leg) 120 aH r4,cOwn (α:=Line) 106 aG aF,cBlk aE [I aw,I aj] 42,cOwn (α:=Line) 106 aD aC,cBlk aJ [I au,I av] 42,cBlk ar [I r0,ae] 25,cOwn (α:=Leg) 28 ai r3,cOwn (α:=Line) 34 ae r1,cBlk aq [I n_Marks,ac] 25] R) ?_ ?_
 ·skip
  refine kg 14 ?_
  refine W.cond ((ag==ah)&&((aK==0)||(aK==7))) rfl (fun aR=>?_) (fun aR=>?_)
  ·replace hM:=M.e_t hM aR;refine kg 3 ?_
   exact ⟨2,_,upds_of _ _ ⟨rfl,rfl,rfl,rfl,rfl,rfl,rfl,rfl,trivial⟩,hM,H⟩
  replace hM:=M.e_f hM aR;refine W.skip ?_
  exact ⟨aK,_,upds_of _ _ ⟨rfl,rfl,rfl,rfl,rfl,rfl,rfl,rfl,trivial⟩,hM,H⟩
 rintro _ cT ⟨s,ρ,rfl,hM,H⟩
 unfold zbh at hM
 refine kg 5 ?_;obtain ⟨cU,bT,hM⟩:=M.e_bind hM;refine s_call cf28 [.agg #[I r0,ae],I ag,I ah] rfl (zdx r0 r1 ag ah (rdo 7) (H.os 7) bT _ (H.gt 9)) ?_
 rintro vq cV ⟨aA,aS,aB,rfl,hvq,aa⟩
 subst vq;(try dsimp only at hM);replace H:=H.bk aa;clear aa;refine kg 22 ?_
 refine W.cond ((aS != s)||((aS != 0)&&(decide (0<(aA.length:Int))))) rfl (fun aT=>?_) (fun aT=>?_)
 ·replace hM:=M.e_t hM aT;refine kg 4 ?_;refine W.ret ?_
  have ab:=M.e_pure hM
  exact ⟨_,resE_tmp rfl,⟨false,ab,rfl,(H.pk [])⟩⟩
 replace hM:=M.e_f hM aT;refine W.skip ?_;refine W.seqJ (fun σ W=>∃ (ρ:Env),σ=upds ρ [(3,al),(4,Pq aq),(9,Pq ar),(10,ai)]/\(zbm n_Marks n_Lines am r0 r1 r3).Ends r/\St w W [cOwn (α:=Leg) 28 aB aA,cOwn (α:=Leg) 120 aH r4,cOwn (α:=Line) 106 aG aF,cBlk aE [I aw,I aj] 42,cOwn (α:=Line) 106 aD aC,cBlk aJ [I au,I av] 42,cBlk ar [I r0,ae] 25,cOwn (α:=Leg) 28 ai r3,cOwn (α:=Line) 34 ae r1,cBlk aq [I n_Marks,ac] 25] R) ?_ ?_
 ·skip
  refine kg 5 ?_
  refine W.cond (aS==0) rfl (fun ax=>?_) (fun ax=>?_)
  ·replace hM:=M.e_t hM ax
   replace ax:=dI ax
   refine kg 3 ?_;obtain ⟨cW,bU,hM⟩:=M.e_bind hM;refine s_call cf15 [.agg #[I n_Marks,ac]] rfl (zac n_Marks n_Lines (ap.app _) ao bU _ (H.gt 10)) ?_
   rintro vq cX ⟨bh,bV,bW,rfl,hvq,aa⟩
   subst vq;(try dsimp only at hM);replace H:=H.bk aa;clear aa;refine kg 1 ?_;obtain ⟨cY,bX,hM⟩:=M.e_bind hM;refine s_call cf27 [aB] rfl (zcS aA (rdo 1) (H.os 1) bX _ (H.gt 11)) ?_
   rintro vq cZ ⟨r5,bY,rfl,hvq,aa⟩
   subst vq;(try dsimp only at hM);replace H:=H.bk aa;clear aa;obtain ⟨c5,bZ,hM⟩:=M.e_bind hM;refine s_call cf26 [.agg #[I bh,bW],bY] rfl (zcZ bh bV r5 (rdo 1) (H.os 1) (rdo 0) (H.os 0) bZ _ (H.gt 12)) ?_
   rintro vq c6 ⟨bi,bj,bn,bp,rfl,hvq,aa⟩
   subst vq;(try dsimp only at hM);replace H:=H.bk aa;clear aa;refine kg 33 ?_;obtain ⟨r6,b0,hM⟩:=M.e_bind hM;refine t_gcall (!((((bp != 0)||(bi != ag))||(bj != ah))||(bn != aj))) (gy_f rfl) cf29 (B r6) (fun _=>[.agg #[I n_Marks,ac],aB,B true]) (fun hg=>lst3 (gd_of hg (.agg #[I n_Marks,ac])) (gd_of hg (aB)) rfl) H (fun hg=>(zdk n_Marks n_Lines aA true (ap.app _) ao (rdo 2) (H.os 2) (M.e_opt b0 hg) _ (H.give (A:=[]) rfl)).mono fun v_ w_ ⟨y_,ab,ay,H_⟩=>by subst ab; exact ⟨ay,H.via H_⟩) ?_;intro c7 H;refine kg 2 ?_
   refine W.cond (((((bp != 0)||(bi != ag))||(bj != ah))||(bn != aj))||r6) rfl (fun aU=>?_) (fun aU=>?_)
   ·replace hM:=M.e_t hM aU;refine kg 4 ?_;refine W.ret ?_
    have ab:=M.e_pure hM
    exact ⟨_,resE_tmp rfl,⟨false,ab,rfl,(H.pk [])⟩⟩
   replace hM:=M.e_f hM aU;refine W.skip ?_
   exact ⟨_,upds_of _ _ ⟨rfl,rfl,rfl,rfl,trivial⟩,hM,(H.pk [2,3,4,5,6,7,8,9,10,11])⟩
  replace hM:=M.e_f hM ax
  replace ax:=dI ax
  refine W.skip ?_
  exact ⟨_,upds_of _ _ ⟨rfl,rfl,rfl,rfl,trivial⟩,hM,H⟩
 rintro _ c8 ⟨ρ,rfl,hM,H⟩
 unfold zbm at hM
 refine kg 3 ?_;obtain ⟨c9,b7,hM⟩:=M.e_bind hM;refine s_call cf15 [.agg #[I n_Marks,ac]] rfl (zac n_Marks n_Lines (ap.app _) ao b7 _ (H.gt 10)) ?_
 rintro vq da ⟨br,aV,aW,rfl,hvq,aa⟩
 subst vq;(try dsimp only at hM);replace H:=H.bk aa;clear aa;obtain ⟨db,b8,hM⟩:=M.e_bind hM;refine s_call cf17 [.agg #[I br,aW]] rfl (zdj br aV (rdo 0) (H.os 0) b8 _ (H.gt 11)) ?_
 rintro vq dc ⟨b9,ca,rfl,hvq,aa⟩
 subst vq;(try dsimp only at hM);replace H:=H.bk aa;clear aa;refine kg 6 ?_;refine W.seqJ (fun σ W=>∃ (s2:Int) (ρ:Env),σ=upds ρ [(3,al),(4,Pq aq),(9,Pq ar),(10,ai),(14,I s2)]/\(zbp n_Marks n_Lines am r0 r1 r3 s2).Ends r/\St w W [cOwn (α:=Line) 106 aW aV,cOwn (α:=Leg) 28 aB aA,cOwn (α:=Leg) 120 aH r4,cOwn (α:=Line) 106 aG aF,cBlk aE [I aw,I aj] 42,cOwn (α:=Line) 106 aD aC,cBlk aJ [I au,I av] 42,cBlk ar [I r0,ae] 25,cOwn (α:=Leg) 28 ai r3,cOwn (α:=Line) 34 ae r1,cBlk aq [I n_Marks,ac] 25] R) ?_ ?_
 ·skip
  refine kg 4 ?_
  refine W.cond b9 rfl (fun aX=>?_) (fun aX=>?_)
  ·replace hM:=M.e_t hM aX;refine kg 3 ?_
   exact ⟨5,_,upds_of _ _ ⟨rfl,rfl,rfl,rfl,rfl,trivial⟩,hM,H⟩
  replace hM:=M.e_f hM aX;refine W.skip ?_
  exact ⟨ca,_,upds_of _ _ ⟨rfl,rfl,rfl,rfl,rfl,trivial⟩,hM,H⟩
 rintro _ dh ⟨s2,ρ,rfl,hM,H⟩
 unfold zbp at hM
 refine kg 3 ?_;obtain ⟨di,cb,hM⟩:=M.e_bind hM;refine s_call cf30 [.agg #[I r0,ae]] rfl (zdB r0 r1 (rdo 9) (H.os 9) cb _ (H.gt 11)) ?_
 rintro vq dj ⟨aL,aY,aM,rfl,hvq,aa⟩
 subst vq;(try dsimp only at hM);replace H:=H.bk aa;clear aa;refine kg 22 ?_
 refine W.cond ((aY != s2)||((aY != 0)&&(decide (0<(aL.length:Int))))) rfl (fun aZ=>?_) (fun aZ=>?_)
 ·replace hM:=M.e_t hM aZ;refine kg 4 ?_;refine W.ret ?_
  have ab:=M.e_pure hM
  exact ⟨_,resE_tmp rfl,⟨false,ab,rfl,(H.pk [])⟩⟩
 replace hM:=M.e_f hM aZ;refine W.skip ?_;refine W.seqJ (fun σ W=>∃ (ρ:Env),σ=upds ρ [(3,al),(4,Pq aq),(9,Pq ar),(10,ai)]/\(za0 n_Marks n_Lines am r0 r1 r3).Ends r/\St w W [cOwn (α:=Leg) 28 aM aL,cOwn (α:=Line) 106 aW aV,cOwn (α:=Leg) 28 aB aA,cOwn (α:=Leg) 120 aH r4,cOwn (α:=Line) 106 aG aF,cBlk aE [I aw,I aj] 42,cOwn (α:=Line) 106 aD aC,cBlk aJ [I au,I av] 42,cBlk ar [I r0,ae] 25,cOwn (α:=Leg) 28 ai r3,cOwn (α:=Line) 34 ae r1,cBlk aq [I n_Marks,ac] 25] R) ?_ ?_
 ·skip
  refine kg 5 ?_
  refine W.cond (aY==0) rfl (fun az=>?_) (fun az=>?_)
  ·replace hM:=M.e_t hM az
   replace az:=dI az
   refine kg 3 ?_;obtain ⟨dk,cd,hM⟩:=M.e_bind hM;refine s_call cf15 [.agg #[I n_Marks,ac]] rfl (zac n_Marks n_Lines (ap.app _) ao cd _ (H.gt 12)) ?_
   rintro vq dl ⟨bt,ce,cf,rfl,hvq,aa⟩
   subst vq;(try dsimp only at hM);replace H:=H.bk aa;clear aa;refine kg 1 ?_;obtain ⟨dm,cg,hM⟩:=M.e_bind hM;refine s_call cf27 [aM] rfl (zcS aL (rdo 1) (H.os 1) cg _ (H.gt 13)) ?_
   rintro vq dp ⟨r7,ch,rfl,hvq,aa⟩
   subst vq;(try dsimp only at hM);replace H:=H.bk aa;clear aa;obtain ⟨dt,ci,hM⟩:=M.e_bind hM;refine s_call cf26 [.agg #[I bt,cf],ch] rfl (zcZ bt ce r7 (rdo 1) (H.os 1) (rdo 0) (H.os 0) ci _ (H.gt 14)) ?_
   rintro vq du ⟨bu,bv,bw,bx,rfl,hvq,aa⟩
   subst vq;(try dsimp only at hM);replace H:=H.bk aa;clear aa;refine kg 26 ?_;obtain ⟨r8,cj,hM⟩:=M.e_bind hM;refine t_gcall (!(((bx != 0)||(bu != bv))||(decide (0<=bw)))) (gy_f rfl) cf29 (B r8) (fun _=>[.agg #[I n_Marks,ac],aM,B false]) (fun hg=>lst3 (gd_of hg (.agg #[I n_Marks,ac])) (gd_of hg (aM)) rfl) H (fun hg=>(zdk n_Marks n_Lines aL false (ap.app _) ao (rdo 2) (H.os 2) (M.e_opt cj hg) _ (H.give (A:=[]) rfl)).mono fun v_ w_ ⟨y_,ab,ay,H_⟩=>by subst ab; exact ⟨ay,H.via H_⟩) ?_;intro dv H;refine kg 2 ?_
   refine W.cond ((((bx != 0)||(bu != bv))||(decide (0<=bw)))||r8) rfl (fun a7=>?_) (fun a7=>?_)
   ·replace hM:=M.e_t hM a7;refine kg 4 ?_;refine W.ret ?_
    have ab:=M.e_pure hM
    exact ⟨_,resE_tmp rfl,⟨false,ab,rfl,(H.pk [])⟩⟩
   replace hM:=M.e_f hM a7;refine W.skip ?_
   exact ⟨_,upds_of _ _ ⟨rfl,rfl,rfl,rfl,trivial⟩,hM,(H.pk [2,3,4,5,6,7,8,9,10,11,12,13])⟩
  replace hM:=M.e_f hM az
  replace az:=dI az
  refine W.skip ?_
  exact ⟨_,upds_of _ _ ⟨rfl,rfl,rfl,rfl,trivial⟩,hM,H⟩
 rintro _ dw ⟨ρ,rfl,hM,H⟩
 unfold za0 at hM
 refine kg 4 ?_;obtain ⟨dx,ck,hM⟩:=M.e_bind hM;refine s_call cf21 [.agg #[I r0,ae],.agg #[I n_Marks,ac]] rfl (zaA r0 r1 n_Marks n_Lines (rdo 10) (H.os 10) (ap.app _) ao ck _ (H.gt 12)) ?_
 rintro vq dy ⟨r9,rfl,hvq,aa⟩
 subst vq;(try dsimp only at hM);replace H:=H.bk aa;clear aa;refine kg 3 ?_;obtain ⟨a8,cm,hM⟩:=M.e_bind hM;refine t_gcall r9 (gy_t rfl) cf31 (B a8) (fun _=>[ai,al]) (fun hg=>lst2 (gd_of hg (ai)) (gd_of hg (al))) H (fun hg=>(zdD r3 am (rdo 9) (H.os 9) (aN.app _) aI (M.e_opt cm hg) _ (H.give (A:=[]) rfl)).mono fun v_ w_ ⟨y_,ab,ay,H_⟩=>by subst ab; exact ⟨ay,H.via H_⟩) ?_;intro dz H;refine kg 2 ?_;obtain ⟨bz,cn,hM⟩:=M.e_bind hM;refine t_gcall (r9&&a8) (gy_t rfl) cf11 (B bz) (fun _=>[]) (fun _=>rfl) H (fun hg=>(zau (M.e_opt cn hg) _ (H.give (A:=[]) rfl)).mono fun v_ w_ ⟨y_,ab,ay,H_⟩=>by subst ab; exact ⟨ay,H.via H_⟩) ?_;intro dA H;refine kg 3 ?_;refine W.ret ?_
 have ab:=M.e_pure hM
 exact ⟨_,resE_tmp rfl,⟨((r9&&a8)&&bz),ab,rfl,(H.pk [])⟩⟩

end Go.Proofs.YtfdgkdkfbaghpaaGreat
end
