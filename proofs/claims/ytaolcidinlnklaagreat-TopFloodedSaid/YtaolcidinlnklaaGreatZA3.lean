/- Part 3 of the texts on which the proof rests. Conditions: none. -/
import Derived.Test.YtaolcidinlnklaaGreatProg
import Derived.Shelf.SlIterI.Nil
import Derived.Shelf.SortM.Plain
import Derived.Shelf.SortM.SortNone
import Derived.Test.YtaolcidinlnklaaGreatZA2
set_option linter.unusedVariables false
set_option linter.unusedSimpArgs false
set_option linter.unusedSectionVars false
section
set_option maxRecDepth 100000
set_option maxHeartbeats 16000000
namespace Go.Proofs.YtaolcidinlnklaaGreat
open Go Go.Nm
attribute [local irreducible] gd execOp SL SLD SLT WR
def zai (aa:Int) (ac:List Line) (ae:Int) (s3:Nat):((List Int) × (List Leg))->Leg->M (((List Int) × (List Leg)) ⊕ Unit):=fun (s,s2) x =>
  M.bind (zbc aa ac x) fun r2 =>
  M.bind (zb6 ([(s.getD ((Int.toNat ae)*13+s3) 0:Int),(r2:Int)])) fun r3 =>
  M.bind (zaC aa ac x) fun r4 =>
  M.grd (decide ((0:Int)<=r4)&&decide (r4<(13:Int))) <|
  bif decide (r3<(s.getD ((Int.toNat ae)*13+(Int.toNat r4)) 0)) then (
  M.bind (zaC aa ac x) fun r5 =>
  M.bind (zaC aa ac x) fun r6 =>
  M.grd (decide ((0:Int)<=r5)&&decide (r5<(13:Int))) <|
  M.grd (decide ((0:Int)<=r6)&&decide (r6<(13:Int))) <|
  M.pure (.inl (s.set ((Int.toNat ae)*13+(Int.toNat r5)) r3,s2.set ((Int.toNat ae)*13+(Int.toNat r6)) x)))
  else (
  M.pure (.inl (s,s2)))
def zbw (aa:Int) (ac:List Line) (ae:Int):(Nat × (List Int) × (List Leg))->M ((Nat × (List Int) × (List Leg)) ⊕ ((List Int) × (List Leg))):=fun (s3,s4,s5) =>
  bif decide ((s3:Int)<aa) then (
  M.grd (decide ((0:Int)<=(s3:Int))&&decide ((s3:Int)<(13:Int))) <|
  bif (s4.getD ((Int.toNat ae)*13+s3) 0)==1099511627776 then (
  M.gi ((s3:Int)+1) <|
  M.pure (.inl (s3+1,s4,s5)))
  else (
  M.bind (zer aa ac (s3:Int)) fun ag =>
  M.bind (zap (M.yl (zai aa ac ae s3)) (.inl (s4,s5)) aa ac ag) fun x_=>match x_ with
  | .inl (s,s2)=>(
  M.gi ((s3:Int)+1) <|
  M.pure (.inl (s3+1,s,s2)))
  | .inr _=>M.fail))
  else (
  M.pure (.inr (s4,s5)))
def zbs (aa:Int) (ac:List Line) (ae:Int):((List Int) × (List Leg) × Nat)->M (((List Int) × (List Leg) × Nat) ⊕ ((List Int) × (List Leg))):=fun (s6,s7,s8) =>
  bif decide ((s8:Int)<aa) then (
  M.bind (M.iter (zbw aa ac ae) (0,s6,s7)) fun (l,l2) =>
  M.gi ((s8:Int)+1) <|
  M.pure (.inl (l,l2,s8+1)))
  else (
  M.pure (.inr (s6,s7)))
def za2 (ac:Int) (ae:List Line) (ag:List Int) (ah:List Leg) (aa:Int):M ((List Int) × (List Leg)) :=
  M.grd (decide ((0:Int)<=aa)&&decide (aa<(13:Int))) <|
  M.bind (M.iter (zbs ac ae aa) (ag,ah,0)) fun (l3,l4) =>
  M.pure (l3,l4)
theorem zgg {R ac br ag}(ae ap aL aM aa)(aN:Reads R br)(aV:Sl br ag ap)(bt:aL.length=169)(bu:aM.length=169){r}(hM:(za2 ae ap aL aM aa).Ends r)(w)(H:St w w [cBlk ac (List.flatten [[I ae,ag],encF (α:=Int) aL,encF (α:=Leg) aM]) 117] R):Ret Tryz.prog 227 #[Pq ac,I aa] w fun v w'=>∃ y0 y1,(y0,y1)=r/\v = .tuple #[]/\St w w' [cBlk ac (List.flatten [[I ae,ag],encF (α:=Int) y0,encF (α:=Leg) y1]) 117] R/\y0.length=169/\y1.length=169:=by
 refine ret_of_WD Tryz.func227 rfl rfl rfl ?_;replace H:St w w [cMk ([]),cBlk ac (List.flatten [[I ae,ag],encF (α:=Int) aL,encF (α:=Leg) aM]) 117] R:=H.mk0;have cp:=aV.len_le;unfold za2 at hM;refine WD.seq<|WD.of ?_;refine kB 1 ?_;intro aj cr H;refine s_nil<|WD.seq<|WD.of ?_;refine kDT 0 [0,1,2] (.q 0 (.q 1 (.q 2 (.q 3 (.q 4 (.q 5 (.q 6 (.q 7 (.q 8 (.q 9 (.l2 10 (.l 11 (.l 12 (.l 13 .nil))) 11 (.l 10 (.l 12 (.l 13 .nil)))))))))))))) ?_;intro ct H;obtain ⟨cv,hM⟩:=M.e_gq hM;refine kg 4 ?_;refine t_q rfl (fun w' H=>x_ix (v:=.pointer (some ⟨ac,2+Int.toNat aa*13,none⟩)) rfl rfl (run_indexS Tryz.underlying111 Sz109.h (by omega) (by omega))) ?_;refine kg 4 ?_;refine t_q rfl (fun w' H=>x_ix (v:=.pointer (some ⟨ac,171+Int.toNat aa*26,none⟩)) rfl rfl (run_indexS Tryz.underlying115 Sz114.h (by omega) (by omega))) ?_;refine t_l2 rfl rfl ?_ ?_
 ·refine kal ?_;intro ah cw H;refine kN ?_;refine kA 1 ?_;intro ai cA H;refine kN ?_;refine kS 1 ?_;intro cB H;refine kN ?_;refine kS 1 ?_;intro cC H;refine kN ?_;refine t_nil<|WD.seq<|WD.of ?_;refine kg 8 ?_;refine WD.block ?_;obtain ⟨bK,aW,bL⟩:=M.e_bind hM
  obtain ⟨aX,aW⟩:=M.e_iter aW;refine WD.loop (fun m bv σ W=>∃ (s6:List Int) (s7:List Leg) (s8:Nat) (ρ:Env),σ=upds ρ [(2,Pq aj),(4,Pq ah),(5,Pq ai),(23,I ae),(24,I (s8:Int))]/\M.iterN (zbs ae ap aa) m (s6,s7,s8)=some bK/\St w W [cBlk ai [.pointer (some ⟨ac,171+Int.toNat aa*26,none⟩)] 360,cBlk ah [.pointer (some ⟨ac,2+Int.toNat aa*13,none⟩)] 359,cBlk aj [Pq ac] 106,cMk bv,cBlk ac (List.flatten [[I ae,ag],encF (α:=Int) s6,encF (α:=Leg) s7]) 117] R/\s6.length=169/\s7.length=169) ?_ ?_
  ·exact ⟨_,aL,aM,0,_,jQ,aW,H,bt,bu⟩
  rintro cD bv σ cE ⟨s6,s7,s8,ρ,rfl,bN,H,aO,aP⟩;obtain ⟨bO,bP,cF,hM,bw⟩:=M.e_iterN bN;refine WD.seq<|WD.of ?_;refine kg 3 ?_;refine WD.seq ?_
  refine WD.cond (decide ((s8:Int)<ae)) rfl (fun aA=>?_) (fun aA=>?_)
  ·replace hM:=M.e_t hM aA;replace aA:=dI aA;refine WD.of<|W.skip<|WD.seq<|WD.block<|WD.seq<|WD.of ?_;refine kg 8 ?_;refine WD.block ?_;obtain ⟨bQ,aY,bR⟩:=M.e_bind hM
   obtain ⟨aX,aY⟩:=M.e_iter aY;refine WD.loop (fun m aB σ W=>∃ (s3:Nat) (s4:List Int) (s5:List Leg) (ρ:Env),σ=upds ρ [(2,Pq aj),(4,Pq ah),(5,Pq ai),(23,I ae),(24,I (s8:Int)),(30,I ae),(31,I (s3:Int))]/\M.iterN (zbw ae ap aa) m (s3,s4,s5)=some bQ/\St w W [cBlk ai [.pointer (some ⟨ac,171+Int.toNat aa*26,none⟩)] 360,cBlk ah [.pointer (some ⟨ac,2+Int.toNat aa*13,none⟩)] 359,cBlk aj [Pq ac] 106,cMk aB,cBlk ac (List.flatten [[I ae,ag],encF (α:=Int) s4,encF (α:=Leg) s5]) 117] R/\s4.length=169/\s5.length=169) ?_ ?_
   ·exact ⟨_,0,s6,s7,_,jQ,aY,H,aO,aP⟩
   rintro cG aB σ cH ⟨s3,s4,s5,ρ,rfl,bS,H,aw,aC⟩;obtain ⟨bx,bz,cI,hM,aZ⟩:=M.e_iterN bS;refine WD.seq<|WD.of ?_;refine kg 3 ?_;refine WD.seq ?_
   refine WD.cond (decide ((s3:Int)<ae)) rfl (fun aD=>?_) (fun aD=>?_)
   ·replace hM:=M.e_t hM aD;replace aD:=dI aD;refine WD.of<|W.skip<|WD.seq<|WD.block<|WD.seq<|WD.of ?_;refine kA 2 ?_;intro aq cJ H;refine ksw ?_;intro cK H;refine s_nil<|WD.seq<|WD.seq<|WD.of ?_;refine kD 0 [0,1,2,3,4,5] [] ?_;intro cL H;obtain ⟨cM,hM⟩:=M.e_gq hM;refine kg 3 ?_;refine d_q rfl (fun w' H=>x_ix (v:=.pointer (some ⟨ac,(2+Int.toNat aa*13)+Int.toNat (s3:Int)*1,none⟩)) rfl rfl (run_indexS Tryz.underlying109 Sz3.h (by omega) (by omega)))<|d_q rfl (fun w' H=>x_ld (v:=I (s4.getD ((Int.toNat aa)*13+s3) 0)) rfl (ldS (α:=Int) (k:=1) (off:=2) (i:=(Int.toNat aa)*13+s3) (f:=0) (sz:=1) 0 Sc3.h (H.bl 5) rfl (sgo1 rfl) rfl (by decide) (by have ax:=aw; omega) (by omega) rfl)) ?_;refine kg 2 ?_
    refine WD.cond ((s4.getD ((Int.toNat aa)*13+s3) 0)==1099511627776) rfl (fun aE=>?_) (fun aE=>?_)
    ·replace hM:=M.e_t hM aE;replace aE:=dI aE;refine WD.of ?_;refine W.exit<|WD.of ?_;obtain ⟨cN,hM⟩:=M.e_gq hM;refine kg 4 ?_
     exact ⟨bx,bz,s3+1,s4,s5,_,jQ,M.e_inl hM aZ,(H.pk [1,2,3,4,5]),aw,aC⟩
    replace hM:=M.e_f hM aE;replace aE:=dI aE;refine WD.of<|W.skip<|WD.seq<|WD.of ?_;refine kC 3 @zew ?_;intro cO al am ao hM H;refine s_nil<|WD.block ?_;obtain ⟨cQ,bT,hM⟩:=M.e_bind hM;refine WD.range (L:=[cBlk ac (List.flatten [[I ae,ag],encF (α:=Int) s4,encF (α:=Leg) s5]) 117,cBlk am [Pq ac] 106,cBlk ao [I al] 3,cBlk aq [I (s3:Int)] 3,cBlk ai [.pointer (some ⟨ac,171+Int.toNat aa*26,none⟩)] 360,cBlk ah [.pointer (some ⟨ac,2+Int.toNat aa*13,none⟩)] 359,cBlk aj [Pq ac] 106]) [Pq am,Pq ao] (H.pk [6,7,0,1,2,3,4,5]) rfl cq ?_;intro aT aQ a7 bU a8 H
    have hYC:YieldC Tryz.prog ([cMk (aQ :: aB),cBlk am [Pq ac] 106,cBlk ao [I al] 3,cBlk aq [I (s3:Int)] 3,cBlk ai [.pointer (some ⟨ac,171+Int.toNat aa*26,none⟩)] 360,cBlk ah [.pointer (some ⟨ac,2+Int.toNat aa*13,none⟩)] 359,cBlk aj [Pq ac] 106]++R) arLeg (yJ aT a7 (fun (s,s2) ay=>ay=[cBlk ac (List.flatten [[I ae,ag],encF (α:=Int) s,encF (α:=Leg) s2]) 117]/\s.length=169/\s2.length=169) (fun (_:Unit) _=>False) (fun _=>.ret)) (.func (.yield aT) #[] #[]) (M.yl (zai ae ap aa s3)):=by
     refine YieldC.mk2 a8 (fun (s,s2) ay=>ay=[cBlk ac (List.flatten [[I ae,ag],encF (α:=Int) s,encF (α:=Leg) s2]) 117]/\s.length=169/\s2.length=169) (fun (_:Unit) _=>False) (fun _=>.ret) (zai ae ap aa s3) (by rintro ⟨s,s2⟩ _ h_; obtain ⟨rfl,_,_⟩:=h_; rfl) (fun _ _ h_=>h_.elim) rfl (arLeg_len rfl) ?_;intro C_ bV x ba;obtain rfl:=ba;intro w R aF ay s_ r bc hM H;obtain ⟨s,s2⟩:=s_;obtain ⟨rfl,au,av⟩:=bc;replace H:=H.nf;refine kA 1 ?_;intro aG cS H;refine ksw ?_;intro cT H;refine s_nil ?_;refine ⟨rfl,[cBlk aG [I x.line,B x.back] 113],H.pick [0,1,2,3,4,5,6,7,8] (by decide) rfl,?_⟩;clear H aF;intro w R aF H;replace aN:=aN.sub aF;replace hM:(zai ae ap aa s3 (s,s2) x).Ends r:=hM;simp only [zai] at hM;replace H:=H.nf;refine kD 2 [0,1,2,3,4,5,6,7,8] [7,8,9] ?_;intro cU H;refine kg 3 ?_;refine d_q rfl (fun w' H=>x_ix (v:=.pointer (some ⟨ac,(2+Int.toNat aa*13)+Int.toNat (s3:Int)*1,none⟩)) rfl rfl (run_indexS Tryz.underlying109 Sz3.h (by omega) (by omega)))<|d_q rfl (fun w' H=>x_ld (v:=I (s.getD ((Int.toNat aa)*13+s3) 0)) rfl (ldS (α:=Int) (k:=1) (off:=2) (i:=(Int.toNat aa)*13+s3) (f:=0) (sz:=1) 0 Sc3.h (H.bl 1) rfl (sgo1 rfl) rfl (by decide) (by have ax:=au; omega) (by omega) rfl)) ?_;refine kC 3 @zd6 ?_;intro cV r2 hM H;refine kN ?_;refine kL 1 (α:=Int) [s.getD ((Int.toNat aa)*13+s3) 0,r2] ?_;intro bA cW H;refine kN ?_;refine kC 1 @zeF ?_;intro cX r3 hM H;refine kN ?_;refine kDo 3 [0,1,2,3,4,5,6,7,8,9] [(0,true),(1,true),(2,true),(3,true),(5,true),(4,false),(6,true),(7,true),(8,true)] ?_;intro cY H;refine kC 6 @zaA ?_;intro cZ r4 hM H;refine kN ?_;obtain ⟨c8,hM⟩:=M.e_gq hM;refine d_q rfl (fun w' H=>x_ix (v:=.pointer (some ⟨ac,(2+Int.toNat aa*13)+Int.toNat r4*1,none⟩)) rfl rfl (run_indexS Tryz.underlying109 Sz3.h (by omega) (by omega)))<|d_q rfl (fun w' H=>x_ld (v:=I (s.getD ((Int.toNat aa)*13+(Int.toNat r4)) 0)) rfl (ldS (α:=Int) (k:=1) (off:=2) (i:=(Int.toNat aa)*13+(Int.toNat r4)) (f:=0) (sz:=1) 0 Sc3.h (H.bl 2) rfl (sgo1 rfl) rfl (by decide) (by have ax:=au; omega) (by omega) rfl)) ?_;refine kI 2 ?_ ?_
     ·intro bW hM;refine kDo 0 [0,1,3,4,5,6,7,8,9] [(0,true),(1,true),(2,true),(4,true),(5,true),(6,true),(8,true),(9,true),(10,true),(13,true),(3,false),(7,false),(11,true),(12,false),(14,true),(15,false)] ?_;intro c9 H;refine kC 11 @zaA ?_;intro da r5 hM H;refine kN ?_;refine kC 1 @zaA ?_;intro db r6 hM H;refine kN ?_;obtain ⟨dc,hM⟩:=M.e_gq hM;refine d_q rfl (fun w' H=>x_ix (v:=.pointer (some ⟨ac,(2+Int.toNat aa*13)+Int.toNat r5*1,none⟩)) rfl rfl (run_indexS Tryz.underlying109 Sz3.h (by omega) (by omega)))<|d_l rfl ?_;refine t_stS (α:=Int) (kc:=2) (b:=ac) (k:=1) (off:=2) (i:=(Int.toNat aa)*13+(Int.toNat r5)) (f:=0) (sz:=1) (segs:=[[I ae,ag],encF (α:=Int) s,encF (α:=Leg) s2]) (segs':=[[I ae,ag],encF (α:=Int) (s.set ((Int.toNat aa)*13+(Int.toNat r5)) r3),encF (α:=Leg) s2]) (l:=s) (l':=s.set ((Int.toNat aa)*13+(Int.toNat r5)) r3) (vs:=[I r3]) (L':=[cOwn (α:=Int) 3 bA ([(s.getD ((Int.toNat aa)*13+s3) 0:Int),(r2:Int)]),cBlk aG [I x.line,B x.back] 113,cBlk ac (List.flatten [[I ae,ag],encF (α:=Int) (s.set ((Int.toNat aa)*13+(Int.toNat r5)) r3),encF (α:=Leg) s2]) 117,cMk (aQ :: aB),cBlk am [Pq ac] 106,cBlk ao [I al] 3,cBlk aq [I (s3:Int)] 3,cBlk ai [.pointer (some ⟨ac,171+Int.toNat aa*26,none⟩)] 360,cBlk ah [.pointer (some ⟨ac,2+Int.toNat aa*13,none⟩)] 359,cBlk aj [Pq ac] 106]) H rfl rfl rfl Sz3.h rfl rfl rfl rfl (sgo1 rfl) rfl rfl (by have ax:=au; omega) (by omega) 0 r3 rfl rfl rfl rfl ?_;intro dg H
      have bB:(s.set ((Int.toNat aa)*13+(Int.toNat r5)) r3).length=169:=List.length_set.trans au;refine kN ?_;obtain ⟨dh,hM⟩:=M.e_gq hM;refine d_q rfl (fun w' H=>x_ix (v:=.pointer (some ⟨ac,(171+Int.toNat aa*26)+Int.toNat r6*2,none⟩)) rfl rfl (run_indexS Tryz.underlying114 Sz113.h (by omega) (by omega)))<|d_l rfl ?_;refine t_stS (α:=Leg) (kc:=2) (b:=ac) (k:=2) (off:=171) (i:=(Int.toNat aa)*13+(Int.toNat r6)) (f:=0) (sz:=2) (segs:=[[I ae,ag],encF (α:=Int) (s.set ((Int.toNat aa)*13+(Int.toNat r5)) r3),encF (α:=Leg) s2]) (segs':=[[I ae,ag],encF (α:=Int) (s.set ((Int.toNat aa)*13+(Int.toNat r5)) r3),encF (α:=Leg) (s2.set ((Int.toNat aa)*13+(Int.toNat r6)) x)]) (l:=s2) (l':=s2.set ((Int.toNat aa)*13+(Int.toNat r6)) x) (vs:=[I x.line,B x.back]) (L':=[cOwn (α:=Int) 3 bA ([(s.getD ((Int.toNat aa)*13+s3) 0:Int),(r2:Int)]),cBlk aG [I x.line,B x.back] 113,cBlk ac (List.flatten [[I ae,ag],encF (α:=Int) (s.set ((Int.toNat aa)*13+(Int.toNat r5)) r3),encF (α:=Leg) (s2.set ((Int.toNat aa)*13+(Int.toNat r6)) x)]) 117,cMk (aQ :: aB),cBlk am [Pq ac] 106,cBlk ao [I al] 3,cBlk aq [I (s3:Int)] 3,cBlk ai [.pointer (some ⟨ac,171+Int.toNat aa*26,none⟩)] 360,cBlk ah [.pointer (some ⟨ac,2+Int.toNat aa*13,none⟩)] 359,cBlk aj [Pq ac] 106]) H rfl rfl rfl Sz113.h rfl rfl rfl rfl (sgo2 bB rfl) rfl rfl (by have ax:=av; omega) (by omega) default x rfl rfl rfl rfl ?_;intro di H
      have bX:(s2.set ((Int.toNat aa)*13+(Int.toNat r6)) x).length=169:=List.length_set.trans av;refine kN ?_;refine d_nil ?_;exact ⟨(s.set ((Int.toNat aa)*13+(Int.toNat r5)) r3,s2.set ((Int.toNat aa)*13+(Int.toNat r6)) x),[cBlk ac (List.flatten [[I ae,ag],encF (α:=Int) (s.set ((Int.toNat aa)*13+(Int.toNat r5)) r3),encF (α:=Leg) (s2.set ((Int.toNat aa)*13+(Int.toNat r6)) x)]) 117],(M.e_pure hM).symm,⟨rfl,bB,bX⟩,H.pick [2,3,4,5,6,7,8,9] (by decide) rfl⟩
     intro bW hM;refine W.skip ?_;exact ⟨(s,s2),[cBlk ac (List.flatten [[I ae,ag],encF (α:=Int) s,encF (α:=Leg) s2]) 117],(M.e_pure hM).symm,⟨rfl,au,av⟩,H.pick [2,3,4,5,6,7,8,9] (by decide) rfl⟩
    replace H:St w bU (cAll (cObj aT (.loop a7) :: [cBlk ac (List.flatten [[I ae,ag],encF (α:=Int) s4,encF (α:=Leg) s5]) 117]) :: [cMk (aQ :: aB),cBlk am [Pq ac] 106,cBlk ao [I al] 3,cBlk aq [I (s3:Int)] 3,cBlk ai [.pointer (some ⟨ac,171+Int.toNat aa*26,none⟩)] 360,cBlk ah [.pointer (some ⟨ac,2+Int.toNat aa*13,none⟩)] 359,cBlk aj [Pq ac] 106]) R:=St.bundleB (A:=cObj aT (.loop a7) :: [cBlk ac (List.flatten [[I ae,ag],encF (α:=Int) s4,encF (α:=Leg) s5]) 117]) (T:=[cMk (aQ :: aB),cBlk am [Pq ac] 106,cBlk ao [I al] 3,cBlk aq [I (s3:Int)] 3,cBlk ai [.pointer (some ⟨ac,171+Int.toNat aa*26,none⟩)] 360,cBlk ah [.pointer (some ⟨ac,2+Int.toNat aa*13,none⟩)] 359,cBlk aj [Pq ac] 106]) rfl (H.pk [0,2,1,3,4,5,6,7,8]);refine (zeB (M.yl (zai ae ap aa s3)) (.inl (s4,s5)) ae ap al hYC ⟨_,rfl,⟨rfl,aw,aC⟩⟩ (aN.app _) aV (by rintro (⟨s,s2⟩ | _) _ h_; (obtain ⟨_,rfl,rfl,_,_⟩:=h_; exact Fld.all (Fld.here (k:=1) rfl rfl)); (obtain ⟨_,_,h_⟩:=h_; exact h_.elim)) (Has.here (k:=1) rfl) (Has.here (k:=2) rfl) bT _ (H.gt 7)).mono ?_;rintro vq dj ⟨bY,dk,rfl,hvq,aR,bC⟩;replace H:=H.back aR rfl;clear aR hYC;rcases bY with ⟨s,s2⟩ | _
    ·obtain ⟨_,rfl,rfl,au,av⟩:=bC;refine ⟨_,[cBlk ac (List.flatten [[I ae,ag],encF (α:=Int) s,encF (α:=Leg) s2]) 117,cBlk am [Pq ac] 106,cBlk ao [I al] 3,cBlk aq [I (s3:Int)] 3,cBlk ai [.pointer (some ⟨ac,171+Int.toNat aa*26,none⟩)] 360,cBlk ah [.pointer (some ⟨ac,2+Int.toNat aa*13,none⟩)] 359,cBlk aj [Pq ac] 106],H.unbundle.pick [0,2,1,3,4,5,6,7,8] (by decide) rfl,a8.nb,?_⟩;intro dm H;rw [a8.pd];replace H:=H.nf
     try simp only []
     replace H:=H.pk [0,1,5,6,7];refine WD.of ?_;obtain ⟨dq,hM⟩:=M.e_gq hM;refine kg 4 ?_;exact ⟨bx,bz,s3+1,s,s2,_,jQ,M.e_inl hM aZ,(H.pk [2,3,4,0,1]),au,av⟩
    obtain ⟨_,_,h_⟩:=bC; exact h_.elim
   replace hM:=M.e_f hM aD;replace aD:=dI aD;refine WD.of ?_;refine W.exit ?_;obtain rfl:=M.e_inr hM aZ;replace hM:=bR;refine WD.of ?_;obtain ⟨dr,hM⟩:=M.e_gq hM;refine kg 4 ?_;exact ⟨bO,bP,s4,s5,s8+1,_,jQ,M.e_inl hM bw,H,aw,aC⟩
  replace hM:=M.e_f hM aA;replace aA:=dI aA;refine WD.of ?_;refine W.exit ?_;obtain rfl:=M.e_inr hM bw;replace hM:=bL;refine bodyD_n (H.pk [3,0,1,2,4]) ?_;intro dt H;replace H:=H.nf;have bg:=M.e_pure hM;exact ⟨_,resE_tmp0 rfl,⟨s6,s7,bg,rfl,(H.pk [3]),aO,aP⟩⟩
 refine kal ?_;intro ai dv H;refine kN ?_;refine kA 1 ?_;intro ah dw H;refine kN ?_;refine kS 1 ?_;intro dx H;refine kN ?_;refine kS 1 ?_;intro dy H;refine kN ?_;refine t_nil<|WD.seq<|WD.of ?_;refine kg 8 ?_;refine WD.block ?_;obtain ⟨bZ,bi,b7⟩:=M.e_bind hM
 obtain ⟨aX,bi⟩:=M.e_iter bi;refine WD.loop (fun m bD σ W=>∃ (s6:List Int) (s7:List Leg) (s8:Nat) (ρ:Env),σ=upds ρ [(2,Pq aj),(4,Pq ah),(5,Pq ai),(23,I ae),(24,I (s8:Int))]/\M.iterN (zbs ae ap aa) m (s6,s7,s8)=some bZ/\St w W [cBlk ah [.pointer (some ⟨ac,2+Int.toNat aa*13,none⟩)] 359,cBlk ai [.pointer (some ⟨ac,171+Int.toNat aa*26,none⟩)] 360,cBlk aj [Pq ac] 106,cMk bD,cBlk ac (List.flatten [[I ae,ag],encF (α:=Int) s6,encF (α:=Leg) s7]) 117] R/\s6.length=169/\s7.length=169) ?_ ?_
 ·exact ⟨_,aL,aM,0,_,jQ,bi,H,bt,bu⟩
 rintro dz bD σ dA ⟨s6,s7,s8,ρ,rfl,b8,H,aO,aP⟩;obtain ⟨b9,cb,dB,hM,bE⟩:=M.e_iterN b8;refine WD.seq<|WD.of ?_;refine kg 3 ?_;refine WD.seq ?_
 refine WD.cond (decide ((s8:Int)<ae)) rfl (fun aH=>?_) (fun aH=>?_)
 ·replace hM:=M.e_t hM aH;replace aH:=dI aH;refine WD.of<|W.skip<|WD.seq<|WD.block<|WD.seq<|WD.of ?_;refine kg 8 ?_;refine WD.block ?_;obtain ⟨cc,bj,ce⟩:=M.e_bind hM
  obtain ⟨aX,bj⟩:=M.e_iter bj;refine WD.loop (fun m aI σ W=>∃ (s3:Nat) (s4:List Int) (s5:List Leg) (ρ:Env),σ=upds ρ [(2,Pq aj),(4,Pq ah),(5,Pq ai),(23,I ae),(24,I (s8:Int)),(30,I ae),(31,I (s3:Int))]/\M.iterN (zbw ae ap aa) m (s3,s4,s5)=some cc/\St w W [cBlk ah [.pointer (some ⟨ac,2+Int.toNat aa*13,none⟩)] 359,cBlk ai [.pointer (some ⟨ac,171+Int.toNat aa*26,none⟩)] 360,cBlk aj [Pq ac] 106,cMk aI,cBlk ac (List.flatten [[I ae,ag],encF (α:=Int) s4,encF (α:=Leg) s5]) 117] R/\s4.length=169/\s5.length=169) ?_ ?_
  ·exact ⟨_,0,s6,s7,_,jQ,bj,H,aO,aP⟩
  rintro dC aI σ dD ⟨s3,s4,s5,ρ,rfl,cf,H,aw,aC⟩;obtain ⟨bF,bG,dE,hM,bm⟩:=M.e_iterN cf;refine WD.seq<|WD.of ?_;refine kg 3 ?_;refine WD.seq ?_
  refine WD.cond (decide ((s3:Int)<ae)) rfl (fun aJ=>?_) (fun aJ=>?_)
  ·replace hM:=M.e_t hM aJ;replace aJ:=dI aJ;refine WD.of<|W.skip<|WD.seq<|WD.block<|WD.seq<|WD.of ?_;refine kA 2 ?_;intro aq dF H;refine ksw ?_;intro dG H;refine s_nil<|WD.seq<|WD.seq<|WD.of ?_;refine kD 0 [0,1,2,3,4,5] [] ?_;intro dH H;obtain ⟨dJ,hM⟩:=M.e_gq hM;refine kg 3 ?_;refine d_q rfl (fun w' H=>x_ix (v:=.pointer (some ⟨ac,(2+Int.toNat aa*13)+Int.toNat (s3:Int)*1,none⟩)) rfl rfl (run_indexS Tryz.underlying109 Sz3.h (by omega) (by omega)))<|d_q rfl (fun w' H=>x_ld (v:=I (s4.getD ((Int.toNat aa)*13+s3) 0)) rfl (ldS (α:=Int) (k:=1) (off:=2) (i:=(Int.toNat aa)*13+s3) (f:=0) (sz:=1) 0 Sc3.h (H.bl 5) rfl (sgo1 rfl) rfl (by decide) (by have ax:=aw; omega) (by omega) rfl)) ?_;refine kg 2 ?_
   refine WD.cond ((s4.getD ((Int.toNat aa)*13+s3) 0)==1099511627776) rfl (fun aK=>?_) (fun aK=>?_)
   ·replace hM:=M.e_t hM aK;replace aK:=dI aK;refine WD.of ?_;refine W.exit<|WD.of ?_;obtain ⟨dK,hM⟩:=M.e_gq hM;refine kg 4 ?_
    exact ⟨bF,bG,s3+1,s4,s5,_,jQ,M.e_inl hM bm,(H.pk [1,2,3,4,5]),aw,aC⟩
   replace hM:=M.e_f hM aK;replace aK:=dI aK;refine WD.of<|W.skip<|WD.seq<|WD.of ?_;refine kC 3 @zew ?_;intro dL al am ao hM H;refine s_nil<|WD.block ?_;obtain ⟨dM,cg,hM⟩:=M.e_bind hM;refine WD.range (L:=[cBlk ac (List.flatten [[I ae,ag],encF (α:=Int) s4,encF (α:=Leg) s5]) 117,cBlk am [Pq ac] 106,cBlk ao [I al] 3,cBlk aq [I (s3:Int)] 3,cBlk ah [.pointer (some ⟨ac,2+Int.toNat aa*13,none⟩)] 359,cBlk ai [.pointer (some ⟨ac,171+Int.toNat aa*26,none⟩)] 360,cBlk aj [Pq ac] 106]) [Pq am,Pq ao] (H.pk [6,7,0,1,2,3,4,5]) rfl cq ?_;intro aU aS bn ch bp H
   have hYC:YieldC Tryz.prog ([cMk (aS :: aI),cBlk am [Pq ac] 106,cBlk ao [I al] 3,cBlk aq [I (s3:Int)] 3,cBlk ah [.pointer (some ⟨ac,2+Int.toNat aa*13,none⟩)] 359,cBlk ai [.pointer (some ⟨ac,171+Int.toNat aa*26,none⟩)] 360,cBlk aj [Pq ac] 106]++R) arLeg (yJ aU bn (fun (s,s2) ay=>ay=[cBlk ac (List.flatten [[I ae,ag],encF (α:=Int) s,encF (α:=Leg) s2]) 117]/\s.length=169/\s2.length=169) (fun (_:Unit) _=>False) (fun _=>.ret)) (.func (.yield aU) #[] #[]) (M.yl (zai ae ap aa s3)):=by
    refine YieldC.mk2 bp (fun (s,s2) ay=>ay=[cBlk ac (List.flatten [[I ae,ag],encF (α:=Int) s,encF (α:=Leg) s2]) 117]/\s.length=169/\s2.length=169) (fun (_:Unit) _=>False) (fun _=>.ret) (zai ae ap aa s3) (by rintro ⟨s,s2⟩ _ h_; obtain ⟨rfl,_,_⟩:=h_; rfl) (fun _ _ h_=>h_.elim) rfl (arLeg_len rfl) ?_;intro C_ bV x ba;obtain rfl:=ba;intro w R aF ay s_ r bc hM H;obtain ⟨s,s2⟩:=s_;obtain ⟨rfl,au,av⟩:=bc;replace H:=H.nf;refine kA 1 ?_;intro aG dN H;refine ksw ?_;intro dO H;refine s_nil ?_;refine ⟨rfl,[cBlk aG [I x.line,B x.back] 113],H.pick [0,1,2,3,4,5,6,7,8] (by decide) rfl,?_⟩;clear H aF;intro w R aF H;replace aN:=aN.sub aF;replace hM:(zai ae ap aa s3 (s,s2) x).Ends r:=hM;simp only [zai] at hM;replace H:=H.nf;refine kD 2 [0,1,2,3,4,5,6,7,8] [7,8,9] ?_;intro dP H;refine kg 3 ?_;refine d_q rfl (fun w' H=>x_ix (v:=.pointer (some ⟨ac,(2+Int.toNat aa*13)+Int.toNat (s3:Int)*1,none⟩)) rfl rfl (run_indexS Tryz.underlying109 Sz3.h (by omega) (by omega)))<|d_q rfl (fun w' H=>x_ld (v:=I (s.getD ((Int.toNat aa)*13+s3) 0)) rfl (ldS (α:=Int) (k:=1) (off:=2) (i:=(Int.toNat aa)*13+s3) (f:=0) (sz:=1) 0 Sc3.h (H.bl 1) rfl (sgo1 rfl) rfl (by decide) (by have ax:=au; omega) (by omega) rfl)) ?_;refine kC 3 @zd6 ?_;intro dQ r2 hM H;refine kN ?_;refine kL 1 (α:=Int) [s.getD ((Int.toNat aa)*13+s3) 0,r2] ?_;intro bH dR H;refine kN ?_;refine kC 1 @zeF ?_;intro dS r3 hM H;refine kN ?_;refine kDo 3 [0,1,2,3,4,5,6,7,8,9] [(0,true),(1,true),(2,true),(3,true),(5,true),(4,false),(6,true),(7,true),(8,true)] ?_;intro dU H;refine kC 6 @zaA ?_;intro dV r4 hM H;refine kN ?_;obtain ⟨dW,hM⟩:=M.e_gq hM;refine d_q rfl (fun w' H=>x_ix (v:=.pointer (some ⟨ac,(2+Int.toNat aa*13)+Int.toNat r4*1,none⟩)) rfl rfl (run_indexS Tryz.underlying109 Sz3.h (by omega) (by omega)))<|d_q rfl (fun w' H=>x_ld (v:=I (s.getD ((Int.toNat aa)*13+(Int.toNat r4)) 0)) rfl (ldS (α:=Int) (k:=1) (off:=2) (i:=(Int.toNat aa)*13+(Int.toNat r4)) (f:=0) (sz:=1) 0 Sc3.h (H.bl 2) rfl (sgo1 rfl) rfl (by decide) (by have ax:=au; omega) (by omega) rfl)) ?_;refine kI 2 ?_ ?_
    ·intro cj hM;refine kDo 0 [0,1,3,4,5,6,7,8,9] [(0,true),(1,true),(2,true),(4,true),(5,true),(6,true),(8,true),(9,true),(10,true),(13,true),(3,false),(7,false),(11,true),(12,false),(14,true),(15,false)] ?_;intro dX H;refine kC 11 @zaA ?_;intro dY r5 hM H;refine kN ?_;refine kC 1 @zaA ?_;intro dZ r6 hM H;refine kN ?_;obtain ⟨d6,hM⟩:=M.e_gq hM;refine d_q rfl (fun w' H=>x_ix (v:=.pointer (some ⟨ac,(2+Int.toNat aa*13)+Int.toNat r5*1,none⟩)) rfl rfl (run_indexS Tryz.underlying109 Sz3.h (by omega) (by omega)))<|d_l rfl ?_;refine t_stS (α:=Int) (kc:=2) (b:=ac) (k:=1) (off:=2) (i:=(Int.toNat aa)*13+(Int.toNat r5)) (f:=0) (sz:=1) (segs:=[[I ae,ag],encF (α:=Int) s,encF (α:=Leg) s2]) (segs':=[[I ae,ag],encF (α:=Int) (s.set ((Int.toNat aa)*13+(Int.toNat r5)) r3),encF (α:=Leg) s2]) (l:=s) (l':=s.set ((Int.toNat aa)*13+(Int.toNat r5)) r3) (vs:=[I r3]) (L':=[cOwn (α:=Int) 3 bH ([(s.getD ((Int.toNat aa)*13+s3) 0:Int),(r2:Int)]),cBlk aG [I x.line,B x.back] 113,cBlk ac (List.flatten [[I ae,ag],encF (α:=Int) (s.set ((Int.toNat aa)*13+(Int.toNat r5)) r3),encF (α:=Leg) s2]) 117,cMk (aS :: aI),cBlk am [Pq ac] 106,cBlk ao [I al] 3,cBlk aq [I (s3:Int)] 3,cBlk ah [.pointer (some ⟨ac,2+Int.toNat aa*13,none⟩)] 359,cBlk ai [.pointer (some ⟨ac,171+Int.toNat aa*26,none⟩)] 360,cBlk aj [Pq ac] 106]) H rfl rfl rfl Sz3.h rfl rfl rfl rfl (sgo1 rfl) rfl rfl (by have ax:=au; omega) (by omega) 0 r3 rfl rfl rfl rfl ?_;intro d7 H
     have bI:(s.set ((Int.toNat aa)*13+(Int.toNat r5)) r3).length=169:=List.length_set.trans au;refine kN ?_;obtain ⟨d8,hM⟩:=M.e_gq hM;refine d_q rfl (fun w' H=>x_ix (v:=.pointer (some ⟨ac,(171+Int.toNat aa*26)+Int.toNat r6*2,none⟩)) rfl rfl (run_indexS Tryz.underlying114 Sz113.h (by omega) (by omega)))<|d_l rfl ?_;refine t_stS (α:=Leg) (kc:=2) (b:=ac) (k:=2) (off:=171) (i:=(Int.toNat aa)*13+(Int.toNat r6)) (f:=0) (sz:=2) (segs:=[[I ae,ag],encF (α:=Int) (s.set ((Int.toNat aa)*13+(Int.toNat r5)) r3),encF (α:=Leg) s2]) (segs':=[[I ae,ag],encF (α:=Int) (s.set ((Int.toNat aa)*13+(Int.toNat r5)) r3),encF (α:=Leg) (s2.set ((Int.toNat aa)*13+(Int.toNat r6)) x)]) (l:=s2) (l':=s2.set ((Int.toNat aa)*13+(Int.toNat r6)) x) (vs:=[I x.line,B x.back]) (L':=[cOwn (α:=Int) 3 bH ([(s.getD ((Int.toNat aa)*13+s3) 0:Int),(r2:Int)]),cBlk aG [I x.line,B x.back] 113,cBlk ac (List.flatten [[I ae,ag],encF (α:=Int) (s.set ((Int.toNat aa)*13+(Int.toNat r5)) r3),encF (α:=Leg) (s2.set ((Int.toNat aa)*13+(Int.toNat r6)) x)]) 117,cMk (aS :: aI),cBlk am [Pq ac] 106,cBlk ao [I al] 3,cBlk aq [I (s3:Int)] 3,cBlk ah [.pointer (some ⟨ac,2+Int.toNat aa*13,none⟩)] 359,cBlk ai [.pointer (some ⟨ac,171+Int.toNat aa*26,none⟩)] 360,cBlk aj [Pq ac] 106]) H rfl rfl rfl Sz113.h rfl rfl rfl rfl (sgo2 bI rfl) rfl rfl (by have ax:=av; omega) (by omega) default x rfl rfl rfl rfl ?_;intro d9 H
     have ck:(s2.set ((Int.toNat aa)*13+(Int.toNat r6)) x).length=169:=List.length_set.trans av;refine kN ?_;refine d_nil ?_;exact ⟨(s.set ((Int.toNat aa)*13+(Int.toNat r5)) r3,s2.set ((Int.toNat aa)*13+(Int.toNat r6)) x),[cBlk ac (List.flatten [[I ae,ag],encF (α:=Int) (s.set ((Int.toNat aa)*13+(Int.toNat r5)) r3),encF (α:=Leg) (s2.set ((Int.toNat aa)*13+(Int.toNat r6)) x)]) 117],(M.e_pure hM).symm,⟨rfl,bI,ck⟩,H.pick [2,3,4,5,6,7,8,9] (by decide) rfl⟩
    intro cj hM;refine W.skip ?_;exact ⟨(s,s2),[cBlk ac (List.flatten [[I ae,ag],encF (α:=Int) s,encF (α:=Leg) s2]) 117],(M.e_pure hM).symm,⟨rfl,au,av⟩,H.pick [2,3,4,5,6,7,8,9] (by decide) rfl⟩
   replace H:St w ch (cAll (cObj aU (.loop bn) :: [cBlk ac (List.flatten [[I ae,ag],encF (α:=Int) s4,encF (α:=Leg) s5]) 117]) :: [cMk (aS :: aI),cBlk am [Pq ac] 106,cBlk ao [I al] 3,cBlk aq [I (s3:Int)] 3,cBlk ah [.pointer (some ⟨ac,2+Int.toNat aa*13,none⟩)] 359,cBlk ai [.pointer (some ⟨ac,171+Int.toNat aa*26,none⟩)] 360,cBlk aj [Pq ac] 106]) R:=St.bundleB (A:=cObj aU (.loop bn) :: [cBlk ac (List.flatten [[I ae,ag],encF (α:=Int) s4,encF (α:=Leg) s5]) 117]) (T:=[cMk (aS :: aI),cBlk am [Pq ac] 106,cBlk ao [I al] 3,cBlk aq [I (s3:Int)] 3,cBlk ah [.pointer (some ⟨ac,2+Int.toNat aa*13,none⟩)] 359,cBlk ai [.pointer (some ⟨ac,171+Int.toNat aa*26,none⟩)] 360,cBlk aj [Pq ac] 106]) rfl (H.pk [0,2,1,3,4,5,6,7,8]);refine (zeB (M.yl (zai ae ap aa s3)) (.inl (s4,s5)) ae ap al hYC ⟨_,rfl,⟨rfl,aw,aC⟩⟩ (aN.app _) aV (by rintro (⟨s,s2⟩ | _) _ h_; (obtain ⟨_,rfl,rfl,_,_⟩:=h_; exact Fld.all (Fld.here (k:=1) rfl rfl)); (obtain ⟨_,_,h_⟩:=h_; exact h_.elim)) (Has.here (k:=1) rfl) (Has.here (k:=2) rfl) cg _ (H.gt 7)).mono ?_;rintro vq ee ⟨cn,ef,rfl,hvq,aR,bJ⟩;replace H:=H.back aR rfl;clear aR hYC;rcases cn with ⟨s,s2⟩ | _
   ·obtain ⟨_,rfl,rfl,au,av⟩:=bJ;refine ⟨_,[cBlk ac (List.flatten [[I ae,ag],encF (α:=Int) s,encF (α:=Leg) s2]) 117,cBlk am [Pq ac] 106,cBlk ao [I al] 3,cBlk aq [I (s3:Int)] 3,cBlk ah [.pointer (some ⟨ac,2+Int.toNat aa*13,none⟩)] 359,cBlk ai [.pointer (some ⟨ac,171+Int.toNat aa*26,none⟩)] 360,cBlk aj [Pq ac] 106],H.unbundle.pick [0,2,1,3,4,5,6,7,8] (by decide) rfl,bp.nb,?_⟩;intro eg H;rw [bp.pd];replace H:=H.nf
    try simp only []
    replace H:=H.pk [0,1,5,6,7];refine WD.of ?_;obtain ⟨ei,hM⟩:=M.e_gq hM;refine kg 4 ?_;exact ⟨bF,bG,s3+1,s,s2,_,jQ,M.e_inl hM bm,(H.pk [2,3,4,0,1]),au,av⟩
   obtain ⟨_,_,h_⟩:=bJ; exact h_.elim
  replace hM:=M.e_f hM aJ;replace aJ:=dI aJ;refine WD.of ?_;refine W.exit ?_;obtain rfl:=M.e_inr hM bm;replace hM:=ce;refine WD.of ?_;obtain ⟨ej,hM⟩:=M.e_gq hM;refine kg 4 ?_;exact ⟨b9,cb,s4,s5,s8+1,_,jQ,M.e_inl hM bE,H,aw,aC⟩
 replace hM:=M.e_f hM aH;replace aH:=dI aH;refine WD.of ?_;refine W.exit ?_;obtain rfl:=M.e_inr hM bE;replace hM:=b7;refine bodyD_n (H.pk [3,0,1,2,4]) ?_;intro eo H;replace H:=H.nf;have bg:=M.e_pure hM;exact ⟨_,resE_tmp0 rfl,⟨s6,s7,bg,rfl,(H.pk [3]),aO,aP⟩⟩

def zb8 (n_Marks:Int) (s4:Nat):((List Int) × Nat)->M (((List Int) × Nat) ⊕ (List Int)):=fun (s,s2) =>
  bif decide ((s2:Int)<n_Marks) then (
  M.grd (decide ((0:Int)<=(s4:Int))&&decide ((s4:Int)<(13:Int))) <|
  M.grd (decide ((0:Int)<=(s2:Int))&&decide ((s2:Int)<(13:Int))) <|
  M.gi ((s2:Int)+1) <|
  M.pure (.inl (s.set (s4*13+s2) 1099511627776,s2+1)))
  else (
  M.pure (.inr s))
def zcu (n_Marks:Int):((List Int) × Nat)->M (((List Int) × Nat) ⊕ (List Int)):=fun (s3,s4) =>
  bif decide ((s4:Int)<n_Marks) then (
  M.bind (M.iter (zb8 n_Marks s4) (s3,0)) fun l =>
  M.grd (decide ((0:Int)<=(s4:Int))&&decide ((s4:Int)<(13:Int))) <|
  M.gi ((s4:Int)+1) <|
  M.pure (.inl (l.set (s4*13+s4) 0,s4+1)))
  else (
  M.pure (.inr s3))
def zb3 (n_Marks:Int) (n_Lines:List Line):((List Int) × (List Leg) × Nat)->M (((List Int) × (List Leg) × Nat) ⊕ ((List Int) × (List Leg))):=fun (s5,s6,s7) =>
  bif decide ((s7:Int)<n_Marks) then (
  M.bind (za2 n_Marks n_Lines s5 s6 (s7:Int)) fun (q2,q3) =>
  M.gi ((s7:Int)+1) <|
  M.pure (.inl (q2,q3,s7+1)))
  else (
  M.pure (.inr (s5,s6)))
def zbZ (n_Marks:Int) (n_Lines:List Line):M (Int × (List Int) × (List Leg)) :=
  M.bind (M.iter (zcu n_Marks) (List.replicate 169 0,0)) fun l2 =>
  M.bind (M.iter (zb3 n_Marks n_Lines) (l2,List.replicate 169 default,0)) fun (l3,l4) =>
  M.pure (n_Marks,l3,l4)
theorem zfU {R al aa}(n_Marks n_Lines)(aU:Reads R al)(aV:Sl al aa n_Lines){r}(hM:(zbZ n_Marks n_Lines).Ends r)(w)(H:St w w [] R):Ret Tryz.prog 181 #[.agg #[I n_Marks,aa]] w fun v w'=>∃ y0 y1 y2 am,(y0,y1,y2)=r/\v=Pq am/\St w w' [cBlk am (List.flatten [[I y0,aa],encF (α:=Int) y1,encF (α:=Leg) y2]) 117] R/\y1.length=169/\y2.length=169:=by
 refine ret_of_W Tryz.func181 rfl rfl rfl ?_;refine kB 2 ?_;intro ae aW H;refine kg 5 ?_;refine s_val (x_bld (ps:=[(0,.agg #[I n_Marks,aa])]) (zs:=(List.flatten [[I 0,.slice none 0 0],encF (α:=Int) (List.replicate 169 0),encF (α:=Leg) (List.replicate 169 default)])) (L':=(List.flatten [[I n_Marks,aa],encF (α:=Int) (List.replicate 169 0),encF (α:=Leg) (List.replicate 169 default)])) rfl Tryz.underlying117 Al117.h rfl (Bd117 Tryz.underlying117) (.cons (cs:=[I n_Marks,aa]) rfl rfl rfl (by kernel_rfl) rfl<|.nil)) ?_;refine kB 0 ?_;intro ac aX H;refine kg 10 ?_;obtain ⟨aw,ah,ax⟩:=M.e_bind hM;obtain ⟨ao,ah⟩:=M.e_iter ah;refine W.loop (fun m σ W=>∃ (s3:List Int) (s4:Nat) (ρ:Env),σ=upds ρ [(1,Pq ae),(3,Pq ac),(11,I n_Marks),(12,I (s4:Int))]/\M.iterN (zcu n_Marks) m (s3,s4)=some aw/\St w W [cBlk ac (List.flatten [[I n_Marks,aa],encF (α:=Int) s3,encF (α:=Leg) (List.replicate 169 default)]) 117,cBlk ae [I n_Marks,aa] 25] R/\s3.length=169) ?_ ?_
 ·exact ⟨_,List.replicate 169 0,0,_,jQ,ah,H,List.length_replicate⟩
 rintro aY σ aZ ⟨s3,s4,ρ,rfl,ay,H,ap⟩;obtain ⟨aA,aB,a7,hM,aq⟩:=M.e_iterN ay;refine kI 5 ?_ ?_
 ·intro aC hM;refine kg 16 ?_;obtain ⟨aD,ai,aE⟩:=M.e_bind hM;obtain ⟨ao,ai⟩:=M.e_iter ai;refine W.loop (fun m σ W=>∃ (s:List Int) (s2:Nat) (ρ:Env),σ=upds ρ [(1,Pq ae),(3,Pq ac),(4,I (s4:Int)),(11,I n_Marks),(12,I (s4:Int)),(16,I n_Marks),(17,I (s2:Int))]/\M.iterN (zb8 n_Marks s4) m (s,s2)=some aD/\St w W [cBlk ac (List.flatten [[I n_Marks,aa],encF (α:=Int) s,encF (α:=Leg) (List.replicate 169 default)]) 117,cBlk ae [I n_Marks,aa] 25] R/\s.length=169) ?_ ?_
  ·exact ⟨_,s3,0,_,jQ,ai,H,ap⟩
  rintro a8 σ ba ⟨s,s2,ρ,rfl,aF,H,ag⟩;obtain ⟨aG,aH,bc,hM,au⟩:=M.e_iterN aF;refine kI 5 ?_ ?_
  ·intro aI hM;obtain ⟨bg,hM⟩:=M.e_gq hM;refine kg 14 ?_;refine s_val (x_ix (v:=.pointer (some ⟨ac,2+Int.toNat (s4:Int)*13,none⟩)) rfl rfl (run_indexS Tryz.underlying111 Sz109.h (by omega) (by omega))) ?_;obtain ⟨bi,hM⟩:=M.e_gq hM;refine s_val (x_ix (v:=.pointer (some ⟨ac,(2+Int.toNat (s4:Int)*13)+Int.toNat (s2:Int)*1,none⟩)) rfl rfl (run_indexS Tryz.underlying109 Sz3.h (by omega) (by omega))) ?_;refine t_stS (α:=Int) (kc:=0) (b:=ac) (k:=1) (off:=2) (i:=s4*13+s2) (f:=0) (sz:=1) (segs:=[[I n_Marks,aa],encF (α:=Int) s,encF (α:=Leg) (List.replicate 169 default)]) (segs':=[[I n_Marks,aa],encF (α:=Int) (s.set (s4*13+s2) 1099511627776),encF (α:=Leg) (List.replicate 169 default)]) (l:=s) (l':=s.set (s4*13+s2) 1099511627776) (vs:=[I 1099511627776]) (L':=[cBlk ac (List.flatten [[I n_Marks,aa],encF (α:=Int) (s.set (s4*13+s2) 1099511627776),encF (α:=Leg) (List.replicate 169 default)]) 117,cBlk ae [I n_Marks,aa] 25]) H rfl rfl rfl Sz3.h rfl rfl rfl rfl (sgo1 rfl) rfl rfl (by have aJ:=ag; omega) (by omega) 0 1099511627776 rfl rfl rfl rfl ?_;intro bj H;have aK:(s.set (s4*13+s2) 1099511627776).length=169:=List.length_set.trans ag;obtain ⟨bm,hM⟩:=M.e_gq hM;refine kg 5 ?_;exact ⟨aG,aH,s.set (s4*13+s2) 1099511627776,s2+1,_,jQ,M.e_inl hM au,H,aK⟩
  intro aI hM;refine W.exit ?_;obtain rfl:=M.e_inr hM au;replace hM:=aE;obtain ⟨bn,hM⟩:=M.e_gq hM;refine kg 6 ?_;refine s_val (x_ix (v:=.pointer (some ⟨ac,2+Int.toNat (s4:Int)*13,none⟩)) rfl rfl (run_indexS Tryz.underlying111 Sz109.h (by omega) (by omega)))<|s_val (x_ix (v:=.pointer (some ⟨ac,(2+Int.toNat (s4:Int)*13)+Int.toNat (s4:Int)*1,none⟩)) rfl rfl (run_indexS Tryz.underlying109 Sz3.h (by omega) (by omega))) ?_;refine t_stS (α:=Int) (kc:=0) (b:=ac) (k:=1) (off:=2) (i:=s4*13+s4) (f:=0) (sz:=1) (segs:=[[I n_Marks,aa],encF (α:=Int) s,encF (α:=Leg) (List.replicate 169 default)]) (segs':=[[I n_Marks,aa],encF (α:=Int) (s.set (s4*13+s4) 0),encF (α:=Leg) (List.replicate 169 default)]) (l:=s) (l':=s.set (s4*13+s4) 0) (vs:=[I 0]) (L':=[cBlk ac (List.flatten [[I n_Marks,aa],encF (α:=Int) (s.set (s4*13+s4) 0),encF (α:=Leg) (List.replicate 169 default)]) 117,cBlk ae [I n_Marks,aa] 25]) H rfl rfl rfl Sz3.h rfl rfl rfl rfl (sgo1 rfl) rfl rfl (by have aJ:=ag; omega) (by omega) 0 0 rfl rfl rfl rfl ?_;intro bp H
  have aL:(s.set (s4*13+s4) 0).length=169:=List.length_set.trans ag;obtain ⟨br,hM⟩:=M.e_gq hM;refine kg 5 ?_;exact ⟨aA,aB,s.set (s4*13+s4) 0,s4+1,_,jQ,M.e_inl hM aq,H,aL⟩
 intro aC hM;refine W.exit ?_;obtain rfl:=M.e_inr hM aq;replace hM:=ax;refine kg 8 ?_;obtain ⟨aM,aj,aN⟩:=M.e_bind hM;obtain ⟨ao,aj⟩:=M.e_iter aj;refine W.loop (fun m σ W=>∃ (s5:List Int) (s6:List Leg) (s7:Nat) (ρ:Env),σ=upds ρ [(3,Pq ac),(37,I n_Marks),(38,I (s7:Int))]/\M.iterN (zb3 n_Marks n_Lines) m (s5,s6,s7)=some aM/\St w W [cBlk ac (List.flatten [[I n_Marks,aa],encF (α:=Int) s5,encF (α:=Leg) s6]) 117,cBlk ae [I n_Marks,aa] 25] R/\s5.length=169/\s6.length=169) ?_ ?_
 ·exact ⟨_,s3,List.replicate 169 default,0,_,jQ,aj,H,ap,List.length_replicate⟩
 rintro bt σ bu ⟨s5,s6,s7,ρ,rfl,aO,H,bv,bw⟩;obtain ⟨aP,aQ,bx,hM,av⟩:=M.e_iterN aO;refine kI 5 ?_ ?_
 ·intro aR hM;refine kC 11 @zgg ?_;intro bz q2 q3 aS aT hM H;obtain ⟨bA,hM⟩:=M.e_gq hM;refine kg 5 ?_;exact ⟨aP,aQ,q2,q3,s7+1,_,jQ,M.e_inl hM av,H,aS,aT⟩
 intro aR hM;refine W.exit ?_;obtain rfl:=M.e_inr hM av;replace hM:=aN;exact kR 5 [0]

def zcM (n_Marks:Int) (n_Lines:List Line):M (Int ⊕ (Int × (List Int) × (List Leg) × Int)) :=
  M.bind (zbE n_Marks n_Lines) fun r2 =>
  bif r2 != 0 then (
  M.pure (.inl r2))
  else (
  M.bind (zbZ n_Marks n_Lines) fun (r0,aa,r3) =>
  M.pure (.inr (r0,aa,r3,0)))
theorem zg5 {R ae aa}(n_Marks n_Lines)(ao:Reads R ae)(ap:Sl ae aa n_Lines){r}(hM:(zcM n_Marks n_Lines).Ends r)(w)(H:St w w [] R):Ret Tryz.prog 110 #[.agg #[I n_Marks,aa]] w fun v w'=>(∃ (y0:Int),(.inl y0)=r/\v = .tuple #[.pointer none,I y0]/\St w w' [] R)∨(∃ (y0:Int) (y1:List Int) (y2:List Leg) (y3:Int) (ag:Nat),(.inr (y0,y1,y2,y3))=r/\v = .tuple #[Pq ag,I y3]/\St w w' [cBlk ag (List.flatten [[I y0,aa],encF (α:=Int) y1,encF (α:=Leg) y2]) 117] R/\y1.length=169/\y2.length=169):=by
 refine ret_of_W Tryz.func110 rfl rfl rfl ?_;refine kB 2 ?_;intro aq au H;refine kC 7 @zeR ?_;intro av r2 hM H;refine kI 7 ?_ ?_
 ·intro ah hM;refine kg 6 ?_;refine W.ret ?_;have ac:=M.e_pure hM;exact ⟨_,resE_tmp2 rfl,.inl (⟨r2,ac,rfl,(H.pk [])⟩)⟩
 intro ah hM;refine kC 4 @zfU ?_;intro aw r0 ai r3 aj al am hM H;refine kg 3 ?_;refine W.ret ?_;have ac:=M.e_pure hM;exact ⟨_,resE_tmp2 rfl,.inr (⟨r0,ai,r3,0,aj,ac,rfl,(H.pk [0]),al,am⟩)⟩

def zdc (ac:Int) (ae:List Line) (aa:List Int) (s2:Nat) (x:Leg):Nat->M (Nat ⊕ (Unit ⊕ Unit)):=fun s =>
  bif decide ((s:Int)<ac) then (
  M.grd (decide ((0:Int)<=(s:Int))&&decide ((s:Int)<(13:Int))) <|
  M.grd (decide ((0:Int)<=(s2:Int))&&decide ((s2:Int)<(13:Int))) <|
  M.bind (M.opt (decide ((aa.getD (s*13+s2) 0)<1099511627776)) (zbc ac ae x) 0) fun r2 =>
  M.grd ((!(decide ((aa.getD (s*13+s2) 0)<1099511627776))||(decide ((-9223372036854775808:Int)<=((aa.getD (s*13+s2) 0)+r2))&&decide (((aa.getD (s*13+s2) 0)+r2)<=(9223372036854775807:Int))))) <|
  M.bind (M.opt (decide ((aa.getD (s*13+s2) 0)<1099511627776)) (zaC ac ae x) 0) fun r3 =>
  M.grd ((!(decide ((aa.getD (s*13+s2) 0)<1099511627776))||(decide ((0:Int)<=r3)&&decide (r3<(13:Int))))) <|
  bif ((decide ((aa.getD (s*13+s2) 0)<1099511627776))&&(decide (((aa.getD (s*13+s2) 0)+r2)<(aa.getD (s*13+(Int.toNat r3)) 0)))) then (
  M.pure (.inr (.inl ())))
  else (
  M.gi ((s:Int)+1) <|
  M.pure (.inl (s+1))))
  else (
  M.pure (.inr (.inr ())))
def zau (aa:Int) (ac:List Line) (ae:List Int) (s2:Nat):Unit->Leg->M (Unit ⊕ Unit):=fun (_:Unit) x =>
  M.bind (M.iter (zdc aa ac ae s2 x) 0) fun x_=>match x_ with
  | (.inl (_:Unit))=>(
  M.pure (.inr ()))
  | (.inr (_:Unit))=>(
  M.pure (.inl ()))
def zcp (aa:Int) (ac:List Line) (ae:List Int):Nat->M (Nat ⊕ (Unit ⊕ Unit)):=fun s2 =>
  bif decide ((s2:Int)<aa) then (
  M.bind (zer aa ac (s2:Int)) fun ag =>
  M.bind (zap (M.yl (zau aa ac ae s2)) (.inl ()) aa ac ag) fun x_=>match x_ with
  | .inl _=>(
  M.grd (decide ((0:Int)<=(s2:Int))&&decide ((s2:Int)<(13:Int))) <|
  bif decide ((ae.getD (s2*13+s2) 0)<0) then (
  M.pure (.inr (.inl ())))
  else (
  M.gi ((s2:Int)+1) <|
  M.pure (.inl (s2+1))))
  | .inr _=>(
  M.pure (.inr (.inl ()))))
  else (
  M.pure (.inr (.inr ())))
def za4 (aa:Int) (ac:List Line) (ae:List Int) (ag:List Leg):M Bool :=
  M.bind (M.iter (zcp aa ac ae) 0) fun x_=>match x_ with
  | (.inl (_:Unit))=>(
  M.pure true)
  | (.inr (_:Unit))=>(
  M.pure false)
theorem zgu {R aa aS aT}(ag ai ac aL)(aB:Reads R aS)(aF:Sl aS aT ai)(aG:ac.length=169)(bC:aL.length=169)(am:Has R (cBlk aa (List.flatten [[I ag,aT],encF (α:=Int) ac,encF (α:=Leg) aL]) 117)){r}(hM:(za4 ag ai ac aL).Ends r)(w)(H:St w w [] R):Ret Tryz.prog 111 #[Pq aa] w fun v w'=>∃ y0,y0=r/\v=B y0/\St w w' [] R:=by
 refine ret_of_WD Tryz.func111 rfl rfl rfl ?_;replace H:St w w [cMk ([])] R:=H.mk0;have bD:=aF.len_le;unfold za4 at hM;refine WD.seq<|WD.of ?_;refine kB 1 ?_;intro ao bE H;refine kal ?_;intro ah bF H;refine s_nil<|WD.seq<|WD.seq<|WD.of ?_;refine kg 8 ?_;refine WD.block ?_;obtain ⟨a7,aU,aM⟩:=M.e_bind hM
 obtain ⟨a8,aU⟩:=M.e_iter aU;refine WD.loop (fun m aC σ W=>∃ (s2:Nat) (ρ:Env),σ=upds ρ [(1,Pq ao),(2,Pq ah),(10,I ag),(11,I (s2:Int))]/\M.iterN (zcp ag ai ac) m s2=some a7/\St w W [cBlk ah [B false] 4,cBlk ao [Pq aa] 106,cMk aC] R) ?_ ?_
 ·exact kY
 rintro bG aC σ bH ⟨s2,ρ,rfl,ba,H⟩;obtain ⟨bI,bJ,bK,hM,aN⟩:=M.e_iterN ba;refine WD.seq<|WD.of ?_;refine kg 3 ?_;refine WD.seq ?_
 refine WD.cond (decide ((s2:Int)<ag)) rfl (fun ay=>?_) (fun ay=>?_)
 ·replace hM:=M.e_t hM ay;replace ay:=dI ay;refine WD.of<|W.skip<|WD.seq<|WD.block<|WD.seq<|WD.of ?_;refine kA 2 ?_;intro aq bL H;refine ksw ?_;intro bN H;refine s_nil<|WD.seq<|WD.seq<|WD.of ?_;refine kg 3 ?_;obtain ⟨bO,bc,hM⟩:=M.e_bind hM;refine s_call cq [Pq aa,I (s2:Int)] rfl (zew ag ai (s2:Int) (aB.app _) aF (Fld.of (am.app _) rfl) bc _ (H.gt 4)) ?_
  rintro _ bP ⟨au,av,aw,rfl,rfl,aH⟩;replace H:=H.bk aH;refine s_nil<|WD.block ?_;obtain ⟨bQ,bg,hM⟩:=M.e_bind hM;refine WD.range (L:=[cBlk ah [B false] 4,cBlk av [Pq aa] 106,cBlk aw [I au] 3,cBlk aq [I (s2:Int)] 3,cBlk ao [Pq aa] 106]) [Pq av,Pq aw] (H.pk [5,3,0,1,2,4]) rfl cq ?_;intro aI aJ aO bi aP H
  have hYC:YieldC Tryz.prog ([cMk (aJ :: aC),cBlk av [Pq aa] 106,cBlk aw [I au] 3,cBlk aq [I (s2:Int)] 3,cBlk ao [Pq aa] 106]++R) arLeg (yJ aI aO (fun _ ax=>ax=[cBlk ah [B false] 4]) (fun _ ax=>ax=[cBlk ah [B true] 4]) (fun _=>.ret)) (.func (.yield aI) #[] #[]) (M.yl (zau ag ai ac s2)):=by
   refine YieldC.mk2 aP (fun _ ax=>ax=[cBlk ah [B false] 4]) (fun _ ax=>ax=[cBlk ah [B true] 4]) (fun _=>.ret) (zau ag ai ac s2) (by rintro _ _ h_; obtain ⟨rfl⟩:=h_; rfl) (by rintro _ _ h_; (obtain ⟨rfl⟩:=h_; rfl)) rfl (arLeg_len rfl) ?_;intro C_ bR x bj;obtain rfl:=bj;intro w R aK ax s_ r bm hM H
   skip
   obtain ⟨rfl⟩:=bm;replace H:=H.nf;refine kA 1 ?_;intro aQ bS H;refine ksw ?_;intro bT H;refine s_nil ?_;refine ⟨rfl,[cBlk aQ [I x.line,B x.back] 113],H.pick [0,1,2,3,4,5,6] (by decide) rfl,?_⟩;clear H aK;intro w R aK H;replace aB:=aB.sub aK;replace am:=am.sub aK;replace hM:(zau ag ai ac s2 () x).Ends r:=hM;simp only [zau] at hM;replace H:=H.nf;refine kg 11 ?_;obtain ⟨bn,aV,aW⟩:=M.e_bind hM;obtain ⟨a8,aV⟩:=M.e_iter aV;refine W.loop (fun m σ W=>∃ (s:Nat) (ρ:Env),σ=upds ρ [(1,Pq ao),(2,Pq ah),(3,Pq aq),(4,Pq aQ),(22,I ag),(23,I (s:Int))]/\M.iterN (zdc ag ai ac s2 x) m s=some bn/\St w W [cBlk aQ [I x.line,B x.back] 113,cBlk ah [B false] 4,cMk (aJ :: aC),cBlk av [Pq aa] 106,cBlk aw [I au] 3,cBlk aq [I (s2:Int)] 3,cBlk ao [Pq aa] 106] R) ?_ ?_
   ·exact kY
   rintro bU σ bV ⟨s,ρ,rfl,bp,H⟩;obtain ⟨bW,bX,bY,hM,aX⟩:=M.e_iterN bp;refine kI 5 ?_ ?_
   ·intro br hM;refine kDo 9 [0,1,2,3,4,5,6] [(0,true),(1,true),(2,true),(3,true),(4,true),(5,true),(6,true),(7,true),(8,true),(9,true),(10,true),(11,true),(12,true),(13,true),(14,true),(15,true),(16,true),(17,true),(18,true),(19,true),(22,true),(23,true),(24,true),(25,true),(27,true),(28,true),(29,true),(20,false),(21,true),(26,false),(30,true),(31,true),(32,true),(33,true)] ?_;intro bZ H;obtain ⟨b7,hM⟩:=M.e_gq hM;refine kg 5 ?_;refine d_q rfl (fun w' H=>x_ix (v:=.pointer (some ⟨aa,2+Int.toNat (s:Int)*13,none⟩)) rfl rfl (run_indexS Tryz.underlying111 Sz109.h (by omega) (by omega))) ?_;obtain ⟨b8,hM⟩:=M.e_gq hM;refine d_q rfl (fun w' H=>x_ix (v:=.pointer (some ⟨aa,(2+Int.toNat (s:Int)*13)+Int.toNat (s2:Int)*1,none⟩)) rfl rfl (run_indexS Tryz.underlying109 Sz3.h (by omega) (by omega)))<|d_q rfl (fun w' H=>x_ld (v:=I (ac.getD (s*13+s2) 0)) rfl (ldS (α:=Int) (k:=1) (off:=2) (i:=s*13+s2) (f:=0) (sz:=1) 0 Sc3.h (am.blk H) rfl (sgo1 rfl) rfl (by decide) (by have aY:=aG; omega) (by omega) rfl)) ?_;refine kg 7 ?_;refine d_qg (decide ((ac.getD (s*13+s2) 0)<1099511627776)) rfl (gy_t rfl) (fun hg=>(fun w' H=>x_ix (v:=.pointer (some ⟨aa,2+Int.toNat (s:Int)*13,none⟩)) (gd_of hg (Oq aa 2)) (gd_of hg (I (s:Int))) (run_indexS Tryz.underlying111 Sz109.h (by first | omega | (have ae:=hg; simp at ae; omega)) (by first | omega | (have ae:=hg; simp at ae; omega)))))<|d_qg (decide ((ac.getD (s*13+s2) 0)<1099511627776)) rfl (gy_t rfl) (fun hg=>(fun w' H=>x_ix (v:=.pointer (some ⟨aa,(2+Int.toNat (s:Int)*13)+Int.toNat (s2:Int)*1,none⟩)) (gd_of hg (.pointer (some ⟨aa,2+Int.toNat (s:Int)*13,none⟩))) (gd_of hg (I (s2:Int))) (run_indexS Tryz.underlying109 Sz3.h (by first | omega | (have ae:=hg; simp at ae; omega)) (by first | omega | (have ae:=hg; simp at ae; omega)))))<|d_qg (decide ((ac.getD (s*13+s2) 0)<1099511627776)) rfl (gy_t rfl) (fun hg=>(fun w' H=>x_ld (v:=I (ac.getD (s*13+s2) 0)) (gd_of hg (.pointer (some ⟨aa,(2+Int.toNat (s:Int)*13)+Int.toNat (s2:Int)*1,none⟩))) (ldS (α:=Int) (k:=1) (off:=2) (i:=s*13+s2) (f:=0) (sz:=1) 0 Sc3.h (am.blk H) rfl (sgo1 rfl) rfl (by decide) (by have aY:=aG; first | omega | (have ae:=hg; simp at ae; omega)) (by omega) rfl))) ?_;refine kg 8 ?_;refine d_qg (decide ((ac.getD (s*13+s2) 0)<1099511627776)) rfl (gy_t rfl) (fun hg=>(fun w' H=>x_ix (v:=.pointer (some ⟨aa,2+Int.toNat (s:Int)*13,none⟩)) (gd_of hg (Oq aa 2)) (gd_of hg (I (s:Int))) (run_indexS Tryz.underlying111 Sz109.h (by first | omega | (have ae:=hg; simp at ae; omega)) (by first | omega | (have ae:=hg; simp at ae; omega)))))<|d_l rfl ?_;obtain ⟨r2,bt,hM⟩:=M.e_bind hM;refine t_gcall (decide ((ac.getD (s*13+s2) 0)<1099511627776)) (gy_t rfl) cq (I r2) (fun _=>[Pq aa,.agg #[I x.line,B x.back]]) (fun hg=>lst2 (gd_of hg (Pq aa)) (gd_of hg (.agg #[I x.line,B x.back]))) H (fun hg=>(zd6 ag ai x (aB.app _) aF (Fld.of (am.app _) rfl) (M.e_opt bt hg) _ (H.give (A:=[]) rfl)).mono fun v_ w_ ⟨y_,ap,aR,H_⟩=>by subst ap; exact ⟨aR,H.via H_⟩) ?_;intro b9 H;refine kN ?_;obtain ⟨aD,hM⟩:=M.e_grd hM
    replace aD:=M.imp_of aD;simp only [Bool.and_eq_true,decide_eq_true_eq] at aD;refine kG 2 ?_;obtain ⟨r3,bu,hM⟩:=M.e_bind hM;refine t_gcall (decide ((ac.getD (s*13+s2) 0)<1099511627776)) (gy_t rfl) cq (I r3) (fun _=>[Pq aa,.agg #[I x.line,B x.back]]) (fun hg=>lst2 (gd_of hg (Pq aa)) (gd_of hg (.agg #[I x.line,B x.back]))) H (fun hg=>(zaA ag ai x (aB.app _) aF (Fld.of (am.app _) rfl) (M.e_opt bu hg) _ (H.give (A:=[]) rfl)).mono fun v_ w_ ⟨y_,ap,aR,H_⟩=>by subst ap; exact ⟨aR,H.via H_⟩) ?_;intro cb H;refine kN ?_;obtain ⟨aE,hM⟩:=M.e_grd hM;replace aE:=M.imp_of aE;simp only [Bool.and_eq_true,decide_eq_true_eq] at aE;refine d_qg (decide ((ac.getD (s*13+s2) 0)<1099511627776)) rfl (gy_t rfl) (fun hg=>(fun w' H=>x_ix (v:=.pointer (some ⟨aa,(2+Int.toNat (s:Int)*13)+Int.toNat r3*1,none⟩)) (gd_of hg (.pointer (some ⟨aa,2+Int.toNat (s:Int)*13,none⟩))) (gd_of hg (I r3)) (run_indexS Tryz.underlying109 Sz3.h (by have aj:=aD.resolve_left (by rw [hg]; decide); have al:=aE.resolve_left (by rw [hg]; decide); first | exact aj | exact aj.1 | exact aj.2 | exact al | exact al.1 | exact al.2 | omega | (have ae:=hg; simp at ae; omega)) (by have aj:=aD.resolve_left (by rw [hg]; decide); have al:=aE.resolve_left (by rw [hg]; decide); first | exact aj | exact aj.1 | exact aj.2 | exact al | exact al.1 | exact al.2 | omega | (have ae:=hg; simp at ae; omega)))))<|d_qg (decide ((ac.getD (s*13+s2) 0)<1099511627776)) rfl (gy_t rfl) (fun hg=>(fun w' H=>x_ld (v:=I (ac.getD (s*13+(Int.toNat r3)) 0)) (gd_of hg (.pointer (some ⟨aa,(2+Int.toNat (s:Int)*13)+Int.toNat r3*1,none⟩))) (ldS (α:=Int) (k:=1) (off:=2) (i:=s*13+(Int.toNat r3)) (f:=0) (sz:=1) 0 Sc3.h (am.blk H) rfl (sgo1 rfl) rfl (by decide) (by have cc:=aG; have aj:=aD.resolve_left (by rw [hg]; decide); have al:=aE.resolve_left (by rw [hg]; decide); first | exact aj | exact aj.1 | exact aj.2 | exact al | exact al.1 | exact al.2 | omega | (have ae:=hg; simp at ae; omega)) (by omega) rfl))) ?_;refine kI 3 ?_ ?_
    ·intro bv hM;refine kS 2 ?_;intro ce H;refine s_nil ?_;refine W.ret ?_;obtain rfl:=M.e_inr hM aX;replace hM:=aW;exact ⟨(),[cBlk ah [B true] 4],(M.e_pure hM).symm,rfl,H.pick [1,2,3,4,5,6] (by decide) rfl,rfl⟩
    intro bv hM;obtain ⟨cf,hM⟩:=M.e_gq hM;exact kX 5
   intro br hM;refine W.exit ?_;obtain rfl:=M.e_inr hM aX;replace hM:=aW;exact ⟨(),[cBlk ah [B false] 4],(M.e_pure hM).symm,rfl,H.pick [1,2,3,4,5,6] (by decide) rfl⟩
  replace H:St w bi (cAll (cObj aI (.loop aO) :: [cBlk ah [B false] 4]) :: [cMk (aJ :: aC),cBlk av [Pq aa] 106,cBlk aw [I au] 3,cBlk aq [I (s2:Int)] 3,cBlk ao [Pq aa] 106]) R:=St.bundleB (A:=cObj aI (.loop aO) :: [cBlk ah [B false] 4]) (T:=[cMk (aJ :: aC),cBlk av [Pq aa] 106,cBlk aw [I au] 3,cBlk aq [I (s2:Int)] 3,cBlk ao [Pq aa] 106]) rfl (H.pk [0,2,1,3,4,5,6]);refine (zeB (M.yl (zau ag ai ac s2)) (.inl ()) ag ai au hYC ⟨_,rfl,rfl⟩ (aB.app _) aF (fun _ _ _=>Fld.cons (Fld.of (am.app _) rfl) _) (Has.here (k:=1) rfl) (Has.here (k:=2) rfl) bg _ (H.gt 5)).mono ?_;rintro vq cg ⟨bw,ch,rfl,hvq,aH,aZ⟩;replace H:=H.back aH rfl;clear aH hYC;rcases bw with _ | _
  ·obtain ⟨_,rfl,rfl⟩:=aZ;refine ⟨_,[cBlk ah [B false] 4,cBlk av [Pq aa] 106,cBlk aw [I au] 3,cBlk aq [I (s2:Int)] 3,cBlk ao [Pq aa] 106],H.unbundle.pick [0,2,1,3,4,5,6] (by decide) rfl,aP.nb,?_⟩;intro bx H;rw [aP.pd];replace H:=H.nf
   try simp only []
   replace H:=H.pk [0,1,4,5];refine WD.seq<|WD.of ?_;refine kD 0 [0,1,2,3] [] ?_;intro cj H;obtain ⟨ck,hM⟩:=M.e_gq hM;refine kg 5 ?_;refine d_q rfl (fun w' H=>x_ix (v:=.pointer (some ⟨aa,2+Int.toNat (s2:Int)*13,none⟩)) rfl rfl (run_indexS Tryz.underlying111 Sz109.h (by omega) (by omega)))<|d_q rfl (fun w' H=>x_ix (v:=.pointer (some ⟨aa,(2+Int.toNat (s2:Int)*13)+Int.toNat (s2:Int)*1,none⟩)) rfl rfl (run_indexS Tryz.underlying109 Sz3.h (by omega) (by omega)))<|d_q rfl (fun w' H=>x_ld (v:=I (ac.getD (s2*13+s2) 0)) rfl (ldS (α:=Int) (k:=1) (off:=2) (i:=s2*13+s2) (f:=0) (sz:=1) 0 Sc3.h (am.blk H) rfl (sgo1 rfl) rfl (by decide) (by have aY:=aG; omega) (by omega) rfl)) ?_;refine kg 2 ?_
   refine WD.cond (decide ((ac.getD (s2*13+s2) 0)<0)) rfl (fun aA=>?_) (fun aA=>?_)
   ·replace hM:=M.e_t hM aA;replace aA:=dI aA;refine WD.seq<|WD.of ?_;refine kS 1 ?_;intro cn H;refine s_nil<|WD.of ?_;refine W.ret ?_
    obtain rfl:=M.e_inr hM aN;replace hM:=aM;refine bodyD_r (H.pk [0,1,2,3]) ?_;intro cp H;replace H:=H.nf;have bz:=(H.bl 0)
    have ap:=M.e_pure hM;exact ⟨_,(resE_of1 (v:=B true) rfl (.cell (v:=B true) rfl (run_loadVar_sc Sc4.h bz rfl)<|.nil)),⟨true,ap,rfl,(H.pk [])⟩⟩
   replace hM:=M.e_f hM aA;replace aA:=dI aA;refine WD.of<|W.skip<|WD.of ?_;obtain ⟨cr,hM⟩:=M.e_gq hM
   exact kXp 4 [1,3,0]
  obtain ⟨_,rfl,rfl⟩:=aZ;refine ⟨_,[cBlk ah [B true] 4,cBlk av [Pq aa] 106,cBlk aw [I au] 3,cBlk aq [I (s2:Int)] 3,cBlk ao [Pq aa] 106],H.unbundle.pick [0,2,1,3,4,5,6] (by decide) rfl,nofun,?_⟩;intro bx H;show WD _ _ _ (.ret) _ _ _;refine WD.of ?_;refine W.ret ?_;replace H:=H.nf;obtain rfl:=M.e_inr hM aN;replace hM:=aM;refine bodyD_r (H.pk [0,1,2,3,4,5]) ?_;intro ct H;replace H:=H.nf;have bA:=(H.bl 0)
  have ap:=M.e_pure hM;exact ⟨_,(resE_of1 (v:=B true) rfl (.cell (v:=B true) rfl (run_loadVar_sc Sc4.h bA rfl)<|.nil)),⟨true,ap,rfl,(H.pk [])⟩⟩
 replace hM:=M.e_f hM ay;replace ay:=dI ay;refine WD.of ?_;refine W.exit ?_;obtain rfl:=M.e_inr hM aN;replace hM:=aM;refine WD.seq<|WD.of ?_;refine kS 1 ?_;intro cv H;refine s_nil<|WD.of ?_;refine W.ret ?_;refine bodyD_r (H.pk [2,0,1]) ?_;intro cw H;replace H:=H.nf
 have bB:=(H.bl 0)
 have ap:=M.e_pure hM;exact ⟨_,(resE_of1 (v:=B false) rfl (.cell (v:=B false) rfl (run_loadVar_sc Sc4.h bB rfl)<|.nil)),⟨false,ap,rfl,(H.pk [])⟩⟩

def zeC (n_Marks:Int) (n_Lines:List Line):M (Int ⊕ (Int × (List Int) × (List Leg) × Int)) :=
  M.bind (zcM n_Marks n_Lines) fun x_=>match x_ with
  | (.inl r1)=>(
  bif r1==0 then (
  M.fail)
  else (
  M.pure (.inl r1)))
  | (.inr (aa,ac,ae,ag))=>(
  M.bind (M.opt (ag==0) (za4 aa n_Lines ac ae) false) fun r2 =>
  bif ((ag==0)&&r2) then (
  M.pure (.inr (aa,ac,ae,7)))
  else (
  M.pure (.inr (aa,ac,ae,ag))))
theorem zfZ {R ap ac}(n_Marks n_Lines)(aq:Reads R ap)(au:Sl ap ac n_Lines){r}(hM:(zeC n_Marks n_Lines).Ends r)(w)(H:St w w [] R):Ret Tryz.prog 60 #[.agg #[I n_Marks,ac]] w fun v w'=>(∃ (y0:Int),(.inl y0)=r/\v = .tuple #[.pointer none,I y0]/\St w w' [] R)∨(∃ (y0:Int) (y1:List Int) (y2:List Leg) (y3:Int) (av:Nat),(.inr (y0,y1,y2,y3))=r/\v = .tuple #[Pq av,I y3]/\St w w' [cBlk av (List.flatten [[I y0,ac],encF (α:=Int) y1,encF (α:=Leg) y2]) 117] R/\y1.length=169/\y2.length=169):=by
 refine ret_of_W Tryz.func60 rfl rfl rfl ?_;refine kB 2 ?_;intro aF aG H;refine kg 6 ?_;obtain ⟨aH,ay,hM⟩:=M.e_bind hM;refine s_call cq [.agg #[I n_Marks,ac]] rfl (zg5 n_Marks n_Lines (aq.app _) au ay _ (H.gt 1)) ?_;rintro vq aI (⟨r1,aA,hvq,ah⟩ | ⟨ai,aj,al,aw,ae,aB,hvq,ah,am,ao⟩)
 ·subst aA;subst vq;replace H:=H.bk ah;refine kg 13 ?_;refine (Bool.eq_false_or_eq_true (r1==0)).elim (fun ag=>?_) (fun ag=>?_)
  ·exact (M.e_fail (M.e_t hM ag)).elim
  replace hM:=M.e_f hM ag;refine g_val (v:=B false) (r1==0) (gy_t rfl) (fun hg=>Bool.noConfusion (ag.symm.trans hg))<|s_val (x_pand0 (b:=r1==0) rfl (fun hb=>gd_of (c:=r1==0) (by first | exact hb | (rw [hb]; rfl) | simp_all) (B false)) rfl)<|s_nil ?_
  refine W.cond false rfl (fun ax=>?_) (fun ax=>?_)
  ·exact absurd ax (by decide)
  refine kg 8 ?_;refine W.ret ?_;have aa:=M.e_pure hM;exact ⟨_,resE_tmp2 rfl,.inl (⟨r1,aa,rfl,(H.pk [])⟩)⟩
 subst aB;subst vq;replace H:=H.bk ah;refine kg 13 ?_;obtain ⟨r2,aC,hM⟩:=M.e_bind hM;refine t_gcall (aw==0) (gy_t rfl) cq (B r2) (fun _=>[Pq ae]) (fun hg=>lst1 (gd_of hg (Pq ae))) H (fun hg=>(zgu ai n_Lines aj al (aq.app _) au am ao (Has.here (k:=0) rfl) (M.e_opt aC hg) _ (H.give (A:=[]) rfl)).mono fun v_ w_ ⟨y_,aa,aD,H_⟩=>by subst aa; exact ⟨aD,H.via H_⟩) ?_;intro aJ H;refine kI 2 ?_ ?_
 ·intro aE hM;refine kg 10 ?_;refine W.ret ?_;have aa:=M.e_pure hM;exact ⟨_,resE_tmp2 rfl,.inr (⟨ai,aj,al,7,ae,aa,rfl,(H.pk [0]),am,ao⟩)⟩
 intro aE hM;refine kg 8 ?_;refine W.ret ?_;have aa:=M.e_pure hM;exact ⟨_,resE_tmp2 rfl,.inr (⟨ai,aj,al,aw,ae,aa,rfl,(H.pk [0]),am,ao⟩)⟩

def zdR (n_Marks:Int) (n_Lines:List Line) (aa ac:Int) (same:Bool):M (Int ⊕ (Int × (List Int) × (List Leg) × Int)) :=
  M.bind (zbE n_Marks n_Lines) fun r2 =>
  bif r2 != 0 then (
  M.pure (.inl r2))
  else (
  M.gi (n_Marks-1) <|
  M.bind (zar aa 0 (n_Marks-1)) fun r3 =>
  M.bind (M.opt (!(!r3)) (zar ac 0 (n_Marks-1)) false) fun r4 =>
  bif (((!r3)||(!r4))||((!same)&&(aa==ac))) then (
  M.pure (.inl 2))
  else (
  M.bind (zeC n_Marks n_Lines) fun x_=>match x_ with
  | (.inl r1)=>(
  bif r1==0 then (
  M.fail)
  else (
  M.pure (.inl r1)))
  | (.inr (ah,ag,ai,ae))=>(
  M.grd ((!(ae==0)||(decide ((0:Int)<=aa)&&decide (aa<(13:Int))))) <|
  M.grd ((!(ae==0)||(decide ((0:Int)<=ac)&&decide (ac<(13:Int))))) <|
  bif ((ae==0)&&((ag.getD ((Int.toNat aa)*13+(Int.toNat ac)) 0)==1099511627776)) then (
  M.pure (.inr (ah,ag,ai,5)))
  else (
  M.pure (.inr (ah,ag,ai,ae))))))
theorem zhs {R ax ap}(n_Marks n_Lines ah ag same)(aE:Reads R ax)(aF:Sl ax ap n_Lines){r}(hM:(zdR n_Marks n_Lines ah ag same).Ends r)(w)(H:St w w [] R):Ret Tryz.prog 24 #[.agg #[I n_Marks,ap],I ah,I ag,B same] w fun v w'=>(∃ (y0:Int),(.inl y0)=r/\v = .tuple #[.pointer none,I y0]/\St w w' [] R)∨(∃ (y0:Int) (y1:List Int) (y2:List Leg) (y3:Int) (ay:Nat),(.inr (y0,y1,y2,y3))=r/\v = .tuple #[Pq ay,I y3]/\St w w' [cBlk ay (List.flatten [[I y0,ap],encF (α:=Int) y1,encF (α:=Leg) y2]) 117] R/\y1.length=169/\y2.length=169):=by
 refine ret_of_W Tryz.func24 rfl rfl rfl ?_;refine kB 2 ?_;intro aO aP H;refine kC 7 @zeR ?_;intro aQ r2 hM H;refine kI 7 ?_ ?_
 ·intro aG hM;refine kg 6 ?_;refine W.ret ?_;have ac:=M.e_pure hM;exact ⟨_,resE_tmp2 rfl,.inl (⟨r2,ac,rfl,(H.pk [])⟩)⟩
 intro aG hM;obtain ⟨aR,hM⟩:=M.e_gq hM;refine kC 8 @zay ?_;intro aS r3 hM H;refine kg 6 ?_;obtain ⟨r4,aH,hM⟩:=M.e_bind hM;refine t_gcall (!(!r3)) (gy_f rfl) cq (B r4) (fun _=>[I ag,I 0,I (n_Marks-1)]) (fun hg=>lst3 (gd_of hg (I ag)) rfl (gd_of hg (I (n_Marks-1)))) H (fun hg=>(zay ag 0 (n_Marks-1) (M.e_opt aH hg) _ (H.give (A:=[]) rfl)).mono fun v_ w_ ⟨y_,ac,aI,H_⟩=>by subst ac; exact ⟨aI,H.via H_⟩) ?_;intro aT H;refine kI 12 ?_ ?_
 ·intro aJ hM;refine kg 5 ?_;refine W.ret ?_;have ac:=M.e_pure hM;exact ⟨_,resE_tmp2 rfl,.inl (⟨2,ac,rfl,(H.pk [])⟩)⟩
 intro aJ hM;refine kg 4 ?_;obtain ⟨aU,aK,hM⟩:=M.e_bind hM;refine s_call cq [.agg #[I n_Marks,ap]] rfl (zfZ n_Marks n_Lines (aE.app _) aF aK _ (H.gt 1)) ?_;rintro vq aV (⟨r1,aL,hvq,au⟩ | ⟨aA,av,aB,aq,am,aM,hvq,au,aw,aC⟩)
 ·subst aL;subst vq;replace H:=H.bk au;refine kg 15 ?_;refine (Bool.eq_false_or_eq_true (r1==0)).elim (fun ai=>?_) (fun ai=>?_)
  ·exact (M.e_fail (M.e_t hM ai)).elim
  replace hM:=M.e_f hM ai;refine g_val (v:=.slice none 0 0) (r1==0) (gy_t rfl) (fun hg=>Bool.noConfusion (ai.symm.trans hg))<|g_val (v:=.slice none 0 0) (r1==0) (gy_t rfl) (fun hg=>Bool.noConfusion (ai.symm.trans hg))<|g_val (v:=.slice none 0 0) (r1==0) (gy_t rfl) (fun hg=>Bool.noConfusion (ai.symm.trans hg))<|g_val (v:=.slice none 0 0) (r1==0) (gy_t rfl) (fun hg=>Bool.noConfusion (ai.symm.trans hg))<|g_val (v:=I 0) (r1==0) (gy_t rfl) (fun hg=>Bool.noConfusion (ai.symm.trans hg))<|g_val (v:=B false) (r1==0) (gy_t rfl) (fun hg=>Bool.noConfusion (ai.symm.trans hg))<|s_val (x_pand0 (b:=r1==0) rfl (fun hb=>gd_of (c:=r1==0) (by first | exact hb | (rw [hb]; rfl) | simp_all) (B false)) rfl)<|s_nil ?_
  refine W.cond false rfl (fun aD=>?_) (fun aD=>?_)
  ·exact absurd aD (by decide)
  refine kg 8 ?_;refine W.ret ?_;have ac:=M.e_pure hM;exact ⟨_,resE_tmp2 rfl,.inl (⟨r1,ac,rfl,(H.pk [])⟩)⟩
 subst aM;subst vq;replace H:=H.bk au;obtain ⟨al,hM⟩:=M.e_grd hM;replace al:=M.imp_of al;simp only [Bool.and_eq_true,decide_eq_true_eq] at al;refine kg 17 ?_;refine g_val (aq==0) (gy_t rfl) (fun hg=>x_ix (v:=.pointer (some ⟨am,2+Int.toNat ah*13,none⟩)) (gd_of hg (Oq am 2)) (gd_of hg (I ah)) (run_indexS Tryz.underlying111 Sz109.h (by have aa:=al.resolve_left (by rw [hg]; decide); first | exact aa | exact aa.1 | exact aa.2 | omega | (have aj:=hg; simp at aj; omega)) (by have aa:=al.resolve_left (by rw [hg]; decide); first | exact aa | exact aa.1 | exact aa.2 | omega | (have aj:=hg; simp at aj; omega)))) ?_;obtain ⟨ao,hM⟩:=M.e_grd hM;replace ao:=M.imp_of ao;simp only [Bool.and_eq_true,decide_eq_true_eq] at ao;refine g_val (aq==0) (gy_t rfl) (fun hg=>x_ix (v:=.pointer (some ⟨am,(2+Int.toNat ah*13)+Int.toNat ag*1,none⟩)) (gd_of hg (.pointer (some ⟨am,2+Int.toNat ah*13,none⟩))) (gd_of hg (I ag)) (run_indexS Tryz.underlying109 Sz3.h (by have aa:=al.resolve_left (by rw [hg]; decide); have ae:=ao.resolve_left (by rw [hg]; decide); first | exact aa | exact aa.1 | exact aa.2 | exact ae | exact ae.1 | exact ae.2 | omega | (have aj:=hg; simp at aj; omega)) (by have aa:=al.resolve_left (by rw [hg]; decide); have ae:=ao.resolve_left (by rw [hg]; decide); first | exact aa | exact aa.1 | exact aa.2 | exact ae | exact ae.1 | exact ae.2 | omega | (have aj:=hg; simp at aj; omega))))<|g_val (aq==0) (gy_t rfl) (fun hg=>x_ld (v:=I (av.getD ((Int.toNat ah)*13+(Int.toNat ag)) 0)) (gd_of hg (.pointer (some ⟨am,(2+Int.toNat ah*13)+Int.toNat ag*1,none⟩))) (ldS (α:=Int) (k:=1) (off:=2) (i:=(Int.toNat ah)*13+(Int.toNat ag)) (f:=0) (sz:=1) 0 Sc3.h (H.bl 0) rfl (sgo1 rfl) rfl (by decide) (by have aW:=aw; have aa:=al.resolve_left (by rw [hg]; decide); have ae:=ao.resolve_left (by rw [hg]; decide); first | exact aa | exact aa.1 | exact aa.2 | exact ae | exact ae.1 | exact ae.2 | omega | (have aj:=hg; simp at aj; omega)) (by omega) rfl)) ?_;refine kI 3 ?_ ?_
 ·intro aN hM;refine kg 10 ?_;refine W.ret ?_;have ac:=M.e_pure hM;exact ⟨_,resE_tmp2 rfl,.inr (⟨aA,av,aB,5,am,ac,rfl,(H.pk [0]),aw,aC⟩)⟩
 intro aN hM;refine kg 8 ?_;refine W.ret ?_;have ac:=M.e_pure hM;exact ⟨_,resE_tmp2 rfl,.inr (⟨aA,av,aB,aq,am,ac,rfl,(H.pk [0]),aw,aC⟩)⟩

end Go.Proofs.YtaolcidinlnklaaGreat
end
section
set_option maxRecDepth 100000
set_option maxHeartbeats 16000000
namespace Go.Proofs.YtaolcidinlnklaaGreat
open Go Go.Nm
attribute [local irreducible] gd execOp SL SLD SLT WR
def zbp (n_Marks:Int) (n_Lines:List Line) (aa ac:Int):M (Int × Int × Int) :=
  M.bind (zdR n_Marks n_Lines aa ac true) fun x_=>match x_ with
  | (.inl r1)=>(
  bif r1 != 0 then (
  M.pure (0,0,r1))
  else (
  M.fail))
  | (.inr (ah,ae,ai,ag))=>(
  bif ag != 0 then (
  M.pure (0,0,ag))
  else (
  M.grd (decide ((0:Int)<=ac)&&decide (ac<(13:Int))) <|
  M.grd (decide ((0:Int)<=aa)&&decide (aa<(13:Int))) <|
  M.grd (decide (-9223372036854775807<=(ae.getD ((Int.toNat ac)*13+(Int.toNat aa)) 0))&&decide ((ae.getD ((Int.toNat ac)*13+(Int.toNat aa)) 0)<=9223372036854775807)) <|
  M.pure ((-(ae.getD ((Int.toNat ac)*13+(Int.toNat aa)) 0)),(ae.getD ((Int.toNat aa)*13+(Int.toNat ac)) 0),0)))
theorem ze6 {R aj ag}(n_Marks n_Lines aa ac)(am:Reads R aj)(ao:Sl aj ag n_Lines){r}(hM:(zbp n_Marks n_Lines aa ac).Ends r)(w)(H:St w w [] R):Ret Tryz.prog 8 #[.agg #[I n_Marks,ag],I aa,I ac] w fun v w'=>∃ y0 y1 y2,(y0,y1,y2)=r/\v = .tuple #[.agg #[I y0,I y1],I y2]/\St w w' [] R:=by
 refine ret_of_W Tryz.func8 rfl rfl rfl ?_;refine kB 2 ?_;intro ay aA H;refine kal ?_;intro aB aC H;refine kg 7 ?_;obtain ⟨aD,ap,hM⟩:=M.e_bind hM;refine s_call cq [.agg #[I n_Marks,ag],I aa,I ac,B true] rfl (zhs n_Marks n_Lines aa ac true (am.app _) ao ap _ (H.gt 2)) ?_;rintro vq aE (⟨r1,aq,hvq,ah⟩ | ⟨aF,ai,aG,aH,ae,au,hvq,ah,al,aI⟩)
 ·subst aq;subst vq;replace H:=H.bk ah;refine kI 12 ?_ ?_
  ·intro av hM;refine kS 4 ?_;intro aJ H;exact kR 2 []
  intro av hM;refine kg 2 ?_;exact (M.e_fail hM).elim
 subst au;subst vq;replace H:=H.bk ah;refine kI 12 ?_ ?_
 ·intro aw hM;refine kS 4 ?_;intro aK H;refine kg 2 ?_;replace H:=H.pk [1];exact kR 0 []
 intro aw hM;refine kD 2 [0,2] [18] ?_;intro aL H;obtain ⟨aM,hM⟩:=M.e_gq hM;refine kg 5 ?_;refine d_q rfl (fun w' H=>x_ix (v:=.pointer (some ⟨ae,2+Int.toNat ac*13,none⟩)) rfl rfl (run_indexS Tryz.underlying111 Sz109.h (by omega) (by omega))) ?_;obtain ⟨aN,hM⟩:=M.e_gq hM;refine d_q rfl (fun w' H=>x_ix (v:=.pointer (some ⟨ae,(2+Int.toNat ac*13)+Int.toNat aa*1,none⟩)) rfl rfl (run_indexS Tryz.underlying109 Sz3.h (by omega) (by omega)))<|d_q rfl (fun w' H=>x_ld (v:=I (ai.getD ((Int.toNat ac)*13+(Int.toNat aa)) 0)) rfl (ldS (α:=Int) (k:=1) (off:=2) (i:=(Int.toNat ac)*13+(Int.toNat aa)) (f:=0) (sz:=1) 0 Sc3.h (H.bl 0) rfl (sgo1 rfl) rfl (by decide) (by have ax:=al; omega) (by omega) rfl)) ?_;obtain ⟨aO,hM⟩:=M.e_gq hM;refine d_q rfl (fun w' H=>x_neg (a:=ai.getD ((Int.toNat ac)*13+(Int.toNat aa)) 0) rfl (by omega)) ?_;refine kg 5 ?_;refine d_q rfl (fun w' H=>x_ix (v:=.pointer (some ⟨ae,2+Int.toNat aa*13,none⟩)) rfl rfl (run_indexS Tryz.underlying111 Sz109.h (by omega) (by omega)))<|d_q rfl (fun w' H=>x_ix (v:=.pointer (some ⟨ae,(2+Int.toNat aa*13)+Int.toNat ac*1,none⟩)) rfl rfl (run_indexS Tryz.underlying109 Sz3.h (by omega) (by omega)))<|d_q rfl (fun w' H=>x_ld (v:=I (ai.getD ((Int.toNat aa)*13+(Int.toNat ac)) 0)) rfl (ldS (α:=Int) (k:=1) (off:=2) (i:=(Int.toNat aa)*13+(Int.toNat ac)) (f:=0) (sz:=1) 0 Sc3.h (H.bl 0) rfl (sgo1 rfl) rfl (by decide) (by have ax:=al; omega) (by omega) rfl)) ?_;refine kS 2 ?_;intro aP H;refine kN ?_;refine kg 2 ?_;replace H:=H.pk [1]
 exact kR 0 []

end Go.Proofs.YtaolcidinlnklaaGreat
end
namespace Go.Proofs
open Go.RowKit Go.Maps Go.Sort Go.Shelf
def Tryz.sortA_ren:Go.Shelf.Ren:=⟨fun | 5=>33 | 7=>71 | 8=>72 | 10=>129 | 11=>130 | 12=>131 | 13=>132 | 14=>133 | 15=>134 | 16=>135 | 17=>136 | 18=>137 | 19=>138 | 20=>139 | 30=>199 | 31=>200 | 32=>201 | 33=>202 | 34=>203 | 35=>204 | 40=>237 | n=>n,fun | 0=>0 | 3=>3 | 4=>4 | 5=>5 | 9=>9 | 22=>26 | 23=>26 | 25=>3 | 32=>204 | 35=>269 | 36=>270 | 41=>229 | 44=>276 | 46=>278 | 53=>315 | 57=>319 | 63=>352 | 64=>353 | n=>n,fun | n=>n⟩
theorem Tryz.sortA:Go.Proofs.SlLaysM.n5 Tryz.prog Tryz.sortA_ren:={
  mixed:=by kernel_rfl
  f5 := ⟨"slices.Sort[[]int,int]", by kernel_rfl, Tryz.func33.trans (congrArg some (by kernel_rfl))⟩
  f7 := ⟨"slices.pdqsortOrdered[int]", by kernel_rfl, Tryz.func71.trans (congrArg some (by kernel_rfl))⟩
  f8:=Tryz.func72.trans (congrArg some (by kernel_rfl))
  f10 := ⟨"slices.insertionSortOrdered[int]", by kernel_rfl, Tryz.func129.trans (congrArg some (by kernel_rfl))⟩
  f11 := ⟨"slices.heapSortOrdered[int]", by kernel_rfl, Tryz.func130.trans (congrArg some (by kernel_rfl))⟩
  f12 := ⟨"slices.breakPatternsOrdered[int]", by kernel_rfl, Tryz.func131.trans (congrArg some (by kernel_rfl))⟩
  f13 := ⟨"slices.choosePivotOrdered[int]", by kernel_rfl, Tryz.func132.trans (congrArg some (by kernel_rfl))⟩
  f14 := ⟨"slices.reverseRangeOrdered[int]", by kernel_rfl, Tryz.func133.trans (congrArg some (by kernel_rfl))⟩
  f15 := ⟨"slices.partialInsertionSortOrdered[int]", by kernel_rfl, Tryz.func134.trans (congrArg some (by kernel_rfl))⟩
  f16 := ⟨"cmp.Less[int]", by kernel_rfl, Tryz.func135.trans (congrArg some (by kernel_rfl))⟩
  f17 := ⟨"slices.partitionEqualOrdered[int]", by kernel_rfl, Tryz.func136.trans (congrArg some (by kernel_rfl))⟩
  f18 := ⟨"slices.partitionOrdered[int]", by kernel_rfl, Tryz.func137.trans (congrArg some (by kernel_rfl))⟩
  f19:=Tryz.func138.trans (congrArg some (by kernel_rfl))
  f20:=Tryz.func139.trans (congrArg some (by kernel_rfl))
  f30 := ⟨"slices.siftDownOrdered[int]", by kernel_rfl, Tryz.func199.trans (congrArg some (by kernel_rfl))⟩
  f31:=Tryz.func200.trans (congrArg some (by kernel_rfl))
  f32:=Tryz.func201.trans (congrArg some (by kernel_rfl))
  f33 := ⟨"slices.medianAdjacentOrdered[int]", by kernel_rfl, Tryz.func202.trans (congrArg some (by kernel_rfl))⟩
  f34 := ⟨"slices.medianOrdered[int]", by kernel_rfl, Tryz.func203.trans (congrArg some (by kernel_rfl))⟩
  f35 := ⟨"cmp.isNaN[int]", by kernel_rfl, Tryz.func204.trans (congrArg some (by kernel_rfl))⟩
  f40 := ⟨"slices.order2Ordered[int]", by kernel_rfl, Tryz.func237.trans (congrArg some (by kernel_rfl))⟩
  t0:=Tryz.underlying0
  a0:=Tryz.isAgg0
  z0:=Tryz.sizeOf0
  v0:=Tryz.zeroValue0
  t3:=Tryz.underlying3
  a3:=Tryz.isAgg3
  z3:=Tryz.sizeOf3
  v3:=Tryz.zeroValue3
  t4:=Tryz.underlying4
  a4:=Tryz.isAgg4
  z4:=Tryz.sizeOf4
  v4:=Tryz.zeroValue4
  t5:=Tryz.underlying5
  a5:=Tryz.isAgg5
  z5:=Tryz.sizeOf5
  v5:=Tryz.zeroValue5
  t9:=Tryz.underlying9
  a9:=Tryz.isAgg9
  z9:=Tryz.sizeOf9
  v9:=Tryz.zeroValue9
  t22:=Tryz.underlying26
  a22:=Tryz.isAgg26
  z22:=Tryz.sizeOf26
  v22:=Tryz.zeroValue26
  t23:=Tryz.underlying26
  a23:=Tryz.isAgg26
  z23:=Tryz.sizeOf26
  v23:=Tryz.zeroValue26
  t25:=Tryz.underlying3
  a25:=Tryz.isAgg3
  z25:=Tryz.sizeOf3
  v25:=Tryz.zeroValue3
  t32:=Tryz.underlying204
  a32:=Tryz.isAgg204
  z32:=Tryz.sizeOf204
  v32:=Tryz.zeroValue204
  t35:=Tryz.underlying269
  a35:=Tryz.isAgg269
  z35:=Tryz.sizeOf269
  v35:=Tryz.zeroValue269
  t36:=Tryz.underlying270
  a36:=Tryz.isAgg270
  z36:=Tryz.sizeOf270
  v36:=Tryz.zeroValue270
  t41:=Tryz.underlying229
  a41:=Tryz.isAgg229
  z41:=Tryz.sizeOf229
  v41:=Tryz.zeroValue229
  t44:=Tryz.underlying276
  a44:=Tryz.isAgg276
  z44:=Tryz.sizeOf276
  v44:=Tryz.zeroValue276
  t46:=Tryz.underlying278
  a46:=Tryz.isAgg278
  z46:=Tryz.sizeOf278
  v46:=Tryz.zeroValue278
  t53:=Tryz.underlying315
  a53:=Tryz.isAgg315
  z53:=Tryz.sizeOf315
  v53:=Tryz.zeroValue315
  t57:=Tryz.underlying319
  a57:=Tryz.isAgg319
  z57:=Tryz.sizeOf319
  v57:=Tryz.zeroValue319
  t63:=Tryz.underlying352
  a63:=Tryz.isAgg352
  z63:=Tryz.sizeOf352
  v63:=Tryz.zeroValue352
  t64:=Tryz.underlying353
  a64:=Tryz.isAgg353
  z64:=Tryz.sizeOf353
  v64:=Tryz.zeroValue353 }
end Go.Proofs
namespace Go.Nm
open Go
theorem OwnF.row {B:Nat} {e:TypeId} {w:World} {l:List Int} {g cap:Nat} {cur:Array Value} (ho:OwnF B e w (.slice (some ⟨g,0,none⟩) l.length cap) l) (hg:w.heap[g]?=some (.cells cur e (0,0)))
    (hcs:l.length<=cap) (hsz:cur.size=cap) (hb:B<=g) (hm:cap<=maxLen) (d:Array Int) (hl:d.size=l.length) (q:Nat) :
    OwnF B e (Sort.putRow (Value.int .i64) (Sort.ahead w q) g 0 d) (.slice (some ⟨g,0,none⟩) l.length cap) d.toList/\Grow B (.slice (some ⟨g,0,none⟩) l.length cap) w (Sort.putRow (Value.int .i64) (Sort.ahead w q) g 0 d):=by
  have hs1:Elt.sz Int=1:=rfl;have h1:(Sort.putRow (Value.int .i64) (Sort.ahead w q) g 0 d).heap[g]?=some (.cells (Sort.putCells (Value.int .i64) 0 d cur) e (0,0)):=by
    show (w.heap.modify g _)[g]?=_;rw [Array.getElem?_modify,if_pos rfl,hg];rfl
  have h2:∀ k,k ≠ g->(Sort.putRow (Value.int .i64) (Sort.ahead w q) g 0 d).heap[k]?=w.heap[k]?:=by
    intro k hk;show (w.heap.modify g _)[k]?=_;rw [Array.getElem?_modify,if_neg (fun h=>hk h.symm)]
  refine ⟨⟨by rw [enc_ints]; simp [hs1],.inr ⟨g,cap,_,by simp [hl],hb,h1,by simp [hl]; omega,hm,by simp [hs1,Sort.putCells]; omega,?_⟩⟩,⟨rfl,rfl,by simp [Sort.putRow,Sort.mapBlock,Sort.ahead],fun k _ hk=>?_,fun g' hg'=>(ho.lt g' hg').1,fun a=>by simp⟩⟩
  · rw [enc_ints,hs1];apply List.ext_getElem?;intro i;rw [List.getElem?_take,List.getElem?_map];by_cases hi:i<d.toList.length*1
    · rw [if_pos hi];have hi':i<d.size:=by simpa using hi
      have hc:i<cur.size:=by omega
      simp [Sort.putCells,hi',hc]
    · rw [if_neg hi,List.getElem?_eq_none (by simpa using hi)];rfl
  · refine h2 k (fun e'=>hk ?_);rw [e'];rfl
end Go.Nm
namespace Go.Proofs.YtaolcidinlnklaaGreat
open Go Go.Nm Go.Proofs
theorem sort_any {w:World} {v:Value} {l:List Int} (ho:OwnF 0 3 w v l) (hl:l.length<=1000000):Ret Tryz.prog 33 #[v] w fun u w'=>u = .tuple #[]/\OwnF 0 3 w' v (isort l)/\Keep w w'/\∀ b,b<w.heap.size->v.ownBlock ≠ some b->w'.heap[b]?=w.heap[b]?:=by
  have ho':=ho;rcases ho.2 with ⟨rfl,hn⟩ | ⟨g,cap,cur,rfl,hb,hg,hc,hm,hcs,htake⟩
  · obtain rfl:=List.length_eq_zero_iff.1 hn;have h:=AnyM.slices_Sort_int_none Tryz.sortA none 0 w;refine Calls.mono h ?_;rintro _ w' ⟨rfl,rfl⟩;exact ⟨_,rfl,rfl,ho,Keep.refl _,fun _ _ _=>rfl⟩
  · have hs1:Elt.sz Int=1:=rfl;rw [hs1] at hcs htake;rw [enc_ints] at htake;have hcell:∀ j,j<l.length->w.cell? ⟨g,0+j,none⟩=some (.int .i64 (l.getD j 0)):=by
      intro j hj;rw [Nat.zero_add,cell_of_row w g j cur 3 (0,0) hg];have h1:(cur.toList.take (l.length*1))[j]?=(l.map I)[j]?:=by rw [htake]
      rw [List.getElem?_take,if_pos (by omega),List.getElem?_map,getD_some l hj 0] at h1
      simpa using h1
    have hH:Sort.Holds (Value.int .i64) w g 0 l.toArray:=by
      intro j hj;have hj:j<l.length:=by simpa using hj
      refine ⟨?_,by simp [World.frozen?,hg]⟩;rw [hcell j hj];have:l.getD j 0=l.toArray[j]!:=by
        rw [List.getD_eq_getElem?_getD,List.getElem?_eq_getElem hj];simp [getElem!_pos,hj]
      rw [this]
    have h:=AnyM.slices_Sort_int Tryz.sortA g 0 cap l w hH (heap_lt hg) (by omega);refine Calls.mono h ?_;rintro _ w' ⟨rfl,q,os,rfl⟩;rw [merge_isort (List.Perm.refl l)];have hlen:(isort l).length=l.length:=(isort_perm l).length_eq;obtain ⟨h1,h2⟩:=OwnF.row ho hg hc (by omega) hb hm (isort l).toArray (by simp [hlen]) q;have hlt:g<(Sort.putRow (Value.int .i64) (Sort.ahead w q) g 0 (isort l).toArray).heap.size:=Nat.lt_of_lt_of_le (heap_lt hg) h2.size;refine ⟨_,rfl,rfl,?_,⟨h2.os,h2.out,by rw [Sort.size_grow]; exact Nat.le_trans h2.size (Nat.le_add_right _ _)⟩,fun b hb' hne=>?_⟩
    · rcases h1 with ⟨h3,h4 | ⟨g',cap',cur',h5,h6,h7,h8⟩⟩
      · exact absurd h4.1 (by simp)
      · simp only [Value.slice.injEq,Option.some.injEq,Addr.mk.injEq,and_true] at h5;obtain ⟨rfl,_,rfl⟩:=h5;refine ⟨h3,.inr ⟨g,cap,cur',by simp [hlen],h6,by rw [Sort.heap_grow_old _ _ hlt]; exact h7,h8⟩⟩
    · rw [Sort.heap_grow_old _ _ (Nat.lt_of_lt_of_le hb' h2.size)];exact h2.blk b hb' hne
end Go.Proofs.YtaolcidinlnklaaGreat
namespace Go.Nm
open Go
theorem St.sorted {w0 w w':World} {L L' R:List Chunk} {k:Nat} {v:Value} {l l':List Int} {e:TypeId} (H:St w0 w L R) (hk:L[k]?=some (cOwn (α:=Int) e v l)) (ho:OwnF 0 e w' v l') (kp:Keep w w') (hs:∀ b,b<w.heap.size->v.ownBlock ≠ some b->w'.heap[b]?=w.heap[b]?)
    (hl:L.set k (cOwn (α:=Int) e v l')=L'):St w0 w' L' R :=
  H.set (c':=cOwn (α:=Int) e v l') hk rfl kp hs (fun b hb=>.inl hb) ho hl
end Go.Nm
section
set_option maxRecDepth 100000
set_option maxHeartbeats 16000000
namespace Go.Proofs.YtaolcidinlnklaaGreat
open Go Go.Nm
attribute [local irreducible] gd execOp SL SLD SLT WR
def m_cmp_isNaN_int (x:Int):M Bool :=
  M.pure (x != x)
theorem cmp_isNaN_int_ok {R}(x){r}(hM:(m_cmp_isNaN_int x).Ends r)(w)(H:St w w [] R):Ret Tryz.prog 204 #[I x] w fun v w'=>∃ y0,y0=r/\v=B y0/\St w w' [] R:=by
 refine ret_of_W Tryz.func204 rfl rfl rfl ?_;refine kg 11 ?_;exact rt

def m_cmp_Compare_int (x y:Int):M Int :=
  M.bind (m_cmp_isNaN_int x) fun r2 =>
  M.bind (m_cmp_isNaN_int y) fun r3 =>
  bif r2 then (
  bif r3 then (
  M.pure 0)
  else (
  M.pure (-1)))
  else (
  bif r3 then (
  M.pure 1)
  else (
  bif decide (x<y) then (
  M.pure (-1))
  else (
  bif decide (y<x) then (
  M.pure 1)
  else (
  M.pure 0))))
theorem cmp_Compare_int_ok {R}(x y){r}(hM:(m_cmp_Compare_int x y).Ends r)(w)(H:St w w [] R):Ret Tryz.prog 149 #[I x,I y] w fun v w'=>∃ y0,y0=r/\v=I y0/\St w w' [] R:=by
 refine ret_of_W Tryz.func149 rfl rfl rfl ?_;refine kC 7 @cmp_isNaN_int_ok ?_;intro ai r2 hM H;refine kC 5 @cmp_isNaN_int_ok ?_;intro aj r3 hM H;refine kI 7 ?_ ?_
 ·intro aa hM;refine kI 5 ?_ ?_
  ·intro ac hM;refine kg 4 ?_;exact rt
  intro ac hM;refine kg 5 ?_;exact rt
 intro aa hM;refine kI 6 ?_ ?_
 ·intro ae hM;refine kg 4 ?_;exact rt
 intro ae hM;refine kI 8 ?_ ?_
 ·intro ag hM;refine kg 4 ?_;exact rt
 intro ag hM;refine kI 8 ?_ ?_
 ·intro ah hM;refine kg 4 ?_;exact rt
 intro ah hM;refine kg 5 ?_;exact rt

def zbo (r_:FRow) (stage:Int):M Int :=
  M.bind (m_cmp_Compare_int r_.stage stage) fun r2 =>
  M.pure r2
theorem zeN {R}(r_ stage){r}(hM:(zbo r_ stage).Ends r)(w)(H:St w w [] R):Ret Tryz.prog 148 #[.agg #[I r_.stage,I r_.carry],I stage] w fun v w'=>∃ y0,y0=r/\v=I y0/\St w w' [] R:=by
 refine ret_of_W Tryz.func148 rfl rfl rfl ?_;refine kB 2 ?_;intro aa ac H;refine kC 7 @cmp_Compare_int_ok ?_;intro ae r2 hM H;refine kg 2 ?_;exact rt

def zea (x:List FRow) (target:Int):(Int × Int)->M ((Int × Int) ⊕ Int):=fun (i,j) =>
  bif decide (i<j) then (
  M.gi (i+j) <|
  M.grd (decide ((0:Int)<=(i+j))&&decide ((i+j)<=(9223372036854775807:Int))) <|
  M.grd (decide ((0:Int)<=((i+j) / 2))&&decide (((i+j) / 2)<=(9223372036854775807:Int))) <|
  M.grd (decide ((0:Int)<=((i+j) / 2))&&decide (((i+j) / 2)<(x.length:Int))) <|
  M.bind (zbo (x.getD (Int.toNat ((i+j) / 2)) default) target) fun r2 =>
  bif decide (r2<0) then (
  M.pure (.inl (((i+j) / 2)+1,j)))
  else (
  M.pure (.inl (i,(i+j) / 2))))
  else (
  M.pure (.inr i))
def zcy (x:List FRow) (target:Int):M (Int × Bool) :=
  M.bind (M.iter (zea x target) (0,(x.length:Int))) fun i2 =>
  M.grd ((!(decide (i2<(x.length:Int)))||(decide ((0:Int)<=i2)&&decide (i2<(x.length:Int))))) <|
  M.bind (M.opt (decide (i2<(x.length:Int))) (zbo (x.getD (Int.toNat i2) default) target) 0) fun r3 =>
  M.pure (i2,((decide (i2<(x.length:Int)))&&(r3==0)))
theorem zg1 {R ae aa}(x target)(ay:Reads R ae)(ah:Sl ae aa x){r}(hM:(zcy x target).Ends r)(w)(H:St w w [] R):Ret Tryz.prog 147 #[aa,I target,.func (.func 148) #[] #[]] w fun v w'=>∃ y0 y1,(y0,y1)=r/\v = .tuple #[I y0,B y1]/\St w w' [] R:=by
 refine ret_of_W Tryz.func147 rfl rfl rfl ?_;have aA:=(ah).len_le;refine kg 19 ?_;obtain ⟨ai,ag,aj⟩:=M.e_bind hM;obtain ⟨aB,ag⟩:=M.e_iter ag;refine W.loop (fun m σ W=>∃ (i:Int) (j:Int) (ρ:Env),σ=upds ρ [(0,aa),(1,I target),(2,.func (.func 148) #[] #[]),(8,I (x.length:Int)),(9,I i),(10,I j)]/\M.iterN (zea x target) m (i,j)=some ai/\St w W [] R) ?_ ?_
 ·exact kY
 rintro aC σ aD ⟨i,j,ρ,rfl,al,H⟩;obtain ⟨aE,aF,aG,hM,am⟩:=M.e_iterN al;refine kI 7 ?_ ?_
 ·intro ao hM;obtain ⟨aH,hM⟩:=M.e_gq hM;obtain ⟨aI,hM⟩:=M.e_gq hM;refine kg 7 ?_;refine s_val (x_convU (kd:=.i64) (a:=i+j) Tryz.underlying3 Tryz.underlying204 rfl (by omega))<|s_val (x_ushr1 (a:=i+j) rfl rfl) ?_;obtain ⟨aJ,hM⟩:=M.e_gq hM;refine s_val (x_conv64 (kd:=.u64) (a:=(i+j) / 2) Tryz.underlying204 Tryz.underlying3 rfl (by omega)) ?_;obtain ⟨aK,hM⟩:=M.e_gq hM;refine kg 10 ?_;obtain ⟨aL,ap,hM⟩:=M.e_bind hM;refine s_callv (f:=148) rfl cq [.agg #[I ((x.getD (Int.toNat ((i+j) / 2)) default).stage),I ((x.getD (Int.toNat ((i+j) / 2)) default).carry)],I target] rfl (zeN (x.getD (Int.toNat ((i+j) / 2)) default) target ap _ (H.gt 0)) ?_
  rintro _ aM ⟨r2,rfl,rfl,aq⟩;replace H:=H.bk aq;refine kI 2 ?_ ?_
  ·intro au hM;exact kX 5
  intro au hM;exact kX 4
 intro ao hM;refine W.exit ?_;obtain rfl:=M.e_inr hM am;replace hM:=aj;obtain ⟨ac,hM⟩:=M.e_grd hM;replace ac:=M.imp_of ac;simp only [Bool.and_eq_true,decide_eq_true_eq] at ac;refine kg 13 ?_;obtain ⟨r3,av,hM⟩:=M.e_bind hM;refine t_gcallv (cap:=[]) (decide (i<(x.length:Int))) (gy_t rfl) cq (fun hg=>(gd_of hg (.func (.func 148) #[] #[]))) (I r3) (fun _=>[.agg #[I ((x.getD (Int.toNat i) default).stage),I ((x.getD (Int.toNat i) default).carry)],I target]) (fun hg=>lst2 (gd_of hg (.agg #[I ((x.getD (Int.toNat i) default).stage),I ((x.getD (Int.toNat i) default).carry)])) (gd_of hg (I target))) H (fun hg=>(zeN (x.getD (Int.toNat i) default) target (M.e_opt av hg) _ (H.give (A:=[]) rfl)).mono fun v_ w_ ⟨y_,aw,ax,H_⟩=>by subst aw; exact ⟨ax,H.via H_⟩) ?_;intro aN H;refine kg 5 ?_;exact rt

def zaa (aa:List Sect) (ac:List Mrk) (ae:List Rch) (x:Spot):M Int :=
  M.grd (decide ((0:Int)<=x.sec)&&decide (x.sec<(aa.length:Int))) <|
  M.bind (zcy ((aa.getD (Int.toNat x.sec) default).rows) x.stage) fun (r0,r1) =>
  bif r1 then (
  M.grd (decide ((0:Int)<=r0)&&decide (r0<(((aa.getD (Int.toNat x.sec) default).rows).length:Int))) <|
  M.pure ((((aa.getD (Int.toNat x.sec) default).rows).getD (Int.toNat r0) default).carry))
  else (
  bif r0==(((aa.getD (Int.toNat x.sec) default).rows).length:Int) then (
  M.gi (r0-1) <|
  M.grd (decide ((0:Int)<=(r0-1))&&decide ((r0-1)<(((aa.getD (Int.toNat x.sec) default).rows).length:Int))) <|
  M.pure ((((aa.getD (Int.toNat x.sec) default).rows).getD (Int.toNat (r0-1)) default).carry))
  else (
  bif decide (0<r0) then (
  M.gi (r0-1) <|
  M.grd (decide ((0:Int)<=(r0-1))&&decide ((r0-1)<(((aa.getD (Int.toNat x.sec) default).rows).length:Int))) <|
  M.grd (decide ((0:Int)<=r0)&&decide (r0<(((aa.getD (Int.toNat x.sec) default).rows).length:Int))) <|
  M.gi (((((aa.getD (Int.toNat x.sec) default).rows).getD (Int.toNat r0) default).carry)-((((aa.getD (Int.toNat x.sec) default).rows).getD (Int.toNat (r0-1)) default).carry)) <|
  M.gi (x.stage-((((aa.getD (Int.toNat x.sec) default).rows).getD (Int.toNat (r0-1)) default).stage)) <|
  M.gi ((((((aa.getD (Int.toNat x.sec) default).rows).getD (Int.toNat r0) default).carry)-((((aa.getD (Int.toNat x.sec) default).rows).getD (Int.toNat (r0-1)) default).carry))*(x.stage-((((aa.getD (Int.toNat x.sec) default).rows).getD (Int.toNat (r0-1)) default).stage))) <|
  M.gi (((((aa.getD (Int.toNat x.sec) default).rows).getD (Int.toNat r0) default).stage)-((((aa.getD (Int.toNat x.sec) default).rows).getD (Int.toNat (r0-1)) default).stage)) <|
  M.grd (decide (0<=((((((aa.getD (Int.toNat x.sec) default).rows).getD (Int.toNat r0) default).carry)-((((aa.getD (Int.toNat x.sec) default).rows).getD (Int.toNat (r0-1)) default).carry))*(x.stage-((((aa.getD (Int.toNat x.sec) default).rows).getD (Int.toNat (r0-1)) default).stage))))&&decide (((((((aa.getD (Int.toNat x.sec) default).rows).getD (Int.toNat r0) default).carry)-((((aa.getD (Int.toNat x.sec) default).rows).getD (Int.toNat (r0-1)) default).carry))*(x.stage-((((aa.getD (Int.toNat x.sec) default).rows).getD (Int.toNat (r0-1)) default).stage)))<=(9223372036854775807:Int))&&decide ((0:Int)<(((((aa.getD (Int.toNat x.sec) default).rows).getD (Int.toNat r0) default).stage)-((((aa.getD (Int.toNat x.sec) default).rows).getD (Int.toNat (r0-1)) default).stage)))) <|
  M.gi (((((aa.getD (Int.toNat x.sec) default).rows).getD (Int.toNat (r0-1)) default).carry)+(((((((aa.getD (Int.toNat x.sec) default).rows).getD (Int.toNat r0) default).carry)-((((aa.getD (Int.toNat x.sec) default).rows).getD (Int.toNat (r0-1)) default).carry))*(x.stage-((((aa.getD (Int.toNat x.sec) default).rows).getD (Int.toNat (r0-1)) default).stage))) / (((((aa.getD (Int.toNat x.sec) default).rows).getD (Int.toNat r0) default).stage)-((((aa.getD (Int.toNat x.sec) default).rows).getD (Int.toNat (r0-1)) default).stage)))) <|
  M.pure (((((aa.getD (Int.toNat x.sec) default).rows).getD (Int.toNat (r0-1)) default).carry)+(((((((aa.getD (Int.toNat x.sec) default).rows).getD (Int.toNat r0) default).carry)-((((aa.getD (Int.toNat x.sec) default).rows).getD (Int.toNat (r0-1)) default).carry))*(x.stage-((((aa.getD (Int.toNat x.sec) default).rows).getD (Int.toNat (r0-1)) default).stage))) / (((((aa.getD (Int.toNat x.sec) default).rows).getD (Int.toNat r0) default).stage)-((((aa.getD (Int.toNat x.sec) default).rows).getD (Int.toNat (r0-1)) default).stage)))))
  else (
  M.pure 0)))
theorem zeX {R aq au av aw ax ay aA ag}(aa al am x)(aE:Reads R au)(aF:Sl au av aa)(aN:Reads R aw)(aO:Sl aw ax al)(aP:Reads R ay)(aQ:Sl ay aA am)(aR:Has R (cBlk aq [av,ax,aA,.map (some ag)] 196)){r}(hM:(zaa aa al am x).Ends r)(w)(H:St w w [cMemI encSpt ag (zaa aa al am)] R):Ret Tryz.prog 80 #[Pq aq,.agg #[I x.sec,I x.stage]] w fun v w'=>∃ y0,y0=r/\v=I y0/\St w w' [cMemI encSpt ag (zaa aa al am)] R:=by
 refine ret_of_W Tryz.func80 rfl rfl rfl ?_;have hM0:=hM;obtain ⟨ac,H,ah⟩:=St.memOpenI H (i:=0) rfl;replace H:=H.nf;cases ap:ac x with
 | none =>
  refine kB 2 ?_;intro ai aS H;refine kD 4 [0] [5] ?_;intro aT H;refine kG 6 ?_;refine s_val (q_look (kenc:=encSpt) (venc:=I) (f:=ac) (k:=x) (z:=I 0) (v:=.tuple #[I 0,B false]) keySpot Tryz.underlying194 Al3.h rfl rfl (H.get (k:=1) rfl) true (by simp [ap])) ?_;refine kN ?_;refine kg 10 ?_;refine W.cond false rfl (fun aB=>?_) (fun aB=>?_)
  ·exact absurd aB (by decide)
  refine kD 2 [0,1] [] ?_;intro aU H;obtain ⟨aV,hM⟩:=M.e_gq hM;refine kg 9 ?_;obtain ⟨aC,aG,ao⟩:=Sect_at1 aF (i:=x.sec) (by omega) (by omega);replace ao:Sl _ aC (aa.getD (Int.toNat x.sec) default).rows:=ao;have aW:=ao.len_le;refine d_q rfl (fun w' H=>x_ld (v:=aC) rfl (ld_sc Sc101.h (At.mono (aG) (aE.at H)))) ?_;refine kC 7 @zg1 ?_;intro aX r0 r1 hM H;refine kI 17 ?_ ?_
  ·intro aH hM;obtain ⟨aY,hM⟩:=M.e_gq hM;refine kD 9 [0] [6] ?_;intro aZ H;refine kG 7 ?_;refine t_mapu (i:=1) (kenc:=encSpt) (venc:=I) (f:=ac) (k:=x) (v:=(((aa.getD (Int.toNat x.sec) default).rows).getD (Int.toNat r0) default).carry) (L':=[cBlk ai [I x.sec,I x.stage] 215,cMap encSpt I ag (updF ac x ((((aa.getD (Int.toNat x.sec) default).rows).getD (Int.toNat r0) default).carry))]) keySpot Tryz.underlying194 H rfl rfl rfl rfl rfl ?_;intro a7 H;refine kN ?_;refine kg 6 ?_;refine W.ret ?_;replace H:=St.memShutI H (i:=1) rfl (memIput ah (by rw [M.e_pure hM]; exact hM0));replace H:=H.nf;have ae:=M.e_pure hM;exact ⟨_,resE_tmp rfl,⟨((((aa.getD (Int.toNat x.sec) default).rows).getD (Int.toNat r0) default).carry),ae,rfl,(H.pk [1])⟩⟩
  intro aH hM;have a8:=(ao).len_le;refine kI 8 ?_ ?_
  ·intro aI hM;obtain ⟨ba,hM⟩:=M.e_gq hM;obtain ⟨bc,hM⟩:=M.e_gq hM;refine kD 10 [0] [6] ?_;intro bg H;refine kG 7 ?_;refine t_mapu (i:=1) (kenc:=encSpt) (venc:=I) (f:=ac) (k:=x) (v:=(((aa.getD (Int.toNat x.sec) default).rows).getD (Int.toNat (r0-1)) default).carry) (L':=[cBlk ai [I x.sec,I x.stage] 215,cMap encSpt I ag (updF ac x ((((aa.getD (Int.toNat x.sec) default).rows).getD (Int.toNat (r0-1)) default).carry))]) keySpot Tryz.underlying194 H rfl rfl rfl rfl rfl ?_;intro bi H;refine kN ?_;refine kg 6 ?_;refine W.ret ?_;replace H:=St.memShutI H (i:=1) rfl (memIput ah (by rw [M.e_pure hM]; exact hM0));replace H:=H.nf;have ae:=M.e_pure hM;exact ⟨_,resE_tmp rfl,⟨((((aa.getD (Int.toNat x.sec) default).rows).getD (Int.toNat (r0-1)) default).carry),ae,rfl,(H.pk [1])⟩⟩
  intro aI hM;refine kI 6 ?_ ?_
  ·intro aJ hM;refine kDT 1 [0,1] (.q 0 (.q 1 (.q 2 (.q 3 (.q 4 (.q 5 (.q 6 (.q 7 (.q 8 (.l2 9 (.l 10 (.l 11 (.l 12 .nil))) 10 (.l 9 (.l 11 (.l 12 .nil))))))))))))) ?_;intro bj H;obtain ⟨bm,hM⟩:=M.e_gq hM;obtain ⟨bn,hM⟩:=M.e_gq hM;obtain ⟨bp,hM⟩:=M.e_gq hM;refine kg 9 ?_;refine t_l2 rfl rfl ?_ ?_
   ·refine kal ?_;intro aK br H;refine kN ?_;refine kA 1 ?_;intro aL bt H;refine kN ?_;refine kS 1 ?_;intro bu H;refine kN ?_;refine kS 1 ?_;intro bv H;refine kN ?_;refine kD 1 [0,1,2,3] [] ?_;intro bw H;obtain ⟨bx,hM⟩:=M.e_gq hM;obtain ⟨bz,hM⟩:=M.e_gq hM;obtain ⟨bA,hM⟩:=M.e_gq hM;obtain ⟨bB,hM⟩:=M.e_gq hM;obtain ⟨bC,hM⟩:=M.e_gq hM;obtain ⟨bD,hM⟩:=M.e_gq hM;refine kg 22 ?_;replace H:=H.pk [2,3];refine kD 1 [0] [6] ?_;intro bE H;refine kG 7 ?_;refine t_mapu (i:=1) (kenc:=encSpt) (venc:=I) (f:=ac) (k:=x) (v:=((((aa.getD (Int.toNat x.sec) default).rows).getD (Int.toNat (r0-1)) default).carry)+(((((((aa.getD (Int.toNat x.sec) default).rows).getD (Int.toNat r0) default).carry)-((((aa.getD (Int.toNat x.sec) default).rows).getD (Int.toNat (r0-1)) default).carry))*(x.stage-((((aa.getD (Int.toNat x.sec) default).rows).getD (Int.toNat (r0-1)) default).stage))) / (((((aa.getD (Int.toNat x.sec) default).rows).getD (Int.toNat r0) default).stage)-((((aa.getD (Int.toNat x.sec) default).rows).getD (Int.toNat (r0-1)) default).stage)))) (L':=[cBlk ai [I x.sec,I x.stage] 215,cMap encSpt I ag (updF ac x (((((aa.getD (Int.toNat x.sec) default).rows).getD (Int.toNat (r0-1)) default).carry)+(((((((aa.getD (Int.toNat x.sec) default).rows).getD (Int.toNat r0) default).carry)-((((aa.getD (Int.toNat x.sec) default).rows).getD (Int.toNat (r0-1)) default).carry))*(x.stage-((((aa.getD (Int.toNat x.sec) default).rows).getD (Int.toNat (r0-1)) default).stage))) / (((((aa.getD (Int.toNat x.sec) default).rows).getD (Int.toNat r0) default).stage)-((((aa.getD (Int.toNat x.sec) default).rows).getD (Int.toNat (r0-1)) default).stage)))))]) keySpot Tryz.underlying194 H rfl rfl rfl rfl rfl ?_;intro bF H;refine kN ?_;refine kg 6 ?_;refine W.ret ?_;replace H:=St.memShutI H (i:=1) rfl (memIput ah (by rw [M.e_pure hM]; exact hM0));replace H:=H.nf;have ae:=M.e_pure hM;exact ⟨_,resE_tmp rfl,⟨(((((aa.getD (Int.toNat x.sec) default).rows).getD (Int.toNat (r0-1)) default).carry)+(((((((aa.getD (Int.toNat x.sec) default).rows).getD (Int.toNat r0) default).carry)-((((aa.getD (Int.toNat x.sec) default).rows).getD (Int.toNat (r0-1)) default).carry))*(x.stage-((((aa.getD (Int.toNat x.sec) default).rows).getD (Int.toNat (r0-1)) default).stage))) / (((((aa.getD (Int.toNat x.sec) default).rows).getD (Int.toNat r0) default).stage)-((((aa.getD (Int.toNat x.sec) default).rows).getD (Int.toNat (r0-1)) default).stage)))),ae,rfl,(H.pk [1])⟩⟩
   refine kal ?_;intro aL bG H;refine kN ?_;refine kA 1 ?_;intro aK bH H;refine kN ?_;refine kS 1 ?_;intro bI H;refine kN ?_;refine kS 1 ?_;intro bJ H;refine kN ?_;refine kD 1 [0,1,2,3] [] ?_;intro bK H;obtain ⟨bL,hM⟩:=M.e_gq hM;obtain ⟨bN,hM⟩:=M.e_gq hM;obtain ⟨bO,hM⟩:=M.e_gq hM;obtain ⟨bP,hM⟩:=M.e_gq hM;obtain ⟨bQ,hM⟩:=M.e_gq hM;obtain ⟨bR,hM⟩:=M.e_gq hM;refine kg 22 ?_;replace H:=H.pk [2,3];refine kD 1 [0] [6] ?_;intro bS H;refine kG 7 ?_;refine t_mapu (i:=1) (kenc:=encSpt) (venc:=I) (f:=ac) (k:=x) (v:=((((aa.getD (Int.toNat x.sec) default).rows).getD (Int.toNat (r0-1)) default).carry)+(((((((aa.getD (Int.toNat x.sec) default).rows).getD (Int.toNat r0) default).carry)-((((aa.getD (Int.toNat x.sec) default).rows).getD (Int.toNat (r0-1)) default).carry))*(x.stage-((((aa.getD (Int.toNat x.sec) default).rows).getD (Int.toNat (r0-1)) default).stage))) / (((((aa.getD (Int.toNat x.sec) default).rows).getD (Int.toNat r0) default).stage)-((((aa.getD (Int.toNat x.sec) default).rows).getD (Int.toNat (r0-1)) default).stage)))) (L':=[cBlk ai [I x.sec,I x.stage] 215,cMap encSpt I ag (updF ac x (((((aa.getD (Int.toNat x.sec) default).rows).getD (Int.toNat (r0-1)) default).carry)+(((((((aa.getD (Int.toNat x.sec) default).rows).getD (Int.toNat r0) default).carry)-((((aa.getD (Int.toNat x.sec) default).rows).getD (Int.toNat (r0-1)) default).carry))*(x.stage-((((aa.getD (Int.toNat x.sec) default).rows).getD (Int.toNat (r0-1)) default).stage))) / (((((aa.getD (Int.toNat x.sec) default).rows).getD (Int.toNat r0) default).stage)-((((aa.getD (Int.toNat x.sec) default).rows).getD (Int.toNat (r0-1)) default).stage)))))]) keySpot Tryz.underlying194 H rfl rfl rfl rfl rfl ?_;intro bT H;refine kN ?_;refine kg 6 ?_;refine W.ret ?_;replace H:=St.memShutI H (i:=1) rfl (memIput ah (by rw [M.e_pure hM]; exact hM0));replace H:=H.nf;have ae:=M.e_pure hM;exact ⟨_,resE_tmp rfl,⟨(((((aa.getD (Int.toNat x.sec) default).rows).getD (Int.toNat (r0-1)) default).carry)+(((((((aa.getD (Int.toNat x.sec) default).rows).getD (Int.toNat r0) default).carry)-((((aa.getD (Int.toNat x.sec) default).rows).getD (Int.toNat (r0-1)) default).carry))*(x.stage-((((aa.getD (Int.toNat x.sec) default).rows).getD (Int.toNat (r0-1)) default).stage))) / (((((aa.getD (Int.toNat x.sec) default).rows).getD (Int.toNat r0) default).stage)-((((aa.getD (Int.toNat x.sec) default).rows).getD (Int.toNat (r0-1)) default).stage)))),ae,rfl,(H.pk [1])⟩⟩
  intro aJ hM;refine kD 2 [0] [6] ?_;intro bU H;refine kG 7 ?_;refine t_mapu (i:=1) (kenc:=encSpt) (venc:=I) (f:=ac) (k:=x) (v:=0) (L':=[cBlk ai [I x.sec,I x.stage] 215,cMap encSpt I ag (updF ac x 0)]) keySpot Tryz.underlying194 H rfl rfl rfl rfl rfl ?_;intro bV H;refine kN ?_;refine kg 6 ?_;refine W.ret ?_;replace H:=St.memShutI H (i:=1) rfl (memIput ah (by rw [M.e_pure hM]; exact hM0));replace H:=H.nf;have ae:=M.e_pure hM;exact ⟨_,resE_tmp rfl,⟨0,ae,rfl,(H.pk [1])⟩⟩
 | some aj =>
  have aM:=M.Ends.det (ah x aj ap) hM0;subst aM;replace hM:(M.pure aj).Ends aj:=M.i_pure;refine kB 2 ?_;intro ai bW H;refine kD 4 [0] [5] ?_;intro bX H;refine kG 6 ?_;refine s_val (q_look (kenc:=encSpt) (venc:=I) (f:=ac) (k:=x) (z:=I 0) (v:=.tuple #[I aj,B true]) keySpot Tryz.underlying194 Al3.h rfl rfl (H.get (k:=1) rfl) true (by simp [ap])) ?_;refine kN ?_;refine kg 10 ?_;refine W.cond true rfl (fun aD=>?_) (fun aD=>?_)
  ·refine kg 5 ?_;refine W.ret ?_;replace H:=St.memShutI H (i:=1) rfl ah;replace H:=H.nf;have ae:=M.e_pure hM;exact ⟨_,resE_tmp rfl,⟨aj,ae,rfl,(H.pk [1])⟩⟩
  exact absurd aD (by decide)

def zeA (n:Int):(Int × Int)->M ((Int × Int) ⊕ Int):=fun (low,high) =>
  bif decide (low<high) then (
  M.gi (high-low) <|
  M.gi ((high-low)+1) <|
  M.grd (decide (0<=((high-low)+1))&&decide (((high-low)+1)<=(9223372036854775807:Int))&&decide ((0:Int)<2)) <|
  M.gi (low+(((high-low)+1) / 2)) <|
  M.gi ((low+(((high-low)+1) / 2))*(low+(((high-low)+1) / 2))) <|
  bif decide (((low+(((high-low)+1) / 2))*(low+(((high-low)+1) / 2)))<=n) then (
  M.pure (.inl (low+(((high-low)+1) / 2),high)))
  else (
  M.gi ((low+(((high-low)+1) / 2))-1) <|
  M.pure (.inl (low,(low+(((high-low)+1) / 2))-1))))
  else (
  M.pure (.inr low))
def zc0 (n:Int):M Int :=
  M.bind (M.iter (zeA n) (0,2147483648)) fun low2 =>
  M.pure low2
theorem zgr {R}(n){r}(hM:(zc0 n).Ends r)(w)(H:St w w [] R):Ret Tryz.prog 81 #[I n] w fun v w'=>∃ y0,y0=r/\v=I y0/\St w w' [] R:=by
 refine ret_of_W Tryz.func81 rfl rfl rfl ?_;refine kg 11 ?_;obtain ⟨ac,aa,ae⟩:=M.e_bind hM;obtain ⟨al,aa⟩:=M.e_iter aa;refine W.loop (fun m σ W=>∃ (low:Int) (high:Int) (ρ:Env),σ=upds ρ [(0,I n),(3,I low),(4,I high)]/\M.iterN (zeA n) m (low,high)=some ac/\St w W [] R) ?_ ?_
 ·exact kY
 rintro am σ ao ⟨low,high,ρ,rfl,ag,H⟩;obtain ⟨ap,aq,au,hM,ah⟩:=M.e_iterN ag;refine kI 7 ?_ ?_
 ·intro ai hM;obtain ⟨av,hM⟩:=M.e_gq hM;obtain ⟨aw,hM⟩:=M.e_gq hM;obtain ⟨ax,hM⟩:=M.e_gq hM;obtain ⟨ay,hM⟩:=M.e_gq hM;obtain ⟨aA,hM⟩:=M.e_gq hM;refine kI 21 ?_ ?_
  ·intro aj hM;exact kX 4
  intro aj hM;obtain ⟨aB,hM⟩:=M.e_gq hM;exact kX 5
 intro ai hM;refine W.exit ?_;obtain rfl:=M.e_inr hM ah;replace hM:=ae;refine kg 5 ?_;exact rt

def zaS (aa:List Sect) (ac:List Mrk) (ae:List Rch) (r_:Rch) (c:Cas) (r3 s a:Int):M Int :=
  M.grd (decide ((0:Int)<=r_.down)&&decide (r_.down<(aa.length:Int))) <|
  M.grd (decide ((0:Int)<=r_.up)&&decide (r_.up<(aa.length:Int))) <|
  M.gi (((aa.getD (Int.toNat r_.down) default).place)-((aa.getD (Int.toNat r_.up) default).place)) <|
  M.gi (10000*a) <|
  M.gi ((10000*a)*r3) <|
  M.gi (c.up-c.down) <|
  M.gi (((10000*a)*r3)*(c.up-c.down)) <|
  M.gi (s*c.roughdown) <|
  M.gi ((s*c.roughdown)*(((aa.getD (Int.toNat r_.down) default).place)-((aa.getD (Int.toNat r_.up) default).place))) <|
  M.grd (decide (0<=(((10000*a)*r3)*(c.up-c.down)))&&decide ((((10000*a)*r3)*(c.up-c.down))<=(9223372036854775807:Int))&&decide ((0:Int)<((s*c.roughdown)*(((aa.getD (Int.toNat r_.down) default).place)-((aa.getD (Int.toNat r_.up) default).place))))) <|
  M.bind (zc0 ((((10000*a)*r3)*(c.up-c.down)) / ((s*c.roughdown)*(((aa.getD (Int.toNat r_.down) default).place)-((aa.getD (Int.toNat r_.up) default).place))))) fun r4 =>
  M.pure r4
def zaK (aa:List Sect) (ac:List Mrk) (ae:List Rch) (r_:Rch) (c:Cas):M Int :=
  M.bind (zaa aa ac ae (⟨(r_.up:Int),(c.up:Int)⟩:Spot)) fun r2 =>
  M.bind (zaa aa ac ae (⟨(r_.down:Int),(c.down:Int)⟩:Spot)) fun r3 =>
  bif r_.narrow then (
  zaS aa ac ae r_ c r3 c.roughdown r3)
  else (
  zaS aa ac ae r_ c r3 c.roughup r2)
theorem zez {R ag ai aj al am ao ap ah}(aa ac ae r_ c)(av:Reads R ai)(aw:Sl ai aj aa)(ax:Reads R al)(ay:Sl al am ac)(aA:Reads R ao)(aB:Sl ao ap ae)(aC:Has R (cBlk ag [aj,am,ap,.map (some ah)] 196)){r}(hM:(zaK aa ac ae r_ c).Ends r)(w)(H:St w w [cMemI encSpt ah (zaa aa ac ae)] R):Ret Tryz.prog 39 #[Pq ag,.agg #[I r_.up,I r_.down,I r_.lo,I r_.hi,B r_.narrow],.agg #[I c.up,I c.down,I c.roughup,I c.roughdown]] w fun v w'=>∃ y0,y0=r/\v=I y0/\St w w' [cMemI encSpt ah (zaa aa ac ae)] R:=by
 refine ret_of_W Tryz.func39 rfl rfl rfl ?_;refine kB 2 ?_;intro aq aG H;refine kbx ?_;intro au aH H;refine kDo 3 [0,1] [(0,true),(1,true),(2,true),(3,true),(4,true),(5,true),(7,true),(8,true),(9,true),(10,true),(11,true),(12,true),(6,false),(13,false),(14,true),(15,true)] ?_;intro aI H;refine kG 13 ?_;obtain ⟨aJ,aD,hM⟩:=M.e_bind hM;refine s_call cq [Pq ag,.agg #[I r_.up,I c.up]] rfl (zeX aa ac ae (⟨(r_.up:Int),(c.up:Int)⟩:Spot) (av.app _) aw (ax.app _) ay (aA.app _) aB (aC.app _) aD _ ((H.pk [2,0,1]).gt 2)) ?_;rintro _ aK ⟨r2,rfl,rfl,aE⟩;replace H:=H.pk [2,0,1] |>.bk aE
 refine kN ?_;refine kC 1 @zeX ?_;intro aL r3 hM H;refine kN ?_;refine kg 3 ?_;refine W.seqJ (fun σ W=>∃ (s:Int) (a:Int) (ρ:Env),σ=upds ρ [(0,Pq ag),(4,Pq aq),(5,Pq au),(7,I a),(8,I r3)]/\(zaS aa ac ae r_ c r3 s a).Ends r/\St w W [cMemI encSpt ah (zaa aa ac ae),cBlk au [I c.up,I c.down,I s,I c.roughdown] 58,cBlk aq [I r_.up,I r_.down,I r_.lo,I r_.hi,B r_.narrow] 53] R) ?_ ?_
 ·refine kI 5 ?_ ?_
  ·intro aF hM;refine kDo 0 [0,2] [(0,true),(1,true),(3,true),(2,false),(4,true),(5,false)] ?_;intro aM H;refine kG 5 ?_;refine kN ?_;refine kS 2 ?_;intro aN H;refine kN ?_;refine d_nil ?_;exact ⟨c.roughdown,r3,_,jQ,hM,H⟩
  intro aF hM;refine W.skip ?_;exact ⟨c.roughup,r2,_,jQ,hM,H⟩
 rintro _ aO ⟨s,a,ρ,rfl,hM,H⟩;unfold zaS at hM;refine kD 1 [0,1,2] [] ?_;intro aP H;obtain ⟨aQ,hM⟩:=M.e_gq hM;obtain ⟨aR,hM⟩:=M.e_gq hM;obtain ⟨aS,hM⟩:=M.e_gq hM;obtain ⟨aT,hM⟩:=M.e_gq hM;obtain ⟨aU,hM⟩:=M.e_gq hM;obtain ⟨aV,hM⟩:=M.e_gq hM;obtain ⟨aW,hM⟩:=M.e_gq hM;obtain ⟨aX,hM⟩:=M.e_gq hM;obtain ⟨aY,hM⟩:=M.e_gq hM;obtain ⟨aZ,hM⟩:=M.e_gq hM;refine kC 43 @zgr ?_;intro a7 r4 hM H;refine kg 2 ?_;replace H:=H.pk [0];exact rt

def zeE  : M Unit :=
  M.pure ()
theorem ze7 {R r}(hM:(zeE).Ends r)(w)(H:St w w [] R):Ret Tryz.prog 78 #[] w fun v w'=>()=r/\v = .agg #[.func (.func 145) #[] #[]]/\St w w' [] R:=by
 refine ret_of_W Tryz.func78 rfl rfl rfl ?_;refine kA 2 ?_;intro aa ac H;refine kS 4 ?_;intro ae H;exact kR 1 []

def zdq (l:List Int):(Int × Nat)->M ((Int × Nat) ⊕ Int):=fun (first2,s) =>
  bif decide ((s:Int)<(l.length:Int)) then (
  M.grd (decide ((s:Int)<(l.length:Int))) <|
  M.pure (.inl (min first2 (l.getD s 0),s+1)))
  else (
  M.pure (.inr first2))
def zaQ (first:Int) (l:List Int):M Int :=
  M.bind (M.iter (zdq l) (first,0)) fun first3 =>
  M.pure first3
theorem zdy {R ac aa}(first l)(ao:Reads R ac)(ag:Sl ac aa l){r}(hM:(zaQ first l).Ends r)(w)(H:St w w [] R):Ret Tryz.prog 144 #[I first,aa] w fun v w'=>∃ y0,y0=r/\v=I y0/\St w w' [] R:=by
 refine ret_of_W Tryz.func144 rfl rfl rfl ?_;have ap:=(ag).len_le;refine kg 12 ?_;obtain ⟨ah,ae,ai⟩:=M.e_bind hM;obtain ⟨aq,ae⟩:=M.e_iter ae;refine W.loop (fun m σ W=>∃ (first2:Int) (s:Nat) (ρ:Env),σ=upds ρ [(0,I first2),(7,aa),(8,I (l.length:Int)),(9,I (s:Int))]/\M.iterN (zdq l) m (first2,s)=some ah/\St w W [] R) ?_ ?_
 ·exact kY
 rintro au σ av ⟨first2,s,ρ,rfl,aj,H⟩;obtain ⟨aw,ax,ay,hM,al⟩:=M.e_iterN aj;refine kI 5 ?_ ?_
 ·intro am hM;obtain ⟨aA,hM⟩:=M.e_gq hM;exact kX 19
 intro am hM;refine W.exit ?_;obtain rfl:=M.e_inr hM al;replace hM:=ai;refine kg 5 ?_;exact rt

def zcx (ae:List Sect) (aa:List Mrk) (marks:List Int) (ac:Int):(Int × Int × Nat)->M ((Int × Int × Nat) ⊕ (Int × Int)):=fun (s2,s3,s4) =>
  bif decide ((s4:Int)<(marks.length:Int)) then (
  M.grd (decide ((s4:Int)<(marks.length:Int))) <|
  M.grd (decide ((0:Int)<=(marks.getD s4 0))&&decide ((marks.getD s4 0)<(aa.length:Int))) <|
  M.grd (decide ((0:Int)<=ac)&&decide (ac<(ae.length:Int))) <|
  bif decide (((aa.getD (Int.toNat (marks.getD s4 0)) default).place)<=((ae.getD (Int.toNat ac) default).place)) then (
  M.bind (zaQ s3 ([((aa.getD (Int.toNat (marks.getD s4 0)) default).hi:Int)])) fun r2 =>
  bif decide (((ae.getD (Int.toNat ac) default).place)<=((aa.getD (Int.toNat (marks.getD s4 0)) default).place)) then (
  M.pure (.inl (max s2 ((aa.getD (Int.toNat (marks.getD s4 0)) default).lo),r2,s4+1)))
  else (
  M.pure (.inl (s2,r2,s4+1))))
  else (
  bif decide (((ae.getD (Int.toNat ac) default).place)<=((aa.getD (Int.toNat (marks.getD s4 0)) default).place)) then (
  M.pure (.inl (max s2 ((aa.getD (Int.toNat (marks.getD s4 0)) default).lo),s3,s4+1)))
  else (
  M.pure (.inl (s2,s3,s4+1)))))
  else (
  M.pure (.inr (s2,s3)))
def zaB (aa:List Sect) (ac:List Mrk) (ag:List Rch) (marks:List Int) (ae:Int):M (Int × Int) :=
  M.bind (M.iter (zcx aa ac marks ae) (0,2000,0)) fun (s5,s6) =>
  M.pure (s5,s6)
theorem zdk {R ae ai aj al am ao ap ay aq ag}(ah aa au marks ac)(aJ:Reads R ai)(aK:Sl ai aj ah)(aL:Reads R al)(aM:Sl al am aa)(aN:Reads R ao)(aO:Sl ao ap au)(aP:Has R (cBlk ae [aj,am,ap,.map (some ay)] 196))(aQ:Reads R aq)(aA:Sl aq ag marks){r}(hM:(zaB ah aa au marks ac).Ends r)(w)(H:St w w [] R):Ret Tryz.prog 142 #[Pq ae,ag,I ac] w fun v w'=>∃ y0 y1,(y0,y1)=r/\v = .agg #[I y0,I y1]/\St w w' [] R:=by
 refine ret_of_W Tryz.func142 rfl rfl rfl ?_;refine kA 2 ?_;intro av aR H;refine kA 4 ?_;intro aw aS H;refine ksw ?_;intro aT H;have aU:=(aA).len_le;refine kg 9 ?_;obtain ⟨aB,ax,aC⟩:=M.e_bind hM;obtain ⟨aV,ax⟩:=M.e_iter ax;refine W.loop (fun m σ W=>∃ (s2:Int) (s3:Int) (s4:Nat) (ρ:Env),σ=upds ρ [(0,Pq ae),(2,I ac),(6,Pq av),(7,Pq aw),(12,ag),(13,I (marks.length:Int)),(14,I (s4:Int))]/\M.iterN (zcx ah aa marks ac) m (s2,s3,s4)=some aB/\St w W [cBlk aw [I s2,I s3] 42,cBlk av [I 0,I 0] 42] R) ?_ ?_
 ·exact kY
 rintro aW σ aX ⟨s2,s3,s4,ρ,rfl,aD,H⟩;obtain ⟨aY,aZ,a7,hM,aE⟩:=M.e_iterN aD;refine kI 5 ?_ ?_
 ·intro aF hM;obtain ⟨a8,hM⟩:=M.e_gq hM;obtain ⟨ba,hM⟩:=M.e_gq hM;refine kA 19 ?_;intro bc bg H;refine ksw ?_;intro bi H;refine kD 3 [0,1,2] [] ?_;intro bj H;obtain ⟨bm,hM⟩:=M.e_gq hM;refine kI 13 ?_ ?_
  ·intro aG hM;refine kL 6 (α:=Int) [(aa.getD (Int.toNat (marks.getD s4 0)) default).hi] ?_;intro bn bp H;refine kC 0 @zdy ?_;intro br r2 hM H;refine kS 1 ?_;intro bt H;refine kD 2 [0,1,2,3] [] ?_;intro bu H;refine kI 13 ?_ ?_
   ·intro aH hM;refine kS 8 ?_;intro bv H;refine s_nil ?_;replace H:=H.pk [2,3];exact kX 4
   intro aH hM;refine W.skip ?_;replace H:=H.pk [2,3];exact kX 4
  intro aG hM;refine kD 2 [0,1,2] [] ?_;intro bw H;refine kI 13 ?_ ?_
  ·intro aI hM;refine kS 8 ?_;intro bx H;exact kXp 5 [1,2]
  intro aI hM;exact kXp 5 [1,2]
 intro aF hM;refine W.exit ?_;obtain rfl:=M.e_inr hM aE;replace hM:=aC;refine kS 3 ?_;intro bz H;exact kR 1 []

def zbF (a b:Int):M Bool :=
  M.pure (decide (a<b))
theorem zeL {R}(a b){r}(hM:(zbF a b).Ends r)(w)(H:St w w [] R):Ret Tryz.prog 145 #[I a,I b] w fun v w'=>∃ y0,y0=r/\v=B y0/\St w w' [] R:=by
 refine ret_of_W Tryz.func145 rfl rfl rfl ?_;refine kg 11 ?_;exact rt

def zbe (s:Span):M (Int × Int) :=
  M.pure (s.lo,s.hi)
theorem zeV {R}(s){r}(hM:(zbe s).Ends r)(w)(H:St w w [] R):Ret Tryz.prog 143 #[.agg #[I s.lo,I s.hi]] w fun v w'=>∃ y0 y1 aa,(y0,y1)=r/\v = .func (.func 206) #[] #[Pq aa]/\St w w' [cBlk aa [I y0,I y1] 42] R:=by
 refine ret_of_W Tryz.func143 rfl rfl rfl ?_;refine kB 2 ?_;intro ac ae H;refine kg 4 ?_;refine s_val (x_mf (fs:=[]) (cs:=[Pq ac]) rfl rfl) ?_;refine kg 2 ?_;exact rt

def zb4 {T_:Type} (aa:T_->Int->M (Bool × T_)) (ac:Int):(Int × T_)->M ((Int × T_) ⊕ (T_ ⊕ T_)):=fun (n,t2) =>
  bif decide (n<=ac) then (
  M.bind (aa t2 n) fun (go,t) =>
  bif !go then (
  M.pure (.inr (.inl t)))
  else (
  M.gi (n+1) <|
  M.pure (.inl (n+1,t))))
  else (
  M.pure (.inr (.inr t2)))
def zat {T_:Type} (aa:T_->Int->M (Bool × T_)) (t_:T_) (ac ae:Int):M T_ :=
  M.bind (M.iter (zb4 aa ae) (ac,t_)) fun x_=>match x_ with
  | (.inl t3)=>(
  M.pure t3)
  | (.inr t4)=>(
  M.pure t4)
theorem zeT {R:List Chunk} {T_:Type} {Y_:T_->List Chunk->Prop} {aa:Value} {ac:List Chunk} {ae:Nat} (ag:T_->Int->M (Bool × T_)) (t_:T_) (ah:Int) (ai:Int) (au:YieldC Tryz.prog R arI Y_ aa ag) (av:Y_ t_ ac) (aE:Has R (cBlk ae [I ah,I ai] 42)) {r:T_} (hM:(zat ag t_ ah ai).Ends r) (w:World) (H:St w w [cAll ac] R):Ret Tryz.prog 206 #[aa,Pq ae] w fun v w'=>∃ (y0:T_) (Ls0:List Chunk),y0=r/\v = .tuple #[]/\St w w' [cAll Ls0] R/\Y_ y0 Ls0:=by
 refine ret_of_W Tryz.func206 rfl rfl rfl ?_;refine kg 7 ?_;obtain ⟨aw,aj,ao⟩:=M.e_bind hM;obtain ⟨aF,aj⟩:=M.e_iter aj;refine W.loop (fun m σ W=>∃ (n:Int) (t2:T_) (Ls_t2:List Chunk) (ρ:Env),σ=upds ρ [(0,aa),(1,Pq ae),(3,I n)]/\M.iterN (zb4 ag ai) m (n,t2)=some aw/\St w W [cAll Ls_t2] R/\Y_ t2 Ls_t2) ?_ ?_
 ·exact ⟨_,ah,t_,ac,_,jQ,aj,H,av⟩
 rintro aG σ aH ⟨n,t2,Ls_t2,ρ,rfl,ax,H,hY_t2⟩;obtain ⟨ay,aA,aI,hM,al⟩:=M.e_iterN ax;refine kI 8 ?_ ?_
 ·intro aB hM;refine kg 7 ?_;obtain ⟨⟨go,t⟩,aC,hM⟩:=M.e_bind hM;refine t_yield (L:=[]) H au hY_t2 rfl [I n] rfl n Reads.none rfl aC ?_;intro ap aJ aq H;replace H:=H.nf;refine kI 2 ?_ ?_
  ·intro aD hM;refine W.ret ?_;obtain rfl:=M.e_inr hM al;replace hM:=ao;have am:=M.e_pure hM;exact ⟨_,resE_tmp0 rfl,⟨t,ap,am,rfl,H,aq⟩⟩
  intro aD hM;obtain ⟨aK,hM⟩:=M.e_gq hM;refine kg 6 ?_;exact ⟨ay,aA,n+1,t,ap,_,jQ,M.e_inl hM al,H,aq⟩
 intro aB hM;refine W.exit ?_;obtain rfl:=M.e_inr hM al;replace hM:=ao;have am:=M.e_pure hM;exact ⟨_,resE_tmp0 rfl,⟨t2,Ls_t2,am,rfl,H,hY_t2⟩⟩
theorem zgz {T_:Type} {n_:Nat} {y y':T_->Int->M (Bool × T_)} (h:∀ s a,M.LeN n_ (y s a) (y' s a)) (t_:T_) (aa ac:Int):M.LeN n_ (zat y t_ aa ac) (zat y' t_ aa ac):=by
  simp only [zat,zb4]
  repeat' (first | refine M.le_grd ?_ | refine M.le_if ?_ ?_ | refine M.le_bind ?_ (fun x=>?_) | refine M.le_opt ?_ | refine M.le_iter (fun x=>?_) _ | exact h _ _ | exact M.le_same _ _ | (rename_i x; cases x) | (rename_i x; obtain ⟨_,_⟩:=x))

end Go.Proofs.YtaolcidinlnklaaGreat
end
section
set_option maxRecDepth 100000
set_option maxHeartbeats 16000000
namespace Go.Proofs.YtaolcidinlnklaaGreat
open Go Go.Nm
attribute [local irreducible] gd execOp SL SLD SLT WR
def zax (aa:List Sect) (ac:List Mrk) (ae:List Rch) (r_:Rch) (r0:Int) (r2:Bool):(Int × Int × Int × Int × Int)->Int->M ((Int × Int × Int × Int × Int) ⊕ Unit):=fun (s,s2,s3,s4,s5) x =>
  bif r2 then (
  M.fail)
  else (
  M.bind (zaK aa ac ae r_ (⟨(max r0 x:Int),(x:Int),(r_.hi:Int),(r_.hi:Int)⟩:Cas)) fun r4 =>
  M.bind (M.opt (!(decide ((⟨(s2:Int),(s3:Int),(s4:Int),(s5:Int)⟩:Cas)=(⟨(0:Int),(0:Int),(0:Int),(0:Int)⟩:Cas)))) (zbF r4 s) false) fun r5 =>
  bif ((decide ((⟨(s2:Int),(s3:Int),(s4:Int),(s5:Int)⟩:Cas)=(⟨(0:Int),(0:Int),(0:Int),(0:Int)⟩:Cas)))||r5) then (
  M.pure (.inl (r4,max r0 x,x,r_.hi,r_.hi)))
  else (
  M.pure (.inl (s,s2,s3,s4,s5))))
def za0 (aa:List Sect) (ac:List Mrk) (ae:List Rch) (marks:List Int) (r_:Rch):M (Int × Int × Int × Int × Int) :=
  M.bind (zaB aa ac ae marks r_.up) fun (r0,r1) =>
  M.bind (zaB aa ac ae marks r_.down) fun (ag,ah) =>
  M.bind (zbF 1 0) fun r2 =>
  bif !r2 then (
  M.bind (zaQ ah ([(r1:Int)])) fun r3 =>
  M.bind (zbe (⟨(ag:Int),(r3:Int)⟩:Span)) fun (ai,aj) =>
  M.bind (zat (M.yl (zax aa ac ae r_ r0 r2)) (.inl (0,0,0,0,0)) ai aj) fun x_=>match x_ with
  | .inl (s,s2,s3,s4,s5)=>(
  M.pure (s2,s3,s4,s5,s))
  | .inr _=>M.fail)
  else (
  M.fail)
theorem zd9 {R ah aX aY aZ a7 a8 ba ai bc ax}(aa ac ae marks r_)(aG:Reads R aX)(aL:Sl aX aY aa)(aH:Reads R aZ)(aM:Sl aZ a7 ac)(aI:Reads R a8)(aN:Sl a8 ba ae)(aJ:Has R (cBlk ah [aY,a7,ba,.map (some ai)] 196))(aO:Reads R bc)(aR:Sl bc ax marks){r}(hM:(za0 aa ac ae marks r_).Ends r)(w)(H:St w w [cMemI encSpt ai (zaa aa ac ae)] R):Ret Tryz.prog 77 #[Pq ah,ax,.agg #[I r_.up,I r_.down,I r_.lo,I r_.hi,B r_.narrow],.agg #[.func (.func 145) #[] #[]]] w fun v w'=>∃ y0 y1 y2 y3 y4,(y0,y1,y2,y3,y4)=r/\v = .tuple #[.agg #[I y0,I y1,I y2,I y3],I y4]/\St w w' [cMemI encSpt ai (zaa aa ac ae)] R:=by
 refine ret_of_WD Tryz.func77 rfl rfl rfl ?_;replace H:St w w [cMk ([]),cMemI encSpt ai (zaa aa ac ae)] R:=H.mk0;have bK:=aL.len_le;have bL:=aM.len_le;have bN:=aN.len_le;have bO:=aR.len_le;unfold za0 at hM;refine WD.seq<|WD.of ?_;refine kB 1 ?_;intro am bP H;refine kbx ?_;intro aj bQ H;refine kbx ?_;intro al bR H;refine kal ?_;intro ao bS H;refine kg 2 ?_;refine WD.seq<|WD.of ?_;refine W.drawA (fun W=>St w W [cBlk ao [I 0,I 0,I 0,I 0] 58,cBlk al [.func (.func 145) #[] #[]] 211,cBlk aj [I r_.up,I r_.down,I r_.lo,I r_.hi,B r_.narrow] 53,cBlk am [Pq ah] 127,cMk ([]),cMemI encSpt ai (zaa aa ac ae)] R) [(0,true),(1,true),(2,true),(3,true),(5,true),(6,true),(7,true),(8,true),(4,false),(9,false)] [(10,10,42,[I 0,I 0]),(11,11,42,[I 0,I 0])] (.l 12 (.l 13 .nil)) 2 mixed (by decide +kernel) rfl (by intro x hx; simp only [List.mem_cons,List.not_mem_nil,or_false] at hx; rcases hx with rfl | rfl <;> first | exact ⟨_,_,_,rfl,_,Al42.h,rfl⟩) (by decide) (by decide) H ?_;refine sa_q (fun ag w_ H=>(St.pick H [0,1,2,3,4,5] (by decide) rfl)) rfl rfl (fun g_ w' H=>x_ld (v:=Pq ah) rfl (ldb_sc Sc127.h (H.bl 3) rfl)) ?_;refine sa_q (fun ag w_ H=>(St.pick H [0,1,2,3,4,5] (by decide) rfl)) rfl rfl (fun g_ w' H=>x_mv (v:=ax) rfl) ?_;refine sa_q (fun ag w_ H=>(St.pick H [0,1,2,3,4,5] (by decide) rfl)) rfl rfl (fun g_ w' H=>x_fa (v:=Pq aj) rfl (fa_blk (o:=0) Fd53_0.h Sz3.h)) ?_;refine sa_q (fun ag w_ H=>(St.pick H [0,1,2,3,4,5] (by decide) rfl)) rfl rfl (fun g_ w' H=>x_ld (v:=I r_.up) rfl (ldb_sc Sc3.h (H.bl 2) rfl)) ?_;refine sa_q (fun ag w_ H=>(St.pick H [0,1,2,3,4,5] (by decide) rfl)) rfl rfl (fun g_ w' H=>x_ld (v:=Pq ah) rfl (ldb_sc Sc127.h (H.bl 3) rfl)) ?_;refine sa_q (fun ag w_ H=>(St.pick H [0,1,2,3,4,5] (by decide) rfl)) rfl rfl (fun g_ w' H=>x_mv (v:=ax) rfl) ?_;refine sa_q (fun ag w_ H=>(St.pick H [0,1,2,3,4,5] (by decide) rfl)) rfl rfl (fun g_ w' H=>x_fa (v:=Oq aj 1) rfl (fa_blk (o:=0) Fd53_1.h Sz3.h)) ?_;refine sa_q (fun ag w_ H=>(St.pick H [0,1,2,3,4,5] (by decide) rfl)) rfl rfl (fun g_ w' H=>x_ld (v:=I r_.down) rfl (ldb_sc Sc3.h (H.bl 2) rfl)) ?_;refine sa_l (fun ag w_ H=>(St.pick H [0,1,2,3,4,5] (by decide) rfl)) rfl ?_;intro g_ ag bi H
 replace H:St w bi (cBlk ao [I 0,I 0,I 0,I 0] 58 :: cBlk al [.func (.func 145) #[] #[]] 211 :: cBlk aj [I r_.up,I r_.down,I r_.lo,I r_.hi,B r_.narrow] 53 :: cBlk am [Pq ah] 127 :: cMk ([]) :: cMemI encSpt ai (zaa aa ac ae) :: ag) R:=H;obtain ⟨bT,bj,hM⟩:=M.e_bind hM;refine s_call cq [Pq ah,ax,I r_.up] rfl (zdk aa ac ae marks r_.up (aG.app _) aL (aH.app _) aM (aI.app _) aN (aJ.app _) (aO.app _) aR bj _ (St.give (T:=(cBlk ao [I 0,I 0,I 0,I 0] 58 :: cBlk al [.func (.func 145) #[] #[]] 211 :: cBlk aj [I r_.up,I r_.down,I r_.lo,I r_.hi,B r_.narrow] 53 :: cBlk am [Pq ah] 127 :: cMk ([]) :: cMemI encSpt ai (zaa aa ac ae) :: ag)) H rfl)) ?_;rintro _ bm ⟨r0,r1,rfl,rfl,aq⟩;replace H:St w bm (cBlk ao [I 0,I 0,I 0,I 0] 58 :: cBlk al [.func (.func 145) #[] #[]] 211 :: cBlk aj [I r_.up,I r_.down,I r_.lo,I r_.hi,B r_.narrow] 53 :: cBlk am [Pq ah] 127 :: cMk ([]) :: cMemI encSpt ai (zaa aa ac ae) :: ag) R:=H.back aq rfl;refine s_nil ⟨(St.pick H [0,1,2,3,4,5] (by decide) rfl),_,[cBlk ao [I 0,I 0,I 0,I 0] 58,cBlk al [.func (.func 145) #[] #[]] 211,cBlk aj [I r_.up,I r_.down,I r_.lo,I r_.hi,B r_.narrow] 53,cBlk am [Pq ah] 127,cMk ([]),cMemI encSpt ai (zaa aa ac ae)],mix_upd rfl,H,?_⟩;refine sa_l (fun ag w_ H=>(St.pick H [0,1,2,3,4,5] (by decide) rfl)) rfl ?_;intro g_ ag bn H;replace H:St w bn (cBlk ao [I 0,I 0,I 0,I 0] 58 :: cBlk al [.func (.func 145) #[] #[]] 211 :: cBlk aj [I r_.up,I r_.down,I r_.lo,I r_.hi,B r_.narrow] 53 :: cBlk am [Pq ah] 127 :: cMk ([]) :: cMemI encSpt ai (zaa aa ac ae) :: ag) R:=H;obtain ⟨bU,bp,hM⟩:=M.e_bind hM;refine s_call cq [Pq ah,ax,I r_.down] rfl (zdk aa ac ae marks r_.down (aG.app _) aL (aH.app _) aM (aI.app _) aN (aJ.app _) (aO.app _) aR bp _ (St.give (T:=(cBlk ao [I 0,I 0,I 0,I 0] 58 :: cBlk al [.func (.func 145) #[] #[]] 211 :: cBlk aj [I r_.up,I r_.down,I r_.lo,I r_.hi,B r_.narrow] 53 :: cBlk am [Pq ah] 127 :: cMk ([]) :: cMemI encSpt ai (zaa aa ac ae) :: ag)) H rfl)) ?_;rintro _ br ⟨ay,aA,rfl,rfl,aq⟩;replace H:St w br (cBlk ao [I 0,I 0,I 0,I 0] 58 :: cBlk al [.func (.func 145) #[] #[]] 211 :: cBlk aj [I r_.up,I r_.down,I r_.lo,I r_.hi,B r_.narrow] 53 :: cBlk am [Pq ah] 127 :: cMk ([]) :: cMemI encSpt ai (zaa aa ac ae) :: ag) R:=H.back aq rfl;refine s_nil ⟨(St.pick H [0,1,2,3,4,5] (by decide) rfl),_,[cBlk ao [I 0,I 0,I 0,I 0] 58,cBlk al [.func (.func 145) #[] #[]] 211,cBlk aj [I r_.up,I r_.down,I r_.lo,I r_.hi,B r_.narrow] 53,cBlk am [Pq ah] 127,cMk ([]),cMemI encSpt ai (zaa aa ac ae)],mix_upd rfl,H,?_⟩;refine sa_nil (fun ag w_ H=>(St.pick H [0,1,2,3,4,5] (by decide) rfl)) ?_;intro ap aw bt H;replace H:St w bt [cBlk ao [I 0,I 0,I 0,I 0] 58,cBlk al [.func (.func 145) #[] #[]] 211,cBlk aj [I r_.up,I r_.down,I r_.lo,I r_.hi,B r_.narrow] 53,cBlk am [Pq ah] 127,cMk ([]),cMemI encSpt ai (zaa aa ac ae),cBlk ap [I 0,I 0] 42,cBlk aw [I 0,I 0] 42] R:=(H)
 refine kS 1 ?_;intro bV H;refine s_nil ⟨(St.pick H [0,1,2,3,4,5] (by decide) rfl),?_⟩;refine kS 1 ?_;intro bW H;refine s_nil ⟨(St.pick H [0,1,2,3,4,5] (by decide) rfl),?_⟩;refine t_nil<|WD.seq<|WD.of ?_;refine W.drawA (fun W=>St w W [cBlk ao [I 0,I 0,I 0,I 0] 58,cBlk al [.func (.func 145) #[] #[]] 211,cBlk aj [I r_.up,I r_.down,I r_.lo,I r_.hi,B r_.narrow] 53,cBlk am [Pq ah] 127,cMk ([]),cMemI encSpt ai (zaa aa ac ae),cBlk ap [I r0,I r1] 42,cBlk aw [I ay,I aA] 42] R) [(0,true),(1,true),(2,true),(3,true),(4,true),(5,false)] [(6,12,3,[I 0]),(7,13,4,[B false])] (.l 8 (.l 9 .nil)) 2 mixed (by decide +kernel) rfl (by intro x hx; simp only [List.mem_cons,List.not_mem_nil,or_false] at hx; rcases hx with rfl | rfl <;> first | exact ⟨_,_,_,rfl,_,Al3.h,rfl⟩ | exact ⟨_,_,_,rfl,_,Al4.h,rfl⟩) (by decide) (by decide) H ?_;refine sa_q (fun ag w_ H=>(St.pick H [0,1,2,3,4,5,6,7] (by decide) rfl)) rfl rfl (fun g_ w' H=>x_fa (v:=Oq aj 2) rfl (fa_blk (o:=0) Fd53_2.h Sz42.h)) ?_;refine sa_q (fun ag w_ H=>(St.pick H [0,1,2,3,4,5,6,7] (by decide) rfl)) rfl rfl (fun g_ w' H=>x_fa (v:=Oq aj 2) rfl (fa_blk (o:=2) Fd42_0.h Sz3.h)) ?_;refine sa_q (fun ag w_ H=>(St.pick H [0,1,2,3,4,5,6,7] (by decide) rfl)) rfl rfl (fun g_ w' H=>x_ld (v:=I r_.lo) rfl (ldb_sc Sc3.h (H.bl 2) rfl)) ?_;refine sa_q (fun ag w_ H=>(St.pick H [0,1,2,3,4,5,6,7] (by decide) rfl)) rfl rfl (fun g_ w' H=>x_fa (v:=Pq al) rfl (fa_blk (o:=0) Fd211_0.h Sz132.h)) ?_;refine sa_q (fun ag w_ H=>(St.pick H [0,1,2,3,4,5,6,7] (by decide) rfl)) rfl rfl (fun g_ w' H=>x_ld (v:=.func (.func 145) #[] #[]) rfl (ldb_sc Sc132.h (H.bl 1) rfl)) ?_;refine sa_l (fun ag w_ H=>(St.pick H [0,1,2,3,4,5,6,7] (by decide) rfl)) rfl ?_;intro g_ ag bu H
 replace H:St w bu (cBlk ao [I 0,I 0,I 0,I 0] 58 :: cBlk al [.func (.func 145) #[] #[]] 211 :: cBlk aj [I r_.up,I r_.down,I r_.lo,I r_.hi,B r_.narrow] 53 :: cBlk am [Pq ah] 127 :: cMk ([]) :: cMemI encSpt ai (zaa aa ac ae) :: cBlk ap [I r0,I r1] 42 :: cBlk aw [I ay,I aA] 42 :: ag) R:=H;obtain ⟨bX,bv,hM⟩:=M.e_bind hM;refine s_callv (f:=145) rfl cq [I 1,I 0] rfl (zeL 1 0 bv _ (St.give (T:=(cBlk ao [I 0,I 0,I 0,I 0] 58 :: cBlk al [.func (.func 145) #[] #[]] 211 :: cBlk aj [I r_.up,I r_.down,I r_.lo,I r_.hi,B r_.narrow] 53 :: cBlk am [Pq ah] 127 :: cMk ([]) :: cMemI encSpt ai (zaa aa ac ae) :: cBlk ap [I r0,I r1] 42 :: cBlk aw [I ay,I aA] 42 :: ag)) H rfl)) ?_;rintro _ bw ⟨r2,rfl,rfl,aq⟩;replace H:St w bw (cBlk ao [I 0,I 0,I 0,I 0] 58 :: cBlk al [.func (.func 145) #[] #[]] 211 :: cBlk aj [I r_.up,I r_.down,I r_.lo,I r_.hi,B r_.narrow] 53 :: cBlk am [Pq ah] 127 :: cMk ([]) :: cMemI encSpt ai (zaa aa ac ae) :: cBlk ap [I r0,I r1] 42 :: cBlk aw [I ay,I aA] 42 :: ag) R:=H.back aq rfl;refine s_nil ⟨(St.pick H [0,1,2,3,4,5,6,7] (by decide) rfl),_,[cBlk ao [I 0,I 0,I 0,I 0] 58,cBlk al [.func (.func 145) #[] #[]] 211,cBlk aj [I r_.up,I r_.down,I r_.lo,I r_.hi,B r_.narrow] 53,cBlk am [Pq ah] 127,cMk ([]),cMemI encSpt ai (zaa aa ac ae),cBlk ap [I r0,I r1] 42,cBlk aw [I ay,I aA] 42],mix_upd rfl,H,?_⟩;refine sa_nil (fun ag w_ H=>(St.pick H [0,1,2,3,4,5,6,7] (by decide) rfl)) ?_;intro aB aC bx H;replace H:St w bx [cBlk ao [I 0,I 0,I 0,I 0] 58,cBlk al [.func (.func 145) #[] #[]] 211,cBlk aj [I r_.up,I r_.down,I r_.lo,I r_.hi,B r_.narrow] 53,cBlk am [Pq ah] 127,cMk ([]),cMemI encSpt ai (zaa aa ac ae),cBlk ap [I r0,I r1] 42,cBlk aw [I ay,I aA] 42,cBlk aB [I 0] 3,cBlk aC [B false] 4] R:=(H)
 refine kS 1 ?_;intro bY H;refine s_nil ⟨(St.pick H [0,1,2,3,4,5,6,7] (by decide) rfl),?_⟩;refine kS 1 ?_;intro bZ H;refine s_nil ⟨(St.pick H [0,1,2,3,4,5,6,7] (by decide) rfl),?_⟩;refine t_nil<|WD.seq<|WD.seq<|WD.of ?_;refine kg 4 ?_
 refine WD.cond (!r2) rfl (fun aS=>?_) (fun aS=>?_)
 ·replace hM:=M.e_t hM aS;refine WD.of ?_;refine kS 4 ?_;intro b7 H;refine s_nil<|WD.seq<|WD.of ?_;refine kA 1 ?_;intro au b8 H;refine s_nil<|WD.seq<|WD.of ?_;refine kA 1 ?_;intro av b9 H;refine ksw ?_;intro cb H;refine s_nil<|WD.seq<|WD.seq<|WD.of ?_;refine kD 0 [0,1,2,3,4,5,6,7,8,9,10,11] [6,7,9] ?_;intro cc H;refine kL 7 (α:=Int) [r1] ?_;intro ce cf H;refine kN ?_;refine kC 1 @zdy ?_;intro cg r3 hM H;refine kN ?_;refine kC 2 @zeV ?_;intro ch aD aE aF hM H;refine kN ?_;refine d_nil ?_;replace H:=H.pk [0,2,3,4,5,6,7,8,9,10,12,13];refine WD.block ?_;obtain ⟨cj,bz,hM⟩:=M.e_bind hM;refine WD.range (L:=[cBlk av [I 0] 3,cBlk au [I 0,I 0,I 0,I 0] 58,cMemI encSpt ai (zaa aa ac ae),cBlk aF [I aD,I aE] 42,cBlk ao [I 0,I 0,I 0,I 0] 58,cBlk al [.func (.func 145) #[] #[]] 211,cBlk aj [I r_.up,I r_.down,I r_.lo,I r_.hi,B r_.narrow] 53,cBlk am [Pq ah] 127,cBlk ap [I r0,I r1] 42,cBlk aB [I r_.hi] 3,cBlk aC [B r2] 4]) [Pq aF] (H.pk [7,1,2,8,0,3,4,5,6,9,10,11]) rfl cq ?_;intro aP aT aU bA aV H
  have hYC:YieldC Tryz.prog ([cMk (aT :: ([])),cBlk aF [I aD,I aE] 42,cBlk ao [I 0,I 0,I 0,I 0] 58,cBlk al [.func (.func 145) #[] #[]] 211,cBlk aj [I r_.up,I r_.down,I r_.lo,I r_.hi,B r_.narrow] 53,cBlk am [Pq ah] 127,cBlk ap [I r0,I r1] 42,cBlk aB [I r_.hi] 3,cBlk aC [B r2] 4]++R) arI (yJ aP aU (fun (s,s2,s3,s4,s5) aQ=>aQ=[cBlk av [I s] 3,cBlk au [I s2,I s3,I s4,I s5] 58,cMemI encSpt ai (zaa aa ac ae)]) (fun (_:Unit) _=>False) (fun _=>.ret)) (.func (.yield aP) #[] #[]) (M.yl (zax aa ac ae r_ r0 r2)):=by
   refine YieldC.mk aV (fun (s,s2,s3,s4,s5) aQ=>aQ=[cBlk av [I s] 3,cBlk au [I s2,I s3,I s4,I s5] 58,cMemI encSpt ai (zaa aa ac ae)]) (fun (_:Unit) _=>False) (fun _=>.ret) (zax aa ac ae r_ r0 r2) (by rintro ⟨s,s2,s3,s4,s5⟩ _ h_; obtain ⟨rfl⟩:=h_; rfl) (fun _ _ h_=>h_.elim) rfl (arI_len rfl) ?_;intro C_ ck x W_ bB;obtain rfl:=bB;refine kg 3 ?_;refine ⟨rfl,rfl,?_⟩;intro w R aK aQ s_ r bC hM H;obtain ⟨s,s2,s3,s4,s5⟩:=s_;obtain ⟨rfl⟩:=bC;replace aG:=aG.sub aK;replace aH:=aH.sub aK;replace aI:=aI.sub aK;replace aJ:=aJ.sub aK;replace aO:=aO.sub aK;replace hM:(zax aa ac ae r_ r0 r2 (s,s2,s3,s4,s5) x).Ends r:=hM;simp only [zax] at hM;replace H:=H.pk [0,1,2,4,5,6,7,8,9,10,11,3];refine kA 11 ?_;intro cn cp H;refine ksw ?_;intro cr H;refine kI 6 ?_ ?_
   ·intro bD hM;exact (M.e_fail hM).elim
   intro bD hM;refine kg 6 ?_;obtain ⟨ct,bE,hM⟩:=M.e_bind hM;refine s_call cq [Pq ah,.agg #[I r_.up,I r_.down,I r_.lo,I r_.hi,B r_.narrow],.agg #[I (max r0 x),I x,I r_.hi,I r_.hi]] rfl (zez aa ac ae r_ (⟨(max r0 x:Int),(x:Int),(r_.hi:Int),(r_.hi:Int)⟩:Cas) (aG.app _) aL (aH.app _) aM (aI.app _) aN (aJ.app _) bE _ ((H.pk [3,0,1,2,4,5,6,7,8,9,10,11,12]).gt 12)) ?_;rintro _ cv ⟨r4,rfl,rfl,aq⟩;replace H:=H.pk [3,0,1,2,4,5,6,7,8,9,10,11,12] |>.bk aq
   refine kG 6 ?_;refine s_val (x_eqS (eqT58 (⟨(s2:Int),(s3:Int),(s4:Int),(s5:Int)⟩:Cas) (⟨(0:Int),(0:Int),(0:Int),(0:Int)⟩:Cas) _) gdT58 rfl rfl) ?_;refine kg 5 ?_;obtain ⟨r5,bF,hM⟩:=M.e_bind hM;refine t_gcallv (cap:=[]) (!(decide ((⟨(s2:Int),(s3:Int),(s4:Int),(s5:Int)⟩:Cas)=(⟨(0:Int),(0:Int),(0:Int),(0:Int)⟩:Cas)))) (gy_f rfl) cq (fun hg=>(gd_of hg (.func (.func 145) #[] #[]))) (B r5) (fun _=>[I r4,I s]) (fun hg=>lst2 (gd_of hg (I r4)) (gd_of hg (I s))) H (fun hg=>(zeL r4 s (M.e_opt bF hg) _ (H.give (A:=[]) rfl)).mono fun v_ w_ ⟨y_,aW,bG,H_⟩=>by subst aW; exact ⟨bG,H.via H_⟩) ?_;intro cw H;refine kI 2 ?_ ?_
   ·intro bH hM;refine kS 3 ?_;intro cA H;refine ksw ?_;intro cB H;refine s_nil ?_;exact ⟨(r4,max r0 x,x,r_.hi,r_.hi),[cBlk av [I r4] 3,cBlk au [I (max r0 x),I x,I r_.hi,I r_.hi] 58,cMemI encSpt ai (zaa aa ac ae)],(M.e_pure hM).symm,rfl,H.pick [2,3,0,12,4,5,6,7,8,9,10,11] (by decide) rfl⟩
   intro bH hM;refine W.skip ?_;exact ⟨(s,s2,s3,s4,s5),[cBlk av [I s] 3,cBlk au [I s2,I s3,I s4,I s5] 58,cMemI encSpt ai (zaa aa ac ae)],(M.e_pure hM).symm,rfl,H.pick [2,3,0,12,4,5,6,7,8,9,10,11] (by decide) rfl⟩
  replace H:St w bA (cAll (cObj aP (.loop aU) :: [cBlk av [I 0] 3,cBlk au [I 0,I 0,I 0,I 0] 58,cMemI encSpt ai (zaa aa ac ae)]) :: [cMk (aT :: ([])),cBlk aF [I aD,I aE] 42,cBlk ao [I 0,I 0,I 0,I 0] 58,cBlk al [.func (.func 145) #[] #[]] 211,cBlk aj [I r_.up,I r_.down,I r_.lo,I r_.hi,B r_.narrow] 53,cBlk am [Pq ah] 127,cBlk ap [I r0,I r1] 42,cBlk aB [I r_.hi] 3,cBlk aC [B r2] 4]) R:=St.bundleB (A:=cObj aP (.loop aU) :: [cBlk av [I 0] 3,cBlk au [I 0,I 0,I 0,I 0] 58,cMemI encSpt ai (zaa aa ac ae)]) (T:=[cMk (aT :: ([])),cBlk aF [I aD,I aE] 42,cBlk ao [I 0,I 0,I 0,I 0] 58,cBlk al [.func (.func 145) #[] #[]] 211,cBlk aj [I r_.up,I r_.down,I r_.lo,I r_.hi,B r_.narrow] 53,cBlk am [Pq ah] 127,cBlk ap [I r0,I r1] 42,cBlk aB [I r_.hi] 3,cBlk aC [B r2] 4]) rfl (H.pk [0,2,3,4,1,5,6,7,8,9,10,11,12]);refine (zeT (M.yl (zax aa ac ae r_ r0 r2)) (.inl (0,0,0,0,0)) aD aE hYC ⟨_,rfl,rfl⟩ (Has.here (k:=1) rfl) bz _ (H.gt 9)).mono ?_;rintro vq cC ⟨bI,cD,rfl,hvq,aq,bg⟩;replace H:=H.back aq rfl;clear aq hYC;rcases bI with ⟨s,s2,s3,s4,s5⟩ | _
  ·obtain ⟨_,rfl,rfl⟩:=bg;refine ⟨_,[cBlk av [I s] 3,cBlk au [I s2,I s3,I s4,I s5] 58,cMemI encSpt ai (zaa aa ac ae),cBlk aF [I aD,I aE] 42,cBlk ao [I 0,I 0,I 0,I 0] 58,cBlk al [.func (.func 145) #[] #[]] 211,cBlk aj [I r_.up,I r_.down,I r_.lo,I r_.hi,B r_.narrow] 53,cBlk am [Pq ah] 127,cBlk ap [I r0,I r1] 42,cBlk aB [I r_.hi] 3,cBlk aC [B r2] 4],H.unbundle.pick [0,4,1,2,3,5,6,7,8,9,10,11,12] (by decide) rfl,aV.nb,?_⟩;intro cE H;rw [aV.pd];replace H:=H.nf
   try simp only []
   replace H:=H.pk [0,1,2,3,5];refine WD.seq<|WD.of ?_;refine kD 0 [0,1,2,3] [2] ?_;intro cF H;refine kS 3 ?_;intro cG H;refine kN ?_;refine kg 2 ?_;replace H:=H.pk [0,3,4];refine WD.of ?_;refine W.ret ?_;refine bodyD_r (H.pk [0,1,2]) ?_;intro cH H;replace H:=H.nf
   have bJ:=(H.bl 1)
   have aW:=M.e_pure hM;exact ⟨_,(resE_ofn (vs:=[.agg #[I s2,I s3,I s4,I s5],I s]) rfl rfl (.cell (v:=.agg #[I s2,I s3,I s4,I s5]) rfl (run_loadVar_ag (ds:=[I s2,I s3,I s4,I s5]) Ag58.h Sz58.h bJ rfl rfl)<|.tmp (v:=I s) rfl<|.nil)),⟨s2,s3,s4,s5,s,aW,rfl,(H.pk [0])⟩⟩
  obtain ⟨_,_,h_⟩:=bg; exact h_.elim
 replace hM:=M.e_f hM aS;exact (M.e_fail hM).elim

def zdF  : M Unit :=
  M.pure ()
theorem zaO {R r}(hM:(zdF).Ends r)(w)(H:St w w [] R):Ret Tryz.prog 79 #[] w fun v w'=>()=r/\v = .agg #[.func (.func 146) #[] #[]]/\St w w' [] R:=by
 refine ret_of_W Tryz.func79 rfl rfl rfl ?_;refine kA 2 ?_;intro aa ac H;refine kS 4 ?_;intro ae H;exact kR 1 []

def zbx (a b:Int):M Bool :=
  M.pure (decide (b<a))
theorem ze3 {R}(a b){r}(hM:(zbx a b).Ends r)(w)(H:St w w [] R):Ret Tryz.prog 146 #[I a,I b] w fun v w'=>∃ y0,y0=r/\v=B y0/\St w w' [] R:=by
 refine ret_of_W Tryz.func146 rfl rfl rfl ?_;refine kg 11 ?_;exact rt

def zaz (aa:List Sect) (ac:List Mrk) (ae:List Rch) (r_:Rch) (r1:Int) (r2:Bool):(Int × Int × Int × Int × Int)->Int->M ((Int × Int × Int × Int × Int) ⊕ Unit):=fun (s,s2,s3,s4,s5) x =>
  bif r2 then (
  M.bind (zaK aa ac ae r_ (⟨(r1:Int),(x:Int),(r_.lo:Int),(r_.lo:Int)⟩:Cas)) fun r4 =>
  M.bind (M.opt (!(decide ((⟨(s2:Int),(s3:Int),(s4:Int),(s5:Int)⟩:Cas)=(⟨(0:Int),(0:Int),(0:Int),(0:Int)⟩:Cas)))) (zbx r4 s) false) fun r5 =>
  bif ((decide ((⟨(s2:Int),(s3:Int),(s4:Int),(s5:Int)⟩:Cas)=(⟨(0:Int),(0:Int),(0:Int),(0:Int)⟩:Cas)))||r5) then (
  M.pure (.inl (r4,r1,x,r_.lo,r_.lo)))
  else (
  M.pure (.inl (s,s2,s3,s4,s5))))
  else (
  M.fail)
def za7 (aa:List Sect) (ac:List Mrk) (ae:List Rch) (marks:List Int) (r_:Rch):M (Int × Int × Int × Int × Int) :=
  M.bind (zaB aa ac ae marks r_.up) fun (r0,r1) =>
  M.bind (zaB aa ac ae marks r_.down) fun (ag,ah) =>
  M.bind (zbx 1 0) fun r2 =>
  bif !r2 then (
  M.fail)
  else (
  M.bind (zaQ ah ([(r1:Int)])) fun r3 =>
  M.bind (zbe (⟨(ag:Int),(r3:Int)⟩:Span)) fun (ai,aj) =>
  M.bind (zat (M.yl (zaz aa ac ae r_ r1 r2)) (.inl (0,0,0,0,0)) ai aj) fun x_=>match x_ with
  | .inl (s,s2,s3,s4,s5)=>(
  M.pure (s2,s3,s4,s5,s))
  | .inr _=>M.fail)
theorem zaq {R ah aX aY aZ a7 a8 ba ai bc ax}(aa ac ae marks r_)(aG:Reads R aX)(aL:Sl aX aY aa)(aH:Reads R aZ)(aM:Sl aZ a7 ac)(aI:Reads R a8)(aN:Sl a8 ba ae)(aJ:Has R (cBlk ah [aY,a7,ba,.map (some ai)] 196))(aO:Reads R bc)(aR:Sl bc ax marks){r}(hM:(za7 aa ac ae marks r_).Ends r)(w)(H:St w w [cMemI encSpt ai (zaa aa ac ae)] R):Ret Tryz.prog 77 #[Pq ah,ax,.agg #[I r_.up,I r_.down,I r_.lo,I r_.hi,B r_.narrow],.agg #[.func (.func 146) #[] #[]]] w fun v w'=>∃ y0 y1 y2 y3 y4,(y0,y1,y2,y3,y4)=r/\v = .tuple #[.agg #[I y0,I y1,I y2,I y3],I y4]/\St w w' [cMemI encSpt ai (zaa aa ac ae)] R:=by
 refine ret_of_WD Tryz.func77 rfl rfl rfl ?_;replace H:St w w [cMk ([]),cMemI encSpt ai (zaa aa ac ae)] R:=H.mk0;have bK:=aL.len_le;have bL:=aM.len_le;have bN:=aN.len_le;have bO:=aR.len_le;unfold za7 at hM;refine WD.seq<|WD.of ?_;refine kB 1 ?_;intro am bP H;refine kbx ?_;intro aj bQ H;refine kbx ?_;intro al bR H;refine kal ?_;intro ao bS H;refine kg 2 ?_;refine WD.seq<|WD.of ?_;refine W.drawA (fun W=>St w W [cBlk ao [I 0,I 0,I 0,I 0] 58,cBlk al [.func (.func 146) #[] #[]] 211,cBlk aj [I r_.up,I r_.down,I r_.lo,I r_.hi,B r_.narrow] 53,cBlk am [Pq ah] 127,cMk ([]),cMemI encSpt ai (zaa aa ac ae)] R) [(0,true),(1,true),(2,true),(3,true),(5,true),(6,true),(7,true),(8,true),(4,false),(9,false)] [(10,10,42,[I 0,I 0]),(11,11,42,[I 0,I 0])] (.l 12 (.l 13 .nil)) 2 mixed (by decide +kernel) rfl (by intro x hx; simp only [List.mem_cons,List.not_mem_nil,or_false] at hx; rcases hx with rfl | rfl <;> first | exact ⟨_,_,_,rfl,_,Al42.h,rfl⟩) (by decide) (by decide) H ?_;refine sa_q (fun ag w_ H=>(St.pick H [0,1,2,3,4,5] (by decide) rfl)) rfl rfl (fun g_ w' H=>x_ld (v:=Pq ah) rfl (ldb_sc Sc127.h (H.bl 3) rfl)) ?_;refine sa_q (fun ag w_ H=>(St.pick H [0,1,2,3,4,5] (by decide) rfl)) rfl rfl (fun g_ w' H=>x_mv (v:=ax) rfl) ?_;refine sa_q (fun ag w_ H=>(St.pick H [0,1,2,3,4,5] (by decide) rfl)) rfl rfl (fun g_ w' H=>x_fa (v:=Pq aj) rfl (fa_blk (o:=0) Fd53_0.h Sz3.h)) ?_;refine sa_q (fun ag w_ H=>(St.pick H [0,1,2,3,4,5] (by decide) rfl)) rfl rfl (fun g_ w' H=>x_ld (v:=I r_.up) rfl (ldb_sc Sc3.h (H.bl 2) rfl)) ?_;refine sa_q (fun ag w_ H=>(St.pick H [0,1,2,3,4,5] (by decide) rfl)) rfl rfl (fun g_ w' H=>x_ld (v:=Pq ah) rfl (ldb_sc Sc127.h (H.bl 3) rfl)) ?_;refine sa_q (fun ag w_ H=>(St.pick H [0,1,2,3,4,5] (by decide) rfl)) rfl rfl (fun g_ w' H=>x_mv (v:=ax) rfl) ?_;refine sa_q (fun ag w_ H=>(St.pick H [0,1,2,3,4,5] (by decide) rfl)) rfl rfl (fun g_ w' H=>x_fa (v:=Oq aj 1) rfl (fa_blk (o:=0) Fd53_1.h Sz3.h)) ?_;refine sa_q (fun ag w_ H=>(St.pick H [0,1,2,3,4,5] (by decide) rfl)) rfl rfl (fun g_ w' H=>x_ld (v:=I r_.down) rfl (ldb_sc Sc3.h (H.bl 2) rfl)) ?_;refine sa_l (fun ag w_ H=>(St.pick H [0,1,2,3,4,5] (by decide) rfl)) rfl ?_;intro g_ ag bi H
 replace H:St w bi (cBlk ao [I 0,I 0,I 0,I 0] 58 :: cBlk al [.func (.func 146) #[] #[]] 211 :: cBlk aj [I r_.up,I r_.down,I r_.lo,I r_.hi,B r_.narrow] 53 :: cBlk am [Pq ah] 127 :: cMk ([]) :: cMemI encSpt ai (zaa aa ac ae) :: ag) R:=H;obtain ⟨bT,bj,hM⟩:=M.e_bind hM;refine s_call cq [Pq ah,ax,I r_.up] rfl (zdk aa ac ae marks r_.up (aG.app _) aL (aH.app _) aM (aI.app _) aN (aJ.app _) (aO.app _) aR bj _ (St.give (T:=(cBlk ao [I 0,I 0,I 0,I 0] 58 :: cBlk al [.func (.func 146) #[] #[]] 211 :: cBlk aj [I r_.up,I r_.down,I r_.lo,I r_.hi,B r_.narrow] 53 :: cBlk am [Pq ah] 127 :: cMk ([]) :: cMemI encSpt ai (zaa aa ac ae) :: ag)) H rfl)) ?_;rintro _ bm ⟨r0,r1,rfl,rfl,aq⟩;replace H:St w bm (cBlk ao [I 0,I 0,I 0,I 0] 58 :: cBlk al [.func (.func 146) #[] #[]] 211 :: cBlk aj [I r_.up,I r_.down,I r_.lo,I r_.hi,B r_.narrow] 53 :: cBlk am [Pq ah] 127 :: cMk ([]) :: cMemI encSpt ai (zaa aa ac ae) :: ag) R:=H.back aq rfl;refine s_nil ⟨(St.pick H [0,1,2,3,4,5] (by decide) rfl),_,[cBlk ao [I 0,I 0,I 0,I 0] 58,cBlk al [.func (.func 146) #[] #[]] 211,cBlk aj [I r_.up,I r_.down,I r_.lo,I r_.hi,B r_.narrow] 53,cBlk am [Pq ah] 127,cMk ([]),cMemI encSpt ai (zaa aa ac ae)],mix_upd rfl,H,?_⟩;refine sa_l (fun ag w_ H=>(St.pick H [0,1,2,3,4,5] (by decide) rfl)) rfl ?_;intro g_ ag bn H;replace H:St w bn (cBlk ao [I 0,I 0,I 0,I 0] 58 :: cBlk al [.func (.func 146) #[] #[]] 211 :: cBlk aj [I r_.up,I r_.down,I r_.lo,I r_.hi,B r_.narrow] 53 :: cBlk am [Pq ah] 127 :: cMk ([]) :: cMemI encSpt ai (zaa aa ac ae) :: ag) R:=H;obtain ⟨bU,bp,hM⟩:=M.e_bind hM;refine s_call cq [Pq ah,ax,I r_.down] rfl (zdk aa ac ae marks r_.down (aG.app _) aL (aH.app _) aM (aI.app _) aN (aJ.app _) (aO.app _) aR bp _ (St.give (T:=(cBlk ao [I 0,I 0,I 0,I 0] 58 :: cBlk al [.func (.func 146) #[] #[]] 211 :: cBlk aj [I r_.up,I r_.down,I r_.lo,I r_.hi,B r_.narrow] 53 :: cBlk am [Pq ah] 127 :: cMk ([]) :: cMemI encSpt ai (zaa aa ac ae) :: ag)) H rfl)) ?_;rintro _ br ⟨ay,aA,rfl,rfl,aq⟩;replace H:St w br (cBlk ao [I 0,I 0,I 0,I 0] 58 :: cBlk al [.func (.func 146) #[] #[]] 211 :: cBlk aj [I r_.up,I r_.down,I r_.lo,I r_.hi,B r_.narrow] 53 :: cBlk am [Pq ah] 127 :: cMk ([]) :: cMemI encSpt ai (zaa aa ac ae) :: ag) R:=H.back aq rfl;refine s_nil ⟨(St.pick H [0,1,2,3,4,5] (by decide) rfl),_,[cBlk ao [I 0,I 0,I 0,I 0] 58,cBlk al [.func (.func 146) #[] #[]] 211,cBlk aj [I r_.up,I r_.down,I r_.lo,I r_.hi,B r_.narrow] 53,cBlk am [Pq ah] 127,cMk ([]),cMemI encSpt ai (zaa aa ac ae)],mix_upd rfl,H,?_⟩;refine sa_nil (fun ag w_ H=>(St.pick H [0,1,2,3,4,5] (by decide) rfl)) ?_;intro ap aw bt H;replace H:St w bt [cBlk ao [I 0,I 0,I 0,I 0] 58,cBlk al [.func (.func 146) #[] #[]] 211,cBlk aj [I r_.up,I r_.down,I r_.lo,I r_.hi,B r_.narrow] 53,cBlk am [Pq ah] 127,cMk ([]),cMemI encSpt ai (zaa aa ac ae),cBlk ap [I 0,I 0] 42,cBlk aw [I 0,I 0] 42] R:=(H)
 refine kS 1 ?_;intro bV H;refine s_nil ⟨(St.pick H [0,1,2,3,4,5] (by decide) rfl),?_⟩;refine kS 1 ?_;intro bW H;refine s_nil ⟨(St.pick H [0,1,2,3,4,5] (by decide) rfl),?_⟩;refine t_nil<|WD.seq<|WD.of ?_;refine W.drawA (fun W=>St w W [cBlk ao [I 0,I 0,I 0,I 0] 58,cBlk al [.func (.func 146) #[] #[]] 211,cBlk aj [I r_.up,I r_.down,I r_.lo,I r_.hi,B r_.narrow] 53,cBlk am [Pq ah] 127,cMk ([]),cMemI encSpt ai (zaa aa ac ae),cBlk ap [I r0,I r1] 42,cBlk aw [I ay,I aA] 42] R) [(0,true),(1,true),(2,true),(3,true),(4,true),(5,false)] [(6,12,3,[I 0]),(7,13,4,[B false])] (.l 8 (.l 9 .nil)) 2 mixed (by decide +kernel) rfl (by intro x hx; simp only [List.mem_cons,List.not_mem_nil,or_false] at hx; rcases hx with rfl | rfl <;> first | exact ⟨_,_,_,rfl,_,Al3.h,rfl⟩ | exact ⟨_,_,_,rfl,_,Al4.h,rfl⟩) (by decide) (by decide) H ?_;refine sa_q (fun ag w_ H=>(St.pick H [0,1,2,3,4,5,6,7] (by decide) rfl)) rfl rfl (fun g_ w' H=>x_fa (v:=Oq aj 2) rfl (fa_blk (o:=0) Fd53_2.h Sz42.h)) ?_;refine sa_q (fun ag w_ H=>(St.pick H [0,1,2,3,4,5,6,7] (by decide) rfl)) rfl rfl (fun g_ w' H=>x_fa (v:=Oq aj 2) rfl (fa_blk (o:=2) Fd42_0.h Sz3.h)) ?_;refine sa_q (fun ag w_ H=>(St.pick H [0,1,2,3,4,5,6,7] (by decide) rfl)) rfl rfl (fun g_ w' H=>x_ld (v:=I r_.lo) rfl (ldb_sc Sc3.h (H.bl 2) rfl)) ?_;refine sa_q (fun ag w_ H=>(St.pick H [0,1,2,3,4,5,6,7] (by decide) rfl)) rfl rfl (fun g_ w' H=>x_fa (v:=Pq al) rfl (fa_blk (o:=0) Fd211_0.h Sz132.h)) ?_;refine sa_q (fun ag w_ H=>(St.pick H [0,1,2,3,4,5,6,7] (by decide) rfl)) rfl rfl (fun g_ w' H=>x_ld (v:=.func (.func 146) #[] #[]) rfl (ldb_sc Sc132.h (H.bl 1) rfl)) ?_;refine sa_l (fun ag w_ H=>(St.pick H [0,1,2,3,4,5,6,7] (by decide) rfl)) rfl ?_;intro g_ ag bu H
 replace H:St w bu (cBlk ao [I 0,I 0,I 0,I 0] 58 :: cBlk al [.func (.func 146) #[] #[]] 211 :: cBlk aj [I r_.up,I r_.down,I r_.lo,I r_.hi,B r_.narrow] 53 :: cBlk am [Pq ah] 127 :: cMk ([]) :: cMemI encSpt ai (zaa aa ac ae) :: cBlk ap [I r0,I r1] 42 :: cBlk aw [I ay,I aA] 42 :: ag) R:=H;obtain ⟨bX,bv,hM⟩:=M.e_bind hM;refine s_callv (f:=146) rfl cq [I 1,I 0] rfl (ze3 1 0 bv _ (St.give (T:=(cBlk ao [I 0,I 0,I 0,I 0] 58 :: cBlk al [.func (.func 146) #[] #[]] 211 :: cBlk aj [I r_.up,I r_.down,I r_.lo,I r_.hi,B r_.narrow] 53 :: cBlk am [Pq ah] 127 :: cMk ([]) :: cMemI encSpt ai (zaa aa ac ae) :: cBlk ap [I r0,I r1] 42 :: cBlk aw [I ay,I aA] 42 :: ag)) H rfl)) ?_;rintro _ bw ⟨r2,rfl,rfl,aq⟩;replace H:St w bw (cBlk ao [I 0,I 0,I 0,I 0] 58 :: cBlk al [.func (.func 146) #[] #[]] 211 :: cBlk aj [I r_.up,I r_.down,I r_.lo,I r_.hi,B r_.narrow] 53 :: cBlk am [Pq ah] 127 :: cMk ([]) :: cMemI encSpt ai (zaa aa ac ae) :: cBlk ap [I r0,I r1] 42 :: cBlk aw [I ay,I aA] 42 :: ag) R:=H.back aq rfl;refine s_nil ⟨(St.pick H [0,1,2,3,4,5,6,7] (by decide) rfl),_,[cBlk ao [I 0,I 0,I 0,I 0] 58,cBlk al [.func (.func 146) #[] #[]] 211,cBlk aj [I r_.up,I r_.down,I r_.lo,I r_.hi,B r_.narrow] 53,cBlk am [Pq ah] 127,cMk ([]),cMemI encSpt ai (zaa aa ac ae),cBlk ap [I r0,I r1] 42,cBlk aw [I ay,I aA] 42],mix_upd rfl,H,?_⟩;refine sa_nil (fun ag w_ H=>(St.pick H [0,1,2,3,4,5,6,7] (by decide) rfl)) ?_;intro aB aC bx H;replace H:St w bx [cBlk ao [I 0,I 0,I 0,I 0] 58,cBlk al [.func (.func 146) #[] #[]] 211,cBlk aj [I r_.up,I r_.down,I r_.lo,I r_.hi,B r_.narrow] 53,cBlk am [Pq ah] 127,cMk ([]),cMemI encSpt ai (zaa aa ac ae),cBlk ap [I r0,I r1] 42,cBlk aw [I ay,I aA] 42,cBlk aB [I 0] 3,cBlk aC [B false] 4] R:=(H)
 refine kS 1 ?_;intro bY H;refine s_nil ⟨(St.pick H [0,1,2,3,4,5,6,7] (by decide) rfl),?_⟩;refine kS 1 ?_;intro bZ H;refine s_nil ⟨(St.pick H [0,1,2,3,4,5,6,7] (by decide) rfl),?_⟩;refine t_nil<|WD.seq<|WD.seq<|WD.of ?_;refine kg 4 ?_
 refine WD.cond (!r2) rfl (fun aS=>?_) (fun aS=>?_)
 ·replace hM:=M.e_t hM aS;exact (M.e_fail hM).elim
 replace hM:=M.e_f hM aS;refine WD.of<|W.skip<|WD.seq<|WD.of ?_;refine kA 1 ?_;intro au b7 H;refine s_nil<|WD.seq<|WD.of ?_;refine kA 1 ?_;intro av b8 H;refine ksw ?_;intro b9 H;refine s_nil<|WD.seq<|WD.seq<|WD.of ?_;refine kD 0 [0,1,2,3,4,5,6,7,8,9,10,11] [6,7,9] ?_;intro cb H;refine kL 7 (α:=Int) [r1] ?_;intro cc ce H;refine kN ?_;refine kC 1 @zdy ?_;intro cf r3 hM H;refine kN ?_;refine kC 2 @zeV ?_;intro cg aD aE aF hM H;refine kN ?_;refine d_nil ?_;replace H:=H.pk [0,2,3,4,5,6,7,8,9,10,12,13];refine WD.block ?_;obtain ⟨ch,bz,hM⟩:=M.e_bind hM;refine WD.range (L:=[cBlk av [I 0] 3,cBlk au [I 0,I 0,I 0,I 0] 58,cMemI encSpt ai (zaa aa ac ae),cBlk aF [I aD,I aE] 42,cBlk ao [I 0,I 0,I 0,I 0] 58,cBlk al [.func (.func 146) #[] #[]] 211,cBlk aj [I r_.up,I r_.down,I r_.lo,I r_.hi,B r_.narrow] 53,cBlk am [Pq ah] 127,cBlk ap [I r0,I r1] 42,cBlk aB [I r_.lo] 3,cBlk aC [B r2] 4]) [Pq aF] (H.pk [7,1,2,8,0,3,4,5,6,9,10,11]) rfl cq ?_;intro aP aT aU bA aV H
 have hYC:YieldC Tryz.prog ([cMk (aT :: ([])),cBlk aF [I aD,I aE] 42,cBlk ao [I 0,I 0,I 0,I 0] 58,cBlk al [.func (.func 146) #[] #[]] 211,cBlk aj [I r_.up,I r_.down,I r_.lo,I r_.hi,B r_.narrow] 53,cBlk am [Pq ah] 127,cBlk ap [I r0,I r1] 42,cBlk aB [I r_.lo] 3,cBlk aC [B r2] 4]++R) arI (yJ aP aU (fun (s,s2,s3,s4,s5) aQ=>aQ=[cBlk av [I s] 3,cBlk au [I s2,I s3,I s4,I s5] 58,cMemI encSpt ai (zaa aa ac ae)]) (fun (_:Unit) _=>False) (fun _=>.ret)) (.func (.yield aP) #[] #[]) (M.yl (zaz aa ac ae r_ r1 r2)):=by
  refine YieldC.mk aV (fun (s,s2,s3,s4,s5) aQ=>aQ=[cBlk av [I s] 3,cBlk au [I s2,I s3,I s4,I s5] 58,cMemI encSpt ai (zaa aa ac ae)]) (fun (_:Unit) _=>False) (fun _=>.ret) (zaz aa ac ae r_ r1 r2) (by rintro ⟨s,s2,s3,s4,s5⟩ _ h_; obtain ⟨rfl⟩:=h_; rfl) (fun _ _ h_=>h_.elim) rfl (arI_len rfl) ?_;intro C_ cj x W_ bB;obtain rfl:=bB;refine kg 3 ?_;refine ⟨rfl,rfl,?_⟩;intro w R aK aQ s_ r bC hM H;obtain ⟨s,s2,s3,s4,s5⟩:=s_;obtain ⟨rfl⟩:=bC;replace aG:=aG.sub aK;replace aH:=aH.sub aK;replace aI:=aI.sub aK;replace aJ:=aJ.sub aK;replace aO:=aO.sub aK;replace hM:(zaz aa ac ae r_ r1 r2 (s,s2,s3,s4,s5) x).Ends r:=hM;simp only [zaz] at hM;replace H:=H.pk [0,1,2,4,5,6,7,8,9,10,11,3];refine kA 11 ?_;intro ck cn H;refine ksw ?_;intro cp H;refine kI 6 ?_ ?_
  ·intro bD hM;refine kS 4 ?_;intro cr H;refine kg 6 ?_;obtain ⟨ct,bE,hM⟩:=M.e_bind hM;refine s_call cq [Pq ah,.agg #[I r_.up,I r_.down,I r_.lo,I r_.hi,B r_.narrow],.agg #[I r1,I x,I r_.lo,I r_.lo]] rfl (zez aa ac ae r_ (⟨(r1:Int),(x:Int),(r_.lo:Int),(r_.lo:Int)⟩:Cas) (aG.app _) aL (aH.app _) aM (aI.app _) aN (aJ.app _) bE _ ((H.pk [3,0,1,2,4,5,6,7,8,9,10,11,12]).gt 12)) ?_;rintro _ cv ⟨r4,rfl,rfl,aq⟩;replace H:=H.pk [3,0,1,2,4,5,6,7,8,9,10,11,12] |>.bk aq
   refine kG 6 ?_;refine s_val (x_eqS (eqT58 (⟨(s2:Int),(s3:Int),(s4:Int),(s5:Int)⟩:Cas) (⟨(0:Int),(0:Int),(0:Int),(0:Int)⟩:Cas) _) gdT58 rfl rfl) ?_;refine kg 5 ?_;obtain ⟨r5,bF,hM⟩:=M.e_bind hM;refine t_gcallv (cap:=[]) (!(decide ((⟨(s2:Int),(s3:Int),(s4:Int),(s5:Int)⟩:Cas)=(⟨(0:Int),(0:Int),(0:Int),(0:Int)⟩:Cas)))) (gy_f rfl) cq (fun hg=>(gd_of hg (.func (.func 146) #[] #[]))) (B r5) (fun _=>[I r4,I s]) (fun hg=>lst2 (gd_of hg (I r4)) (gd_of hg (I s))) H (fun hg=>(ze3 r4 s (M.e_opt bF hg) _ (H.give (A:=[]) rfl)).mono fun v_ w_ ⟨y_,aW,bG,H_⟩=>by subst aW; exact ⟨bG,H.via H_⟩) ?_;intro cw H;refine kI 2 ?_ ?_
   ·intro bH hM;refine kS 3 ?_;intro cA H;refine ksw ?_;intro cB H;refine s_nil ?_;exact ⟨(r4,r1,x,r_.lo,r_.lo),[cBlk av [I r4] 3,cBlk au [I r1,I x,I r_.lo,I r_.lo] 58,cMemI encSpt ai (zaa aa ac ae)],(M.e_pure hM).symm,rfl,H.pick [2,3,0,12,4,5,6,7,8,9,10,11] (by decide) rfl⟩
   intro bH hM;refine W.skip ?_;exact ⟨(s,s2,s3,s4,s5),[cBlk av [I s] 3,cBlk au [I s2,I s3,I s4,I s5] 58,cMemI encSpt ai (zaa aa ac ae)],(M.e_pure hM).symm,rfl,H.pick [2,3,0,12,4,5,6,7,8,9,10,11] (by decide) rfl⟩
  intro bD hM;exact (M.e_fail hM).elim
 replace H:St w bA (cAll (cObj aP (.loop aU) :: [cBlk av [I 0] 3,cBlk au [I 0,I 0,I 0,I 0] 58,cMemI encSpt ai (zaa aa ac ae)]) :: [cMk (aT :: ([])),cBlk aF [I aD,I aE] 42,cBlk ao [I 0,I 0,I 0,I 0] 58,cBlk al [.func (.func 146) #[] #[]] 211,cBlk aj [I r_.up,I r_.down,I r_.lo,I r_.hi,B r_.narrow] 53,cBlk am [Pq ah] 127,cBlk ap [I r0,I r1] 42,cBlk aB [I r_.lo] 3,cBlk aC [B r2] 4]) R:=St.bundleB (A:=cObj aP (.loop aU) :: [cBlk av [I 0] 3,cBlk au [I 0,I 0,I 0,I 0] 58,cMemI encSpt ai (zaa aa ac ae)]) (T:=[cMk (aT :: ([])),cBlk aF [I aD,I aE] 42,cBlk ao [I 0,I 0,I 0,I 0] 58,cBlk al [.func (.func 146) #[] #[]] 211,cBlk aj [I r_.up,I r_.down,I r_.lo,I r_.hi,B r_.narrow] 53,cBlk am [Pq ah] 127,cBlk ap [I r0,I r1] 42,cBlk aB [I r_.lo] 3,cBlk aC [B r2] 4]) rfl (H.pk [0,2,3,4,1,5,6,7,8,9,10,11,12]);refine (zeT (M.yl (zaz aa ac ae r_ r1 r2)) (.inl (0,0,0,0,0)) aD aE hYC ⟨_,rfl,rfl⟩ (Has.here (k:=1) rfl) bz _ (H.gt 9)).mono ?_;rintro vq cC ⟨bI,cD,rfl,hvq,aq,bg⟩;replace H:=H.back aq rfl;clear aq hYC;rcases bI with ⟨s,s2,s3,s4,s5⟩ | _
 ·obtain ⟨_,rfl,rfl⟩:=bg;refine ⟨_,[cBlk av [I s] 3,cBlk au [I s2,I s3,I s4,I s5] 58,cMemI encSpt ai (zaa aa ac ae),cBlk aF [I aD,I aE] 42,cBlk ao [I 0,I 0,I 0,I 0] 58,cBlk al [.func (.func 146) #[] #[]] 211,cBlk aj [I r_.up,I r_.down,I r_.lo,I r_.hi,B r_.narrow] 53,cBlk am [Pq ah] 127,cBlk ap [I r0,I r1] 42,cBlk aB [I r_.lo] 3,cBlk aC [B r2] 4],H.unbundle.pick [0,4,1,2,3,5,6,7,8,9,10,11,12] (by decide) rfl,aV.nb,?_⟩;intro cE H;rw [aV.pd];replace H:=H.nf
  try simp only []
  replace H:=H.pk [0,1,2,3,5];refine WD.seq<|WD.of ?_;refine kD 0 [0,1,2,3] [2] ?_;intro cF H;refine kS 3 ?_;intro cG H;refine kN ?_;refine kg 2 ?_;replace H:=H.pk [0,3,4];refine WD.of ?_;refine W.ret ?_;refine bodyD_r (H.pk [0,1,2]) ?_;intro cH H;replace H:=H.nf
  have bJ:=(H.bl 1)
  have aW:=M.e_pure hM;exact ⟨_,(resE_ofn (vs:=[.agg #[I s2,I s3,I s4,I s5],I s]) rfl rfl (.cell (v:=.agg #[I s2,I s3,I s4,I s5]) rfl (run_loadVar_ag (ds:=[I s2,I s3,I s4,I s5]) Ag58.h Sz58.h bJ rfl rfl)<|.tmp (v:=I s) rfl<|.nil)),⟨s2,s3,s4,s5,s,aW,rfl,(H.pk [0])⟩⟩
 obtain ⟨_,_,h_⟩:=bg; exact h_.elim

def zcj (aa:List Sect) (ac:List Mrk) (ae:List Rch) (marks:List Int) (r_:Rch):M (Int × Int) :=
  M.bind (zeE) fun (_:Unit) =>
  M.bind (za0 aa ac ae marks r_) fun (ah,ai,aj,al,r1) =>
  M.bind (zdF) fun (_:Unit) =>
  M.bind (za7 aa ac ae marks r_) fun (am,ao,ap,aq,ag) =>
  M.pure (r1,ag)
theorem zhw {R ah aF aG aH aI aJ aK aE aL ai}(ac ae ag marks r_)(aj:Reads R aF)(al:Sl aF aG ac)(am:Reads R aH)(ao:Sl aH aI ae)(ap:Reads R aJ)(aq:Sl aJ aK ag)(au:Has R (cBlk ah [aG,aI,aK,.map (some aE)] 196))(av:Reads R aL)(aw:Sl aL ai marks){r}(hM:(zcj ac ae ag marks r_).Ends r)(w)(H:St w w [cMemI encSpt aE (zaa ac ae ag)] R):Ret Tryz.prog 36 #[Pq ah,ai,.agg #[I r_.up,I r_.down,I r_.lo,I r_.hi,B r_.narrow]] w fun v w'=>∃ y0 y1,(y0,y1)=r/\v = .agg #[I y0,I y1]/\St w w' [cMemI encSpt aE (zaa ac ae ag)] R:=by
 refine ret_of_W Tryz.func36 rfl rfl rfl ?_;refine kB 2 ?_;intro a8 ba H;refine kal ?_;intro bc bg H;refine kDT 2 [0,1] (.q 0 (.q 1 (.q 2 (.l2 3 (.l2 4 (.q 5 (.q 6 (.q 7 (.l 8 (.l 9 (.q 10 .nil)))))) 8 (.l 4 (.q 5 (.q 6 (.q 7 (.l 9 (.q 10 .nil))))))) 8 (.l 3 (.l 4 (.q 5 (.q 6 (.q 7 (.l 9 (.q 10 .nil))))))))))) ?_;intro bi H;refine kg 3 ?_;refine t_l2 rfl rfl ?_ ?_
 ·refine kC 0 @ze7 ?_;intro bj hM H;refine kN ?_;refine t_l2 rfl rfl ?_ ?_
  ·obtain ⟨bm,aR,hM⟩:=M.e_bind hM;refine s_call cq [Pq ah,ai,.agg #[I r_.up,I r_.down,I r_.lo,I r_.hi,B r_.narrow],.agg #[.func (.func 145) #[] #[]]] rfl (zd9 ac ae ag marks r_ (aj.app _) al (am.app _) ao (ap.app _) aq (au.app _) (av.app _) aw aR _ ((H.pk [2,0,1]).gt 2)) ?_;rintro _ bn ⟨aM,aN,aO,aP,r1,rfl,rfl,aa⟩;replace H:=H.pk [2,0,1] |>.bk aa
   refine kN ?_;refine kA 4 ?_;intro aQ bp H;refine kN ?_;refine kS 1 ?_;intro br H;refine kN ?_;refine kDT 3 [0,2,3] (.q 0 (.q 1 (.q 2 (.l2 3 (.l2 4 (.q 5 (.q 6 (.q 7 (.l 8 (.l 9 (.q 10 .nil)))))) 8 (.l 4 (.q 5 (.q 6 (.q 7 (.l 9 (.q 10 .nil))))))) 8 (.l 3 (.l 4 (.q 5 (.q 6 (.q 7 (.l 9 (.q 10 .nil))))))))))) ?_;intro bt H;refine kg 3 ?_;refine t_l2 rfl rfl ?_ ?_
   ·refine kC 0 @zaO ?_;intro bu hM H;refine kN ?_;refine t_l2 rfl rfl ?_ ?_
    ·obtain ⟨bv,aS,hM⟩:=M.e_bind hM;refine s_call cq [Pq ah,ai,.agg #[I r_.up,I r_.down,I r_.lo,I r_.hi,B r_.narrow],.agg #[.func (.func 146) #[] #[]]] rfl (zaq ac ae ag marks r_ (aj.app _) al (am.app _) ao (ap.app _) aq (au.app _) (av.app _) aw aS _ ((H.pk [1,0,2,3]).gt 3)) ?_;rintro _ bw ⟨ax,ay,aA,aB,aC,rfl,rfl,aa⟩;replace H:=H.pk [1,0,2,3] |>.bk aa
     refine kN ?_;refine kA 4 ?_;intro aD bx H;refine kN ?_;refine kS 1 ?_;intro bz H;refine kN ?_;refine kg 2 ?_;replace H:=H.pk [1,3];refine kS 5 ?_;intro bA H;exact kR 1 [0]
    refine kal ?_;intro aD bB H;refine kN ?_;refine t_l rfl ?_;obtain ⟨bC,aT,hM⟩:=M.e_bind hM;refine s_call cq [Pq ah,ai,.agg #[I r_.up,I r_.down,I r_.lo,I r_.hi,B r_.narrow],.agg #[.func (.func 146) #[] #[]]] rfl (zaq ac ae ag marks r_ (aj.app _) al (am.app _) ao (ap.app _) aq (au.app _) (av.app _) aw aT _ ((H.pk [2,0,1,3,4]).gt 4)) ?_;rintro _ bD ⟨ax,ay,aA,aB,aC,rfl,rfl,aa⟩;replace H:=H.pk [2,0,1,3,4] |>.bk aa
    refine kN ?_;refine kS 4 ?_;intro bE H;refine kN ?_;refine kg 2 ?_;replace H:=H.pk [0,3];refine kS 5 ?_;intro bF H;exact kR 1 [0]
   refine kal ?_;intro aD bG H;refine kN ?_;refine kC 1 @zaO ?_;intro bH hM H;refine kN ?_;refine t_l rfl ?_;obtain ⟨bI,aU,hM⟩:=M.e_bind hM;refine s_call cq [Pq ah,ai,.agg #[I r_.up,I r_.down,I r_.lo,I r_.hi,B r_.narrow],.agg #[.func (.func 146) #[] #[]]] rfl (zaq ac ae ag marks r_ (aj.app _) al (am.app _) ao (ap.app _) aq (au.app _) (av.app _) aw aU _ ((H.pk [2,0,1,3,4]).gt 4)) ?_;rintro _ bJ ⟨ax,ay,aA,aB,aC,rfl,rfl,aa⟩;replace H:=H.pk [2,0,1,3,4] |>.bk aa
   refine kN ?_;refine kS 4 ?_;intro bK H;refine kN ?_;refine kg 2 ?_;replace H:=H.pk [0,3];refine kS 5 ?_;intro bL H;exact kR 1 [0]
  refine kal ?_;intro aQ bN H;refine kN ?_;refine t_l rfl ?_;obtain ⟨bO,aV,hM⟩:=M.e_bind hM;refine s_call cq [Pq ah,ai,.agg #[I r_.up,I r_.down,I r_.lo,I r_.hi,B r_.narrow],.agg #[.func (.func 145) #[] #[]]] rfl (zd9 ac ae ag marks r_ (aj.app _) al (am.app _) ao (ap.app _) aq (au.app _) (av.app _) aw aV _ ((H.pk [3,0,1,2]).gt 3)) ?_;rintro _ bP ⟨aM,aN,aO,aP,r1,rfl,rfl,aa⟩;replace H:=H.pk [3,0,1,2] |>.bk aa
  refine kN ?_;refine kS 4 ?_;intro bQ H;refine kN ?_;refine kDT 3 [1,2,3] (.q 0 (.q 1 (.q 2 (.l2 3 (.l2 4 (.q 5 (.q 6 (.q 7 (.l 8 (.l 9 (.q 10 .nil)))))) 8 (.l 4 (.q 5 (.q 6 (.q 7 (.l 9 (.q 10 .nil))))))) 8 (.l 3 (.l 4 (.q 5 (.q 6 (.q 7 (.l 9 (.q 10 .nil))))))))))) ?_;intro bR H;refine kg 3 ?_;refine t_l2 rfl rfl ?_ ?_
  ·refine kC 0 @zaO ?_;intro bS hM H;refine kN ?_;refine t_l2 rfl rfl ?_ ?_
   ·refine kC 0 @zaq ?_;intro bT ax ay aA aB aC hM H;refine kN ?_;refine kA 4 ?_;intro aD bU H;refine kN ?_;refine kS 1 ?_;intro bV H;refine kN ?_;refine kg 2 ?_;replace H:=H.pk [1,3];refine kS 5 ?_;intro bW H;exact kR 1 [0]
   refine kal ?_;intro aD bX H;refine kN ?_;refine t_l rfl ?_;obtain ⟨bY,aW,hM⟩:=M.e_bind hM;refine s_call cq [Pq ah,ai,.agg #[I r_.up,I r_.down,I r_.lo,I r_.hi,B r_.narrow],.agg #[.func (.func 146) #[] #[]]] rfl (zaq ac ae ag marks r_ (aj.app _) al (am.app _) ao (ap.app _) aq (au.app _) (av.app _) aw aW _ ((H.pk [1,0,2,3,4]).gt 4)) ?_;rintro _ bZ ⟨ax,ay,aA,aB,aC,rfl,rfl,aa⟩;replace H:=H.pk [1,0,2,3,4] |>.bk aa
   refine kN ?_;refine kS 4 ?_;intro b7 H;refine kN ?_;refine kg 2 ?_;replace H:=H.pk [0,3];refine kS 5 ?_;intro b8 H;exact kR 1 [0]
  refine kal ?_;intro aD b9 H;refine kN ?_;refine kC 1 @zaO ?_;intro cb hM H;refine kN ?_;refine t_l rfl ?_;obtain ⟨cc,aX,hM⟩:=M.e_bind hM;refine s_call cq [Pq ah,ai,.agg #[I r_.up,I r_.down,I r_.lo,I r_.hi,B r_.narrow],.agg #[.func (.func 146) #[] #[]]] rfl (zaq ac ae ag marks r_ (aj.app _) al (am.app _) ao (ap.app _) aq (au.app _) (av.app _) aw aX _ ((H.pk [1,0,2,3,4]).gt 4)) ?_;rintro _ ce ⟨ax,ay,aA,aB,aC,rfl,rfl,aa⟩;replace H:=H.pk [1,0,2,3,4] |>.bk aa
  refine kN ?_;refine kS 4 ?_;intro cf H;refine kN ?_;refine kg 2 ?_;replace H:=H.pk [0,3];refine kS 5 ?_;intro cg H;exact kR 1 [0]
 refine kal ?_;intro aQ ch H;refine kN ?_;refine kC 1 @ze7 ?_;intro cj hM H;refine kN ?_;refine t_l rfl ?_;obtain ⟨ck,aY,hM⟩:=M.e_bind hM;refine s_call cq [Pq ah,ai,.agg #[I r_.up,I r_.down,I r_.lo,I r_.hi,B r_.narrow],.agg #[.func (.func 145) #[] #[]]] rfl (zd9 ac ae ag marks r_ (aj.app _) al (am.app _) ao (ap.app _) aq (au.app _) (av.app _) aw aY _ ((H.pk [3,0,1,2]).gt 3)) ?_;rintro _ cn ⟨aM,aN,aO,aP,r1,rfl,rfl,aa⟩;replace H:=H.pk [3,0,1,2] |>.bk aa
 refine kN ?_;refine kS 4 ?_;intro cp H;refine kN ?_;refine kDT 3 [1,2,3] (.q 0 (.q 1 (.q 2 (.l2 3 (.l2 4 (.q 5 (.q 6 (.q 7 (.l 8 (.l 9 (.q 10 .nil)))))) 8 (.l 4 (.q 5 (.q 6 (.q 7 (.l 9 (.q 10 .nil))))))) 8 (.l 3 (.l 4 (.q 5 (.q 6 (.q 7 (.l 9 (.q 10 .nil))))))))))) ?_;intro cr H;refine kg 3 ?_;refine t_l2 rfl rfl ?_ ?_
 ·refine kC 0 @zaO ?_;intro ct hM H;refine kN ?_;refine t_l2 rfl rfl ?_ ?_
  ·refine kC 0 @zaq ?_;intro cv ax ay aA aB aC hM H;refine kN ?_;refine kA 4 ?_;intro aD cw H;refine kN ?_;refine kS 1 ?_;intro cA H;refine kN ?_;refine kg 2 ?_;replace H:=H.pk [1,3];refine kS 5 ?_;intro cB H;exact kR 1 [0]
  refine kal ?_;intro aD cC H;refine kN ?_;refine t_l rfl ?_;obtain ⟨cD,aZ,hM⟩:=M.e_bind hM;refine s_call cq [Pq ah,ai,.agg #[I r_.up,I r_.down,I r_.lo,I r_.hi,B r_.narrow],.agg #[.func (.func 146) #[] #[]]] rfl (zaq ac ae ag marks r_ (aj.app _) al (am.app _) ao (ap.app _) aq (au.app _) (av.app _) aw aZ _ ((H.pk [1,0,2,3,4]).gt 4)) ?_;rintro _ cE ⟨ax,ay,aA,aB,aC,rfl,rfl,aa⟩;replace H:=H.pk [1,0,2,3,4] |>.bk aa
  refine kN ?_;refine kS 4 ?_;intro cF H;refine kN ?_;refine kg 2 ?_;replace H:=H.pk [0,3];refine kS 5 ?_;intro cG H;exact kR 1 [0]
 refine kal ?_;intro aD cH H;refine kN ?_;refine kC 1 @zaO ?_;intro cI hM H;refine kN ?_;refine t_l rfl ?_;obtain ⟨cJ,a7,hM⟩:=M.e_bind hM;refine s_call cq [Pq ah,ai,.agg #[I r_.up,I r_.down,I r_.lo,I r_.hi,B r_.narrow],.agg #[.func (.func 146) #[] #[]]] rfl (zaq ac ae ag marks r_ (aj.app _) al (am.app _) ao (ap.app _) aq (au.app _) (av.app _) aw a7 _ ((H.pk [1,0,2,3,4]).gt 4)) ?_;rintro _ cK ⟨ax,ay,aA,aB,aC,rfl,rfl,aa⟩;replace H:=H.pk [1,0,2,3,4] |>.bk aa
 refine kN ?_;refine kS 4 ?_;intro cL H;refine kN ?_;refine kg 2 ?_;replace H:=H.pk [0,3];refine kS 5 ?_;intro cM H;exact kR 1 [0]

def zac (n aa greatest:Int):M Bool :=
  M.pure ((decide (aa<=n))&&(decide (n<=greatest)))
theorem zae {R}(n aa greatest){r}(hM:(zac n aa greatest).Ends r)(w)(H:St w w [] R):Ret Tryz.prog 37 #[I n,I aa,I greatest] w fun v w'=>∃ y0,y0=r/\v=B y0/\St w w' [] R:=by
 refine ret_of_W Tryz.func37 rfl rfl rfl ?_;refine kg 16 ?_;exact rt

def zcA (s:List Sect) (f:Sect->M Bool):Nat->M (Nat ⊕ (Int ⊕ Unit)):=fun s2 =>
  bif decide ((s2:Int)<(s.length:Int)) then (
  M.grd (decide ((s2:Int)<(s.length:Int))) <|
  M.bind (f (s.getD s2 default)) fun r2 =>
  bif r2 then (
  M.pure (.inr (.inl (s2:Int))))
  else (
  M.pure (.inl (s2+1))))
  else (
  M.pure (.inr (.inr ())))
def zey (s:List Sect) (f:Sect->M Bool):M Int :=
  M.bind (M.iter (zcA s f) 0) fun x_=>match x_ with
  | (.inl s3)=>(
  M.pure s3)
  | (.inr (_:Unit))=>(
  M.pure (-1))
theorem zhl {R ag ac ae}(s f)(ah:Reads R ag)(ai:Sl ag ac s)(ap:FnM Tryz.prog R ae f){r}(hM:(zey s f).Ends r)(w)(H:St w w [] R):Ret Tryz.prog 234 #[ac,ae] w fun v w'=>∃ y0,y0=r/\v=I y0/\St w w' [] R:=by
 refine ret_of_W Tryz.func234 rfl rfl rfl ?_;have aA:=(ai).len_le;refine kg 12 ?_;obtain ⟨aq,aj,al⟩:=M.e_bind hM;obtain ⟨aB,aj⟩:=M.e_iter aj;refine W.loop (fun m σ W=>∃ (s2:Nat) (ρ:Env),σ=upds ρ [(0,ac),(1,ae),(7,I (s.length:Int)),(8,I (s2:Int))]/\M.iterN (zcA s f) m s2=some aq/\St w W [] R) ?_ ?_
 ·exact kY
 rintro aC σ aD ⟨s2,ρ,rfl,au,H⟩;obtain ⟨aE,aF,aG,hM,am⟩:=M.e_iterN au;refine kI 5 ?_ ?_
 ·intro av hM;obtain ⟨aH,hM⟩:=M.e_gq hM;refine kg 14 ?_;obtain ⟨ao,aw,aa⟩:=Sect_atA ai (i:=(s2:Int)) (by omega) (by omega);replace aa:Sl _ ao (s.getD s2 default).rows:=aa;have aI:=aa.len_le;refine s_val (x_ld (v:=.agg #[I ((s.getD s2 default).place),ao]) rfl (ld_ag Ag103.h Sz103.h (At.mono aw (ah.at H)))) ?_;obtain ⟨r2,ax,hM⟩:=M.e_bind hM;refine t_callM H ap rfl rfl (s.getD s2 default) (ah.app _) ⟨_,Sect_mk aa,rfl⟩ ax ?_;intro aJ H;refine kI 1 ?_ ?_
  ·intro ay hM;refine kg 5 ?_;obtain rfl:=M.e_inr hM am;replace hM:=al;exact rt
  intro ay hM;exact kX 5
 intro av hM;refine W.exit ?_;obtain rfl:=M.e_inr hM am;replace hM:=al;refine kg 4 ?_;exact rt

def zdI (s:List Sect) (f:Sect->M Bool):M Bool :=
  M.bind (zey s f) fun r2 =>
  M.pure (decide (0<=r2))
theorem zfX {R aa ac ae}(s f)(ag:Reads R aa)(ah:Sl aa ac s)(ai:FnM Tryz.prog R ae f){r}(hM:(zdI s f).Ends r)(w)(H:St w w [] R):Ret Tryz.prog 192 #[ac,ae] w fun v w'=>∃ y0,y0=r/\v=B y0/\St w w' [] R:=by
 refine ret_of_W Tryz.func192 rfl rfl rfl ?_;refine kC 8 @zhl ?_;intro aj r2 hM H;refine kg 3 ?_;exact rt

def zcJ (x:Sect) (aa:Sect->M Bool):M Bool :=
  M.bind (aa x) fun r2 =>
  M.pure (!r2)
theorem zhR {R aa ac ae ag}(x ah)(ai:Reads R aa)(aj:Sl aa ac x.rows)(al:FnM Tryz.prog R ag ah)(ao:Has R (cBlk ae [ag] 262)){r}(hM:(zcJ x ah).Ends r)(w)(H:St w w [] R):Ret Tryz.prog 193 #[.agg #[I x.place,ac],Pq ae] w fun v w'=>∃ y0,y0=r/\v=B y0/\St w w' [] R:=by
 refine ret_of_W Tryz.func193 rfl rfl rfl ?_;refine kB 2 ?_;intro ap aq H;refine kg 6 ?_;obtain ⟨r2,am,hM⟩:=M.e_bind hM;refine t_callM H al rfl rfl x (ai.app _) ⟨_,Sect_mk aj,rfl⟩ am ?_;intro au H;refine kg 3 ?_;exact rt

def zb0 (l:List Sect) (so:Sect->M Bool):M Bool :=
  M.bind (zdI l (fun aa=>zcJ aa so)) fun r2 =>
  M.pure (!r2)
theorem zfY {R ag aa ah}(l so)(aj:Reads R ag)(al:Sl ag aa l)(am:FnM Tryz.prog R ah so){r}(hM:(zb0 l so).Ends r)(w)(H:St w w [] R):Ret Tryz.prog 121 #[aa,ah] w fun v w'=>∃ y0,y0=r/\v=B y0/\St w w' [] R:=by
 refine ret_of_W Tryz.func121 rfl rfl rfl ?_;refine kB 2 ?_;intro ac aD H;refine kg 5 ?_;refine s_val (x_mf (fs:=[]) (cs:=[Pq ac]) rfl rfl) ?_;obtain ⟨aE,ao,hM⟩:=M.e_bind hM;refine s_call cq [aa,.func (.func 193) #[] #[Pq ac]] rfl (zfX l (fun ae=>zcJ ae so) (aj.app _) al ⟨193,[Pq ac],rfl,cq,fun ai aF aG ap ae aH aq au av aw=>by obtain ⟨aI,rfl,ax⟩:=Sect_arg av; exact (zhR ae so au ax (FnM.app (am.app _) _) (Has.app (Has.here (k:=0) rfl) _) aw ai (St.refl aq)).mono fun ap ai ⟨aJ,ay,aA,aB⟩=>by subst ay; exact ⟨aA,aB⟩⟩ ao _ (H.gt 1)) ?_;rintro _ aK ⟨r2,rfl,rfl,aC⟩;replace H:=H.bk aC;refine kg 3 ?_;exact rt

def zcL (x:Sect):M Bool :=
  M.bind (zac (x.rows.length:Int) 2 8) fun r2 =>
  M.pure r2
theorem zgp {R aa ac}(x)(ag:Reads R aa)(ae:Sl aa ac x.rows){r}(hM:(zcL x).Ends r)(w)(H:St w w [] R):Ret Tryz.prog 120 #[.agg #[I x.place,ac]] w fun v w'=>∃ y0,y0=r/\v=B y0/\St w w' [] R:=by
 refine ret_of_W Tryz.func120 rfl rfl rfl ?_;refine kB 2 ?_;intro ah ai H;have aj:=(ae).len_le;refine kC 7 @zae ?_;intro al r2 hM H;refine kg 2 ?_;exact rt

def zcS (x:Sect):(Int × Int × Nat)->M ((Int × Int × Nat) ⊕ ((Int × Int) ⊕ (Int × Int))):=fun (s,s2,s3) =>
  bif decide ((s3:Int)<(x.rows.length:Int)) then (
  M.grd (decide ((s3:Int)<(x.rows.length:Int))) <|
  M.gi (s+1) <|
  M.bind (zac ((x.rows.getD s3 default).stage) (s+1) 2000) fun r2 =>
  M.bind (M.opt (!(!r2)) (zac ((x.rows.getD s3 default).carry) s2 100000) false) fun r3 =>
  bif ((!r2)||(!r3)) then (
  M.pure (.inr (.inl (s,s2))))
  else (
  M.pure (.inl ((x.rows.getD s3 default).stage,(x.rows.getD s3 default).carry,s3+1))))
  else (
  M.pure (.inr (.inr (s,s2))))
def zc6 (x:Sect):M Bool :=
  M.bind (M.iter (zcS x) (-1,0,0)) fun x_=>match x_ with
  | (.inl (s4,s5))=>(
  M.pure false)
  | (.inr (s6,s7))=>(
  M.bind (zac x.place 0 10000) fun r4 =>
  M.pure r4)
theorem zhg {R ac aa}(x)(ax:Reads R ac)(al:Sl ac aa x.rows){r}(hM:(zc6 x).Ends r)(w)(H:St w w [] R):Ret Tryz.prog 122 #[.agg #[I x.place,aa]] w fun v w'=>∃ y0,y0=r/\v=B y0/\St w w' [] R:=by
 refine ret_of_W Tryz.func122 rfl rfl rfl ?_;refine kB 2 ?_;intro ae ay H;refine kA 5 ?_;intro ag aA H;refine ksw ?_;intro aB H;have aC:=(al).len_le;refine kg 10 ?_;obtain ⟨am,ah,ai⟩:=M.e_bind hM;obtain ⟨aD,ah⟩:=M.e_iter ah;refine W.loop (fun m σ W=>∃ (s:Int) (s2:Int) (s3:Nat) (ρ:Env),σ=upds ρ [(1,Pq ae),(3,Pq ag),(8,aa),(9,I (x.rows.length:Int)),(10,I (s3:Int))]/\M.iterN (zcS x) m (s,s2,s3)=some am/\St w W [cBlk ag [I s,I s2] 105,cBlk ae [I x.place,aa] 103] R) ?_ ?_
 ·exact kY
 rintro aE σ aF ⟨s,s2,s3,ρ,rfl,ao,H⟩;obtain ⟨aG,aH,aI,hM,aj⟩:=M.e_iterN ao;refine kI 5 ?_ ?_
 ·intro ap hM;obtain ⟨aJ,hM⟩:=M.e_gq hM;refine kA 7 ?_;intro aK aL H;refine ksw ?_;intro aM H;obtain ⟨aN,hM⟩:=M.e_gq hM;refine kC 9 @zae ?_;intro aO r2 hM H;refine kg 6 ?_;obtain ⟨r3,aq,hM⟩:=M.e_bind hM;refine t_gcall (!(!r2)) (gy_f rfl) cq (B r3) (fun _=>[I ((x.rows.getD s3 default).carry),I s2,I 100000]) (fun hg=>lst3 (gd_of hg (I ((x.rows.getD s3 default).carry))) (gd_of hg (I s2)) rfl) H (fun hg=>(zae ((x.rows.getD s3 default).carry) s2 100000 (M.e_opt aq hg) _ (H.give (A:=[]) rfl)).mono fun v_ w_ ⟨y_,au,av,H_⟩=>by subst au; exact ⟨av,H.via H_⟩) ?_;intro aP H;refine kI 3 ?_ ?_
  ·intro aw hM;refine kg 4 ?_;obtain rfl:=M.e_inr hM aj;replace hM:=ai;exact rt
  intro aw hM;refine kS 3 ?_;intro aQ H;exact kXp 5 [1,2]
 intro ap hM;refine W.exit ?_;obtain rfl:=M.e_inr hM aj;replace hM:=ai;refine kC 4 @zae ?_;intro aR r4 hM H;refine kg 2 ?_;replace H:=H.pk [];exact rt

def zda (s:List Mrk) (f:Mrk->M Bool):Nat->M (Nat ⊕ (Int ⊕ Unit)):=fun s2 =>
  bif decide ((s2:Int)<(s.length:Int)) then (
  M.grd (decide ((s2:Int)<(s.length:Int))) <|
  M.bind (f (s.getD s2 default)) fun r2 =>
  bif r2 then (
  M.pure (.inr (.inl (s2:Int))))
  else (
  M.pure (.inl (s2+1))))
  else (
  M.pure (.inr (.inr ())))
def zd0 (s:List Mrk) (f:Mrk->M Bool):M Int :=
  M.bind (M.iter (zda s f) 0) fun x_=>match x_ with
  | (.inl s3)=>(
  M.pure s3)
  | (.inr (_:Unit))=>(
  M.pure (-1))
theorem zg7 {R ae aa ac}(s f)(av:Reads R ae)(aj:Sl ae aa s)(al:FnM Tryz.prog R ac f){r}(hM:(zd0 s f).Ends r)(w)(H:St w w [] R):Ret Tryz.prog 235 #[aa,ac] w fun v w'=>∃ y0,y0=r/\v=I y0/\St w w' [] R:=by
 refine ret_of_W Tryz.func235 rfl rfl rfl ?_;have aw:=(aj).len_le;refine kg 12 ?_;obtain ⟨am,ag,ah⟩:=M.e_bind hM;obtain ⟨ax,ag⟩:=M.e_iter ag;refine W.loop (fun m σ W=>∃ (s2:Nat) (ρ:Env),σ=upds ρ [(0,aa),(1,ac),(7,I (s.length:Int)),(8,I (s2:Int))]/\M.iterN (zda s f) m s2=some am/\St w W [] R) ?_ ?_
 ·exact kY
 rintro ay σ aA ⟨s2,ρ,rfl,ao,H⟩;obtain ⟨aB,aC,aD,hM,ai⟩:=M.e_iterN ao;refine kI 5 ?_ ?_
 ·intro ap hM;obtain ⟨aE,hM⟩:=M.e_gq hM;refine kg 15 ?_;obtain ⟨r2,aq,hM⟩:=M.e_bind hM;refine t_callM H al rfl rfl (s.getD s2 default) Reads.none ⟨_,rfl,rfl⟩ aq ?_;intro aF H;refine kI 1 ?_ ?_
  ·intro au hM;refine kg 5 ?_;obtain rfl:=M.e_inr hM ai;replace hM:=ah;exact rt
  intro au hM;exact kX 5
 intro ap hM;refine W.exit ?_;obtain rfl:=M.e_inr hM ai;replace hM:=ah;refine kg 4 ?_;exact rt

def zei (s:List Mrk) (f:Mrk->M Bool):M Bool :=
  M.bind (zd0 s f) fun r2 =>
  M.pure (decide (0<=r2))
theorem zhc {R aa ac ae}(s f)(ag:Reads R aa)(ah:Sl aa ac s)(ai:FnM Tryz.prog R ae f){r}(hM:(zei s f).Ends r)(w)(H:St w w [] R):Ret Tryz.prog 194 #[ac,ae] w fun v w'=>∃ y0,y0=r/\v=B y0/\St w w' [] R:=by
 refine ret_of_W Tryz.func194 rfl rfl rfl ?_;refine kC 8 @zg7 ?_;intro aj r2 hM H;refine kg 3 ?_;exact rt

end Go.Proofs.YtaolcidinlnklaaGreat
end
section
set_option maxRecDepth 100000
set_option maxHeartbeats 16000000
namespace Go.Proofs.YtaolcidinlnklaaGreat
open Go Go.Nm
attribute [local irreducible] gd execOp SL SLD SLT WR
def zcR (x:Mrk) (aa:Mrk->M Bool):M Bool :=
  M.bind (aa x) fun r2 =>
  M.pure (!r2)
theorem zg3 {R aa ac}(x ae)(ag:FnM Tryz.prog R ac ae)(ai:Has R (cBlk aa [ac] 265)){r}(hM:(zcR x ae).Ends r)(w)(H:St w w [] R):Ret Tryz.prog 195 #[.agg #[I x.place,I x.lo,I x.hi],Pq aa] w fun v w'=>∃ y0,y0=r/\v=B y0/\St w w' [] R:=by
 refine ret_of_W Tryz.func195 rfl rfl rfl ?_;refine kB 2 ?_;intro aj al H;refine kg 6 ?_;obtain ⟨r2,ah,hM⟩:=M.e_bind hM;refine t_callM H ag rfl rfl x Reads.none ⟨_,rfl,rfl⟩ ah ?_;intro am H;refine kg 3 ?_;exact rt

def zbM (l:List Mrk) (so:Mrk->M Bool):M Bool :=
  M.bind (zei l (fun aa=>zcR aa so)) fun r2 =>
  M.pure (!r2)
theorem zgh {R ag aa ah}(l so)(aj:Reads R ag)(al:Sl ag aa l)(am:FnM Tryz.prog R ah so){r}(hM:(zbM l so).Ends r)(w)(H:St w w [] R):Ret Tryz.prog 123 #[aa,ah] w fun v w'=>∃ y0,y0=r/\v=B y0/\St w w' [] R:=by
 refine ret_of_W Tryz.func123 rfl rfl rfl ?_;refine kB 2 ?_;intro ac aB H;refine kg 5 ?_;refine s_val (x_mf (fs:=[]) (cs:=[Pq ac]) rfl rfl) ?_;obtain ⟨aC,ao,hM⟩:=M.e_bind hM;refine s_call cq [aa,.func (.func 195) #[] #[Pq ac]] rfl (zhc l (fun ae=>zcR ae so) (aj.app _) al ⟨195,[Pq ac],rfl,cq,fun ai aD aE ap ae aF aq aG au av=>by obtain rfl:=Mrk_arg au; exact (zg3 ae so (FnM.app (am.app _) _) (Has.app (Has.here (k:=0) rfl) _) av ai (St.refl aq)).mono fun ap ai ⟨aH,aw,ax,ay⟩=>by subst aw; exact ⟨ax,ay⟩⟩ ao _ (H.gt 1)) ?_;rintro _ aI ⟨r2,rfl,rfl,aA⟩;replace H:=H.bk aA;refine kg 3 ?_;exact rt

def zbC (s:Span) (aa greatest:Int):M Bool :=
  M.bind (zac s.lo aa greatest) fun r2 =>
  M.bind (M.opt r2 (zac s.hi s.lo greatest) false) fun r3 =>
  M.pure (r2&&r3)
theorem zfh {R}(s aa greatest){r}(hM:(zbC s aa greatest).Ends r)(w)(H:St w w [] R):Ret Tryz.prog 196 #[.agg #[I s.lo,I s.hi],I aa,I greatest] w fun v w'=>∃ y0,y0=r/\v=B y0/\St w w' [] R:=by
 refine ret_of_W Tryz.func196 rfl rfl rfl ?_;refine kB 2 ?_;intro ah ai H;refine kC 8 @zae ?_;intro aj r2 hM H;refine kg 6 ?_;obtain ⟨r3,ac,hM⟩:=M.e_bind hM;refine t_gcall r2 (gy_t rfl) cq (B r3) (fun _=>[I s.hi,I s.lo,I greatest]) (fun hg=>lst3 (gd_of hg (I s.hi)) (gd_of hg (I s.lo)) (gd_of hg (I greatest))) H (fun hg=>(zae s.hi s.lo greatest (M.e_opt ac hg) _ (H.give (A:=[]) rfl)).mono fun v_ w_ ⟨y_,ae,ag,H_⟩=>by subst ae; exact ⟨ag,H.via H_⟩) ?_;intro al H;refine kg 3 ?_;exact rt

def zbt (m_:Mrk):M Bool :=
  M.bind (zac m_.place 0 10000) fun r2 =>
  M.bind (M.opt r2 (zbC (⟨(m_.lo:Int),(m_.hi:Int)⟩:Span) 0 2000) false) fun r3 =>
  M.pure (r2&&r3)
theorem zgC {R}(m_){r}(hM:(zbt m_).Ends r)(w)(H:St w w [] R):Ret Tryz.prog 124 #[.agg #[I m_.place,I m_.lo,I m_.hi]] w fun v w'=>∃ y0,y0=r/\v=B y0/\St w w' [] R:=by
 refine ret_of_W Tryz.func124 rfl rfl rfl ?_;refine kB 2 ?_;intro ag ah H;refine kC 6 @zae ?_;intro ai r2 hM H;refine kg 3 ?_;obtain ⟨r3,aa,hM⟩:=M.e_bind hM;refine t_gcall r2 (gy_t rfl) cq (B r3) (fun _=>[.agg #[I m_.lo,I m_.hi],I 0,I 2000]) (fun hg=>lst3 (gd_of hg (.agg #[I m_.lo,I m_.hi])) rfl rfl) H (fun hg=>(zfh (⟨(m_.lo:Int),(m_.hi:Int)⟩:Span) 0 2000 (M.e_opt aa hg) _ (H.give (A:=[]) rfl)).mono fun v_ w_ ⟨y_,ac,ae,H_⟩=>by subst ac; exact ⟨ae,H.via H_⟩) ?_;intro aj H;refine kg 3 ?_;exact rt

def zbO (s:List Rch) (f:Rch->M Bool):Nat->M (Nat ⊕ (Int ⊕ Unit)):=fun s2 =>
  bif decide ((s2:Int)<(s.length:Int)) then (
  M.grd (decide ((s2:Int)<(s.length:Int))) <|
  M.bind (f (s.getD s2 default)) fun r2 =>
  bif r2 then (
  M.pure (.inr (.inl (s2:Int))))
  else (
  M.pure (.inl (s2+1))))
  else (
  M.pure (.inr (.inr ())))
def zev (s:List Rch) (f:Rch->M Bool):M Int :=
  M.bind (M.iter (zbO s f) 0) fun x_=>match x_ with
  | (.inl s3)=>(
  M.pure s3)
  | (.inr (_:Unit))=>(
  M.pure (-1))
theorem zhJ {R ae aa ac}(s f)(av:Reads R ae)(aj:Sl ae aa s)(al:FnM Tryz.prog R ac f){r}(hM:(zev s f).Ends r)(w)(H:St w w [] R):Ret Tryz.prog 236 #[aa,ac] w fun v w'=>∃ y0,y0=r/\v=I y0/\St w w' [] R:=by
 refine ret_of_W Tryz.func236 rfl rfl rfl ?_;have aw:=(aj).len_le;refine kg 12 ?_;obtain ⟨am,ag,ah⟩:=M.e_bind hM;obtain ⟨ax,ag⟩:=M.e_iter ag;refine W.loop (fun m σ W=>∃ (s2:Nat) (ρ:Env),σ=upds ρ [(0,aa),(1,ac),(7,I (s.length:Int)),(8,I (s2:Int))]/\M.iterN (zbO s f) m s2=some am/\St w W [] R) ?_ ?_
 ·exact kY
 rintro ay σ aA ⟨s2,ρ,rfl,ao,H⟩;obtain ⟨aB,aC,aD,hM,ai⟩:=M.e_iterN ao;refine kI 5 ?_ ?_
 ·intro ap hM;obtain ⟨aE,hM⟩:=M.e_gq hM;refine kg 15 ?_;obtain ⟨r2,aq,hM⟩:=M.e_bind hM;refine t_callM H al rfl rfl (s.getD s2 default) Reads.none ⟨_,rfl,rfl⟩ aq ?_;intro aF H;refine kI 1 ?_ ?_
  ·intro au hM;refine kg 5 ?_;obtain rfl:=M.e_inr hM ai;replace hM:=ah;exact rt
  intro au hM;exact kX 5
 intro ap hM;refine W.exit ?_;obtain rfl:=M.e_inr hM ai;replace hM:=ah;refine kg 4 ?_;exact rt

def zeh (s:List Rch) (f:Rch->M Bool):M Bool :=
  M.bind (zev s f) fun r2 =>
  M.pure (decide (0<=r2))
theorem zhW {R aa ac ae}(s f)(ag:Reads R aa)(ah:Sl aa ac s)(ai:FnM Tryz.prog R ae f){r}(hM:(zeh s f).Ends r)(w)(H:St w w [] R):Ret Tryz.prog 197 #[ac,ae] w fun v w'=>∃ y0,y0=r/\v=B y0/\St w w' [] R:=by
 refine ret_of_W Tryz.func197 rfl rfl rfl ?_;refine kC 8 @zhJ ?_;intro aj r2 hM H;refine kg 3 ?_;exact rt

def zcz (x:Rch) (aa:Rch->M Bool):M Bool :=
  M.bind (aa x) fun r2 =>
  M.pure (!r2)
theorem zhb {R aa ac}(x ae)(ag:FnM Tryz.prog R ac ae)(ai:Has R (cBlk aa [ac] 139)){r}(hM:(zcz x ae).Ends r)(w)(H:St w w [] R):Ret Tryz.prog 198 #[.agg #[I x.up,I x.down,I x.lo,I x.hi,B x.narrow],Pq aa] w fun v w'=>∃ y0,y0=r/\v=B y0/\St w w' [] R:=by
 refine ret_of_W Tryz.func198 rfl rfl rfl ?_;refine kB 2 ?_;intro aj al H;refine kg 6 ?_;obtain ⟨r2,ah,hM⟩:=M.e_bind hM;refine t_callM H ag rfl rfl x Reads.none ⟨_,rfl,rfl⟩ ah ?_;intro am H;refine kg 3 ?_;exact rt

def zcE (l:List Rch) (so:Rch->M Bool):M Bool :=
  M.bind (zeh l (fun aa=>zcz aa so)) fun r2 =>
  M.pure (!r2)
theorem zgZ {R ag aa ah}(l so)(aj:Reads R ag)(al:Sl ag aa l)(am:FnM Tryz.prog R ah so){r}(hM:(zcE l so).Ends r)(w)(H:St w w [] R):Ret Tryz.prog 125 #[aa,ah] w fun v w'=>∃ y0,y0=r/\v=B y0/\St w w' [] R:=by
 refine ret_of_W Tryz.func125 rfl rfl rfl ?_;refine kB 2 ?_;intro ac aB H;refine kg 5 ?_;refine s_val (x_mf (fs:=[]) (cs:=[Pq ac]) rfl rfl) ?_;obtain ⟨aC,ao,hM⟩:=M.e_bind hM;refine s_call cq [aa,.func (.func 198) #[] #[Pq ac]] rfl (zhW l (fun ae=>zcz ae so) (aj.app _) al ⟨198,[Pq ac],rfl,cq,fun ai aD aE ap ae aF aq aG au av=>by obtain rfl:=Rch_arg au; exact (zhb ae so (FnM.app (am.app _) _) (Has.app (Has.here (k:=0) rfl) _) av ai (St.refl aq)).mono fun ap ai ⟨aH,aw,ax,ay⟩=>by subst aw; exact ⟨ax,ay⟩⟩ ao _ (H.gt 1)) ?_;rintro _ aI ⟨r2,rfl,rfl,aA⟩;replace H:=H.bk aA;refine kg 3 ?_;exact rt

def zcm (r_:Rch) (sections:Int):M Bool :=
  M.gi (sections-1) <|
  M.bind (zac r_.up 0 (sections-1)) fun r2 =>
  M.grd ((!r2||(decide ((-9223372036854775808:Int)<=(r_.up+1))&&decide ((r_.up+1)<=(9223372036854775807:Int))))) <|
  M.bind (M.opt r2 (zac r_.down (r_.up+1) (sections-1)) false) fun r3 =>
  M.bind (M.opt (r2&&r3) (zbC (⟨(r_.lo:Int),(r_.hi:Int)⟩:Span) 1 400) false) fun r4 =>
  M.pure ((r2&&r3)&&r4)
theorem zgI {R}(r_ sections){r}(hM:(zcm r_ sections).Ends r)(w)(H:St w w [] R):Ret Tryz.prog 127 #[.agg #[I r_.up,I r_.down,I r_.lo,I r_.hi,B r_.narrow],I sections] w fun v w'=>∃ y0,y0=r/\v=B y0/\St w w' [] R:=by
 refine ret_of_W Tryz.func127 rfl rfl rfl ?_;refine kB 2 ?_;intro ai aj H;obtain ⟨al,hM⟩:=M.e_gq hM;refine kC 8 @zae ?_;intro am r2 hM H;obtain ⟨aa,hM⟩:=M.e_grd hM;replace aa:=M.imp_of aa;simp only [Bool.and_eq_true,decide_eq_true_eq] at aa;refine kg 8 ?_;obtain ⟨r3,ag,hM⟩:=M.e_bind hM;refine t_gcall r2 (gy_t rfl) cq (B r3) (fun _=>[I r_.down,I (r_.up+1),I (sections-1)]) (fun hg=>lst3 (gd_of hg (I r_.down)) (gd_of hg (I (r_.up+1))) (gd_of hg (I (sections-1)))) H (fun hg=>(zae r_.down (r_.up+1) (sections-1) (M.e_opt ag hg) _ (H.give (A:=[]) rfl)).mono fun v_ w_ ⟨y_,ac,ae,H_⟩=>by subst ac; exact ⟨ae,H.via H_⟩) ?_;intro ao H;refine kg 4 ?_;obtain ⟨r4,ah,hM⟩:=M.e_bind hM;refine t_gcall (r2&&r3) (gy_t rfl) cq (B r4) (fun _=>[.agg #[I r_.lo,I r_.hi],I 1,I 400]) (fun hg=>lst3 (gd_of hg (.agg #[I r_.lo,I r_.hi])) rfl rfl) H (fun hg=>(zfh (⟨(r_.lo:Int),(r_.hi:Int)⟩:Span) 1 400 (M.e_opt ah hg) _ (H.give (A:=[]) rfl)).mono fun v_ w_ ⟨y_,ac,ae,H_⟩=>by subst ac; exact ⟨ae,H.via H_⟩) ?_;intro ap H;refine kg 3 ?_;exact rt

def zc7 (r_:Rch) (aa:List Sect) (ac:List Mrk) (ae:List Rch):M Bool :=
  M.bind (zcm r_ (aa.length:Int)) fun r2 =>
  M.pure r2
theorem zf9 {R aa ac ae ag ah ai aj}(r_ al am ao)(aq:Reads R ac)(ap:Sl ac ae al)(au:Reads R ag)(av:Sl ag ah am)(aw:Reads R ai)(ax:Sl ai aj ao)(ay:Has R (cBlk aa [ae,ah,aj] 35)){r}(hM:(zc7 r_ al am ao).Ends r)(w)(H:St w w [] R):Ret Tryz.prog 126 #[.agg #[I r_.up,I r_.down,I r_.lo,I r_.hi,B r_.narrow],Pq aa] w fun v w'=>∃ y0,y0=r/\v=B y0/\St w w' [] R:=by
 refine ret_of_W Tryz.func126 rfl rfl rfl ?_;refine kB 2 ?_;intro aA aB H;have aC:=(ap).len_le;refine kC 8 @zgI ?_;intro aD r2 hM H;refine kg 2 ?_;exact rt

def zdj (s_Sections:List Sect):(Int × Nat)->M ((Int × Nat) ⊕ (Unit ⊕ Unit)):=fun (last,s2) =>
  bif decide ((s2:Int)<(s_Sections.length:Int)) then (
  M.grd (decide ((s2:Int)<(s_Sections.length:Int))) <|
  M.bind (zc6 (s_Sections.getD s2 default)) fun r6 =>
  bif ((!r6)||(decide (((s_Sections.getD s2 default).place)<=last))) then (
  M.pure (.inr (.inl ())))
  else (
  M.pure (.inl ((s_Sections.getD s2 default).place,s2+1))))
  else (
  M.pure (.inr (.inr ())))
def zcQ (s_Sections:List Sect) (s_Marks:List Mrk) (s_Reaches:List Rch):M Int :=
  M.bind (zac (s_Sections.length:Int) 2 6) fun r2 =>
  M.bind (M.opt (!(!r2)) (zac (s_Marks.length:Int) 1 16) false) fun r3 =>
  M.bind (M.opt (!((!r2)||(!r3))) (zac (s_Reaches.length:Int) 1 6) false) fun r4 =>
  M.bind (M.opt (!(((!r2)||(!r3))||(!r4))) (zb0 s_Sections (fun aa=>zcL aa)) false) fun r5 =>
  bif ((((!r2)||(!r3))||(!r4))||(!r5)) then (
  M.pure 3)
  else (
  M.bind (M.iter (zdj s_Sections) (-1,0)) fun x_=>match x_ with
  | (.inl (_:Unit))=>(
  M.pure 70)
  | (.inr (_:Unit))=>(
  M.bind (zbM s_Marks (fun aa=>zbt aa)) fun r7 =>
  M.bind (M.opt (!(!r7)) (zcE s_Reaches (fun aa=>zc7 aa s_Sections s_Marks s_Reaches)) false) fun r8 =>
  bif ((!r7)||(!r8)) then (
  M.pure 70)
  else (
  M.pure 0)))
theorem zgj {R aE ah aF ax aG aj}(s_Sections s_Marks s_Reaches)(ay:Reads R aE)(al:Sl aE ah s_Sections)(aH:Reads R aF)(aA:Sl aF ax s_Marks)(aI:Reads R aG)(aB:Sl aG aj s_Reaches){r}(hM:(zcQ s_Sections s_Marks s_Reaches).Ends r)(w)(H:St w w [] R):Ret Tryz.prog 69 #[.agg #[ah,ax,aj]] w fun v w'=>∃ y0,y0=r/\v=I y0/\St w w' [] R:=by
 refine ret_of_W Tryz.func69 rfl rfl rfl ?_;refine kB 2 ?_;intro ai bi H;have bj:=(al).len_le;refine kC 12 @zae ?_;intro bm r2 hM H;have bn:=(aA).len_le;refine kg 5 ?_;obtain ⟨r3,aR,hM⟩:=M.e_bind hM;refine t_gcall (!(!r2)) (gy_f rfl) cq (B r3) (fun _=>[I (s_Marks.length:Int),I 1,I 16]) (fun hg=>lst3 (gd_of hg (I (s_Marks.length:Int))) rfl rfl) H (fun hg=>(zae (s_Marks.length:Int) 1 16 (M.e_opt aR hg) _ (H.give (A:=[]) rfl)).mono fun v_ w_ ⟨y_,ae,ag,H_⟩=>by subst ae; exact ⟨ag,H.via H_⟩) ?_;intro bp H;have br:=(aB).len_le;refine kg 6 ?_;obtain ⟨r4,aS,hM⟩:=M.e_bind hM;refine t_gcall (!((!r2)||(!r3))) (gy_f rfl) cq (B r4) (fun _=>[I (s_Reaches.length:Int),I 1,I 6]) (fun hg=>lst3 (gd_of hg (I (s_Reaches.length:Int))) rfl rfl) H (fun hg=>(zae (s_Reaches.length:Int) 1 6 (M.e_opt aS hg) _ (H.give (A:=[]) rfl)).mono fun v_ w_ ⟨y_,ae,ag,H_⟩=>by subst ae; exact ⟨ag,H.via H_⟩) ?_;intro bt H;refine kg 6 ?_;obtain ⟨r5,aT,hM⟩:=M.e_bind hM;refine t_gcall (!(((!r2)||(!r3))||(!r4))) (gy_f rfl) cq (B r5) (fun _=>[ah,.func (.func 120) #[] #[]]) (fun hg=>lst2 (gd_of hg (ah)) (gd_of hg (.func (.func 120) #[] #[]))) H (fun hg=>(zfY s_Sections (fun aa=>zcL aa) (ay.app _) al ⟨120,[],rfl,cq,fun ac aJ aK am aa aL ao aC ap aq=>by obtain ⟨bu,rfl,aU⟩:=Sect_arg ap; exact (zgp aa aC aU aq ac (St.refl ao)).mono fun am ac ⟨aM,au,av,aw⟩=>by subst au; exact ⟨av,aw⟩⟩ (M.e_opt aT hg) _ (H.give (A:=[]) rfl)).mono fun v_ w_ ⟨y_,ae,ag,H_⟩=>by subst ae; exact ⟨ag,H.via H_⟩) ?_;intro bv H;refine kI 3 ?_ ?_
 ·intro aV hM;refine kg 4 ?_;exact rt
 intro aV hM;have bw:=(al).len_le;refine kg 14 ?_;obtain ⟨aW,aN,aO⟩:=M.e_bind hM;obtain ⟨bx,aN⟩:=M.e_iter aN;refine W.loop (fun m σ W=>∃ (last:Int) (s2:Nat) (ρ:Env),σ=upds ρ [(1,Pq ai),(4,I last),(34,ah),(35,I (s_Sections.length:Int)),(36,I (s2:Int))]/\M.iterN (zdj s_Sections) m (last,s2)=some aW/\St w W [cBlk ai [ah,ax,aj] 35] R) ?_ ?_
 ·exact kY
 rintro bz σ bA ⟨last,s2,ρ,rfl,aX,H⟩;obtain ⟨bB,bC,bD,hM,aP⟩:=M.e_iterN aX;refine kI 5 ?_ ?_
 ·intro aY hM;obtain ⟨bE,hM⟩:=M.e_gq hM;refine kg 6 ?_;obtain ⟨aQ,aZ,aD⟩:=Sect_atA al (i:=(s2:Int)) (by omega) (by omega);replace aD:Sl _ aQ (s_Sections.getD s2 default).rows:=aD;have bF:=aD.len_le;refine s_val (x_ld (v:=.agg #[I ((s_Sections.getD s2 default).place),aQ]) rfl (ld_ag Ag103.h Sz103.h (At.mono aZ (ay.at H)))) ?_;refine kal ?_;intro bG bH H;refine kS 0 ?_;intro bI H;refine kC 5 @zhg ?_;intro bJ r6 hM H;refine kI 8 ?_ ?_
  ·intro a7 hM;refine kg 4 ?_;obtain rfl:=M.e_inr hM aP;replace hM:=aO;exact rt
  intro a7 hM;exact kXp 10 [1]
 intro aY hM;refine W.exit ?_;obtain rfl:=M.e_inr hM aP;replace hM:=aO;refine kg 5 ?_;obtain ⟨bK,a8,hM⟩:=M.e_bind hM;refine s_call cq [ax,.func (.func 124) #[] #[]] rfl (zgh s_Marks (fun aa=>zbt aa) (aH.app _) aA ⟨124,[],rfl,cq,fun ac aJ aK am aa aL ao aC ap aq=>by obtain rfl:=Mrk_arg ap; exact (zgC aa aq ac (St.refl ao)).mono fun am ac ⟨aM,au,av,aw⟩=>by subst au; exact ⟨av,aw⟩⟩ a8 _ (H.gt 1)) ?_;rintro _ bL ⟨r7,rfl,rfl,ba⟩;replace H:=H.bk ba;refine kg 4 ?_;refine g_val (!(!r7)) (gy_f rfl) (fun hg=>x_mf (fs:=[]) (cs:=[Pq ai]) rfl rfl) ?_;obtain ⟨r8,bc,hM⟩:=M.e_bind hM;refine t_gcall (!(!r7)) (gy_f rfl) cq (B r8) (fun _=>[aj,.func (.func 126) #[] #[Pq ai]]) (fun hg=>lst2 (gd_of hg (aj)) (gd_of hg (.func (.func 126) #[] #[Pq ai]))) H (fun hg=>(zgZ s_Reaches (fun aa=>zc7 aa s_Sections s_Marks s_Reaches) (aI.app _) aB ⟨126,[Pq ai],rfl,cq,fun ac aJ aK am aa aL ao aC ap aq=>by obtain rfl:=Rch_arg ap; exact (zf9 aa s_Sections s_Marks s_Reaches (Reads.app (ay.app _) _) al (Reads.app (aH.app _) _) aA (Reads.app (aI.app _) _) aB (Has.app (Has.here (k:=0) rfl) _) aq ac (St.refl ao)).mono fun am ac ⟨aM,au,av,aw⟩=>by subst au; exact ⟨av,aw⟩⟩ (M.e_opt bc hg) _ (H.give (A:=[]) rfl)).mono fun v_ w_ ⟨y_,ae,ag,H_⟩=>by subst ae; exact ⟨ag,H.via H_⟩) ?_;intro bN H;refine kI 3 ?_ ?_
 ·intro bg hM;refine kg 4 ?_;exact rt
 intro bg hM;refine kg 5 ?_;exact rt

def zaR (s_Sections:List Sect) (s_Marks:List Mrk) (s_Reaches:List Rch):M (Int ⊕ Int) :=
  M.bind (zcQ s_Sections s_Marks s_Reaches) fun r2 =>
  bif r2 != 0 then (
  M.pure (.inl r2))
  else (
  M.pure (.inr 0))
theorem zdS {R ah aa ai ac aj ae}(s_Sections s_Marks s_Reaches)(au:Reads R ah)(av:Sl ah aa s_Sections)(aw:Reads R ai)(ax:Sl ai ac s_Marks)(ay:Reads R aj)(aA:Sl aj ae s_Reaches){r}(hM:(zaR s_Sections s_Marks s_Reaches).Ends r)(w)(H:St w w [] R):Ret Tryz.prog 30 #[.agg #[aa,ac,ae]] w fun v w'=>(∃ (y0:Int),(.inl y0)=r/\v = .tuple #[.pointer none,I y0]/\St w w' [] R)∨(∃ (y0:Int) (al:Nat) (am:Nat),(.inr y0)=r/\v = .tuple #[Pq al,I y0]/\St w w' [cBlk al [aa,ac,ae,.map (some am)] 196,cMemI encSpt am (zaa s_Sections s_Marks s_Reaches)] R):=by
 refine ret_of_W Tryz.func30 rfl rfl rfl ?_;refine kB 2 ?_;intro aB aC H;refine kC 7 @zgj ?_;intro aD r2 hM H;refine kI 7 ?_ ?_
 ·intro ao hM;refine kg 6 ?_;refine W.ret ?_;have ag:=M.e_pure hM;exact ⟨_,resE_tmp2 rfl,.inl (⟨r2,ag,rfl,(H.pk [])⟩)⟩
 intro ao hM;refine kg 4 ?_;refine t_mkmemI encSpt (zaa s_Sections s_Marks s_Reaches) H ?_;intro ap aE H;refine kB 1 ?_;intro aq aF H;refine kg 3 ?_;refine W.ret ?_;have ag:=M.e_pure hM;exact ⟨_,resE_tmp2 rfl,.inr (⟨0,aq,ap,ag,rfl,(H.pk [0,1])⟩)⟩

def zeY (s_Marks:List Mrk) (marks:List Int):(Int × Int × Nat)->M ((Int × Int × Nat) ⊕ Int):=fun (e2,last,s2) =>
  bif decide ((s2:Int)<(marks.length:Int)) then (
  M.grd (decide ((s2:Int)<(marks.length:Int))) <|
  M.grd ((!(e2==0)||(decide ((-9223372036854775808:Int)<=(last+1))&&decide ((last+1)<=(9223372036854775807:Int))))) <|
  M.bind (M.opt (e2==0) (zac (marks.getD s2 0) (last+1) ((s_Marks.length:Int)-1)) false) fun r2 =>
  bif ((e2==0)&&(!r2)) then (
  M.pure (.inl (2,marks.getD s2 0,s2+1)))
  else (
  M.pure (.inl (e2,marks.getD s2 0,s2+1))))
  else (
  M.pure (.inr e2))
def zc9 (s_Marks:List Mrk) (marks:List Int):(Int × Int × Nat)->M ((Int × Int × Nat) ⊕ Int):=fun (e2,last,s2) =>
  bif decide ((s2:Int)<(marks.length:Int)) then (
  M.grd (decide ((s2:Int)<(marks.length:Int))) <|
  M.grd ((!(e2==0)||(decide ((-9223372036854775808:Int)<=(last+1))&&decide ((last+1)<=(9223372036854775807:Int))))) <|
  M.bind (M.opt (e2==0) (zac (marks.getD s2 0) (last+1) ((s_Marks.length:Int)-1)) false) fun r2 =>
  bif ((e2==0)&&(!r2)) then (
  M.pure (.inl (2,marks.getD s2 0,s2+1)))
  else (
  M.pure (.inl (e2,marks.getD s2 0,s2+1))))
  else (
  M.pure (.inr e2))
def zbX (s_Sections:List Sect) (s_Marks:List Mrk) (s_Reaches:List Rch) (marks:List Int):M (Int ⊕ Int) :=
  M.bind (zaR s_Sections s_Marks s_Reaches) fun x_=>match x_ with
  | (.inl r1)=>(
  M.bind (M.iter (zeY s_Marks marks) (r1,-1,0)) fun e3 =>
  M.pure (.inl e3))
  | (.inr aa)=>(
  M.bind (M.iter (zc9 s_Marks marks) (aa,-1,0)) fun e3 =>
  M.pure (.inr e3))
theorem zfS {R av aa aw ac ax ae ay ah}(s_Sections s_Marks s_Reaches marks)(aF:Reads R av)(aG:Sl av aa s_Sections)(aH:Reads R aw)(aj:Sl aw ac s_Marks)(aI:Reads R ax)(aJ:Sl ax ae s_Reaches)(ba:Reads R ay)(aA:Sl ay ah marks){r}(hM:(zbX s_Sections s_Marks s_Reaches marks).Ends r)(w)(H:St w w [] R):Ret Tryz.prog 73 #[.agg #[aa,ac,ae],ah] w fun v w'=>(∃ (y0:Int),(.inl y0)=r/\v = .tuple #[.pointer none,I y0]/\St w w' [] R)∨(∃ (y0:Int) (aB:Nat) (aC:Nat),(.inr y0)=r/\v = .tuple #[Pq aB,I y0]/\St w w' [cBlk aB [aa,ac,ae,.map (some aC)] 196,cMemI encSpt aC (zaa s_Sections s_Marks s_Reaches)] R):=by
 refine ret_of_W Tryz.func73 rfl rfl rfl ?_;refine kB 2 ?_;intro ai bc H;refine kg 6 ?_;obtain ⟨bg,aK,hM⟩:=M.e_bind hM;refine s_call cq [.agg #[aa,ac,ae]] rfl (zdS s_Sections s_Marks s_Reaches (aF.app _) aG (aH.app _) aj (aI.app _) aJ aK _ (H.gt 1)) ?_;rintro vq bi (⟨r1,aL,hvq,al⟩ | ⟨bj,am,ao,aM,hvq,al⟩)
 ·subst aL;subst vq;replace H:=H.bk al;have bm:=(aA).len_le;refine kg 18 ?_;obtain ⟨aN,aD,aO⟩:=M.e_bind hM;obtain ⟨aP,aD⟩:=M.e_iter aD;refine W.loop (fun m σ W=>∃ (e2:Int) (last:Int) (s2:Nat) (ρ:Env),σ=upds ρ [(2,Pq ai),(6,.pointer none),(7,I e2),(8,I last),(16,ah),(17,I (marks.length:Int)),(18,I (s2:Int))]/\M.iterN (zeY s_Marks marks) m (e2,last,s2)=some aN/\St w W [cBlk ai [aa,ac,ae] 35] R) ?_ ?_
  ·exact kY
  rintro bn σ bp ⟨e2,last,s2,ρ,rfl,aQ,H⟩;obtain ⟨br,bt,bu,hM,aR⟩:=M.e_iterN aQ;refine kI 5 ?_ ?_
  ·intro aS hM;obtain ⟨bv,hM⟩:=M.e_gq hM;obtain ⟨ap,hM⟩:=M.e_grd hM;replace ap:=M.imp_of ap;simp only [Bool.and_eq_true,decide_eq_true_eq] at ap;have bw:=(aj).len_le;refine kg 22 ?_;obtain ⟨r2,aT,hM⟩:=M.e_bind hM;refine t_gcall (e2==0) (gy_t rfl) cq (B r2) (fun _=>[I (marks.getD s2 0),I (last+1),I ((s_Marks.length:Int)-1)]) (fun hg=>lst3 (gd_of hg (I (marks.getD s2 0))) (gd_of hg (I (last+1))) (gd_of hg (I ((s_Marks.length:Int)-1)))) H (fun hg=>(zae (marks.getD s2 0) (last+1) ((s_Marks.length:Int)-1) (M.e_opt aT hg) _ (H.give (A:=[]) rfl)).mono fun v_ w_ ⟨y_,ag,aq,H_⟩=>by subst ag; exact ⟨aq,H.via H_⟩) ?_;intro bx H;refine kI 3 ?_ ?_
   ·intro aU hM;exact kX 11
   intro aU hM;exact kX 9
  intro aS hM;refine W.exit ?_;obtain rfl:=M.e_inr hM aR;replace hM:=aO;refine kg 7 ?_;refine W.ret ?_;have ag:=M.e_pure hM;exact ⟨_,resE_tmp2 rfl,.inl (⟨e2,ag,rfl,(H.pk [])⟩)⟩
 subst aM;subst vq;replace H:=H.bk al;have bz:=(aA).len_le;refine kg 18 ?_;obtain ⟨aV,aE,aW⟩:=M.e_bind hM;obtain ⟨aP,aE⟩:=M.e_iter aE;refine W.loop (fun m σ W=>∃ (e2:Int) (last:Int) (s2:Nat) (ρ:Env),σ=upds ρ [(2,Pq ai),(6,Pq am),(7,I e2),(8,I last),(16,ah),(17,I (marks.length:Int)),(18,I (s2:Int))]/\M.iterN (zc9 s_Marks marks) m (e2,last,s2)=some aV/\St w W [cBlk am [aa,ac,ae,.map (some ao)] 196,cMemI encSpt ao (zaa s_Sections s_Marks s_Reaches),cBlk ai [aa,ac,ae] 35] R) ?_ ?_
 ·exact kY
 rintro bA σ bB ⟨e2,last,s2,ρ,rfl,aX,H⟩;obtain ⟨bC,bD,bE,hM,aY⟩:=M.e_iterN aX;refine kI 5 ?_ ?_
 ·intro aZ hM;obtain ⟨bF,hM⟩:=M.e_gq hM;obtain ⟨au,hM⟩:=M.e_grd hM;replace au:=M.imp_of au;simp only [Bool.and_eq_true,decide_eq_true_eq] at au;have bG:=(aj).len_le;refine kg 22 ?_;obtain ⟨r2,a7,hM⟩:=M.e_bind hM;refine t_gcall (e2==0) (gy_t rfl) cq (B r2) (fun _=>[I (marks.getD s2 0),I (last+1),I ((s_Marks.length:Int)-1)]) (fun hg=>lst3 (gd_of hg (I (marks.getD s2 0))) (gd_of hg (I (last+1))) (gd_of hg (I ((s_Marks.length:Int)-1)))) H (fun hg=>(zae (marks.getD s2 0) (last+1) ((s_Marks.length:Int)-1) (M.e_opt a7 hg) _ (H.give (A:=[]) rfl)).mono fun v_ w_ ⟨y_,ag,aq,H_⟩=>by subst ag; exact ⟨aq,H.via H_⟩) ?_;intro bH H;refine kI 3 ?_ ?_
  ·intro a8 hM;exact kX 11
  intro a8 hM;exact kX 9
 intro aZ hM;refine W.exit ?_;obtain rfl:=M.e_inr hM aY;replace hM:=aW;refine kg 7 ?_;refine W.ret ?_;have ag:=M.e_pure hM;exact ⟨_,resE_tmp2 rfl,.inr (⟨e2,am,ao,ag,rfl,(H.pk [0,1])⟩)⟩

def zbT (s_Sections:List Sect) (s_Marks:List Mrk) (s_Reaches:List Rch) (marks:List Int) (reach:Int):M ((Int × Int × Int × Int × Bool × Int) ⊕ (Int × Int × Int × Int × Bool × Int)) :=
  M.bind (zbX s_Sections s_Marks s_Reaches marks) fun x_=>match x_ with
  | (.inl r1)=>(
  M.bind (M.opt (r1==0) (zac reach 0 ((s_Reaches.length:Int)-1)) false) fun r2 =>
  bif ((r1==0)&&(!r2)) then (
  M.pure (.inl (0,0,0,0,false,2)))
  else (
  bif r1 != 0 then (
  M.pure (.inl (0,0,0,0,false,r1)))
  else (
  M.fail)))
  | (.inr aa)=>(
  M.bind (M.opt (aa==0) (zac reach 0 ((s_Reaches.length:Int)-1)) false) fun r2 =>
  bif ((aa==0)&&(!r2)) then (
  M.pure (.inl (0,0,0,0,false,2)))
  else (
  bif aa != 0 then (
  M.fail)
  else (
  M.grd (decide ((0:Int)<=reach)&&decide (reach<(s_Reaches.length:Int))) <|
  M.pure (.inr (((s_Reaches.getD (Int.toNat reach) default).up),((s_Reaches.getD (Int.toNat reach) default).down),((s_Reaches.getD (Int.toNat reach) default).lo),((s_Reaches.getD (Int.toNat reach) default).hi),((s_Reaches.getD (Int.toNat reach) default).narrow),0)))))
theorem zgb {R ao ac ap ae aq ag au ah}(s_Sections s_Marks s_Reaches marks reach)(aA:Reads R ao)(aB:Sl ao ac s_Sections)(aC:Reads R ap)(aD:Sl ap ae s_Marks)(aE:Reads R aq)(ai:Sl aq ag s_Reaches)(aF:Reads R au)(aG:Sl au ah marks){r}(hM:(zbT s_Sections s_Marks s_Reaches marks reach).Ends r)(w)(H:St w w [] R):Ret Tryz.prog 34 #[.agg #[ac,ae,ag],ah,I reach] w fun v w'=>(∃ (y0:Int) (y1:Int) (y2:Int) (y3:Int) (y4:Bool) (y5:Int),(.inl (y0,y1,y2,y3,y4,y5))=r/\v = .tuple #[.pointer none,.agg #[I y0,I y1,I y2,I y3,B y4],I y5]/\St w w' [] R)∨(∃ (y0:Int) (y1:Int) (y2:Int) (y3:Int) (y4:Bool) (y5:Int) (av:Nat) (aw:Nat),(.inr (y0,y1,y2,y3,y4,y5))=r/\v = .tuple #[Pq av,.agg #[I y0,I y1,I y2,I y3,B y4],I y5]/\St w w' [cBlk av [ac,ae,ag,.map (some aw)] 196,cMemI encSpt aw (zaa s_Sections s_Marks s_Reaches)] R):=by
 refine ret_of_W Tryz.func34 rfl rfl rfl ?_;refine kB 2 ?_;intro aW aX H;refine kA 1 ?_;intro aY aZ H;refine kg 6 ?_;obtain ⟨a7,aH,hM⟩:=M.e_bind hM;refine s_call cq [.agg #[ac,ae,ag],ah] rfl (zfS s_Sections s_Marks s_Reaches marks (aA.app _) aB (aC.app _) aD (aE.app _) ai (aF.app _) aG aH _ (H.gt 2)) ?_;rintro vq a8 (⟨r1,aI,hvq,aj⟩ | ⟨aJ,al,aK,aL,hvq,aj⟩)
 ·subst aI;subst vq;replace H:=H.bk aj;have ba:=(ai).len_le;refine kg 17 ?_;obtain ⟨r2,aM,hM⟩:=M.e_bind hM;refine t_gcall (r1==0) (gy_t rfl) cq (B r2) (fun _=>[I reach,I 0,I ((s_Reaches.length:Int)-1)]) (fun hg=>lst3 (gd_of hg (I reach)) rfl (gd_of hg (I ((s_Reaches.length:Int)-1)))) H (fun hg=>(zae reach 0 ((s_Reaches.length:Int)-1) (M.e_opt aM hg) _ (H.give (A:=[]) rfl)).mono fun v_ w_ ⟨y_,aa,am,H_⟩=>by subst aa; exact ⟨am,H.via H_⟩) ?_;intro bc H;refine kI 3 ?_ ?_
  ·intro aN hM;refine kg 9 ?_;refine W.cond ((2:Int) != 0) rfl (fun ax=>?_) (fun ax=>?_)
   ·refine kS 5 ?_;intro bg H;refine kg 2 ?_;refine W.ret ?_;have aO:=(H.bl 0)
    have aa:=M.e_pure hM;exact ⟨_,(resE_ofn (vs:=[.pointer none,.agg #[I 0,I 0,I 0,I 0,B false],I 2]) rfl rfl (.tmp (v:=.pointer none) rfl<|.cell (v:=.agg #[I 0,I 0,I 0,I 0,B false]) rfl (run_loadVar_ag (ds:=[I 0,I 0,I 0,I 0,B false]) Ag53.h Sz53.h aO rfl rfl)<|.tmp (v:=I 2) rfl<|.nil)),.inl (⟨0,0,0,0,false,2,aa,rfl,(H.pk [])⟩)⟩
   exact absurd ax (by decide)
  intro aN hM;refine kI 7 ?_ ?_
  ·intro aP hM;refine kS 5 ?_;intro bi H;refine kg 2 ?_;refine W.ret ?_;have aQ:=(H.bl 0)
   have aa:=M.e_pure hM;exact ⟨_,(resE_ofn (vs:=[.pointer none,.agg #[I 0,I 0,I 0,I 0,B false],I r1]) rfl rfl (.tmp (v:=.pointer none) rfl<|.cell (v:=.agg #[I 0,I 0,I 0,I 0,B false]) rfl (run_loadVar_ag (ds:=[I 0,I 0,I 0,I 0,B false]) Ag53.h Sz53.h aQ rfl rfl)<|.tmp (v:=I r1) rfl<|.nil)),.inl (⟨0,0,0,0,false,r1,aa,rfl,(H.pk [])⟩)⟩
  intro aP hM;exact (M.e_fail hM).elim
 subst aL;subst vq;replace H:=H.bk aj;have bj:=(ai).len_le;refine kg 17 ?_;obtain ⟨r2,aR,hM⟩:=M.e_bind hM;refine t_gcall (aJ==0) (gy_t rfl) cq (B r2) (fun _=>[I reach,I 0,I ((s_Reaches.length:Int)-1)]) (fun hg=>lst3 (gd_of hg (I reach)) rfl (gd_of hg (I ((s_Reaches.length:Int)-1)))) H (fun hg=>(zae reach 0 ((s_Reaches.length:Int)-1) (M.e_opt aR hg) _ (H.give (A:=[]) rfl)).mono fun v_ w_ ⟨y_,aa,am,H_⟩=>by subst aa; exact ⟨am,H.via H_⟩) ?_;intro bm H;refine kI 3 ?_ ?_
 ·intro aS hM;refine kg 9 ?_;refine W.cond ((2:Int) != 0) rfl (fun ay=>?_) (fun ay=>?_)
  ·refine kS 5 ?_;intro bn H;refine kg 2 ?_;replace H:=H.pk [2];refine W.ret ?_;have aT:=(H.bl 0)
   have aa:=M.e_pure hM;exact ⟨_,(resE_ofn (vs:=[.pointer none,.agg #[I 0,I 0,I 0,I 0,B false],I 2]) rfl rfl (.tmp (v:=.pointer none) rfl<|.cell (v:=.agg #[I 0,I 0,I 0,I 0,B false]) rfl (run_loadVar_ag (ds:=[I 0,I 0,I 0,I 0,B false]) Ag53.h Sz53.h aT rfl rfl)<|.tmp (v:=I 2) rfl<|.nil)),.inl (⟨0,0,0,0,false,2,aa,rfl,(H.pk [])⟩)⟩
  exact absurd ay (by decide)
 intro aS hM;refine kI 7 ?_ ?_
 ·intro aU hM;exact (M.e_fail hM).elim
 intro aU hM;refine kD 2 [0,1,3] [7] ?_;intro bp H;obtain ⟨br,hM⟩:=M.e_gq hM;refine kS 8 ?_;intro bt H;refine kN ?_;refine kg 2 ?_;refine W.ret ?_;have aV:=(H.bl 2)
 have aa:=M.e_pure hM;exact ⟨_,(resE_ofn (vs:=[Pq al,.agg #[I ((s_Reaches.getD (Int.toNat reach) default).up),I ((s_Reaches.getD (Int.toNat reach) default).down),I ((s_Reaches.getD (Int.toNat reach) default).lo),I ((s_Reaches.getD (Int.toNat reach) default).hi),B ((s_Reaches.getD (Int.toNat reach) default).narrow)],I 0]) rfl rfl (.tmp (v:=Pq al) rfl<|.cell (v:=.agg #[I ((s_Reaches.getD (Int.toNat reach) default).up),I ((s_Reaches.getD (Int.toNat reach) default).down),I ((s_Reaches.getD (Int.toNat reach) default).lo),I ((s_Reaches.getD (Int.toNat reach) default).hi),B ((s_Reaches.getD (Int.toNat reach) default).narrow)]) rfl (run_loadVar_ag (ds:=[I ((s_Reaches.getD (Int.toNat reach) default).up),I ((s_Reaches.getD (Int.toNat reach) default).down),I ((s_Reaches.getD (Int.toNat reach) default).lo),I ((s_Reaches.getD (Int.toNat reach) default).hi),B ((s_Reaches.getD (Int.toNat reach) default).narrow)]) Ag53.h Sz53.h aV rfl rfl)<|.tmp (v:=I 0) rfl<|.nil)),.inr (⟨((s_Reaches.getD (Int.toNat reach) default).up),((s_Reaches.getD (Int.toNat reach) default).down),((s_Reaches.getD (Int.toNat reach) default).lo),((s_Reaches.getD (Int.toNat reach) default).hi),((s_Reaches.getD (Int.toNat reach) default).narrow),0,al,aK,aa,rfl,(H.pk [0,1])⟩)⟩

def zc3 (s:List Int) (f:Int->M Bool):Nat->M (Nat ⊕ (Int ⊕ Unit)):=fun s2 =>
  bif decide ((s2:Int)<(s.length:Int)) then (
  M.grd (decide ((s2:Int)<(s.length:Int))) <|
  M.bind (f (s.getD s2 0)) fun r2 =>
  bif r2 then (
  M.pure (.inr (.inl (s2:Int))))
  else (
  M.pure (.inl (s2+1))))
  else (
  M.pure (.inr (.inr ())))
def zeg (s:List Int) (f:Int->M Bool):M Int :=
  M.bind (M.iter (zc3 s f) 0) fun x_=>match x_ with
  | (.inl s3)=>(
  M.pure s3)
  | (.inr (_:Unit))=>(
  M.pure (-1))
theorem zhN {R ae aa ac}(s f)(av:Reads R ae)(aj:Sl ae aa s)(al:FnM Tryz.prog R ac f){r}(hM:(zeg s f).Ends r)(w)(H:St w w [] R):Ret Tryz.prog 205 #[aa,ac] w fun v w'=>∃ y0,y0=r/\v=I y0/\St w w' [] R:=by
 refine ret_of_W Tryz.func205 rfl rfl rfl ?_;have aw:=(aj).len_le;refine kg 12 ?_;obtain ⟨am,ag,ah⟩:=M.e_bind hM;obtain ⟨ax,ag⟩:=M.e_iter ag;refine W.loop (fun m σ W=>∃ (s2:Nat) (ρ:Env),σ=upds ρ [(0,aa),(1,ac),(7,I (s.length:Int)),(8,I (s2:Int))]/\M.iterN (zc3 s f) m s2=some am/\St w W [] R) ?_ ?_
 ·exact kY
 rintro ay σ aA ⟨s2,ρ,rfl,ao,H⟩;obtain ⟨aB,aC,aD,hM,ai⟩:=M.e_iterN ao;refine kI 5 ?_ ?_
 ·intro ap hM;obtain ⟨aE,hM⟩:=M.e_gq hM;refine kg 15 ?_;obtain ⟨r2,aq,hM⟩:=M.e_bind hM;refine t_callM H al rfl rfl (s.getD s2 0) Reads.none (Arg.mkI (fun _=>none) _) aq ?_;intro aF H;refine kI 1 ?_ ?_
  ·intro au hM;refine kg 5 ?_;obtain rfl:=M.e_inr hM ai;replace hM:=ah;exact rt
  intro au hM;exact kX 5
 intro ap hM;refine W.exit ?_;obtain rfl:=M.e_inr hM ai;replace hM:=ah;refine kg 4 ?_;exact rt

def zdw (s:List Int) (f:Int->M Bool):M Bool :=
  M.bind (zeg s f) fun r2 =>
  M.pure (decide (0<=r2))
theorem zgR {R aa ac ae}(s f)(ag:Reads R aa)(ah:Sl aa ac s)(ai:FnM Tryz.prog R ae f){r}(hM:(zdw s f).Ends r)(w)(H:St w w [] R):Ret Tryz.prog 140 #[ac,ae] w fun v w'=>∃ y0,y0=r/\v=B y0/\St w w' [] R:=by
 refine ret_of_W Tryz.func140 rfl rfl rfl ?_;refine kC 8 @zhN ?_;intro aj r2 hM H;refine kg 3 ?_;exact rt

def zcV (x:Int) (aa:Int->M Bool):M Bool :=
  M.bind (aa x) fun r2 =>
  M.pure (!r2)
theorem zgV {R aa ac}(x ae)(ag:FnM Tryz.prog R ac ae)(ai:Has R (cBlk aa [ac] 207)){r}(hM:(zcV x ae).Ends r)(w)(H:St w w [] R):Ret Tryz.prog 141 #[I x,Pq aa] w fun v w'=>∃ y0,y0=r/\v=B y0/\St w w' [] R:=by
 refine ret_of_W Tryz.func141 rfl rfl rfl ?_;refine kg 8 ?_;obtain ⟨r2,ah,hM⟩:=M.e_bind hM;refine t_callM H ag rfl rfl x Reads.none (Arg.mkI (fun _=>none) _) ah ?_;intro aj H;refine kg 3 ?_;exact rt

def zbb (l:List Int) (so:Int->M Bool):M Bool :=
  M.bind (zdw l (fun aa=>zcV aa so)) fun r2 =>
  M.pure (!r2)
theorem zeU {R ag aa ah}(l so)(aj:Reads R ag)(al:Sl ag aa l)(am:FnM Tryz.prog R ah so){r}(hM:(zbb l so).Ends r)(w)(H:St w w [] R):Ret Tryz.prog 74 #[aa,ah] w fun v w'=>∃ y0,y0=r/\v=B y0/\St w w' [] R:=by
 refine ret_of_W Tryz.func74 rfl rfl rfl ?_;refine kB 2 ?_;intro ac aB H;refine kg 5 ?_;refine s_val (x_mf (fs:=[]) (cs:=[Pq ac]) rfl rfl) ?_;obtain ⟨aC,ao,hM⟩:=M.e_bind hM;refine s_call cq [aa,.func (.func 141) #[] #[Pq ac]] rfl (zgR l (fun ae=>zcV ae so) (aj.app _) al ⟨141,[Pq ac],rfl,cq,fun ai aD aE ap ae aF aq aG au av=>by obtain rfl:=Arg.int au; exact (zgV ae so (FnM.app (am.app _) _) (Has.app (Has.here (k:=0) rfl) _) av ai (St.refl aq)).mono fun ap ai ⟨aH,aw,ax,ay⟩=>by subst aw; exact ⟨ax,ay⟩⟩ ao _ (H.gt 1)) ?_;rintro _ aI ⟨r2,rfl,rfl,aA⟩;replace H:=H.bk aA;refine kg 3 ?_;exact rt

def zak (ac:List Sect) (aa:List Mrk) (ae:List Rch) (a b:Int):M Bool :=
  M.grd (decide ((0:Int)<=a)&&decide (a<(aa.length:Int))) <|
  M.grd (decide ((0:Int)<=b)&&decide (b<(aa.length:Int))) <|
  M.pure ((decide (((aa.getD (Int.toNat a) default).place)<=((aa.getD (Int.toNat b) default).place)))&&(decide (((aa.getD (Int.toNat a) default).hi)<((aa.getD (Int.toNat b) default).lo))))
theorem zdT {R aa ac ae ag ah ai aj ap}(al am ao a b)(aq:Reads R ac)(au:Sl ac ae al)(av:Reads R ag)(aw:Sl ag ah am)(ax:Reads R ai)(ay:Sl ai aj ao)(aA:Has R (cBlk aa [ae,ah,aj,.map (some ap)] 196)){r}(hM:(zak al am ao a b).Ends r)(w)(H:St w w [] R):Ret Tryz.prog 32 #[Pq aa,I a,I b] w fun v w'=>∃ y0,y0=r/\v=B y0/\St w w' [] R:=by
 refine ret_of_W Tryz.func32 rfl rfl rfl ?_;refine kD 5 [] [] ?_;intro aB H;obtain ⟨aC,hM⟩:=M.e_gq hM;obtain ⟨aD,hM⟩:=M.e_gq hM;refine kg 44 ?_;exact rt

def zcT (b:Int) (aa:List Sect) (ac:List Mrk) (ae:List Rch) (ag:Int):M Bool :=
  M.bind (zak aa ac ae ag b) fun r2 =>
  M.pure (!r2)
theorem zgE {R aa ac ae ag ah ai aj al av am}(b ao ap aq au)(aw:Reads R ae)(ax:Sl ae ag ao)(ay:Reads R ah)(aA:Sl ah ai ap)(aB:Reads R aj)(aC:Sl aj al aq)(aD:Has R (cBlk ac [ag,ai,al,.map (some av)] 196))(aE:Has R (cBlk aa [Pq ac] 127))(aF:Has R (cBlk am [I au] 3)){r}(hM:(zcT b ao ap aq au).Ends r)(w)(H:St w w [] R):Ret Tryz.prog 76 #[I b,Pq aa,Pq am] w fun v w'=>∃ y0,y0=r/\v=B y0/\St w w' [] R:=by
 refine ret_of_W Tryz.func76 rfl rfl rfl ?_;refine kC 9 @zdT ?_;intro aG r2 hM H;refine kg 3 ?_;exact rt

def zcH (a:Int) (aa:List Int) (ac:List Sect) (ae:List Mrk) (ag:List Rch):M Bool :=
  M.bind (zbb aa (fun ah=>zcT ah ac ae ag a)) fun r2 =>
  M.pure r2
theorem zgm {R am ao ah aa ap aq au av aw ax ay aB}(a ai ac ae ag)(aC:Reads R ao)(aD:Sl ao ah ai)(aV:Has R (cBlk am [ah] 26))(aE:Reads R aq)(aF:Sl aq au ac)(aG:Reads R av)(aH:Sl av aw ae)(aI:Reads R ax)(aJ:Sl ax ay ag)(aK:Has R (cBlk ap [au,aw,ay,.map (some aB)] 196))(aL:Has R (cBlk aa [Pq ap] 127)){r}(hM:(zcH a ai ac ae ag).Ends r)(w)(H:St w w [] R):Ret Tryz.prog 75 #[I a,Pq am,Pq aa] w fun v w'=>∃ y0,y0=r/\v=B y0/\St w w' [] R:=by
 refine ret_of_W Tryz.func75 rfl rfl rfl ?_;refine kB 2 ?_;intro aj aW H;refine kg 5 ?_;refine s_val (x_mf (fs:=[]) (cs:=[Pq aa,Pq aj]) rfl rfl) ?_;obtain ⟨aX,aM,hM⟩:=M.e_bind hM;refine s_call cq [ah,.func (.func 76) #[] #[Pq aa,Pq aj]] rfl (zeU ai (fun al=>zcT al ac ae ag a) (aC.app _) aD ⟨76,[Pq aa,Pq aj],rfl,cq,fun aA aY aZ aN al a7 aO a8 aP aQ=>by obtain rfl:=Arg.int aP; exact (zgE al ac ae ag a (Reads.app (aE.app _) _) aF (Reads.app (aG.app _) _) aH (Reads.app (aI.app _) _) aJ (Has.app (aK.app _) _) (Has.app (aL.app _) _) (Has.app (Has.here (k:=0) rfl) _) aQ aA (St.refl aO)).mono fun aN aA ⟨ba,aR,aS,aT⟩=>by subst aR; exact ⟨aS,aT⟩⟩ aM _ (H.gt 1)) ?_;rintro _ bc ⟨r2,rfl,rfl,aU⟩;replace H:=H.bk aU;refine kg 2 ?_;exact rt

def zc2 (aa:List Sect) (ac:List Mrk) (ae:List Rch) (marks:List Int):M Bool :=
  M.bind (zbb marks (fun ag=>zcH ag marks aa ac ae)) fun r2 =>
  M.pure r2
theorem zfW {R al am ao ap aq au av aB aw ag}(aa ac ae marks)(aC:Reads R am)(aD:Sl am ao aa)(aE:Reads R ap)(aF:Sl ap aq ac)(aG:Reads R au)(aH:Sl au av ae)(aI:Has R (cBlk al [ao,aq,av,.map (some aB)] 196))(ax:Reads R aw)(ay:Sl aw ag marks){r}(hM:(zc2 aa ac ae marks).Ends r)(w)(H:St w w [] R):Ret Tryz.prog 35 #[Pq al,ag] w fun v w'=>∃ y0,y0=r/\v=B y0/\St w w' [] R:=by
 refine ret_of_W Tryz.func35 rfl rfl rfl ?_;refine kB 2 ?_;intro ah aS H;refine kB 0 ?_;intro ai aT H;refine kg 5 ?_;refine s_val (x_mf (fs:=[]) (cs:=[Pq ai,Pq ah]) rfl rfl) ?_;obtain ⟨aU,aJ,hM⟩:=M.e_bind hM;refine s_call cq [ag,.func (.func 75) #[] #[Pq ai,Pq ah]] rfl (zeU marks (fun aj=>zcH aj marks aa ac ae) (ax.app _) ay ⟨75,[Pq ai,Pq ah],rfl,cq,fun aA aV aW aK aj aX aL aY aM aN=>by obtain rfl:=Arg.int aM; exact (zgm aj marks aa ac ae (Reads.app (ax.app _) _) ay (Has.app (Has.here (k:=0) rfl) _) (Reads.app (aC.app _) _) aD (Reads.app (aE.app _) _) aF (Reads.app (aG.app _) _) aH (Has.app (aI.app _) _) (Has.app (Has.here (k:=1) rfl) _) aN aA (St.refl aL)).mono fun aK aA ⟨aZ,aO,aP,aQ⟩=>by subst aO; exact ⟨aP,aQ⟩⟩ aJ _ (H.gt 2)) ?_;rintro _ a7 ⟨r2,rfl,rfl,aR⟩;replace H:=H.bk aR;refine kg 2 ?_;replace H:=H.pk [];exact rt

def zaW (s_Sections:List Sect) (s_Marks:List Mrk) (s_Reaches:List Rch) (marks:List Int) (reach:Int):M (Int × Int × Int) :=
  M.bind (zbT s_Sections s_Marks s_Reaches marks reach) fun x_=>match x_ with
  | (.inl (aj,al,am,ao,ap,r2))=>(
  bif r2 != 0 then (
  M.pure (0,0,r2))
  else (
  M.fail))
  | (.inr (aa,ac,ae,ag,ah,ai))=>(
  bif ai != 0 then (
  M.fail)
  else (
  M.bind (zc2 s_Sections s_Marks s_Reaches marks) fun r3 =>
  bif !r3 then (
  M.pure (0,0,7))
  else (
  M.bind (zcj s_Sections s_Marks s_Reaches marks (⟨(aa:Int),(ac:Int),(ae:Int),(ag:Int),ah⟩:Rch)) fun (r0,r1) =>
  M.pure (r0,r1,0))))
theorem zfp {R ai ae aj ag al ah am ac}(s_Sections s_Marks s_Reaches marks reach)(ao:Reads R ai)(ap:Sl ai ae s_Sections)(aq:Reads R aj)(au:Sl aj ag s_Marks)(av:Reads R al)(aw:Sl al ah s_Reaches)(ax:Reads R am)(ay:Sl am ac marks){r}(hM:(zaW s_Sections s_Marks s_Reaches marks reach).Ends r)(w)(H:St w w [] R):Ret Tryz.prog 11 #[.agg #[ae,ag,ah],ac,I reach] w fun v w'=>∃ y0 y1 y2,(y0,y1,y2)=r/\v = .tuple #[.agg #[I y0,I y1],I y2]/\St w w' [] R:=by
 refine ret_of_W Tryz.func11 rfl rfl rfl ?_;refine kB 2 ?_;intro aO aP H;refine kal ?_;intro aQ aR H;refine kg 7 ?_;obtain ⟨aS,aF,hM⟩:=M.e_bind hM;refine s_call cq [.agg #[ae,ag,ah],ac,I reach] rfl (zgb s_Sections s_Marks s_Reaches marks reach (ao.app _) ap (aq.app _) au (av.app _) aw (ax.app _) ay aF _ (H.gt 2)) ?_;rintro vq aT (⟨aU,aV,aW,aX,aY,r2,aG,hvq,aa⟩ | ⟨aA,aB,aC,aD,aE,aZ,aH,a7,aI,hvq,aa⟩)
 ·subst aG;subst vq;replace H:=H.bk aa;refine kA 4 ?_;intro aJ a8 H;refine kS 1 ?_;intro ba H;refine kI 10 ?_ ?_
  ·intro aK hM;refine kS 4 ?_;intro bc H;refine kg 2 ?_;replace H:=H.pk [1];exact kR 0 []
  intro aK hM;exact (M.e_fail hM).elim
 subst aI;subst vq;replace H:=H.bk aa;refine kA 4 ?_;intro aJ bg H;refine kS 1 ?_;intro bi H;refine kI 10 ?_ ?_
 ·intro aL hM;exact (M.e_fail hM).elim
 intro aL hM;refine kC 4 @zfW ?_;intro bj r3 hM H;refine kI 3 ?_ ?_
 ·intro aM hM;refine kS 3 ?_;intro bm H;refine kg 2 ?_;replace H:=H.pk [3];exact kR 0 []
 intro aM hM;refine kg 6 ?_;obtain ⟨bn,aN,hM⟩:=M.e_bind hM;refine s_call cq [Pq aH,ac,.agg #[I aA,I aB,I aC,I aD,B aE]] rfl (zhw s_Sections s_Marks s_Reaches marks (⟨(aA:Int),(aB:Int),(aC:Int),(aD:Int),aE⟩:Rch) (ao.app _) ap (aq.app _) au (av.app _) aw (Has.here (k:=1) rfl) (ax.app _) ay aN _ ((H.pk [2,0,1,3,4]).gt 4)) ?_;rintro _ bp ⟨r0,r1,rfl,rfl,aa⟩;replace H:=H.pk [2,0,1,3,4] |>.bk aa
 refine ksw ?_;intro br H;refine kg 2 ?_;replace H:=H.pk [3];exact kR 0 []

def zet (c:Cas) (r_:Rch):M Bool :=
  M.bind (zac c.up 0 2000) fun r2 =>
  M.bind (M.opt r2 (zac c.down 0 c.up) false) fun r3 =>
  M.bind (M.opt (r2&&r3) (zac c.roughup r_.lo r_.hi) false) fun r4 =>
  M.bind (M.opt ((r2&&r3)&&r4) (zac c.roughdown r_.lo r_.hi) false) fun r5 =>
  M.pure (((r2&&r3)&&r4)&&r5)
theorem zhe {R}(c r_){r}(hM:(zet c r_).Ends r)(w)(H:St w w [] R):Ret Tryz.prog 38 #[.agg #[I c.up,I c.down,I c.roughup,I c.roughdown],.agg #[I r_.up,I r_.down,I r_.lo,I r_.hi,B r_.narrow]] w fun v w'=>∃ y0,y0=r/\v=B y0/\St w w' [] R:=by
 refine ret_of_W Tryz.func38 rfl rfl rfl ?_;refine kB 2 ?_;intro ai aj H;refine kbx ?_;intro al am H;refine kC 6 @zae ?_;intro ao r2 hM H;refine kg 5 ?_;obtain ⟨r3,ae,hM⟩:=M.e_bind hM;refine t_gcall r2 (gy_t rfl) cq (B r3) (fun _=>[I c.down,I 0,I c.up]) (fun hg=>lst3 (gd_of hg (I c.down)) rfl (gd_of hg (I c.up))) H (fun hg=>(zae c.down 0 c.up (M.e_opt ae hg) _ (H.give (A:=[]) rfl)).mono fun v_ w_ ⟨y_,aa,ac,H_⟩=>by subst aa; exact ⟨ac,H.via H_⟩) ?_;intro ap H;refine kg 10 ?_;obtain ⟨r4,ag,hM⟩:=M.e_bind hM;refine t_gcall (r2&&r3) (gy_t rfl) cq (B r4) (fun _=>[I c.roughup,I r_.lo,I r_.hi]) (fun hg=>lst3 (gd_of hg (I c.roughup)) (gd_of hg (I r_.lo)) (gd_of hg (I r_.hi))) H (fun hg=>(zae c.roughup r_.lo r_.hi (M.e_opt ag hg) _ (H.give (A:=[]) rfl)).mono fun v_ w_ ⟨y_,aa,ac,H_⟩=>by subst aa; exact ⟨ac,H.via H_⟩) ?_;intro aq H;refine kg 10 ?_;obtain ⟨r5,ah,hM⟩:=M.e_bind hM;refine t_gcall ((r2&&r3)&&r4) (gy_t rfl) cq (B r5) (fun _=>[I c.roughdown,I r_.lo,I r_.hi]) (fun hg=>lst3 (gd_of hg (I c.roughdown)) (gd_of hg (I r_.lo)) (gd_of hg (I r_.hi))) H (fun hg=>(zae c.roughdown r_.lo r_.hi (M.e_opt ah hg) _ (H.give (A:=[]) rfl)).mono fun v_ w_ ⟨y_,aa,ac,H_⟩=>by subst aa; exact ⟨ac,H.via H_⟩) ?_;intro au H;refine kg 3 ?_;replace H:=H.pk [];exact rt

def zbu (s_Sections:List Sect) (s_Marks:List Mrk) (s_Reaches:List Rch) (reach:Int) (c:Cas):M (Int × Int) :=
  M.bind (zaR s_Sections s_Marks s_Reaches) fun x_=>match x_ with
  | (.inl r1)=>(
  bif r1 != 0 then (
  M.pure (0,r1))
  else (
  M.fail))
  | (.inr aa)=>(
  bif aa != 0 then (
  M.fail)
  else (
  M.bind (zac reach 0 ((s_Reaches.length:Int)-1)) fun r2 =>
  bif !r2 then (
  M.pure (0,2))
  else (
  M.grd (decide ((0:Int)<=reach)&&decide (reach<(s_Reaches.length:Int))) <|
  M.bind (zet c (s_Reaches.getD (Int.toNat reach) default)) fun r3 =>
  bif !r3 then (
  M.pure (0,4))
  else (
  M.bind (zaK s_Sections s_Marks s_Reaches (s_Reaches.getD (Int.toNat reach) default) c) fun r4 =>
  M.pure (r4,0)))))
theorem zgY {R ai ac aj ae al ag}(s_Sections s_Marks s_Reaches reach c)(am:Reads R ai)(ao:Sl ai ac s_Sections)(ap:Reads R aj)(aq:Sl aj ae s_Marks)(au:Reads R al)(ah:Sl al ag s_Reaches){r}(hM:(zbu s_Sections s_Marks s_Reaches reach c).Ends r)(w)(H:St w w [] R):Ret Tryz.prog 12 #[.agg #[ac,ae,ag],I reach,.agg #[I c.up,I c.down,I c.roughup,I c.roughdown]] w fun v w'=>∃ y0 y1,(y0,y1)=r/\v = .tuple #[I y0,I y1]/\St w w' [] R:=by
 refine ret_of_W Tryz.func12 rfl rfl rfl ?_;refine kB 2 ?_;intro aF aG H;refine kbx ?_;intro aH aI H;refine kg 6 ?_;obtain ⟨aJ,av,hM⟩:=M.e_bind hM;refine s_call cq [.agg #[ac,ae,ag]] rfl (zdS s_Sections s_Marks s_Reaches (am.app _) ao (ap.app _) aq (au.app _) ah av _ (H.gt 2)) ?_;rintro vq aK (⟨r1,aw,hvq,aa⟩ | ⟨aL,ax,aM,ay,hvq,aa⟩)
 ·subst aw;subst vq;replace H:=H.bk aa;refine kI 14 ?_ ?_
  ·intro aA hM;refine kg 6 ?_;replace H:=H.pk [];exact rt
  intro aA hM;exact (M.e_fail hM).elim
 subst ay;subst vq;replace H:=H.bk aa;refine kI 14 ?_ ?_
 ·intro aB hM;exact (M.e_fail hM).elim
 intro aB hM;have aN:=(ah).len_le;refine kC 7 @zae ?_;intro aO r2 hM H;refine kI 3 ?_ ?_
 ·intro aC hM;refine kg 5 ?_;replace H:=H.pk [];exact rt
 intro aC hM;refine kD 1 [0,1,2,3] [6] ?_;intro aP H;obtain ⟨aQ,hM⟩:=M.e_gq hM;refine kC 7 @zhe ?_;intro aR r3 hM H;refine kN ?_;refine kI 3 ?_ ?_
 ·intro aD hM;refine kg 5 ?_;replace H:=H.pk [];exact rt
 intro aD hM;refine kD 2 [0,2,3] [7] ?_;intro aS H;refine kG 8 ?_;obtain ⟨aT,aE,hM⟩:=M.e_bind hM;refine s_call cq [Pq ax,.agg #[I ((s_Reaches.getD (Int.toNat reach) default).up),I ((s_Reaches.getD (Int.toNat reach) default).down),I ((s_Reaches.getD (Int.toNat reach) default).lo),I ((s_Reaches.getD (Int.toNat reach) default).hi),B ((s_Reaches.getD (Int.toNat reach) default).narrow)],.agg #[I c.up,I c.down,I c.roughup,I c.roughdown]] rfl (zez s_Sections s_Marks s_Reaches (s_Reaches.getD (Int.toNat reach) default) c (am.app _) ao (ap.app _) aq (au.app _) ah (Has.here (k:=0) rfl) aE _ ((H.pk [1,0,2,3]).gt 3)) ?_;rintro _ aU ⟨r4,rfl,rfl,aa⟩;replace H:=H.pk [1,0,2,3] |>.bk aa
 refine kN ?_;refine kg 3 ?_;replace H:=H.pk [];exact rt

end Go.Proofs.YtaolcidinlnklaaGreat
end
section
set_option maxRecDepth 100000
set_option maxHeartbeats 16000000
namespace Go.Proofs.YtaolcidinlnklaaGreat
open Go Go.Nm
attribute [local irreducible] gd execOp SL SLD SLT WR
def za8 (a:Int) (ai:List Sect) (aa:List Mrk) (aj:List Rch) (ac:List Sect) (ae:List Mrk) (ag:List Rch) (al:(Int × (List Sect) × (List Mrk) × (List Rch) × (List Sect) × (List Mrk) × (List Rch) × (Int->Option Bool) × (List Int) × (List Int))->M (Bool × (Int->Option Bool) × (List Int) × (List Int))):(Nat × (Int->Option Bool) × (List Int) × (List Int))->M ((Nat × (Int->Option Bool) × (List Int) × (List Int)) ⊕ (((Int->Option Bool) × (List Int) × (List Int)) ⊕ ((Int->Option Bool) × (List Int) × (List Int)))):=fun (s,mp,s2,s3) =>
  bif decide ((s:Int)<(aa.length:Int)) then (
  M.bind (zak ac ae ag a (s:Int)) fun r2 =>
  bif ((!r2)||((mp (s:Int)).getD false)) then (
  M.pure (.inl (s+1,mp,s2,s3)))
  else (
  M.grd (decide ((0:Int)<=(s:Int))&&decide ((s:Int)<(16:Int))) <|
  bif !((s3.getD s 0)==(-1)) then (
  M.bind (al ((s3.getD s 0),ai,aa,aj,ac,ae,ag,(updF mp (s:Int) true),s2,s3)) fun (r3,ah,q0,q1) =>
  bif (((s3.getD s 0)==(-1))||r3) then (
  M.grd (decide ((0:Int)<=a)&&decide (a<(16:Int))) <|
  M.pure (.inr (.inl (ah,q0.set (Int.toNat a) (s:Int),q1.set s a))))
  else (
  M.pure (.inl (s+1,ah,q0,q1))))
  else (
  bif (((s3.getD s 0)==(-1))||false) then (
  M.grd (decide ((0:Int)<=a)&&decide (a<(16:Int))) <|
  M.pure (.inr (.inl (updF mp (s:Int) true,s2.set (Int.toNat a) (s:Int),s3.set s a))))
  else (
  M.pure (.inl (s+1,updF mp (s:Int) true,s2,s3))))))
  else (
  M.pure (.inr (.inr (mp,s2,s3))))
def zaL (aa:(Int × (List Sect) × (List Mrk) × (List Rch) × (List Sect) × (List Mrk) × (List Rch) × (Int->Option Bool) × (List Int) × (List Int))->M (Bool × (Int->Option Bool) × (List Int) × (List Int))):(Int × (List Sect) × (List Mrk) × (List Rch) × (List Sect) × (List Mrk) × (List Rch) × (Int->Option Bool) × (List Int) × (List Int))->M (Bool × (Int->Option Bool) × (List Int) × (List Int)):=fun (a,ac,ae,ag,ah,ai,aj,al,am,ao) =>
  M.bind (M.iter (za8 a ac ae ag ah ai aj aa) (0,al,am,ao)) fun x_=>match x_ with
  | (.inl (ap,l,l2))=>(
  M.pure (true,ap,l,l2))
  | (.inr (aq,l3,l4))=>(
  M.pure (false,aq,l3,l4))
theorem zgw  : M.Mon zaL:=by
  intro n f g h a;obtain ⟨a,aa,ac,ae,ag,ah,ai,aj,al,am⟩:=a;simp only [zaL,za8]
  repeat' (first | exact M.le_same _ _ | exact h _ | refine M.le_grd ?_ | refine M.le_if ?_ ?_ | refine M.le_bind ?_ (fun x=>?_) | refine M.le_opt ?_ | refine M.le_iter (fun x=>?_) _ | refine zf1 (M.le_yl (fun s_ a_=>?_)) _ _ _ _ | refine zgz (M.le_yl (fun s_ a_=>?_)) _ _ _ | (rename_i x; cases x) | (rename_i x; obtain ⟨_,_⟩:=x))
def zcU (a:Int) (aa:List Sect) (ac:List Mrk) (ae:List Rch) (ag:List Sect) (ah:List Mrk) (ai:List Rch) (aj:Int->Option Bool) (al am:List Int):M (Bool × (Int->Option Bool) × (List Int) × (List Int)):=M.fix zaL zgw (a,aa,ac,ae,ag,ah,ai,aj,al,am)
theorem zge (n_:Nat):∀ {R:List Chunk} {au:Nat} {aG:Nat} {aH:Cells} {aI:Value} {aJ:Cells} {aK:Value} {aL:Cells} {aM:Value} {ba:Nat} {ae:Nat} {aB:Nat} {aN:Cells} {aO:Value} {aP:Cells} {aQ:Value} {aR:Cells} {aS:Value} {bc:Nat} {ag:Nat} {ac:Nat} {ah:Nat} {aa:Nat} {ai:Nat} (a:Int) (av:List Sect) (aj:List Mrk) (aw:List Rch) (al:List Sect) (am:List Mrk) (ao:List Rch) (aC:Int->Option Bool) (ax:List Int) (ay:List Int) (bg:Reads R aH) (bi:Sl aH aI av) (bj:Reads R aJ) (aT:Sl aJ aK aj) (bm:Reads R aL) (bn:Sl aL aM aw) (bp:Has R (cBlk aG [aI,aK,aM,.map (some ba)] 196)) (br:Has R (cBlk au [Pq aG] 127)) (aU:Reads R aN) (aV:Sl aN aO al) (aW:Reads R aP) (aX:Sl aP aQ am) (aY:Reads R aR) (aZ:Sl aR aS ao) (a7:Has R (cBlk aB [aO,aQ,aS,.map (some bc)] 196)) (bt:Has R (cBlk ae [.func (.func 32) #[Pq aB] #[]] 132)) (bu:Has R (cBlk ag [.map (some ac)] 267)) (bv:ax.length=16) (bw:ay.length=16) (bx:Has R (cBlk ah [Pq aa] 197)) (bz:Has R (cBlk ai [.func (.func 128) #[] #[Pq au,Pq ae,Pq ag,Pq ah,Pq ai]] 207)) {r:(Bool × (Int->Option Bool) × (List Int) × (List Int))} (hM:(M.fixN zaL n_ (a,av,aj,aw,al,am,ao,aC,ax,ay)).Ends r) (w:World) (H:St w w [cMap I B ac aC,cBlk aa (List.flatten [[],encF (α:=Int) ax,encF (α:=Int) ay]) 201] R),Ret Tryz.prog 128 #[I a,Pq au,Pq ae,Pq ag,Pq ah,Pq ai] w fun v w'=>∃ (y0:Bool) (y1:Int->Option Bool) (y2:List Int) (y3:List Int),(y0,y1,y2,y3)=r/\v=B y0/\St w w' [cMap I B ac y1,cBlk aa (List.flatten [[],encF (α:=Int) y2,encF (α:=Int) y3]) 201] R/\y2.length=16/\y3.length=16:=by
  induction n_ with
  | zero=>intro R au aG aH aI aJ aK aL aM ba ae aB aN aO aP aQ aR aS bc ag ac ah aa ai a av aj aw al am ao aC ax ay bg bi bj aT bm bn bp br aU aV aW aX aY aZ a7 bt bu bv bw bx bz r hM w H; exact (M.e_fail hM).elim
  | succ n_ ih =>
    intro R au aG aH aI aJ aK aL aM ba ae aB aN aO aP aQ aR aS bc ag ac ah aa ai a av aj aw al am ao aC ax ay bg bi bj aT bm bn bp br aU aV aW aX aY aZ a7 bt bu bv bw bx bz r hM w H;refine ret_of_W Tryz.func128 rfl rfl rfl ?_;have bV:=(aT).len_le;refine kg 16 ?_;obtain ⟨bK,bA,bB⟩:=M.e_bind hM;obtain ⟨bW,bA⟩:=M.e_iter bA;refine W.loop (fun m σ W=>∃ (s:Nat) (mp:Int->Option Bool) (s2:List Int) (s3:List Int) (ρ:Env),σ=upds ρ [(0,I a),(2,Pq ae),(3,Pq ag),(4,Pq ah),(5,Pq ai),(14,I (aj.length:Int)),(15,I (s:Int))]/\M.iterN (za8 a av aj aw al am ao (M.fixN zaL n_)) m (s,mp,s2,s3)=some bK/\St w W [cMap I B ac mp,cBlk aa (List.flatten [[],encF (α:=Int) s2,encF (α:=Int) s3]) 201] R/\s2.length=16/\s3.length=16) ?_ ?_
    ·exact ⟨_,0,aC,ax,ay,_,jQ,bA,H,bv,bw⟩
    rintro bX σ bY ⟨s,mp,s2,s3,ρ,rfl,bL,H,ap,aq⟩;obtain ⟨bC,bD,bZ,hM,aA⟩:=M.e_iterN bL;refine kI 5 ?_ ?_
    ·intro bN hM;refine kg 14 ?_;obtain ⟨b7,bO,hM⟩:=M.e_bind hM;refine s_callm (f:=32) (fs:=[Pq aB]) rfl cq [I a,I (s:Int)] rfl (zdT al am ao a (s:Int) (aU.app _) aV (aW.app _) aX (aY.app _) aZ (a7.app _) bO _ (H.gt 2)) ?_;rintro _ b8 ⟨r2,rfl,rfl,bE⟩;replace H:=H.bk bE;refine kg 4 ?_;refine g_val (!(!r2)) (gy_f rfl) (fun hg=>q_look (kenc:=I) (venc:=B) (f:=mp) (k:=(s:Int)) (v:=B ((mp (s:Int)).getD false)) keyIntB Tryz.underlying267 Al4.h (by exact (gd_of hg (.map (some ac)))) (by exact (gd_of hg (I (s:Int)))) (H.get (k:=0) rfl) false (by rw [if_neg (by decide),bool_val])) ?_;refine kI 2 ?_ ?_
     ·intro bP hM;refine W.exit ?_;refine kg 4 ?_;exact ⟨bC,bD,s+1,mp,s2,s3,_,jQ,M.e_inl hM aA,H,ap,aq⟩
     intro bP hM;refine kg 5 ?_;refine t_mapu (i:=0) (kenc:=I) (venc:=B) (f:=mp) (k:=(s:Int)) (v:=true) (L':=[cMap I B ac (updF mp (s:Int) true),cBlk aa (List.flatten [[],encF (α:=Int) s2,encF (α:=Int) s3]) 201]) keyIntB Tryz.underlying267 H rfl rfl rfl rfl rfl ?_;intro b9 H;refine kD 2 [] [5,14,15] ?_;intro cb H;obtain ⟨cc,hM⟩:=M.e_gq hM;refine kg 4 ?_;refine d_q rfl (fun w' H=>x_ix (v:=.pointer (some ⟨aa,16+Int.toNat (s:Int)*1,none⟩)) rfl rfl (run_indexS Tryz.underlying199 Sz3.h (by omega) (by omega)))<|d_l rfl<|s_val (x_ld (v:=I (s3.getD s 0)) rfl (ldS (α:=Int) (k:=2) (off:=16) (i:=s) (f:=0) (sz:=1) 0 Sc3.h (H.bl 1) rfl (sgo2 ap rfl) rfl (by decide) (by have aD:=aq; omega) (by omega) rfl)) ?_;refine kN ?_;refine kg 7 ?_;refine d_qg (!((s3.getD s 0)==(-1))) rfl (gy_f rfl) (fun hg=>(fun w' H=>x_ix (v:=.pointer (some ⟨aa,16+Int.toNat (s:Int)*1,none⟩)) (gd_of hg (Oq aa 16)) (gd_of hg (I (s:Int))) (run_indexS Tryz.underlying199 Sz3.h (by first | omega | (have aE:=hg; simp at aE; omega)) (by first | omega | (have aE:=hg; simp at aE; omega)))))<|d_l rfl<|g_val (!((s3.getD s 0)==(-1))) (gy_f rfl) (fun hg=>x_ld (v:=I (s3.getD s 0)) (gd_of hg (.pointer (some ⟨aa,16+Int.toNat (s:Int)*1,none⟩))) (ldS (α:=Int) (k:=2) (off:=16) (i:=s) (f:=0) (sz:=1) 0 Sc3.h (H.bl 1) rfl (sgo2 ap rfl) rfl (by decide) (by have aD:=aq; first | omega | (have aE:=hg; simp at aE; omega)) (by omega) rfl)) ?_;refine kN ?_;refine d_l rfl ?_
     refine g_splitV (!((s3.getD s 0)==(-1))) (B false) (gy_f rfl) (fun aF=>?_) (fun aF=>?_)
     ·replace hM:=M.e_t hM aF;obtain ⟨ce,bQ,hM⟩:=M.e_bind hM;refine s_callv (f:=128) (by exact (gd_of (c:=!((s3.getD s 0)==(-1))) aF (.func (.func 128) #[] #[Pq au,Pq ae,Pq ag,Pq ah,Pq ai]))) cq [I (s3.getD s 0)] (by exact (lst1 (gd_of (c:=!((s3.getD s 0)==(-1))) aF (I (s3.getD s 0))))) (ih (s3.getD s 0) av aj aw al am ao (updF mp (s:Int) true) s2 s3 (bg.app _) bi (bj.app _) aT (bm.app _) bn (bp.app _) (br.app _) (aU.app _) aV (aW.app _) aX (aY.app _) aZ (a7.app _) (bt.app _) (bu.app _) ap aq (bx.app _) (bz.app _) bQ _ (H.gt 0)) ?_;rintro _ cf ⟨r3,a8,q0,q1,rfl,rfl,bE,bF,bG⟩;replace H:=H.bk bE;refine kN ?_;refine d_q rfl (fun w' H=>x_por (b:=(s3.getD s 0)==(-1)) (r:=r3) rfl rfl (fun _=>rfl)) ?_;refine kI 1 ?_ ?_
      ·intro bR hM;refine kDo 1 [0] [(0,true),(1,true),(2,true),(3,true),(4,true),(5,true),(6,true),(7,true),(8,true),(10,true),(11,true),(9,false),(12,true),(13,false)] ?_;intro cg H;obtain ⟨ch,hM⟩:=M.e_gq hM;refine kg 8 ?_;refine d_q rfl (fun w' H=>x_ix (v:=.pointer (some ⟨aa,0+Int.toNat a*1,none⟩)) rfl rfl (run_indexS Tryz.underlying199 Sz3.h (by omega) (by omega))) ?_;refine kG 3 ?_;refine t_stS (α:=Int) (kc:=1) (b:=aa) (k:=1) (off:=0) (i:=(Int.toNat a)) (f:=0) (sz:=1) (segs:=[[],encF (α:=Int) q0,encF (α:=Int) q1]) (segs':=[[],encF (α:=Int) (q0.set (Int.toNat a) (s:Int)),encF (α:=Int) q1]) (l:=q0) (l':=q0.set (Int.toNat a) (s:Int)) (vs:=[I (s:Int)]) (L':=[cMap I B ac a8,cBlk aa (List.flatten [[],encF (α:=Int) (q0.set (Int.toNat a) (s:Int)),encF (α:=Int) q1]) 201]) H rfl rfl rfl Sz3.h rfl rfl rfl rfl (sgo1 rfl) rfl rfl (by have aD:=bF; omega) (by omega) 0 (s:Int) rfl rfl rfl rfl ?_;intro cj H;have bI:(q0.set (Int.toNat a) (s:Int)).length=16:=List.length_set.trans bF;refine kN ?_;refine d_q rfl (fun w' H=>x_ix (v:=.pointer (some ⟨aa,16+Int.toNat (s:Int)*1,none⟩)) rfl rfl (run_indexS Tryz.underlying199 Sz3.h (by omega) (by omega)))<|d_l rfl ?_;refine t_stS (α:=Int) (kc:=1) (b:=aa) (k:=2) (off:=16) (i:=s) (f:=0) (sz:=1) (segs:=[[],encF (α:=Int) (q0.set (Int.toNat a) (s:Int)),encF (α:=Int) q1]) (segs':=[[],encF (α:=Int) (q0.set (Int.toNat a) (s:Int)),encF (α:=Int) (q1.set s a)]) (l:=q1) (l':=q1.set s a) (vs:=[I a]) (L':=[cMap I B ac a8,cBlk aa (List.flatten [[],encF (α:=Int) (q0.set (Int.toNat a) (s:Int)),encF (α:=Int) (q1.set s a)]) 201]) H rfl rfl rfl Sz3.h rfl rfl rfl rfl (sgo2 bI rfl) rfl rfl (by have aD:=bG; omega) (by omega) 0 a rfl rfl rfl rfl ?_;intro ck H
       have bS:(q1.set s a).length=16:=List.length_set.trans bG;refine kN ?_;refine kg 5 ?_;refine W.ret ?_;obtain rfl:=M.e_inr hM aA;replace hM:=bB;have bH:=M.e_pure hM;exact ⟨_,resE_tmp rfl,⟨true,a8,(q0.set (Int.toNat a) (s:Int)),(q1.set s a),bH,rfl,H,bI,bS⟩⟩
      intro bR hM;refine kg 5 ?_;exact ⟨bC,bD,s+1,a8,q0,q1,_,jQ,M.e_inl hM aA,H,bF,bG⟩
     replace hM:=M.e_f hM aF;refine kN ?_;refine kI 2 ?_ ?_
     ·intro bT hM;refine kDo 1 [0] [(0,true),(1,true),(2,true),(3,true),(4,true),(5,true),(6,true),(7,true),(8,true),(10,true),(11,true),(9,false),(12,true),(13,false)] ?_;intro cn H;obtain ⟨cp,hM⟩:=M.e_gq hM;refine kg 8 ?_;refine d_q rfl (fun w' H=>x_ix (v:=.pointer (some ⟨aa,0+Int.toNat a*1,none⟩)) rfl rfl (run_indexS Tryz.underlying199 Sz3.h (by omega) (by omega))) ?_;refine kG 3 ?_;refine t_stS (α:=Int) (kc:=1) (b:=aa) (k:=1) (off:=0) (i:=(Int.toNat a)) (f:=0) (sz:=1) (segs:=[[],encF (α:=Int) s2,encF (α:=Int) s3]) (segs':=[[],encF (α:=Int) (s2.set (Int.toNat a) (s:Int)),encF (α:=Int) s3]) (l:=s2) (l':=s2.set (Int.toNat a) (s:Int)) (vs:=[I (s:Int)]) (L':=[cMap I B ac (updF mp (s:Int) true),cBlk aa (List.flatten [[],encF (α:=Int) (s2.set (Int.toNat a) (s:Int)),encF (α:=Int) s3]) 201]) H rfl rfl rfl Sz3.h rfl rfl rfl rfl (sgo1 rfl) rfl rfl (by have aD:=ap; omega) (by omega) 0 (s:Int) rfl rfl rfl rfl ?_;intro cr H;have bJ:(s2.set (Int.toNat a) (s:Int)).length=16:=List.length_set.trans ap;refine kN ?_;refine d_q rfl (fun w' H=>x_ix (v:=.pointer (some ⟨aa,16+Int.toNat (s:Int)*1,none⟩)) rfl rfl (run_indexS Tryz.underlying199 Sz3.h (by omega) (by omega)))<|d_l rfl ?_;refine t_stS (α:=Int) (kc:=1) (b:=aa) (k:=2) (off:=16) (i:=s) (f:=0) (sz:=1) (segs:=[[],encF (α:=Int) (s2.set (Int.toNat a) (s:Int)),encF (α:=Int) s3]) (segs':=[[],encF (α:=Int) (s2.set (Int.toNat a) (s:Int)),encF (α:=Int) (s3.set s a)]) (l:=s3) (l':=s3.set s a) (vs:=[I a]) (L':=[cMap I B ac (updF mp (s:Int) true),cBlk aa (List.flatten [[],encF (α:=Int) (s2.set (Int.toNat a) (s:Int)),encF (α:=Int) (s3.set s a)]) 201]) H rfl rfl rfl Sz3.h rfl rfl rfl rfl (sgo2 bJ rfl) rfl rfl (by have aD:=aq; omega) (by omega) 0 a rfl rfl rfl rfl ?_;intro ct H
      have bU:(s3.set s a).length=16:=List.length_set.trans aq;refine kN ?_;refine kg 5 ?_;refine W.ret ?_;obtain rfl:=M.e_inr hM aA;replace hM:=bB;have bH:=M.e_pure hM;exact ⟨_,resE_tmp rfl,⟨true,(updF mp (s:Int) true),(s2.set (Int.toNat a) (s:Int)),(s3.set s a),bH,rfl,H,bJ,bU⟩⟩
     intro bT hM;refine kg 5 ?_;exact ⟨bC,bD,s+1,updF mp (s:Int) true,s2,s3,_,jQ,M.e_inl hM aA,H,ap,aq⟩
    intro bN hM;refine W.exit ?_;obtain rfl:=M.e_inr hM aA;replace hM:=bB;exact kR0 4
theorem zgk {R ae ay aA aB aC aD aE aF aN ag aG aH aI aJ aK aL aM aO ah ai aj al am}(a ao ap aq au av aw ax aa ac)(aP:Reads R aA)(aQ:Sl aA aB ao)(aR:Reads R aC)(aS:Sl aC aD ap)(aT:Reads R aE)(aU:Sl aE aF aq)(aV:Has R (cBlk ay [aB,aD,aF,.map (some aN)] 196))(aW:Has R (cBlk ae [Pq ay] 127))(aX:Reads R aH)(aY:Sl aH aI au)(aZ:Reads R aJ)(a7:Sl aJ aK av)(a8:Reads R aL)(ba:Sl aL aM aw)(bc:Has R (cBlk aG [aI,aK,aM,.map (some aO)] 196))(bg:Has R (cBlk ag [.func (.func 32) #[Pq aG] #[]] 132))(bi:Has R (cBlk ah [.map (some ai)] 267))(bj:aa.length=16)(bm:ac.length=16)(bn:Has R (cBlk aj [Pq al] 197))(bp:Has R (cBlk am [.func (.func 128) #[] #[Pq ae,Pq ag,Pq ah,Pq aj,Pq am]] 207)){r}(hM:(zcU a ao ap aq au av aw ax aa ac).Ends r)(w)(H:St w w [cMap I B ai ax,cBlk al (List.flatten [[],encF (α:=Int) aa,encF (α:=Int) ac]) 201] R):Ret Tryz.prog 128 #[I a,Pq ae,Pq ag,Pq ah,Pq aj,Pq am] w fun v w'=>∃ y0 y1 y2 y3,(y0,y1,y2,y3)=r/\v=B y0/\St w w' [cMap I B ai y1,cBlk al (List.flatten [[],encF (α:=Int) y2,encF (α:=Int) y3]) 201] R/\y2.length=16/\y3.length=16:=by
  obtain ⟨n_,hM⟩:=M.e_fix hM;exact zge n_ a ao ap aq au av aw ax aa ac aP aQ aR aS aT aU aV aW aX aY aZ a7 a8 ba bc bg bi bj bm bn bp hM w H

def zfI  : ((List Int) × (List Int) × Nat)->M (((List Int) × (List Int) × Nat) ⊕ ((List Int) × (List Int))):=fun (s,s2,s3) =>
  bif decide ((s3:Int)<16) then (
  M.grd (decide ((0:Int)<=(s3:Int))&&decide ((s3:Int)<(16:Int))) <|
  M.pure (.inl (s.set s3 (-1),s2.set s3 (-1),s3+1)))
  else (
  M.pure (.inr (s,s2)))
def zcG (ac:List Sect) (aa:List Mrk) (ae:List Rch):((List Int) × (List Int) × Nat)->M (((List Int) × (List Int) × Nat) ⊕ ((List Int) × (List Int))):=fun (s4,s5,s6) =>
  bif decide ((s6:Int)<(aa.length:Int)) then (
  M.bind (zcU (s6:Int) ac aa ae ac aa ae (fun _=>none) s4 s5) fun (r2,ag,q0,q1) =>
  M.pure (.inl (q0,q1,s6+1)))
  else (
  M.pure (.inr (s4,s5)))
def zb2 (aa:List Sect) (ac:List Mrk) (ae:List Rch):M ((List Int) × (List Int)) :=
  M.bind (M.iter (zfI) (List.replicate 16 0,List.replicate 16 0,0)) fun (l,l2) =>
  M.bind (M.iter (zcG aa ac ae) (l,l2,0)) fun (l3,l4) =>
  M.pure (l3,l4)
theorem zhi {R ac av aw ax ay aA aB aM}(ai ah aj)(aC:Reads R av)(aD:Sl av aw ai)(aE:Reads R ax)(al:Sl ax ay ah)(aF:Reads R aA)(aG:Sl aA aB aj)(aH:Has R (cBlk ac [aw,ay,aB,.map (some aM)] 196)){r}(hM:(zb2 ai ah aj).Ends r)(w)(H:St w w [] R):Ret Tryz.prog 70 #[Pq ac] w fun v w'=>∃ y0 y1 aI,(y0,y1)=r/\v=Pq aI/\St w w' [cBlk aI (List.flatten [[],encF (α:=Int) y0,encF (α:=Int) y1]) 201] R/\y0.length=16/\y1.length=16:=by
 refine ret_of_W Tryz.func70 rfl rfl rfl ?_;refine kB 2 ?_;intro ae br H;refine kg 4 ?_;refine s_val (y_bld (List.flatten [[],encF (α:=Int) (List.replicate 16 0),encF (α:=Int) (List.replicate 16 0)]) rfl rfl jF) ?_;refine kB 0 ?_;intro aa bt H;refine kal ?_;intro ag bu H;refine ksw ?_;intro bv H;refine kg 7 ?_;obtain ⟨aN,am,aO⟩:=M.e_bind hM;obtain ⟨aP,am⟩:=M.e_iter am;refine W.loop (fun m σ W=>∃ (s:List Int) (s2:List Int) (s3:Nat) (ρ:Env),σ=upds ρ [(1,Pq ae),(3,Pq ag),(11,I (s3:Int))]/\M.iterN (zfI) m (s,s2,s3)=some aN/\St w W [cBlk ag [Pq aa] 197,cBlk aa (List.flatten [[],encF (α:=Int) s,encF (α:=Int) s2]) 201,cBlk ae [Pq ac] 127] R/\s.length=16/\s2.length=16) ?_ ?_
 ·exact ⟨_,List.replicate 16 0,List.replicate 16 0,0,_,jQ,am,H,List.length_replicate,List.length_replicate⟩
 rintro bw σ bx ⟨s,s2,s3,ρ,rfl,aQ,H,ao,ap⟩;obtain ⟨aR,aS,bz,hM,aJ⟩:=M.e_iterN aQ;refine kI 5 ?_ ?_
 ·intro aT hM;refine kDo 8 [0,2] [(0,true),(1,true),(2,true),(3,true),(4,true),(5,true),(6,true),(8,true),(9,true),(7,false),(10,true),(11,false)] ?_;intro bA H;obtain ⟨bB,hM⟩:=M.e_gq hM;refine kg 6 ?_;refine d_q rfl (fun w' H=>x_ix (v:=.pointer (some ⟨aa,0+Int.toNat (s3:Int)*1,none⟩)) rfl rfl (run_indexS Tryz.underlying199 Sz3.h (by omega) (by omega))) ?_;refine kG 3 ?_;refine t_stS (α:=Int) (kc:=1) (b:=aa) (k:=1) (off:=0) (i:=s3) (f:=0) (sz:=1) (segs:=[[],encF (α:=Int) s,encF (α:=Int) s2]) (segs':=[[],encF (α:=Int) (s.set s3 (-1)),encF (α:=Int) s2]) (l:=s) (l':=s.set s3 (-1)) (vs:=[I (-1)]) (L':=[cBlk ag [Pq aa] 197,cBlk aa (List.flatten [[],encF (α:=Int) (s.set s3 (-1)),encF (α:=Int) s2]) 201,cBlk ae [Pq ac] 127]) H rfl rfl rfl Sz3.h rfl rfl rfl rfl (sgo1 rfl) rfl rfl (by have aU:=ao; omega) (by omega) 0 (-1) rfl rfl rfl rfl ?_;intro bC H;have aK:(s.set s3 (-1)).length=16:=List.length_set.trans ao;refine kN ?_;refine d_q rfl (fun w' H=>x_ix (v:=.pointer (some ⟨aa,16+Int.toNat (s3:Int)*1,none⟩)) rfl rfl (run_indexS Tryz.underlying199 Sz3.h (by omega) (by omega)))<|d_l rfl ?_;refine t_stS (α:=Int) (kc:=1) (b:=aa) (k:=2) (off:=16) (i:=s3) (f:=0) (sz:=1) (segs:=[[],encF (α:=Int) (s.set s3 (-1)),encF (α:=Int) s2]) (segs':=[[],encF (α:=Int) (s.set s3 (-1)),encF (α:=Int) (s2.set s3 (-1))]) (l:=s2) (l':=s2.set s3 (-1)) (vs:=[I (-1)]) (L':=[cBlk ag [Pq aa] 197,cBlk aa (List.flatten [[],encF (α:=Int) (s.set s3 (-1)),encF (α:=Int) (s2.set s3 (-1))]) 201,cBlk ae [Pq ac] 127]) H rfl rfl rfl Sz3.h rfl rfl rfl rfl (sgo2 aK rfl) rfl rfl (by have aU:=ap; omega) (by omega) 0 (-1) rfl rfl rfl rfl ?_;intro bD H
  have aV:(s2.set s3 (-1)).length=16:=List.length_set.trans ap;refine kN ?_;refine kg 5 ?_;exact ⟨aR,aS,s.set s3 (-1),s2.set s3 (-1),s3+1,_,jQ,M.e_inl hM aJ,H,aK,aV⟩
 intro aT hM;refine W.exit ?_;obtain rfl:=M.e_inr hM aJ;replace hM:=aO;refine kg 3 ?_;refine s_val (x_mf (fs:=[Pq ac]) (cs:=[]) rfl rfl) ?_;refine kal ?_;intro aq bE H;refine ksw ?_;intro bF H;have bG:=(al).len_le;refine kg 13 ?_;obtain ⟨aW,au,aX⟩:=M.e_bind hM;obtain ⟨aP,au⟩:=M.e_iter au;refine W.loop (fun m σ W=>∃ (s4:List Int) (s5:List Int) (s6:Nat) (ρ:Env),σ=upds ρ [(1,Pq ae),(3,Pq ag),(5,Pq aq),(32,I (ah.length:Int)),(33,I (s6:Int))]/\M.iterN (zcG ai ah aj) m (s4,s5,s6)=some aW/\St w W [cBlk aq [.func (.func 32) #[Pq ac] #[]] 132,cBlk ag [Pq aa] 197,cBlk aa (List.flatten [[],encF (α:=Int) s4,encF (α:=Int) s5]) 201,cBlk ae [Pq ac] 127] R/\s4.length=16/\s5.length=16) ?_ ?_
 ·exact ⟨_,s,s2,0,_,jQ,au,H,ao,ap⟩
 rintro bH σ bI ⟨s4,s5,s6,ρ,rfl,aY,H,aZ,a7⟩;obtain ⟨a8,ba,bJ,hM,aL⟩:=M.e_iterN aY;refine kI 5 ?_ ?_
 ·intro bc hM;refine kg 10 ?_;refine t_mkmap (κ:=Int) (ν:=Bool) I B H ?_;intro bK bL H;refine kal ?_;intro bg bN H;refine ksw ?_;intro bO H;refine kA 3 ?_;intro bi bP H;refine kg 3 ?_;refine s_val (x_mf (fs:=[]) (cs:=[Pq ae,Pq aq,Pq bg,Pq ag,Pq bi]) rfl rfl) ?_;refine ksw ?_;intro bQ H;refine kg 4 ?_;obtain ⟨bR,bj,hM⟩:=M.e_bind hM;refine s_callv (f:=128) rfl cq [I (s6:Int)] rfl (zgk (s6:Int) ai ah aj ai ah aj (fun _=>none) s4 s5 (aC.app _) aD (aE.app _) al (aF.app _) aG (aH.app _) (Has.here (k:=4) rfl) (aC.app _) aD (aE.app _) al (aF.app _) aG (aH.app _) (Has.here (k:=2) rfl) (Has.here (k:=1) rfl) aZ a7 (Has.here (k:=3) rfl) (Has.here (k:=0) rfl) bj _ ((H.pk [2,5,0,1,3,4,6]).gt 5)) ?_;rintro _ bS ⟨r2,bT,q0,q1,rfl,rfl,bm,bn,bp⟩;replace H:=H.pk [2,5,0,1,3,4,6] |>.bk bm
  refine s_nil ?_;replace H:=H.pk [1,4,5,6];refine kg 4 ?_;exact ⟨a8,ba,q0,q1,s6+1,_,jQ,M.e_inl hM aL,(H.pk [1,2,0,3]),bn,bp⟩
 intro bc hM;refine W.exit ?_;obtain rfl:=M.e_inr hM aL;replace hM:=aX;replace H:=H.pk [1,2];exact kR 5 [1]

def zca (r0:List Int):(Int × (List Int))->M ((Int × (List Int)) ⊕ ((List Int) × (List Int))):=fun (s,l) =>
  bif s != (-1) then (
  M.grd (decide ((l.length+([(s:Int)]).length)*8<=140737488355328)) <|
  M.grd (decide ((0:Int)<=s)&&decide (s<(16:Int))) <|
  M.pure (.inl (r0.getD (Int.toNat s) 0,l++([(s:Int)]))))
  else (
  M.pure (.inr (l,l)))
def zc1 (aa:List Mrk) (r0 r1:List Int):(Nat × (List (List Int)))->M ((Nat × (List (List Int))) ⊕ ((List (List Int)) × (List (List Int)))):=fun (s2,l4) =>
  bif decide ((s2:Int)<(aa.length:Int)) then (
  M.grd (decide ((0:Int)<=(s2:Int))&&decide ((s2:Int)<(16:Int))) <|
  bif (r1.getD s2 0) != (-1) then (
  M.pure (.inl (s2+1,l4)))
  else (
  M.bind (M.iter (zca r0) ((s2:Int),[])) fun (l2,l3) =>
  M.grd (decide ((l4.length+([l3]).length)*24<=140737488355328)) <|
  M.pure (.inl (s2+1,l4++([l3])))))
  else (
  M.pure (.inr (l4,l4)))
def zdi (ac:List Sect) (aa:List Mrk) (ae:List Rch):M (List (List Int)) :=
  M.bind (zb2 ac aa ae) fun (r0,r1) =>
  M.bind (M.iter (zc1 aa r0 r1) (0,[])) fun (l5,l6) =>
  M.pure l6
theorem zgd {R aq au av aw ax ay aA aK}(aB ai aC)(br:Reads R au)(bt:Sl au av aB)(bu:Reads R aw)(aL:Sl aw ax ai)(bv:Reads R ay)(bw:Sl ay aA aC)(bx:Has R (cBlk aq [av,ax,aA,.map (some aK)] 196)){r}(hM:(zdi aB ai aC).Ends r)(w)(H:St w w [] R):Ret Tryz.prog 31 #[Pq aq] w fun v w'=>∃ y0 u0 rr1 aD,y0=r/\v=u0/\St w w' [cOwn (α:=Raw 0) 26 u0 rr1,cRo aD] R/\RepR (α:=List Int) aD.cells rr1 y0:=by
 refine ret_of_W Tryz.func31 rfl rfl rfl ?_;refine kC 7 @zhi ?_;intro bz r0 r1 ae aE aM hM H;have bA:=(aL).len_le;refine kg 18 ?_;obtain ⟨aF,H⟩:=H.emptyE;replace H:=H.nilOwn (α:=Raw 0) 26;have aN:RepR (α:=List Int) (n:=0) aF.cells [] []:=.nil;obtain ⟨aO,ao,aP⟩:=M.e_bind hM;obtain ⟨aQ,ao⟩:=M.e_iter ao;refine W.loop (fun m σ W=>∃ (s2:Nat) (l4:List (List Int)) (ag:Value) (aa:List (Raw 0)) (B_l4:Base) (ρ:Env),σ=upds ρ [(3,Pq ae),(4,ag),(15,I (ai.length:Int)),(16,I (s2:Int))]/\M.iterN (zc1 ai r0 r1) m (s2,l4)=some aO/\St w W [cOwn (α:=Raw 0) 26 ag aa,cRo B_l4,cBlk ae (List.flatten [[],encF (α:=Int) r0,encF (α:=Int) r1]) 201] R/\RepR (α:=List Int) B_l4.cells aa l4) ?_ ?_
 ·exact ⟨_,0,[],(.slice none 0 0),[],aF,_,jQ,ao,H,aN⟩
 rintro bB σ bC ⟨s2,l4,ag,aa,B_l4,ρ,rfl,aR,H,aj⟩;obtain ⟨aG,aH,bD,hM,ap⟩:=M.e_iterN aR;refine kI 5 ?_ ?_
 ·intro aS hM;obtain ⟨bE,hM⟩:=M.e_gq hM;refine kg 15 ?_;refine s_val (x_ix (v:=.pointer (some ⟨ae,16+Int.toNat (s2:Int)*1,none⟩)) rfl rfl (run_indexS Tryz.underlying199 Sz3.h (by omega) (by omega)))<|s_val (x_ld (v:=I (r1.getD s2 0)) rfl (ldS (α:=Int) (k:=2) (off:=16) (i:=s2) (f:=0) (sz:=1) 0 Sc3.h (H.bl 2) rfl (sgo2 aE rfl) rfl (by decide) (by have aT:=aM; omega) (by omega) rfl)) ?_;refine kI 2 ?_ ?_
  ·intro aU hM;refine W.exit ?_;refine kg 4 ?_;exact ⟨aG,aH,s2+1,l4,ag,aa,B_l4,_,jQ,M.e_inl hM ap,H,aj⟩
  intro aU hM;refine kg 12 ?_;replace H:=H.nilOwn (α:=Int) 3;obtain ⟨aV,aI,aW⟩:=M.e_bind hM;obtain ⟨aQ,aI⟩:=M.e_iter aI;refine W.loop (fun m σ W=>∃ (s:Int) (l:List Int) (ah:Value) (ρ:Env),σ=upds ρ [(3,Pq ae),(4,ag),(6,ah),(7,I s),(15,I (ai.length:Int)),(16,I (s2:Int))]/\M.iterN (zca r0) m (s,l)=some aV/\St w W [cOwn (α:=Int) 3 ah l,cOwn (α:=Raw 0) 26 ag aa,cRo B_l4,cBlk ae (List.flatten [[],encF (α:=Int) r0,encF (α:=Int) r1]) 201] R) ?_ ?_
  ·exact kY
  rintro bF σ bG ⟨s,l,ah,ρ,rfl,aX,H⟩;obtain ⟨bH,bI,bJ,hM,aY⟩:=M.e_iterN aX;refine kI 6 ?_ ?_
  ·intro aZ hM;refine kL 6 (α:=Int) [s] ?_;intro bK bL H;obtain ⟨bN,hM⟩:=M.e_gq hM;refine kP 0 ?_;intro bO bP H;obtain ⟨bQ,hM⟩:=M.e_gq hM;refine kg 7 ?_;refine s_val (x_ix (v:=.pointer (some ⟨ae,0+Int.toNat s*1,none⟩)) rfl rfl (run_indexS Tryz.underlying199 Sz3.h (by omega) (by omega)))<|s_val (x_ld (v:=I (r0.getD (Int.toNat s) 0)) rfl (ldS (α:=Int) (k:=1) (off:=0) (i:=(Int.toNat s)) (f:=0) (sz:=1) 0 Sc3.h (H.bl 4) rfl (sgo1 rfl) rfl (by decide) (by have aT:=aE; omega) (by omega) rfl)) ?_
   exact kXp 2 [1,2,3,4]
  intro aZ hM;refine W.exit ?_;obtain rfl:=M.e_inr hM aY;replace hM:=aW;refine kg 3 ?_;obtain ⟨bR,H⟩:=H.emptyE;obtain ⟨bS,H,a7⟩:=H.freezeE (k:=1) rfl;replace H:=H.nf;have al:=a7;obtain ⟨a8,H,bT,ba⟩:=H.joinE (i:=0) (j:=1) rfl rfl;replace al:=al.mono ba;obtain ⟨ac,aJ⟩:∃ r:Raw 0,r.cs=[ah]:=⟨Raw.of [ah] rfl (by simp only [List.all_cons,List.all_nil,Bool.true_and,Bool.and_true,Sl.oc al]; try rfl),rfl⟩
  have bc:RepR (α:=List Int) a8.cells [ac] [l]:=.cons (by rw [aJ]; exact ⟨_,rfl,al⟩)<|.nil
  refine t_bs (α:=Raw 0) T130.h [ah] [ac] H rfl (.cons (by rw [show (Flat.enc ac:List Value)=ac.cs from rfl,aJ]; exact Sl.cells al) (Flat.rep_enc _ _)<|.nil) rfl rfl rfl ?_;intro bg bU H;replace H:=H.nf;obtain ⟨bV,hM⟩:=M.e_gq hM;have am:=bc;obtain ⟨bi,H,bj,bm⟩:=H.joinE (i:=5) (j:=1) rfl rfl;replace aj:=aj.mono bj;replace am:=am.mono bm;have bn:=aj.app am;refine t_app (α:=Raw 0) (k:=5) (l:=aa) (l2:=[ac]) (l':=aa++([ac])) (vy:=bg) T130.h rfl H rfl rfl rfl (H.os 1) (H.ol 1) (rfl) (by have a_:=aj.len; have b_:=am.len; (try simp only [List.length_nil] at *); first | omega | (rw [a_,b_]; omega)) ?_;intro bp bW H;replace H:=H.nf;refine kg 2 ?_;replace H:=H.pk [0,5,6,7];refine kg 4 ?_;exact ⟨aG,aH,s2+1,l4++([l]),bp,aa++([ac]),bi,_,jQ,M.e_inl hM ap,(H.pk [1,0,3]),bn⟩
 intro aS hM;refine W.exit ?_;obtain rfl:=M.e_inr hM ap;replace hM:=aP;exact kR 5 [0,1]

def zcW (s_Sections:List Sect) (s_Marks:List Mrk) (s_Reaches:List Rch) (r2:List (List Int)) (l6:List Int) (s3:Nat):Nat->M (Nat ⊕ (Unit ⊕ Unit)):=fun s2 =>
  bif decide ((s2:Int)<(r2.length:Int)) then (
  M.grd (decide ((s2:Int)<(r2.length:Int))) <|
  M.grd ((!((s3:Int) != (s2:Int))||(decide ((s3:Int)<(l6.length:Int))))) <|
  M.grd ((!(((s3:Int) != (s2:Int))&&(decide ((l6.getD s3 0)<((r2.getD s3 ([])).length:Int))))||(decide ((s2:Int)<(l6.length:Int))))) <|
  M.grd ((!((((s3:Int) != (s2:Int))&&(decide ((l6.getD s3 0)<((r2.getD s3 ([])).length:Int))))&&(decide ((l6.getD s2 0)<((r2.getD s2 ([])).length:Int))))||(decide ((s3:Int)<(l6.length:Int))))) <|
  M.grd ((!((((s3:Int) != (s2:Int))&&(decide ((l6.getD s3 0)<((r2.getD s3 ([])).length:Int))))&&(decide ((l6.getD s2 0)<((r2.getD s2 ([])).length:Int))))||(decide ((0:Int)<=(l6.getD s3 0))&&decide ((l6.getD s3 0)<((r2.getD s3 ([])).length:Int))))) <|
  M.grd ((!((((s3:Int) != (s2:Int))&&(decide ((l6.getD s3 0)<((r2.getD s3 ([])).length:Int))))&&(decide ((l6.getD s2 0)<((r2.getD s2 ([])).length:Int))))||(decide ((s2:Int)<(l6.length:Int))))) <|
  M.grd ((!((((s3:Int) != (s2:Int))&&(decide ((l6.getD s3 0)<((r2.getD s3 ([])).length:Int))))&&(decide ((l6.getD s2 0)<((r2.getD s2 ([])).length:Int))))||(decide ((0:Int)<=(l6.getD s2 0))&&decide ((l6.getD s2 0)<((r2.getD s2 ([])).length:Int))))) <|
  M.bind (M.opt ((((s3:Int) != (s2:Int))&&(decide ((l6.getD s3 0)<((r2.getD s3 ([])).length:Int))))&&(decide ((l6.getD s2 0)<((r2.getD s2 ([])).length:Int)))) (zak s_Sections s_Marks s_Reaches ((r2.getD s3 ([])).getD (Int.toNat (l6.getD s3 0)) 0) ((r2.getD s2 ([])).getD (Int.toNat (l6.getD s2 0)) 0)) false) fun r3 =>
  bif (((((s3:Int) != (s2:Int))&&(decide ((l6.getD s3 0)<((r2.getD s3 ([])).length:Int))))&&(decide ((l6.getD s2 0)<((r2.getD s2 ([])).length:Int))))&&r3) then (
  M.grd (decide ((s3:Int)<(l6.length:Int))) <|
  M.gi ((l6.getD s3 0)+1) <|
  M.pure (.inr (.inl ())))
  else (
  M.pure (.inl (s2+1))))
  else (
  M.pure (.inr (.inr ())))
def zcv (s_Sections:List Sect) (s_Marks:List Mrk) (s_Reaches:List Rch) (r2:List (List Int)) (l6:List Int):Nat->M (Nat ⊕ (((List Int) × (List Int)) ⊕ Unit)):=fun s3 =>
  bif decide ((s3:Int)<(r2.length:Int)) then (
  M.grd (decide ((s3:Int)<(r2.length:Int))) <|
  M.bind (M.iter (zcW s_Sections s_Marks s_Reaches r2 l6 s3) 0) fun x_=>match x_ with
  | (.inl (_:Unit))=>(
  M.pure (.inr (.inl (l6.set s3 ((l6.getD s3 0)+1:Int),l6.set s3 ((l6.getD s3 0)+1:Int)))))
  | (.inr (_:Unit))=>(
  M.pure (.inl (s3+1))))
  else (
  M.pure (.inr (.inr ())))
def zcY (r2:List (List Int)) (l6:List Int):(Nat × (List Int))->M ((Nat × (List Int)) ⊕ ((List Int) × (List Int))):=fun (s4,l3) =>
  bif decide ((s4:Int)<(r2.length:Int)) then (
  M.grd (decide ((s4:Int)<(r2.length:Int))) <|
  M.grd (decide ((s4:Int)<(l6.length:Int))) <|
  bif decide ((l6.getD s4 0)<((r2.getD s4 ([])).length:Int)) then (
  M.grd (decide ((0:Int)<=(l6.getD s4 0))&&decide ((l6.getD s4 0)<((r2.getD s4 ([])).length:Int))) <|
  M.grd (decide ((l3.length+([((r2.getD s4 ([])).getD (Int.toNat (l6.getD s4 0)) 0:Int)]).length)*8<=140737488355328)) <|
  M.pure (.inl (s4+1,l3++([((r2.getD s4 ([])).getD (Int.toNat (l6.getD s4 0)) 0:Int)]))))
  else (
  M.pure (.inl (s4+1,l3))))
  else (
  M.pure (.inr (l3,l3)))
def zes (s_Sections:List Sect) (s_Marks:List Mrk) (s_Reaches:List Rch) (r2:List (List Int)):(List Int)->M ((List Int) ⊕ ((List Int) × (List Int))):=fun l6 =>
  M.bind (M.iter (zcv s_Sections s_Marks s_Reaches r2 l6) 0) fun x_=>match x_ with
  | (.inl (l,l2))=>(
  M.pure (.inl l2))
  | (.inr (_:Unit))=>(
  M.bind (M.iter (zcY r2 l6) (0,[])) fun (l4,l5) =>
  M.grd (decide (l5.length<=1000000)) <|
  M.pure (.inr (isort l5,l6)))
def zdg (s_Sections:List Sect) (s_Marks:List Mrk) (s_Reaches:List Rch):M ((List Int) × Int) :=
  M.bind (zaR s_Sections s_Marks s_Reaches) fun x_=>match x_ with
  | (.inl r1)=>(
  bif r1 != 0 then (
  M.pure (([]),r1))
  else (
  M.fail))
  | (.inr aa)=>(
  bif aa != 0 then (
  M.fail)
  else (
  M.bind (zdi s_Sections s_Marks s_Reaches) fun r2 =>
  M.grd (decide ((0:Int)<=(r2.length:Int))&&decide ((8:Int)*(r2.length:Int)<=281474976710656)&&decide ((r2.length:Int)<=(9223372036854775807:Int))) <|
  M.bind (M.iter (zes s_Sections s_Marks s_Reaches r2) (List.replicate (r2.length) (0:Int))) fun (l7,l8) =>
  M.pure (l7,0)))
theorem zhS {R aU ac aV ae aW ag}(s_Sections s_Marks s_Reaches)(aK:Reads R aU)(aL:Sl aU ac s_Sections)(aM:Reads R aV)(aN:Sl aV ae s_Marks)(aO:Reads R aW)(aP:Sl aW ag s_Reaches){r}(hM:(zdg s_Sections s_Marks s_Reaches).Ends r)(w)(H:St w w [] R):Ret Tryz.prog 10 #[.agg #[ac,ae,ag]] w fun v w'=>∃ y0 y1 u0,(y0,y1)=r/\v = .tuple #[u0,I y1]/\St w w' [cOwn (α:=Int) 3 u0 y0] R:=by
 refine ret_of_W Tryz.func10 rfl rfl rfl ?_;refine kB 2 ?_;intro ax bY H;refine kg 3 ?_;refine W.jumpS 0 rfl ?_;refine kg 3 ?_;obtain ⟨bZ,br,hM⟩:=M.e_bind hM;refine s_call cq [.agg #[ac,ae,ag]] rfl (zdS s_Sections s_Marks s_Reaches (aK.app _) aL (aM.app _) aN (aO.app _) aP br _ (H.gt 1)) ?_;rintro vq b7 (⟨r1,bt,hvq,aC⟩ | ⟨b8,al,am,bu,hvq,aC⟩)
 ·subst bt;subst vq;replace H:=H.bk aC;refine kI 12 ?_ ?_
  ·intro bv hM;refine kg 6 ?_;refine W.ret ?_;have aD:=M.e_pure hM;replace H:=H.nilOwn (α:=Int) 3;exact ⟨_,resE_tmp2 rfl,⟨([]),r1,(.slice none 0 0),aD,rfl,(H.pk [0])⟩⟩
  intro bv hM;exact (M.e_fail hM).elim
 subst bu;subst vq;replace H:=H.bk aC;refine kI 12 ?_ ?_
 ·intro bw hM;exact (M.e_fail hM).elim
 intro bw hM;refine kg 4 ?_;obtain ⟨b9,bx,hM⟩:=M.e_bind hM;refine s_call cq [Pq al] rfl (zgd s_Sections s_Marks s_Reaches (aK.app _) aL (aM.app _) aN (aO.app _) aP (Has.here (k:=0) rfl) bx _ (H.gt 3)) ?_;rintro vq cb ⟨r2,aa,ay,aA,rfl,hvq,aC,aj⟩;subst vq;replace H:=H.bk aC;have cc:=((rowSl rfl (H.get (k:=0) rfl) (roLe _ (H.get (k:=1) rfl)) aj)).len_le;refine kg 5 ?_;refine s_val (x_lenS T130.h.und rfl (rowSl rfl (H.get (k:=0) rfl) (roLe _ (H.get (k:=1) rfl)) aj)) ?_;obtain ⟨ce,hM⟩:=M.e_gq hM;refine t_mk (α:=Int) T26.h (0:Int) rfl (n:=(r2.length:Int)) H rfl rfl (by omega) (by omega) (by omega) ?_;intro cf cg H;replace H:=H.nf;refine kg 2 ?_;obtain ⟨bz,aX,bA⟩:=M.e_bind hM;obtain ⟨aQ,aX⟩:=M.e_iter aX;refine W.jumpL (fun m σ W=>∃ (l6:List Int) (ao:Value) (ρ:Env),σ=upds ρ [(4,Pq al),(6,aa),(7,ao)]/\M.iterN (zes s_Sections s_Marks s_Reaches r2) m l6=some bz/\St w W [cOwn (α:=Int) 3 ao l6,cOwn (α:=Raw 0) 26 aa ay,cRo aA,cBlk al [ac,ae,ag,.map (some am)] 196,cMemI encSpt am (zaa s_Sections s_Marks s_Reaches),cBlk ax [ac,ae,ag] 35] R) ?_ ?_
 ·exact kY
 rintro ch σ cj ⟨l6,ao,ρ,rfl,bB,H⟩;obtain ⟨bC,bD,ck,hM,aY⟩:=M.e_iterN bB;have cn:=((rowSl rfl (H.get (k:=1) rfl) (roLe _ (H.get (k:=2) rfl)) aj)).len_le;refine kg 4 ?_;refine s_val (x_lenS T130.h.und rfl (rowSl rfl (H.get (k:=1) rfl) (roLe _ (H.get (k:=2) rfl)) aj)) ?_;refine kg 3 ?_;obtain ⟨bE,aZ,a7⟩:=M.e_bind hM;obtain ⟨aQ,aZ⟩:=M.e_iter aZ;refine W.loop (fun m σ W=>∃ (s3:Nat) (ρ:Env),σ=upds ρ [(4,Pq al),(6,aa),(7,ao),(28,aa),(29,I (r2.length:Int)),(30,I (s3:Int))]/\M.iterN (zcv s_Sections s_Marks s_Reaches r2 l6) m s3=some bE/\St w W [cOwn (α:=Int) 3 ao l6,cOwn (α:=Raw 0) 26 aa ay,cRo aA,cBlk al [ac,ae,ag,.map (some am)] 196,cMemI encSpt am (zaa s_Sections s_Marks s_Reaches),cBlk ax [ac,ae,ag] 35] R) ?_ ?_
 ·exact kY
 rintro cp σ cr ⟨s3,ρ,rfl,bF,H⟩;obtain ⟨ct,cv,cw,hM,a8⟩:=M.e_iterN bF;refine kI 5 ?_ ?_
 ·intro bG hM;obtain ⟨cA,hM⟩:=M.e_gq hM;refine kg 6 ?_;refine s_val (x_ix (v:=vat aa 1 (Int.toNat (s3:Int))) rfl rfl (Sl.ix (α:=List Int) T130.h.und T130.h.size (rowSl rfl (H.get (k:=1) rfl) (roLe _ (H.get (k:=2) rfl)) aj) (by omega) (by omega))) ?_;obtain ⟨aH,bH,aI⟩:=List_at (rowSl rfl (H.get (k:=1) rfl) (roLe _ (H.get (k:=2) rfl)) aj) (i:=(s3:Int)) (by omega) (by omega);replace aI:Sl _ aH (r2.getD s3 ([])):=aI;have cB:=aI.len_le;refine s_val (x_ld (v:=aH) rfl (ld_sc Sc26.h (At.mono (bH) (Cells.sup_le (H.ol 1) (roLe _ (H.get (k:=2) rfl)))))) ?_;have cC:=((rowSl rfl (H.get (k:=1) rfl) (roLe _ (H.get (k:=2) rfl)) aj)).len_le;refine kg 6 ?_;refine s_val (x_lenS T130.h.und rfl (rowSl rfl (H.get (k:=1) rfl) (roLe _ (H.get (k:=2) rfl)) aj)) ?_;refine kg 3 ?_;obtain ⟨bI,ba,bc⟩:=M.e_bind hM;obtain ⟨aQ,ba⟩:=M.e_iter ba;refine W.loop (fun m σ W=>∃ (s2:Nat) (ρ:Env),σ=upds ρ [(4,Pq al),(6,aa),(7,ao),(8,I (s3:Int)),(9,aH),(28,aa),(29,I (r2.length:Int)),(30,I (s3:Int)),(35,aa),(36,I (r2.length:Int)),(37,I (s2:Int))]/\M.iterN (zcW s_Sections s_Marks s_Reaches r2 l6 s3) m s2=some bI/\St w W [cOwn (α:=Int) 3 ao l6,cOwn (α:=Raw 0) 26 aa ay,cRo aA,cBlk al [ac,ae,ag,.map (some am)] 196,cMemI encSpt am (zaa s_Sections s_Marks s_Reaches),cBlk ax [ac,ae,ag] 35] R) ?_ ?_
  ·exact kY
  rintro cD σ cE ⟨s2,ρ,rfl,bJ,H⟩;obtain ⟨cF,cG,cH,hM,bg⟩:=M.e_iterN bJ;refine kI 5 ?_ ?_
  ·intro bK hM;obtain ⟨cI,hM⟩:=M.e_gq hM;refine kg 6 ?_;refine s_val (x_ix (v:=vat aa 1 (Int.toNat (s2:Int))) rfl rfl (Sl.ix (α:=List Int) T130.h.und T130.h.size (rowSl rfl (H.get (k:=1) rfl) (roLe _ (H.get (k:=2) rfl)) aj) (by omega) (by omega))) ?_;obtain ⟨aR,bL,aJ⟩:=List_at (rowSl rfl (H.get (k:=1) rfl) (roLe _ (H.get (k:=2) rfl)) aj) (i:=(s2:Int)) (by omega) (by omega);replace aJ:Sl _ aR (r2.getD s2 ([])):=aJ;have cJ:=aJ.len_le;refine s_val (x_ld (v:=aR) rfl (ld_sc Sc26.h (At.mono (bL) (Cells.sup_le (H.ol 1) (roLe _ (H.get (k:=2) rfl)))))) ?_;refine kg 4 ?_;refine W.draw (fun W=>St w W [cOwn (α:=Int) 3 ao l6,cOwn (α:=Raw 0) 26 aa ay,cRo aA,cBlk al [ac,ae,ag,.map (some am)] 196,cMemI encSpt am (zaa s_Sections s_Marks s_Reaches),cBlk ax [ac,ae,ag] 35] R) [(0,true),(1,true),(2,true),(3,true),(4,true),(5,true),(6,true),(7,true),(8,true),(9,true),(10,true),(11,true),(12,true),(13,true),(14,true),(15,true),(16,true),(17,true),(18,true),(19,true),(20,true),(21,true),(22,true),(23,true),(24,true),(25,true),(26,true),(27,true),(28,true),(29,true),(30,true),(31,true),(32,true),(33,true),(34,true),(35,true),(36,true),(37,false),(38,true)] mixed (by decide +kernel) rfl ?_;intro cK ap;replace H:=H.ext ap;refine ⟨(H.pk [0,1,2,3,4,5]),?_⟩;obtain ⟨aS,hM⟩:=M.e_grd hM;replace aS:=M.imp_of aS;simp only [Bool.and_eq_true,decide_eq_true_eq] at aS;obtain ⟨aT,hM⟩:=M.e_grd hM;replace aT:=M.imp_of aT;simp only [Bool.and_eq_true,decide_eq_true_eq] at aT;obtain ⟨aq,hM⟩:=M.e_grd hM;replace aq:=M.imp_of aq;simp only [Bool.and_eq_true,decide_eq_true_eq] at aq;obtain ⟨au,hM⟩:=M.e_grd hM;replace au:=M.imp_of au;simp only [Bool.and_eq_true,decide_eq_true_eq] at au;refine kg 29 ?_;refine d_qg ((((s3:Int) != (s2:Int))&&(decide ((l6.getD s3 0)<((r2.getD s3 ([])).length:Int))))&&(decide ((l6.getD s2 0)<((r2.getD s2 ([])).length:Int)))) rfl (gy_t rfl) (fun hg=>(fun w' H=>x_ld (v:=I ((r2.getD s3 ([])).getD (Int.toNat (l6.getD s3 0)) 0)) (gd_of hg (vat aH 1 (Int.toNat (l6.getD s3 0)))) (ld_sc Sc3.h (At.mono (Int_at aI (i:=l6.getD s3 0) (by have ah:=aq.resolve_left (by rw [hg]; decide); have ai:=au.resolve_left (by rw [hg]; decide); first | exact ah | exact ah.1 | exact ah.2 | exact ai | exact ai.1 | exact ai.2 | omega | (have ap:=hg; simp at ap; omega)) (by have ah:=aq.resolve_left (by rw [hg]; decide); have ai:=au.resolve_left (by rw [hg]; decide); first | exact ah | exact ah.1 | exact ah.2 | exact ai | exact ai.1 | exact ai.2 | omega | (have ap:=hg; simp at ap; omega))) (Cells.sup_le (H.ol 1) (roLe _ (H.get (k:=2) rfl))))))) ?_;obtain ⟨aE,hM⟩:=M.e_grd hM;replace aE:=M.imp_of aE;simp only [Bool.and_eq_true,decide_eq_true_eq] at aE;obtain ⟨aF,hM⟩:=M.e_grd hM;replace aF:=M.imp_of aF;simp only [Bool.and_eq_true,decide_eq_true_eq] at aF;refine kg 6 ?_;refine d_qg ((((s3:Int) != (s2:Int))&&(decide ((l6.getD s3 0)<((r2.getD s3 ([])).length:Int))))&&(decide ((l6.getD s2 0)<((r2.getD s2 ([])).length:Int)))) rfl (gy_t rfl) (fun hg=>(fun w' H=>x_ld (v:=I ((r2.getD s2 ([])).getD (Int.toNat (l6.getD s2 0)) 0)) (gd_of hg (vat aR 1 (Int.toNat (l6.getD s2 0)))) (ld_sc Sc3.h (At.mono (Int_at aJ (i:=l6.getD s2 0) (by have ah:=aq.resolve_left (by rw [hg]; decide); have ai:=au.resolve_left (by rw [hg]; decide); have av:=aE.resolve_left (by rw [hg]; decide); have aw:=aF.resolve_left (by rw [hg]; decide); first | exact ah | exact ah.1 | exact ah.2 | exact ai | exact ai.1 | exact ai.2 | exact av | exact av.1 | exact av.2 | exact aw | exact aw.1 | exact aw.2 | omega | (have ap:=hg; simp at ap; omega)) (by have ah:=aq.resolve_left (by rw [hg]; decide); have ai:=au.resolve_left (by rw [hg]; decide); have av:=aE.resolve_left (by rw [hg]; decide); have aw:=aF.resolve_left (by rw [hg]; decide); first | exact ah | exact ah.1 | exact ah.2 | exact ai | exact ai.1 | exact ai.2 | exact av | exact av.1 | exact av.2 | exact aw | exact aw.1 | exact aw.2 | omega | (have ap:=hg; simp at ap; omega))) (Cells.sup_le (H.ol 1) (roLe _ (H.get (k:=2) rfl)))))))<|d_l rfl ?_;obtain ⟨r3,bN,hM⟩:=M.e_bind hM;refine t_gcall ((((s3:Int) != (s2:Int))&&(decide ((l6.getD s3 0)<((r2.getD s3 ([])).length:Int))))&&(decide ((l6.getD s2 0)<((r2.getD s2 ([])).length:Int)))) (gy_t rfl) cq (B r3) (fun _=>[Pq al,I ((r2.getD s3 ([])).getD (Int.toNat (l6.getD s3 0)) 0),I ((r2.getD s2 ([])).getD (Int.toNat (l6.getD s2 0)) 0)]) (fun hg=>lst3 (gd_of hg (Pq al)) (gd_of hg (I ((r2.getD s3 ([])).getD (Int.toNat (l6.getD s3 0)) 0))) (gd_of hg (I ((r2.getD s2 ([])).getD (Int.toNat (l6.getD s2 0)) 0)))) H (fun hg=>(zdT s_Sections s_Marks s_Reaches ((r2.getD s3 ([])).getD (Int.toNat (l6.getD s3 0)) 0) ((r2.getD s2 ([])).getD (Int.toNat (l6.getD s2 0)) 0) (aK.app _) aL (aM.app _) aN (aO.app _) aP (Has.here (k:=3) rfl) (M.e_opt bN hg) _ (H.give (A:=[]) rfl)).mono fun v_ w_ ⟨y_,aD,bO,H_⟩=>by subst aD; exact ⟨bO,H.via H_⟩) ?_;intro cL H;refine kN ?_;refine kI 2 ?_ ?_
   ·intro bP hM;obtain ⟨cM,hM⟩:=M.e_gq hM;obtain ⟨cN,hM⟩:=M.e_gq hM;refine kO 8 ((l6.getD s3 0)+1:Int) ?_;intro cO H;refine s_nil ?_;refine W.goto ?_;obtain rfl:=M.e_inr hM bg;replace hM:=bc;obtain rfl:=M.e_inr hM a8;replace hM:=a7;exact ⟨rfl,bC,bD,l6.set s3 ((l6.getD s3 0)+1:Int),ao,_,jQ,M.e_inl hM aY,H⟩
   intro bP hM;exact kX 5
  intro bK hM;refine W.exit ?_;obtain rfl:=M.e_inr hM bg;replace hM:=bc;exact kX 4
 intro bG hM;refine W.exit ?_;obtain rfl:=M.e_inr hM a8;replace hM:=a7;have cQ:=((rowSl rfl (H.get (k:=1) rfl) (roLe _ (H.get (k:=2) rfl)) aj)).len_le;refine kg 8 ?_;refine s_val (x_lenS T130.h.und rfl (rowSl rfl (H.get (k:=1) rfl) (roLe _ (H.get (k:=2) rfl)) aj)) ?_;refine kg 3 ?_;replace H:=H.nilOwn (α:=Int) 3;obtain ⟨bQ,bi,bR⟩:=M.e_bind hM;obtain ⟨aQ,bi⟩:=M.e_iter bi;refine W.loop (fun m σ W=>∃ (s4:Nat) (l3:List Int) (aB:Value) (ρ:Env),σ=upds ρ [(7,ao),(12,aB),(89,aa),(90,I (r2.length:Int)),(91,I (s4:Int))]/\M.iterN (zcY r2 l6) m (s4,l3)=some bQ/\St w W [cOwn (α:=Int) 3 aB l3,cOwn (α:=Int) 3 ao l6,cOwn (α:=Raw 0) 26 aa ay,cRo aA,cBlk al [ac,ae,ag,.map (some am)] 196,cMemI encSpt am (zaa s_Sections s_Marks s_Reaches),cBlk ax [ac,ae,ag] 35] R) ?_ ?_
 ·exact kY
 rintro cS σ cT ⟨s4,l3,aB,ρ,rfl,bS,H⟩;obtain ⟨cU,cV,cW,hM,bT⟩:=M.e_iterN bS;refine kI 5 ?_ ?_
 ·intro bU hM;obtain ⟨cX,hM⟩:=M.e_gq hM;refine kg 6 ?_;refine s_val (x_ix (v:=vat aa 1 (Int.toNat (s4:Int))) rfl rfl (Sl.ix (α:=List Int) T130.h.und T130.h.size (rowSl rfl (H.get (k:=2) rfl) (roLe _ (H.get (k:=3) rfl)) aj) (by omega) (by omega))) ?_;obtain ⟨bj,bV,aG⟩:=List_at (rowSl rfl (H.get (k:=2) rfl) (roLe _ (H.get (k:=3) rfl)) aj) (i:=(s4:Int)) (by omega) (by omega);replace aG:Sl _ bj (r2.getD s4 ([])):=aG;have cY:=aG.len_le;refine s_val (x_ld (v:=bj) rfl (ld_sc Sc26.h (At.mono (bV) (Cells.sup_le (H.ol 2) (roLe _ (H.get (k:=3) rfl)))))) ?_;obtain ⟨cZ,hM⟩:=M.e_gq hM;have c8:=(aG).len_le;refine kI 13 ?_ ?_
  ·intro bW hM;obtain ⟨c9,hM⟩:=M.e_gq hM;refine kg 8 ?_;refine s_val (x_ld (v:=I ((r2.getD s4 ([])).getD (Int.toNat (l6.getD s4 0)) 0)) rfl (ld_sc Sc3.h (At.mono (Int_at aG (i:=l6.getD s4 0) (by omega) (by omega)) (Cells.sup_le (H.ol 2) (roLe _ (H.get (k:=3) rfl)))))) ?_;refine kL 0 (α:=Int) [(r2.getD s4 ([])).getD (Int.toNat (l6.getD s4 0)) 0] ?_;intro da db H;obtain ⟨dc,hM⟩:=M.e_gq hM;refine kP 0 ?_;intro dg dh H;exact kXp 6 [1,2,3,4,5,6,7]
  intro bW hM;exact kX 5
 intro bU hM;refine W.exit ?_;obtain rfl:=M.e_inr hM bT;replace hM:=bR;obtain ⟨di,hM⟩:=M.e_gq hM;refine kg 3 ?_;refine s_call cq [aB] rfl (sort_any (H.get (k:=0) rfl) (by omega)) ?_;rintro _ bX ⟨rfl,bm,bn,bp⟩;replace H:St w bX [cOwn (α:=Int) 3 aB (isort l3),cOwn (α:=Int) 3 ao l6,cOwn (α:=Raw 0) 26 aa ay,cRo aA,cBlk al [ac,ae,ag,.map (some am)] 196,cMemI encSpt am (zaa s_Sections s_Marks s_Reaches),cBlk ax [ac,ae,ag] 35] R:=H.sorted (k:=0) rfl bm bn bp rfl;clear bm bn bp;refine kg 7 ?_;refine W.ret ?_;obtain rfl:=M.e_inr hM aY;replace hM:=bA;have aD:=M.e_pure hM;exact ⟨_,resE_tmp2 rfl,⟨(isort l3),0,aB,aD,rfl,(H.pk [0])⟩⟩

end Go.Proofs.YtaolcidinlnklaaGreat
end
section
set_option maxRecDepth 100000
set_option maxHeartbeats 16000000
namespace Go.Proofs.YtaolcidinlnklaaGreat
open Go Go.Nm
attribute [local irreducible] gd execOp SL SLD SLT WR
def zcZ (s_bytes:List UInt8):(Int × Int × Int × Int × Int × (List FRow))->M ((Int × Int × Int × Int × Int × (List FRow)) ⊕ (Int × Int × (List FRow) × (List FRow))):=fun (s2,s3,s4,carry,k,l) =>
  bif decide (0<k) then (
  M.grd (decide ((l.length+([(⟨(s4:Int),(carry:Int)⟩:FRow)]).length)*16<=140737488355328)) <|
  M.bind (zag s_bytes s2 s3 1 200) fun (r8,aa,ac) =>
  M.gi (s4+r8) <|
  M.bind (zab s_bytes aa ac 2000) fun (r9,ae,ag) =>
  M.gi (carry+r9) <|
  M.gi (k-1) <|
  M.pure (.inl (ae,ag,s4+r8,carry+r9,k-1,l++([(⟨(s4:Int),(carry:Int)⟩:FRow)]))))
  else (
  M.pure (.inr (s2,s3,l,l)))
def zcD (s_bytes:List UInt8) (marks:Int) (lies:Bool) (place stage:Int):(Int × Int × Int × (List Mrk))->M ((Int × Int × Int × (List Mrk)) ⊕ (Int × Int × (List Mrk) × (List Mrk))):=fun (s7,s8,k2,l7) =>
  bif ((decide (0<k2))&&(decide ((l7.length:Int)<marks))) then (
  M.bind (zab s_bytes s7 s8 2) fun (aa,ah,ai) =>
  M.bind (zab s_bytes ah ai 20) fun (ac,aj,al) =>
  M.gi (aa*ac) <|
  M.gi (place+(aa*ac)) <|
  M.bind (zab s_bytes aj al 9) fun (ae,am,ao) =>
  M.gi (stage-ae) <|
  M.bind (zab s_bytes am ao 9) fun (ag,ap,aq) =>
  M.gi (stage+ag) <|
  bif lies then (
  M.fail)
  else (
  M.grd (decide ((l7.length+([(⟨(place+(aa*ac):Int),(max 0 (stage-ae):Int),(stage+ag:Int)⟩:Mrk)]).length)*24<=140737488355328)) <|
  M.gi (k2-1) <|
  M.pure (.inl (ap,aq,k2-1,l7++([(⟨(place+(aa*ac):Int),(max 0 (stage-ae):Int),(stage+ag:Int)⟩:Mrk)])))))
  else (
  M.pure (.inr (s7,s8,l7,l7)))
def zdh (s_bytes:List UInt8) (marks:Int) (lies:Bool) (place stage n:Int) (l9:List Sect) (ae:List Mrk) (ag ah:List Int) (l3:List FRow) (ai aj al:Int):M ((Int × Int × Int × Int × Int × (List Sect) × (List Mrk) × (List Int) × (List Int)) ⊕ (Int × Int × (List Sect) × (List Mrk) × (List Int) × (List Int) × (List Int) × (List Int) × (List Mrk) × (List Sect))) :=
  M.bind (zab s_bytes aj al 3) fun (am,ao,ap) =>
  M.bind (M.iter (zcD s_bytes marks lies place stage) (ao,ap,am,ae)) fun (s9,aq,l5,l8) =>
  M.bind (zag s_bytes s9 aq 21 200) fun (aa,au,av) =>
  M.gi (place+aa) <|
  M.bind (zab s_bytes au av 20) fun (ac,aw,ax) =>
  M.gi (stage-ac) <|
  M.gi (n-1) <|
  M.pure (.inl (aw,ax,place+aa,stage-ac,n-1,l9++([(⟨(place:Int),l3⟩:Sect)]),l8,ag++([(stage:Int)]),ah++([(ai:Int)])))
def zcF (s_bytes:List UInt8) (marks:Int) (lies:Bool):(Int × Int × Int × Int × Int × (List Sect) × (List Mrk) × (List Int) × (List Int))->M ((Int × Int × Int × Int × Int × (List Sect) × (List Mrk) × (List Int) × (List Int)) ⊕ (Int × Int × (List Sect) × (List Mrk) × (List Int) × (List Int) × (List Int) × (List Int) × (List Mrk) × (List Sect))):=fun (ag,ah,place,stage,n,l9,ae,aa,ac) =>
  bif decide (0<n) then (
  M.bind (zab s_bytes ag ah 60) fun (r5,aj,al) =>
  M.bind (zab s_bytes aj al 50) fun (r6,am,ao) =>
  M.bind (zag s_bytes am ao 2 4) fun (r7,ap,aq) =>
  M.bind (M.iter (zcZ s_bytes) (ap,aq,r5,r6,r7,[])) fun (s5,s6,l2,l3) =>
  M.grd (decide ((l9.length+([(⟨(place:Int),l3⟩:Sect)]).length)*32<=140737488355328)) <|
  M.grd (decide ((aa.length+([(stage:Int)]).length)*8<=140737488355328)) <|
  M.bind (zag s_bytes s5 s6 30 90) fun (ai,au,av) =>
  M.grd (decide ((ac.length+([(ai:Int)]).length)*8<=140737488355328)) <|
  zdh s_bytes marks lies place stage n l9 ae aa ac l3 ai au av)
  else (
  M.pure (.inr (ag,ah,l9,ae,aa,ac,ac,aa,ae,l9)))
def zbL (s_bytes:List UInt8) (ac:List Int) (ag:List Sect):(Int × Int × Int × (List Rch))->M ((Int × Int × Int × (List Rch)) ⊕ ((List Rch) × (List Rch) × Int × Int)):=fun (al,am,n2,ah) =>
  bif decide (0<n2) then (
  M.bind (zab s_bytes al am ((ag.length:Int)-1)) fun (aa,ap,aq) =>
  M.bind (zab s_bytes ap aq 4) fun (ao,au,av) =>
  M.gi (((ag.length:Int)-1)-aa) <|
  M.bind (zag s_bytes au av 1 (((ag.length:Int)-1)-aa)) fun (ae,aw,ax) =>
  M.gi (aa+ae) <|
  M.grd (decide ((0:Int)<=aa)&&decide (aa<(ac.length:Int))) <|
  M.grd (decide ((0:Int)<=(aa+ae))&&decide ((aa+ae)<(ac.length:Int))) <|
  M.bind (zab s_bytes aw ax 8) fun (ai,ay,aA) =>
  M.gi ((min (ac.getD (Int.toNat aa) 0) (ac.getD (Int.toNat (aa+ae)) 0))-ai) <|
  M.bind (zab s_bytes ay aA 8) fun (aj,aB,aC) =>
  M.gi ((max (ac.getD (Int.toNat aa) 0) (ac.getD (Int.toNat (aa+ae)) 0))+aj) <|
  M.grd (decide ((ah.length+([(⟨(aa:Int),(aa+ae:Int),((min (ac.getD (Int.toNat aa) 0) (ac.getD (Int.toNat (aa+ae)) 0))-ai:Int),((max (ac.getD (Int.toNat aa) 0) (ac.getD (Int.toNat (aa+ae)) 0))+aj:Int),(ao==0)⟩:Rch)]).length)*40<=140737488355328)) <|
  M.gi (n2-1) <|
  M.pure (.inl (aB,aC,n2-1,ah++([(⟨(aa:Int),(aa+ae:Int),((min (ac.getD (Int.toNat aa) 0) (ac.getD (Int.toNat (aa+ae)) 0))-ai:Int),((max (ac.getD (Int.toNat aa) 0) (ac.getD (Int.toNat (aa+ae)) 0))+aj:Int),(ao==0)⟩:Rch)]))))
  else (
  M.pure (.inr (ah,ah,al,am)))
def zaD (s_bytes:List UInt8) (ae ag:Int) (aa ah:List Int) (ac:List Sect) (ai:List Mrk):M ((List Sect) × (List Mrk) × (List Rch) × (List Int) × (List Int) × Int × Int) :=
  M.bind (zag s_bytes ae ag 1 4) fun (aj,al,am) =>
  M.bind (M.iter (zbL s_bytes aa ac) (al,am,aj,[])) fun (au,ao,ap,aq) =>
  M.pure (ac,ai,ao,ah,aa,ap,aq)
def zb7 (s_bytes:List UInt8) (s_used s_mix marks:Int) (lies:Bool):M ((List Sect) × (List Mrk) × (List Rch) × (List Int) × (List Int) × Int × Int) :=
  M.bind (zab s_bytes s_used s_mix 50) fun (r2,q1,q2) =>
  M.bind (zag s_bytes q1 q2 100 400) fun (r3,aj,al) =>
  M.bind (zag s_bytes aj al 2 5) fun (r4,am,ao) =>
  M.bind (M.iter (zcF s_bytes marks lies) (am,ao,r2,r3,r4,[],[],[],[])) fun (ag,ah,ap,aq,au,av,ai,aa,ae,ac) =>
  bif (ae.length:Int)==0 then (
  M.grd (decide (0<(ac.length:Int))) <|
  M.grd (decide (0<(aa.length:Int))) <|
  M.gi ((aa.getD 0 0)-5) <|
  M.gi ((aa.getD 0 0)+5) <|
  M.grd (decide ((ae.length+([(⟨((ac.getD 0 default).place:Int),((aa.getD 0 0)-5:Int),((aa.getD 0 0)+5:Int)⟩:Mrk)]).length)*24<=140737488355328)) <|
  zaD s_bytes ag ah ai aa ac (ae++([(⟨((ac.getD 0 default).place:Int),((aa.getD 0 0)-5:Int),((aa.getD 0 0)+5:Int)⟩:Mrk)])))
  else (
  zaD s_bytes ag ah ai aa ac ae)
theorem zhm {R ac bB aD}(s_bytes s_used s_mix marks lies)(ae:Reads R bB)(ag:Sl bB aD s_bytes){r}(hM:(zb7 s_bytes s_used s_mix marks lies).Ends r)(w)(H:St w w [cBlk ac [aD,I s_used,I s_mix] 100] R):Ret Tryz.prog 6 #[Pq ac,I marks,B lies] w fun v w'=>∃ y0 y1 y2 y3 y4 y5 y6 u0 rr1 bC u3 u4 u5 u6,(y0,y1,y2,y3,y4,y5,y6)=r/\v = .tuple #[.agg #[u0,u3,u4],.agg #[u5,u6]]/\St w w' [cOwn (α:=Raw 1) 103 u0 rr1,cRo bC,cOwn (α:=Mrk) 49 u3 y1,cOwn (α:=Rch) 53 u4 y2,cOwn (α:=Int) 3 u5 y3,cOwn (α:=Int) 3 u6 y4,cBlk ac [aD,I y5,I y6] 100] R/\RepR (α:=Sect) bC.cells rr1 y0:=by
 refine ret_of_W Tryz.func6 rfl rfl rfl ?_;refine kA 2 ?_;intro ao eu H;refine kal ?_;intro ap ew H;refine kA 3 ?_;intro aq ey H;refine kA 3 ?_;intro au eA H;refine kg 4 ?_;obtain ⟨eB,bR,hM⟩:=M.e_bind hM;refine s_call cq [Pq ac,I 50] rfl (zad s_bytes s_used s_mix 50 (ae.app _) ag bR _ ((H.pk [4,0,1,2,3]).gt 4)) ?_;rintro _ eC ⟨r2,q1,q2,rfl,rfl,aa⟩;replace H:=H.pk [4,0,1,2,3] |>.bk aa
 refine kC 1 @zaf ?_;intro eD r3 eE eF hM H;refine kC 7 @zaf ?_;intro eG r4 bS bT hM H;refine kg 3 ?_;obtain ⟨bD,H⟩:=H.emptyE;replace H:=H.nilOwn (α:=Raw 1) 103;have bU:RepR (α:=Sect) (n:=1) bD.cells [] []:=.nil;replace H:=H.nilOwn (α:=Mrk) 49;replace H:=H.nilOwn (α:=Int) 3;replace H:=H.nilOwn (α:=Int) 3;obtain ⟨bV,bi,bW⟩:=M.e_bind hM;obtain ⟨bj,bi⟩:=M.e_iter bi;refine W.loop (fun m σ W=>∃ (aK:Int) (aL:Int) (place:Int) (stage:Int) (n:Int) (l9:List Sect) (aG:List Mrk) (aj:List Int) (ai:List Int) (aw:Value) (aH:Value) (aE:Value) (aF:Value) (al:List (Raw 1)) (B_l9:Base) (ρ:Env),σ=upds ρ [(0,Pq ac),(1,I marks),(2,B lies),(6,Pq ao),(7,Pq ap),(8,Pq aq),(9,Pq au),(10,I place),(11,I stage),(12,I n)]/\M.iterN (zcF s_bytes marks lies) m (aK,aL,place,stage,n,l9,aG,aj,ai)=some bV/\St w W [cOwn (α:=Int) 3 aF ai,cOwn (α:=Int) 3 aE aj,cOwn (α:=Mrk) 49 aH aG,cOwn (α:=Raw 1) 103 aw al,cRo B_l9,cBlk ac [aD,I aK,I aL] 100,cBlk au [aE,aF] 37,cBlk aq [aw,aH,.slice none 0 0] 35,cBlk ap [.slice none 0 0,.slice none 0 0] 37,cBlk ao [.slice none 0 0,.slice none 0 0,.slice none 0 0] 35] R/\RepR (α:=Sect) B_l9.cells al l9) ?_ ?_
 ·exact ⟨_,bS,bT,r2,r3,r4,[],[],[],[],(.slice none 0 0),(.slice none 0 0),(.slice none 0 0),(.slice none 0 0),[],bD,_,jQ,bi,H,bU⟩
 rintro eH σ eI ⟨aK,aL,place,stage,n,l9,aG,aj,ai,aw,aH,aE,aF,al,B_l9,ρ,rfl,bX,H,ah⟩;obtain ⟨bY,bZ,b7,hM,bE⟩:=M.e_iterN bX;refine kI 6 ?_ ?_
 ·intro b8 hM;refine kA 7 ?_;intro bm eJ H;refine ksw ?_;intro eK H;refine kg 4 ?_;obtain ⟨eL,b9,hM⟩:=M.e_bind hM;refine s_call cq [Pq ac,I 60] rfl (zad s_bytes aK aL 60 (ae.app _) ag b9 _ ((H.pk [6,0,1,2,3,4,5,7,8,9,10]).gt 10)) ?_;rintro _ eM ⟨r5,cb,cc,rfl,rfl,aa⟩;replace H:=H.pk [6,0,1,2,3,4,5,7,8,9,10] |>.bk aa
  refine kg 1 ?_;obtain ⟨eN,ce,hM⟩:=M.e_bind hM;refine s_call cq [Pq ac,I 50] rfl (zad s_bytes cb cc 50 (ae.app _) ag ce _ (H.gt 10)) ?_;rintro _ eO ⟨r6,cf,cg,rfl,rfl,aa⟩;replace H:=H.bk aa;refine kg 7 ?_;obtain ⟨eP,ch,hM⟩:=M.e_bind hM;refine s_call cq [Pq ac,I 2,I 4] rfl (zaf s_bytes cf cg 2 4 (ae.app _) ag ch _ (H.gt 10)) ?_;rintro _ eQ ⟨r7,eR,eS,rfl,rfl,aa⟩;replace H:=H.bk aa;refine kg 3 ?_;replace H:=H.nilOwn (α:=FRow) 105;obtain ⟨cj,bF,ck⟩:=M.e_bind hM;obtain ⟨bj,bF⟩:=M.e_iter bF;refine W.loop (fun m σ W=>∃ (s2:Int) (s3:Int) (s4:Int) (carry:Int) (k:Int) (l:List FRow) (ay:Value) (ρ:Env),σ=upds ρ [(0,Pq ac),(1,I marks),(2,B lies),(6,Pq ao),(7,Pq ap),(8,Pq aq),(9,Pq au),(10,I place),(11,I stage),(12,I n),(13,Pq bm),(14,I s4),(15,I carry),(16,I k)]/\M.iterN (zcZ s_bytes) m (s2,s3,s4,carry,k,l)=some cj/\St w W [cOwn (α:=FRow) 105 ay l,cBlk ac [aD,I s2,I s3] 100,cBlk bm [I place,ay] 103,cOwn (α:=Int) 3 aF ai,cOwn (α:=Int) 3 aE aj,cOwn (α:=Mrk) 49 aH aG,cOwn (α:=Raw 1) 103 aw al,cRo B_l9,cBlk au [aE,aF] 37,cBlk aq [aw,aH,.slice none 0 0] 35,cBlk ap [.slice none 0 0,.slice none 0 0] 37,cBlk ao [.slice none 0 0,.slice none 0 0,.slice none 0 0] 35] R) ?_ ?_
  ·exact kY
  rintro eT σ eU ⟨s2,s3,s4,carry,k,l,ay,ρ,rfl,cn,H⟩;obtain ⟨eV,eW,eX,hM,cp⟩:=M.e_iterN cn;refine kI 6 ?_ ?_
  ·intro cr hM;refine kL 10 (α:=FRow) [⟨s4,carry⟩] ?_;intro eY eZ H;obtain ⟨e7,hM⟩:=M.e_gq hM;refine kP 0 ?_;intro e8 e9 H;refine kS 1 ?_;intro fd H;refine kg 4 ?_;obtain ⟨fg,ct,hM⟩:=M.e_bind hM;refine s_call cq [Pq ac,I 1,I 200] rfl (zaf s_bytes s2 s3 1 200 (ae.app _) ag ct _ ((H.pk [2,0,1,3,4,5,6,7,8,9,10,11,12]).gt 12)) ?_;rintro _ fh ⟨r8,cv,cw,rfl,rfl,aa⟩;replace H:=H.pk [2,0,1,3,4,5,6,7,8,9,10,11,12] |>.bk aa
   obtain ⟨fi,hM⟩:=M.e_gq hM;refine kg 3 ?_;obtain ⟨fj,cA,hM⟩:=M.e_bind hM;refine s_call cq [Pq ac,I 2000] rfl (zad s_bytes cv cw 2000 (ae.app _) ag cA _ (H.gt 12)) ?_;rintro _ fk ⟨r9,fm,fo,rfl,rfl,aa⟩;replace H:=H.bk aa;obtain ⟨fp,hM⟩:=M.e_gq hM;obtain ⟨fq,hM⟩:=M.e_gq hM;exact kXp 9 [2,0,3,4,5,6,7,8,9,10,11,12]
  intro cr hM;refine W.exit ?_;obtain rfl:=M.e_inr hM cp;replace hM:=ck;refine W.seqJ (fun σ W=>∃ (am:Int) (aA:Int) (aB:Int) (bG:Value) (bH:Value) (ax:Base) (bI:Value) (bn:List (Raw 1)) (aC:Base) (aM:Base) (aN:Base) (aO:Value) (aP:Value) (aQ:Value) (aR:List (Raw 1)) (ρ:Env),σ=upds ρ [(0,Pq ac),(1,I marks),(2,B lies),(6,Pq ao),(7,Pq ap),(8,Pq aq),(9,Pq au),(10,I place),(11,I stage),(12,I n)]/\(zdh s_bytes marks lies place stage n l9 aG aj ai l am aA aB).Ends b7/\St w W [cOwn (α:=Int) 3 bG ([(am:Int)]),cBlk ac [aD,I aA,I aB] 100,cOwn (α:=Int) 3 bH ([(stage:Int)]),cRo ax,cOwn (α:=Raw 1) 103 bI bn,cRo aC,cRo aM,cRo aN,cBlk bm [I place,ay] 103,cOwn (α:=Int) 3 aO (ai++([(am:Int)])),cOwn (α:=Int) 3 aP (aj++([(stage:Int)])),cOwn (α:=Mrk) 49 aH aG,cOwn (α:=Raw 1) 103 aQ aR,cRo B_l9,cBlk au [aP,aO] 37,cBlk aq [aQ,aH,.slice none 0 0] 35,cBlk ap [.slice none 0 0,.slice none 0 0] 37,cBlk ao [.slice none 0 0,.slice none 0 0,.slice none 0 0] 35] R/\RepR (α:=Sect) aC.cells bn ([(⟨(place:Int),l⟩:Sect)])/\RepR (α:=Sect) ax.cells aR (l9++([(⟨(place:Int),l⟩:Sect)]))) ?_ ?_
  ·refine kDS 0 [2,5,7,8,9,10,11] (.q 0 (.q 1 (.q 2 (.q 5 (.q 6 (.q 7 (.q 10 (.q 11 (.q 12 (.l2 3 (.l2 4 (.q 16 (.l 8 (.l 9 (.l 13 (.l 14 (.l 15 .nil)))))) 8 (.l 4 (.q 16 (.l 9 (.l 13 (.l 14 (.l 15 .nil))))))) 8 (.l 3 (.l 4 (.q 16 (.l 9 (.l 13 (.l 14 (.l 15 .nil))))))))))))))))) 17 [17,18,19,20,21] ?_;intro fu H;refine kg 9 ?_;refine ts_l2 rfl rfl ?_ ?_
   ·obtain ⟨aM,H⟩:=H.emptyE;obtain ⟨aN,H,cB⟩:=H.freezeE (k:=1) rfl;replace H:=H.nf;have aT:=cB;obtain ⟨aC,H,fv,cC⟩:=H.joinE (i:=0) (j:=1) rfl rfl;replace aT:=aT.mono cC;obtain ⟨av,bJ⟩:∃ r:Raw 1,r.cs=[I place,ay]:=⟨Raw.of [I place,ay] rfl (by simp only [List.all_cons,List.all_nil,Bool.true_and,Bool.and_true,Sl.oc aT]; try rfl),rfl⟩
    have aU:RepR (α:=Sect) aC.cells [av] [(⟨(place:Int),l⟩:Sect)]:=.cons (by rw [bJ]; exact ⟨_,rfl,aT⟩)<|.nil
    refine t_bs (α:=Raw 1) T31.h [.agg #[I place,ay]] [av] H rfl (.cons (by rw [show (Flat.enc av:List Value)=av.cs from rfl,bJ]; rfl) (Flat.rep_enc _ _)<|.nil) rfl rfl rfl ?_;intro aV fw H;replace H:=H.nf;refine kN ?_;refine ts_l2 rfl rfl ?_ ?_
    ·obtain ⟨fy,hM⟩:=M.e_gq hM;have aW:=aU;obtain ⟨ax,H,cD,cE⟩:=H.joinE (i:=10) (j:=1) rfl rfl;replace ah:=ah.mono cD;replace aW:=aW.mono cE;have bp:=ah.app aW;refine t_app (α:=Raw 1) (k:=10) (l:=al) (l2:=[av]) (l':=al++([av])) (vy:=aV) T31.h rfl H rfl rfl rfl (H.os 1) (H.ol 1) (rfl) (by have a_:=ah.len; have b_:=aW.len; (try simp only [List.length_nil] at *); first | omega | (rw [a_,b_]; omega)) ?_;intro br fA H;replace H:=H.nf;refine kN ?_;refine kL 2 (α:=Int) [stage] ?_;intro cF fB H;refine kN ?_;refine ts_l rfl ?_;obtain ⟨fC,hM⟩:=M.e_gq hM;refine kP 0 ?_;intro cG fD H;refine kN ?_;refine ts_l rfl ?_;obtain ⟨fE,cH,hM⟩:=M.e_bind hM;refine s_call cq [Pq ac,I 30,I 90] rfl (zaf s_bytes s2 s3 30 90 (ae.app _) ag cH _ ((H.pk [6,0,1,2,3,4,5,7,8,9,10,11,12,13,14,15,16]).gt 16)) ?_;rintro _ fG ⟨am,aA,aB,rfl,rfl,aa⟩;replace H:=H.pk [6,0,1,2,3,4,5,7,8,9,10,11,12,13,14,15,16] |>.bk aa
     refine kN ?_;refine kL 1 (α:=Int) [am] ?_;intro cI fH H;refine kN ?_;refine ts_l rfl ?_;obtain ⟨fI,hM⟩:=M.e_gq hM;refine kP 0 ?_;intro cJ fJ H;refine kN ?_;refine kg 1 ?_;refine sr_l rfl ?_;refine t_sw 15 0 [br] br H rfl rfl Sz31.h (Sl.cells (rowSl rfl (H.get (k:=12) rfl) (roLe _ (H.get (k:=3) rfl)) bp)) rfl rfl (by simp only [List.all_cons,List.all_nil,Bool.true_and,Bool.and_true,Sl.oc (rowSl rfl (H.get (k:=12) rfl) (roLe _ (H.get (k:=3) rfl)) bp)]; try rfl) ?_;intro fK H;refine s_nil ⟨trivial,?_⟩;refine kG 2 ?_;refine s_nil ⟨trivial,?_⟩;refine kS 1 ?_;intro fL H;refine s_nil ⟨trivial,?_⟩;refine kG 2 ?_;refine s_nil ⟨trivial,?_⟩;refine kS 1 ?_;intro fM H;refine s_nil ⟨trivial,?_⟩;refine sr_nil ?_;exact ⟨am,aA,aB,cI,cF,ax,aV,[av],aC,aM,aN,cJ,cG,br,al++([av]),_,jQ,hM,H,aU,bp⟩
    refine kL 0 (α:=Int) [stage] ?_;intro cK fN H;refine kN ?_;refine ts_l rfl ?_;obtain ⟨fO,hM⟩:=M.e_gq hM;have aX:=aU;obtain ⟨ax,H,cL,cM⟩:=H.joinE (i:=11) (j:=2) rfl rfl;replace ah:=ah.mono cL;replace aX:=aX.mono cM;have bt:=ah.app aX;refine t_app (α:=Raw 1) (k:=11) (l:=al) (l2:=[av]) (l':=al++([av])) (vy:=aV) T31.h rfl H rfl rfl rfl (H.os 2) (H.ol 2) (rfl) (by have a_:=ah.len; have b_:=aX.len; (try simp only [List.length_nil] at *); first | omega | (rw [a_,b_]; omega)) ?_;intro bu fP H;replace H:=H.nf;refine kN ?_;refine kG 2 ?_;obtain ⟨fQ,hM⟩:=M.e_gq hM;refine kP 0 ?_;intro cN fR H;refine kN ?_;refine ts_l rfl ?_;obtain ⟨fS,cO,hM⟩:=M.e_bind hM;refine s_call cq [Pq ac,I 30,I 90] rfl (zaf s_bytes s2 s3 30 90 (ae.app _) ag cO _ ((H.pk [6,0,1,2,3,4,5,7,8,9,10,11,12,13,14,15,16]).gt 16)) ?_;rintro _ fT ⟨am,aA,aB,rfl,rfl,aa⟩;replace H:=H.pk [6,0,1,2,3,4,5,7,8,9,10,11,12,13,14,15,16] |>.bk aa
    refine kN ?_;refine kL 1 (α:=Int) [am] ?_;intro cQ fU H;refine kN ?_;refine ts_l rfl ?_;obtain ⟨fV,hM⟩:=M.e_gq hM;refine kP 0 ?_;intro cS fW H;refine kN ?_;refine kg 1 ?_;refine sr_l rfl ?_;refine t_sw 15 0 [bu] bu H rfl rfl Sz31.h (Sl.cells (rowSl rfl (H.get (k:=12) rfl) (roLe _ (H.get (k:=2) rfl)) bt)) rfl rfl (by simp only [List.all_cons,List.all_nil,Bool.true_and,Bool.and_true,Sl.oc (rowSl rfl (H.get (k:=12) rfl) (roLe _ (H.get (k:=2) rfl)) bt)]; try rfl) ?_;intro fX H;refine s_nil ⟨trivial,?_⟩;refine kG 2 ?_;refine s_nil ⟨trivial,?_⟩;refine kS 1 ?_;intro fY H;refine s_nil ⟨trivial,?_⟩;refine kG 2 ?_;refine s_nil ⟨trivial,?_⟩;refine kS 1 ?_;intro fZ H;refine s_nil ⟨trivial,?_⟩;refine sr_nil ?_;exact ⟨am,aA,aB,cQ,cK,ax,aV,[av],aC,aM,aN,cS,cN,bu,al++([av]),_,jQ,hM,(H.pk [0,1,3,2,4,5,6,7,8,9,10,11,12,13,14,15,16,17]),aU,bt⟩
   refine kL 0 (α:=Int) [stage] ?_;intro cT f4 H;refine kN ?_;refine ts_l rfl ?_;obtain ⟨aM,H⟩:=H.emptyE;obtain ⟨aN,H,cU⟩:=H.freezeE (k:=2) rfl;replace H:=H.nf;have aY:=cU;obtain ⟨aC,H,f6,cV⟩:=H.joinE (i:=0) (j:=2) rfl rfl;replace aY:=aY.mono cV;obtain ⟨aI,bK⟩:∃ r:Raw 1,r.cs=[I place,ay]:=⟨Raw.of [I place,ay] rfl (by simp only [List.all_cons,List.all_nil,Bool.true_and,Bool.and_true,Sl.oc aY]; try rfl),rfl⟩
   have bL:RepR (α:=Sect) aC.cells [aI] [(⟨(place:Int),l⟩:Sect)]:=.cons (by rw [bK]; exact ⟨_,rfl,aY⟩)<|.nil
   refine t_bs (α:=Raw 1) T31.h [.agg #[I place,ay]] [aI] H rfl (.cons (by rw [show (Flat.enc aI:List Value)=aI.cs from rfl,bK]; rfl) (Flat.rep_enc _ _)<|.nil) rfl rfl rfl ?_;intro bN f9 H;replace H:=H.nf;refine kN ?_;refine ts_l rfl ?_;obtain ⟨ga,hM⟩:=M.e_gq hM;have aZ:=bL;obtain ⟨ax,H,cW,cX⟩:=H.joinE (i:=11) (j:=1) rfl rfl;replace ah:=ah.mono cW;replace aZ:=aZ.mono cX;have bv:=ah.app aZ;refine t_app (α:=Raw 1) (k:=11) (l:=al) (l2:=[aI]) (l':=al++([aI])) (vy:=bN) T31.h rfl H rfl rfl rfl (H.os 1) (H.ol 1) (rfl) (by have a_:=ah.len; have b_:=aZ.len; (try simp only [List.length_nil] at *); first | omega | (rw [a_,b_]; omega)) ?_;intro bw gc H;replace H:=H.nf;refine kN ?_;refine kG 2 ?_;obtain ⟨gf,hM⟩:=M.e_gq hM;refine kP 0 ?_;intro cY gg H;refine kN ?_;refine ts_l rfl ?_;obtain ⟨gh,cZ,hM⟩:=M.e_bind hM;refine s_call cq [Pq ac,I 30,I 90] rfl (zaf s_bytes s2 s3 30 90 (ae.app _) ag cZ _ ((H.pk [6,0,1,2,3,4,5,7,8,9,10,11,12,13,14,15,16]).gt 16)) ?_;rintro _ gi ⟨am,aA,aB,rfl,rfl,aa⟩;replace H:=H.pk [6,0,1,2,3,4,5,7,8,9,10,11,12,13,14,15,16] |>.bk aa
   refine kN ?_;refine kL 1 (α:=Int) [am] ?_;intro c8 gj H;refine kN ?_;refine ts_l rfl ?_;obtain ⟨gk,hM⟩:=M.e_gq hM;refine kP 0 ?_;intro c9 gm H;refine kN ?_;refine kg 1 ?_;refine sr_l rfl ?_;refine t_sw 15 0 [bw] bw H rfl rfl Sz31.h (Sl.cells (rowSl rfl (H.get (k:=12) rfl) (roLe _ (H.get (k:=2) rfl)) bv)) rfl rfl (by simp only [List.all_cons,List.all_nil,Bool.true_and,Bool.and_true,Sl.oc (rowSl rfl (H.get (k:=12) rfl) (roLe _ (H.get (k:=2) rfl)) bv)]; try rfl) ?_;intro gn H;refine s_nil ⟨trivial,?_⟩;refine kG 2 ?_;refine s_nil ⟨trivial,?_⟩;refine kS 1 ?_;intro gp H;refine s_nil ⟨trivial,?_⟩;refine kG 2 ?_;refine s_nil ⟨trivial,?_⟩;refine kS 1 ?_;intro gr H;refine s_nil ⟨trivial,?_⟩;refine sr_nil ?_;exact ⟨am,aA,aB,c8,cT,ax,bN,[aI],aC,aM,aN,c9,cY,bw,al++([aI]),_,jQ,hM,(H.pk [0,1,6,2,3,4,5,7,8,9,10,11,12,13,14,15,16,17]),bL,bv⟩
  rintro _ gu ⟨am,aA,aB,bG,bH,ax,bI,bn,aC,aM,aN,aO,aP,aQ,aR,ρ,rfl,hM,H,gv,da⟩;unfold zdh at hM;refine kg 4 ?_;obtain ⟨gw,db,hM⟩:=M.e_bind hM;refine s_call cq [Pq ac,I 3] rfl (zad s_bytes aA aB 3 (ae.app _) ag db _ ((H.pk [1,0,2,3,4,5,6,7,8,9,10,11,12,13,14,15,16,17]).gt 17)) ?_;rintro _ gx ⟨gy,gz,gA,rfl,rfl,aa⟩;replace H:=H.pk [1,0,2,3,4,5,6,7,8,9,10,11,12,13,14,15,16,17] |>.bk aa
  refine kg 2 ?_;replace H:=H.pk [0,3,9,10,11,12,13,14,15,16,17];refine W.block ?_;obtain ⟨dc,bO,dg⟩:=M.e_bind hM;obtain ⟨bj,bO⟩:=M.e_iter bO;refine W.loop (fun m σ W=>∃ (s7:Int) (s8:Int) (k2:Int) (l7:List Mrk) (a7:Value) (ρ:Env),σ=upds ρ [(0,Pq ac),(1,I marks),(2,B lies),(6,Pq ao),(7,Pq ap),(8,Pq aq),(9,Pq au),(10,I place),(11,I stage),(12,I n),(17,I k2)]/\M.iterN (zcD s_bytes marks lies place stage) m (s7,s8,k2,l7)=some dc/\St w W [cBlk ac [aD,I s7,I s8] 100,cRo ax,cOwn (α:=Int) 3 aO (ai++([(am:Int)])),cOwn (α:=Int) 3 aP (aj++([(stage:Int)])),cOwn (α:=Mrk) 49 a7 l7,cOwn (α:=Raw 1) 103 aQ aR,cRo B_l9,cBlk au [aP,aO] 37,cBlk aq [aQ,a7,.slice none 0 0] 35,cBlk ap [.slice none 0 0,.slice none 0 0] 37,cBlk ao [.slice none 0 0,.slice none 0 0,.slice none 0 0] 35] R) ?_ ?_
  ·exact kY
  rintro gB σ gC ⟨s7,s8,k2,l7,a7,ρ,rfl,dh,H⟩;obtain ⟨gD,gE,gF,hM,di⟩:=M.e_iterN dh;refine kI 13 ?_ ?_
  ·intro dj hM;refine kg 7 ?_;obtain ⟨gG,dk,hM⟩:=M.e_bind hM;refine s_call cq [Pq ac,I 2] rfl (zad s_bytes s7 s8 2 (ae.app _) ag dk _ (H.gt 10)) ?_;rintro _ gH ⟨dm,dq,dr,rfl,rfl,aa⟩;replace H:=H.bk aa;refine kg 1 ?_;obtain ⟨gI,dt,hM⟩:=M.e_bind hM;refine s_call cq [Pq ac,I 20] rfl (zad s_bytes dq dr 20 (ae.app _) ag dt _ (H.gt 10)) ?_;rintro _ gJ ⟨dv,dw,dx,rfl,rfl,aa⟩;replace H:=H.bk aa;obtain ⟨gK,hM⟩:=M.e_gq hM;obtain ⟨gL,hM⟩:=M.e_gq hM;refine kg 4 ?_;obtain ⟨gM,dy,hM⟩:=M.e_bind hM;refine s_call cq [Pq ac,I 9] rfl (zad s_bytes dw dx 9 (ae.app _) ag dy _ (H.gt 10)) ?_;rintro _ gN ⟨dz,dA,dB,rfl,rfl,aa⟩;replace H:=H.bk aa;obtain ⟨gO,hM⟩:=M.e_gq hM;refine kg 4 ?_;obtain ⟨gP,dC,hM⟩:=M.e_bind hM;refine s_call cq [Pq ac,I 9] rfl (zad s_bytes dA dB 9 (ae.app _) ag dC _ (H.gt 10)) ?_;rintro _ gQ ⟨dD,gR,gS,rfl,rfl,aa⟩;replace H:=H.bk aa;obtain ⟨gT,hM⟩:=M.e_gq hM;refine kA 3 ?_;intro gU gV H;refine ksw ?_;intro gW H;refine kg 7 ?_;refine g_splitV lies (I 0) (gy_t rfl) (fun a8=>?_) (fun a8=>?_)
   ·replace hM:=M.e_t hM a8;exact (M.e_fail hM).elim
   replace hM:=M.e_f hM a8;refine g_val (v:=B false) lies (gy_t rfl) (fun hg=>Bool.noConfusion (a8.symm.trans hg))<|s_val (x_pand0 (b:=lies) rfl (fun hb=>gd_of (c:=lies) (by first | exact hb | (rw [hb]; rfl) | simp_all) (B false)) rfl)<|s_nil ?_
   refine W.cond false rfl (fun bP=>?_) (fun bP=>?_)
   ·exact absurd bP (by decide)
   refine kL 5 (α:=Mrk) [⟨place+(dm*dv),max 0 (stage-dz),stage+dD⟩] ?_;intro gX gY H;obtain ⟨gZ,hM⟩:=M.e_gq hM;refine kP 0 ?_;intro hG hO H;refine kS 1 ?_;intro hZ H;refine s_nil ?_;replace H:=H.pk [2,3,4,5,6,7,8,9,10,11,12];obtain ⟨h9,hM⟩:=M.e_gq hM;exact kX 5
  intro dj hM;refine W.exit ?_;obtain rfl:=M.e_inr hM di;replace hM:=dg;refine kg 3 ?_;obtain ⟨ia,dE,hM⟩:=M.e_bind hM;refine s_call cq [Pq ac,I 21,I 200] rfl (zaf s_bytes s7 s8 21 200 (ae.app _) ag dE _ (H.gt 10)) ?_;rintro _ ib ⟨dF,dG,dH,rfl,rfl,aa⟩;replace H:=H.bk aa;obtain ⟨ic,hM⟩:=M.e_gq hM;refine kg 3 ?_;obtain ⟨ie,dJ,hM⟩:=M.e_bind hM;refine s_call cq [Pq ac,I 20] rfl (zad s_bytes dG dH 20 (ae.app _) ag dJ _ (H.gt 10)) ?_;rintro _ ig ⟨dK,dL,dM,rfl,rfl,aa⟩;replace H:=H.bk aa;obtain ⟨ii,hM⟩:=M.e_gq hM;obtain ⟨ik,hM⟩:=M.e_gq hM;refine kg 9 ?_;exact ⟨bY,bZ,dL,dM,place+dF,stage-dK,n-1,l9++([(⟨(place:Int),l⟩:Sect)]),l7,aj++([(stage:Int)]),ai++([(am:Int)]),aQ,a7,aP,aO,aR,ax,_,jQ,M.e_inl hM bE,(H.pk [2,3,4,5,1,0,7,8,9,10]),da⟩
 intro b8 hM;refine W.exit ?_;obtain rfl:=M.e_inr hM bE;replace hM:=bW;refine W.seqJ (fun σ W=>∃ (ba:List Mrk) (aS:Value) (ρ:Env),σ=upds ρ [(0,Pq ac),(6,Pq ao),(7,Pq ap),(8,Pq aq),(9,Pq au)]/\(zaD s_bytes aK aL ai aj l9 ba).Ends r/\St w W [cOwn (α:=Int) 3 aF ai,cOwn (α:=Int) 3 aE aj,cOwn (α:=Mrk) 49 aS ba,cOwn (α:=Raw 1) 103 aw al,cRo B_l9,cBlk ac [aD,I aK,I aL] 100,cBlk au [aE,aF] 37,cBlk aq [aw,aS,.slice none 0 0] 35,cBlk ap [.slice none 0 0,.slice none 0 0] 37,cBlk ao [.slice none 0 0,.slice none 0 0,.slice none 0 0] 35] R) ?_ ?_
 ·have il:=((H.os 2)).len_le;refine kI 7 ?_ ?_
  ·intro dN hM;refine kDS 0 [0,1,3,4,5,6,7,8,9] (.q 0 (.q 1 (.q 2 (.q 3 (.q 4 (.q 5 (.q 6 (.q 7 (.q 8 (.q 9 (.q 10 (.q 11 (.q 12 (.q 13 (.q 14 (.q 15 (.q 16 (.q 17 (.q 18 (.l 19 (.l 20 (.q 21 .nil)))))))))))))))))))))) 22 [22] ?_;intro im H;obtain ⟨io,hM⟩:=M.e_gq hM;refine kg 4 ?_;refine ts_q rfl (fun w' H=>x_ix (v:=vat aw 2 (Int.toNat 0)) rfl rfl (Sl.ix (α:=Sect) T31.h.und T31.h.size (rowSl rfl (H.get (k:=2) rfl) (roLe _ (H.get (k:=3) rfl)) ah) (by omega) (by omega))) ?_;refine ts_q rfl (fun w' H=>x_fa (v:=fat (vat aw 2 (Int.toNat 0)) 0) rfl (fa_pl Fd103_0.h Sz3.h (Sl.pl (i:=0) (rowSl rfl (H.get (k:=2) rfl) (roLe _ (H.get (k:=3) rfl)) ah) (by omega) (by omega)))) ?_;refine ts_q rfl (fun w' H=>x_ld (v:=I ((l9.getD 0 default).place)) rfl (ld_sc Sc3.h (At.mono (Sect_at0 (rowSl rfl (H.get (k:=2) rfl) (roLe _ (H.get (k:=3) rfl)) ah) (i:=0) (by omega) (by omega)) (Cells.sup_le (H.ol 2) (roLe _ (H.get (k:=3) rfl)))))) ?_;obtain ⟨iq,hM⟩:=M.e_gq hM;obtain ⟨ir,hM⟩:=M.e_gq hM;obtain ⟨iw,hM⟩:=M.e_gq hM;refine kL 13 (α:=Mrk) [⟨(l9.getD 0 default).place,(aj.getD 0 0)-5,(aj.getD 0 0)+5⟩] ?_;intro iy iz H;refine kN ?_;refine ts_l rfl ?_;obtain ⟨iA,hM⟩:=M.e_gq hM;refine kP 0 ?_;intro dO iB H;refine kN ?_;refine kS 3 ?_;intro iC H;refine s_nil ⟨trivial,?_⟩;refine sr_nil ?_;exact ⟨aG++([(⟨((l9.getD 0 default).place:Int),((aj.getD 0 0)-5:Int),((aj.getD 0 0)+5:Int)⟩:Mrk)]),dO,_,jQ,hM,(H.pk [1,2,3,4,5,6,7,8,9,10])⟩
  intro dN hM;refine W.skip ?_;exact ⟨aG,aH,_,jQ,hM,H⟩
 rintro _ iD ⟨ba,aS,ρ,rfl,hM,H⟩;unfold zaD at hM;refine kg 4 ?_;obtain ⟨iE,dP,hM⟩:=M.e_bind hM;refine s_call cq [Pq ac,I 1,I 4] rfl (zaf s_bytes aK aL 1 4 (ae.app _) ag dP _ ((H.pk [5,0,1,2,3,4,6,7,8,9]).gt 9)) ?_;rintro _ iF ⟨iG,iH,iI,rfl,rfl,aa⟩;replace H:=H.pk [5,0,1,2,3,4,6,7,8,9] |>.bk aa
 refine kg 3 ?_;replace H:=H.nilOwn (α:=Rch) 53;obtain ⟨dQ,bQ,dR⟩:=M.e_bind hM;obtain ⟨bj,bQ⟩:=M.e_iter bQ;refine W.loop (fun m σ W=>∃ (bc:Int) (bg:Int) (n2:Int) (bx:List Rch) (bz:Value) (ρ:Env),σ=upds ρ [(0,Pq ac),(6,Pq ao),(7,Pq ap),(8,Pq aq),(9,Pq au),(19,I n2)]/\M.iterN (zbL s_bytes ai l9) m (bc,bg,n2,bx)=some dQ/\St w W [cOwn (α:=Rch) 53 bz bx,cBlk ac [aD,I bc,I bg] 100,cOwn (α:=Int) 3 aF ai,cOwn (α:=Int) 3 aE aj,cOwn (α:=Mrk) 49 aS ba,cOwn (α:=Raw 1) 103 aw al,cRo B_l9,cBlk au [aE,aF] 37,cBlk aq [aw,aS,bz] 35,cBlk ap [.slice none 0 0,.slice none 0 0] 37,cBlk ao [.slice none 0 0,.slice none 0 0,.slice none 0 0] 35] R) ?_ ?_
 ·exact kY
 rintro iJ σ iK ⟨bc,bg,n2,bx,bz,ρ,rfl,dS,H⟩;obtain ⟨iL,iM,iN,hM,dU⟩:=M.e_iterN dS;refine kI 6 ?_ ?_
 ·intro dV hM;have iO:=((rowSl rfl (H.get (k:=5) rfl) (roLe _ (H.get (k:=6) rfl)) ah)).len_le;refine kg 8 ?_;refine s_val (x_lenS T31.h.und rfl (rowSl rfl (H.get (k:=5) rfl) (roLe _ (H.get (k:=6) rfl)) ah)) ?_;refine kg 1 ?_;obtain ⟨iP,dW,hM⟩:=M.e_bind hM;refine s_call cq [Pq ac,I ((l9.length:Int)-1)] rfl (zad s_bytes bc bg ((l9.length:Int)-1) (ae.app _) ag dW _ ((H.pk [1,0,2,3,4,5,6,7,8,9,10]).gt 10)) ?_;rintro _ iQ ⟨aJ,dX,dY,rfl,rfl,aa⟩;replace H:=H.pk [1,0,2,3,4,5,6,7,8,9,10] |>.bk aa
  refine kg 1 ?_;obtain ⟨iR,dZ,hM⟩:=M.e_bind hM;refine s_call cq [Pq ac,I 4] rfl (zad s_bytes dX dY 4 (ae.app _) ag dZ _ (H.gt 10)) ?_;rintro _ iS ⟨d6,d7,d8,rfl,rfl,aa⟩;replace H:=H.bk aa;refine kA 2 ?_;intro iT iU H;refine ksw ?_;intro iV H;refine kDS 2 [0,2,3,4,5,6,7,8,9,10,11] (.q 0 (.q 1 (.q 2 (.q 3 (.q 4 (.q 5 (.q 6 (.q 7 (.q 8 (.q 9 (.l 10 (.q 11 (.q 12 .nil))))))))))))) 13 [13] ?_;intro iW H;have iX:=((rowSl rfl (H.get (k:=6) rfl) (roLe _ (H.get (k:=7) rfl)) ah)).len_le;refine kg 5 ?_;refine ts_q rfl (fun w' H=>x_lenS T31.h.und rfl (rowSl rfl (H.get (k:=5) rfl) (roLe _ (H.get (k:=6) rfl)) ah)) ?_;obtain ⟨iY,hM⟩:=M.e_gq hM;refine kG 5 ?_;obtain ⟨iZ,d9,hM⟩:=M.e_bind hM;refine s_call cq [Pq ac,I 1,I (((l9.length:Int)-1)-aJ)] rfl (zaf s_bytes d7 d8 1 (((l9.length:Int)-1)-aJ) (ae.app _) ag d9 _ ((H.pk [1,0,2,3,4,5,6,7,8,9,10,11]).gt 11)) ?_;rintro _ i6 ⟨bA,ee,ef,rfl,rfl,aa⟩;replace H:=H.pk [1,0,2,3,4,5,6,7,8,9,10,11] |>.bk aa
  refine kN ?_;obtain ⟨i7,hM⟩:=M.e_gq hM;refine kS 4 ?_;intro i8 H;refine s_nil ⟨trivial,?_⟩;refine sr_nil ?_;refine kD 1 [0,1,2,3,4,5,6,7,8,9,10,11] [] ?_;intro i9 H;obtain ⟨ja,hM⟩:=M.e_gq hM;obtain ⟨jb,hM⟩:=M.e_gq hM;refine kg 21 ?_;obtain ⟨jc,eg,hM⟩:=M.e_bind hM;refine s_call cq [Pq ac,I 8] rfl (zad s_bytes ee ef 8 (ae.app _) ag eg _ (H.gt 11)) ?_;rintro _ jd ⟨ei,ej,eo,rfl,rfl,aa⟩;replace H:=H.bk aa;obtain ⟨je,hM⟩:=M.e_gq hM;refine kg 5 ?_;obtain ⟨jf,ep,hM⟩:=M.e_bind hM;refine s_call cq [Pq ac,I 8] rfl (zad s_bytes ej eo 8 (ae.app _) ag ep _ (H.gt 11)) ?_;rintro _ jg ⟨er,jh,ji,rfl,rfl,aa⟩;replace H:=H.bk aa;obtain ⟨jj,hM⟩:=M.e_gq hM;refine kS 3 ?_;intro jl H;refine kL 5 (α:=Rch) [⟨aJ,aJ+bA,(min (ai.getD (Int.toNat aJ) 0) (ai.getD (Int.toNat (aJ+bA)) 0))-ei,(max (ai.getD (Int.toNat aJ) 0) (ai.getD (Int.toNat (aJ+bA)) 0))+er,(d6==0)⟩] ?_;intro jm jn H;obtain ⟨jo,hM⟩:=M.e_gq hM;refine kP 0 ?_;intro jp jq H;refine kS 1 ?_;intro jr H;refine s_nil ?_;replace H:=H.pk [1,3,4,5,6,7,8,9,10,11,12];obtain ⟨js,hM⟩:=M.e_gq hM;exact kXp 5 [1,0,2,3,4,5,6,7,8,9,10]
 intro dV hM;refine W.exit ?_;obtain rfl:=M.e_inr hM dU;replace hM:=dR;refine kD 1 [0,1,2,3,4,5,6,7,8] [2,3] ?_;intro jt H;refine kS 3 ?_;intro ju H;refine kN ?_;refine kS 1 ?_;intro jv H;refine kN ?_;refine d_nil ?_;replace H:=H.pk [0,1,2,3,4,5,6,9,10];exact kR 0 [5,6,4,0,3,2,1]

end Go.Proofs.YtaolcidinlnklaaGreat
end
