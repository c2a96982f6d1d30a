/- Part 3 of the texts on which the proof rests. Conditions: none. -/
import Derived.Test.YtbgoclcmgbpckaaGreatZA2
set_option linter.unusedVariables false
set_option linter.unusedSimpArgs false
set_option linter.unusedSectionVars false
section
set_option maxRecDepth 100000
set_option maxHeartbeats 16000000
namespace Go.Proofs.YtbgoclcmgbpckaaGreat
open Go Go.Nm
attribute [local irreducible] gd execOp SL SLD SLT WR
def zcm (o_bytes:List UInt8) (r0:List Int):(Int × Int × (List Ride) × Nat × (List Int))->M ((Int × Int × (List Ride) × Nat × (List Int)) ⊕ (((List Int) × (List Ride) × (List Ride) × Int × Int) ⊕ ((List Ride) × (List Int) × (List Int) × (List Ride) × Int × Int))):=fun (s,s2,l,i,l2) =>
  bif decide ((i:Int)<(r0.length:Int)) then (
  M.grd (decide ((i:Int)<(r0.length:Int))) <|
  M.grd (decide ((i:Int)<(l.length:Int))) <|
  bif decide ((r0.getD i 0)<((l.getD i default).src)) then (
  M.pure (.inr (.inl (l2,l,l,s,s2))))
  else (
  M.grd (decide ((i:Int)<((l.set i ({ (l.getD i default) with src:=r0.getD i 0 })).length:Int))) <|
  M.bind (zae o_bytes s s2 (((l.set i ({ (l.getD i default) with src:=r0.getD i 0 })).getD i default).wlo) (((l.set i ({ (l.getD i default) with src:=r0.getD i 0 })).getD i default).whi)) fun (r2,q1,q2) =>
  M.grd (decide ((l2.length+([(r2:Int)]).length)*8<=140737488355328)) <|
  M.pure (.inl (q1,q2,l.set i ({ (l.getD i default) with src:=r0.getD i 0 }),i+1,l2++([(r2:Int)])))))
  else (
  M.pure (.inr (.inr (l,l2,l2,l,s,s2))))
def zb3 (r0 l8:List Int) (l9:List Ride) (i2:Nat):(Int × Nat)->M ((Int × Nat) ⊕ Int):=fun (load,k) =>
  bif decide ((k:Int)<(r0.length:Int)) then (
  M.grd (decide ((k:Int)<(r0.length:Int))) <|
  M.grd (decide ((i2:Int)<(r0.length:Int))) <|
  M.grd ((!(decide ((r0.getD k 0)<=(r0.getD i2 0)))||(decide ((-9223372036854775808:Int)<=((r0.getD i2 0)-(r0.getD k 0)))&&decide (((r0.getD i2 0)-(r0.getD k 0))<=(9223372036854775807:Int))))) <|
  M.grd ((!(decide ((r0.getD k 0)<=(r0.getD i2 0)))||(decide ((k:Int)<(l9.length:Int))))) <|
  bif ((decide ((r0.getD k 0)<=(r0.getD i2 0)))&&(decide (((r0.getD i2 0)-(r0.getD k 0))<((l9.getD k default).long)))) then (
  M.grd (decide ((k:Int)<(l8.length:Int))) <|
  M.gi (load+(l8.getD k 0)) <|
  M.pure (.inl (load+(l8.getD k 0),k+1)))
  else (
  M.pure (.inl (load,k+1))))
  else (
  M.pure (.inr load))
def zbO (c_Car c_Wide c_Sag c_Most:Int) (r0 l8:List Int) (l9:List Ride):Nat->M (Nat ⊕ (Unit ⊕ Unit)):=fun i2 =>
  bif decide ((i2:Int)<(r0.length:Int)) then (
  M.bind (M.iter (zb3 r0 l8 l9 i2) (c_Car,0)) fun load2 =>
  M.grd ((!(!(decide (c_Sag<1)))||(decide ((-9223372036854775808:Int)<=(load2*c_Wide))&&decide ((load2*c_Wide)<=(9223372036854775807:Int))))) <|
  M.grd ((!(!(decide (c_Sag<1)))||(decide ((-9223372036854775808:Int)<=((load2*c_Wide)*25))&&decide (((load2*c_Wide)*25)<=(9223372036854775807:Int))))) <|
  M.grd ((!(!(decide (c_Sag<1)))||(decide ((-9223372036854775808:Int)<=(c_Most*c_Sag))&&decide ((c_Most*c_Sag)<=(9223372036854775807:Int))))) <|
  bif ((decide (c_Sag<1))||(decide ((c_Most*c_Sag)<((load2*c_Wide)*25)))) then (
  M.pure (.inr (.inl ())))
  else (
  M.pure (.inl (i2+1))))
  else (
  M.pure (.inr (.inr ())))
def zbH (c_Car c_Wide c_Sag c_Most:Int) (c_Rides:List Ride) (o_bytes:List UInt8) (o_used o_mix:Int):M (Bool × (List Ride) × Int × Int) :=
  M.bind (zbF c_Car c_Wide c_Sag c_Most c_Rides) fun (r0,r1) =>
  bif r1==6 then (
  M.pure (true,c_Rides,o_used,o_mix))
  else (
  bif ((r1 != 0)||((r0.length:Int) != (c_Rides.length:Int))) then (
  M.pure (false,c_Rides,o_used,o_mix))
  else (
  M.bind (M.iter (zcm o_bytes r0) (o_used,o_mix,c_Rides,0,[])) fun x_=>match x_ with
  | (.inl (l3,l4,l5,s3,s4))=>(
  M.pure (false,l5,s3,s4))
  | (.inr (l6,l7,l8,l9,s5,s6))=>(
  M.bind (M.iter (zbO c_Car c_Wide c_Sag c_Most r0 l8 l9) 0) fun x_=>match x_ with
  | (.inl (_:Unit))=>(
  M.pure (false,l9,s5,s6))
  | (.inr (_:Unit))=>(
  M.pure (true,l9,s5,s6)))))
theorem zeN {R au ab av ae}(c_Car c_Wide c_Sag c_Most c_Rides o_bytes o_used o_mix)(aG:Reads R av)(aH:Sl av ae o_bytes){r}(hM:(zbH c_Car c_Wide c_Sag c_Most c_Rides o_bytes o_used o_mix).Ends r)(w)(H:St w w [cOwn (α:=Ride) 121 au c_Rides,cBlk ab [ae,I o_used,I o_mix] 61] R):Ret Tryz.prog 14 #[.agg #[I c_Car,I c_Wide,I c_Sag,I c_Most,au],Pq ab] w fun v w'=>∃ y0 y1 y2 y3 u0,(y0,y1,y2,y3)=r/\v=B y0/\St w w' [cOwn (α:=Ride) 121 u0 y1,cBlk ab [ae,I y2,I y3] 61] R:=by
 refine ret_of_W Tryz.func14 rfl rfl rfl ?_;refine kB 2 ?_;intro ah aY H;refine kC 5 @zeC ?_;intro aZ r0 r1 ai hM H;refine kI 12 ?_ ?_
 ·intro aI hM;refine kg 4 ?_;replace H:=H.pk [2,3];exact rt
 intro aI hM;refine kI 15 ?_ ?_
 ·intro aw hM;refine kg 4 ?_;replace H:=H.pk [2,3];exact rt
 intro aw hM;simp only [Bool.or_eq_false_iff,decide_eq_false_iff_not] at aw;refine kg 11 ?_;replace H:=H.nilOwn (α:=Int) 3;obtain ⟨aJ,ax,ay⟩:=M.e_bind hM;obtain ⟨az,ax⟩:=M.e_iter ax;refine W.loop (fun m σ W=>∃ (s:Int) (s2:Int) (l:List Ride) (i:Nat) (l2:List Int) (aa:Value) (ac:Value) (ρ:Env),σ=upds ρ [(1,Pq ab),(2,Pq ah),(5,ai),(7,ac),(8,I (i:Int))]/\M.iterN (zcm o_bytes r0) m (s,s2,l,i,l2)=some aJ/\St w W [cOwn (α:=Int) 3 ac l2,cOwn (α:=Int) 3 ai r0,cBlk ah [I c_Car,I c_Wide,I c_Sag,I c_Most,aa] 57,cOwn (α:=Ride) 121 aa l,cBlk ab [ae,I s,I s2] 61] R) ?_ ?_
 ·exact kY
 rintro a7 σ a8 ⟨s,s2,l,i,l2,aa,ac,ρ,rfl,aK,H⟩;obtain ⟨ba,bb,bc,hM,aA⟩:=M.e_iterN aK;have bf:=((H.os 1)).len_le;refine kI 8 ?_ ?_
 ·intro aL hM;refine kD 5 [0,1,2,3,4] [] ?_;intro bg H;obtain ⟨bh,hM⟩:=M.e_gq hM;obtain ⟨bi,hM⟩:=M.e_gq hM;refine kI 12 ?_ ?_
  ·intro aM hM;refine kg 4 ?_;refine W.ret ?_;obtain rfl:=M.e_inr hM aA;replace hM:=ay;have aj:=M.e_pure hM;exact ⟨_,resE_tmp rfl,⟨false,l,s,s2,aa,aj,rfl,(H.pk [3,4])⟩⟩
  intro aM hM;refine kD 2 [0,1,2,4] [7,8,9] ?_;intro bj H;refine kG 9 ?_;refine kN ?_;refine kG 2 ?_;refine kN ?_;refine kO 1 (α:=Ride) ({ (l.getD i default) with src:=r0.getD i 0 }) ?_;intro bm H;have bn:(l.set i ({ (l.getD i default) with src:=r0.getD i 0 })).length=(l).length:=List.length_set;refine kN ?_;refine kD 1 [1,2,3] [16,17,18] ?_;intro bo H;obtain ⟨bp,hM⟩:=M.e_gq hM;refine kG 17 ?_;obtain ⟨br,aN,hM⟩:=M.e_bind hM;refine s_call cq [Pq ab,I (((l.set i ({ (l.getD i default) with src:=r0.getD i 0 })).getD i default).wlo),I (((l.set i ({ (l.getD i default) with src:=r0.getD i 0 })).getD i default).whi)] rfl (zac o_bytes s s2 (((l.set i ({ (l.getD i default) with src:=r0.getD i 0 })).getD i default).wlo) (((l.set i ({ (l.getD i default) with src:=r0.getD i 0 })).getD i default).whi) (aG.app _) aH aN _ ((H.pk [4,0,1,2,3]).gt 4)) ?_;rintro _ bt ⟨r2,q1,q2,rfl,rfl,aO⟩;replace H:=H.pk [4,0,1,2,3] |>.bk aO
  refine kN ?_;refine kL 1 (α:=Int) [r2] ?_;intro bu bv H;refine kN ?_;refine d_l rfl ?_;obtain ⟨bw,hM⟩:=M.e_gq hM;refine kP 0 ?_;intro bx bz H;refine kN ?_;exact kXp 7 [2,3,4,5,1]
 intro aL hM;refine W.exit ?_;obtain rfl:=M.e_inr hM aA;replace hM:=ay;refine kg 6 ?_;obtain ⟨aP,aB,aC⟩:=M.e_bind hM;obtain ⟨az,aB⟩:=M.e_iter aB;refine W.loop (fun m σ W=>∃ (i2:Nat) (ρ:Env),σ=upds ρ [(2,Pq ah),(5,ai),(7,ac),(9,I (i2:Int))]/\M.iterN (zbO c_Car c_Wide c_Sag c_Most r0 l2 l) m i2=some aP/\St w W [cOwn (α:=Int) 3 ac l2,cOwn (α:=Int) 3 ai r0,cBlk ah [I c_Car,I c_Wide,I c_Sag,I c_Most,aa] 57,cOwn (α:=Ride) 121 aa l,cBlk ab [ae,I s,I s2] 61] R) ?_ ?_
 ·exact kY
 rintro bA σ bB ⟨i2,ρ,rfl,aQ,H⟩;obtain ⟨bC,bD,bE,hM,aD⟩:=M.e_iterN aQ;have bF:=((H.os 1)).len_le;refine kI 8 ?_ ?_
 ·intro aR hM;refine kg 15 ?_;obtain ⟨aS,aE,aT⟩:=M.e_bind hM;obtain ⟨az,aE⟩:=M.e_iter aE;refine W.loop (fun m σ W=>∃ (load:Int) (k:Nat) (ρ:Env),σ=upds ρ [(2,Pq ah),(5,ai),(7,ac),(9,I (i2:Int)),(10,I load),(11,I (k:Int))]/\M.iterN (zb3 r0 l2 l i2) m (load,k)=some aS/\St w W [cOwn (α:=Int) 3 ac l2,cOwn (α:=Int) 3 ai r0,cBlk ah [I c_Car,I c_Wide,I c_Sag,I c_Most,aa] 57,cOwn (α:=Ride) 121 aa l,cBlk ab [ae,I s,I s2] 61] R) ?_ ?_
  ·exact kY
  rintro bG σ bH ⟨load,k,ρ,rfl,aU,H⟩;obtain ⟨bI,bJ,bK,hM,aV⟩:=M.e_iterN aU;have bL:=((H.os 1)).len_le;refine kI 8 ?_ ?_
  ·intro aW hM;refine kD 4 [0,1,2,3,4] [] ?_;intro bM H;obtain ⟨bN,hM⟩:=M.e_gq hM;obtain ⟨bO,hM⟩:=M.e_gq hM;obtain ⟨ak,hM⟩:=M.e_grd hM;replace ak:=M.imp_of ak;simp only [Bool.and_eq_true,decide_eq_true_eq] at ak;obtain ⟨al,hM⟩:=M.e_grd hM;replace al:=M.imp_of al;simp only [Bool.and_eq_true,decide_eq_true_eq] at al;refine kI 28 ?_ ?_
   ·intro aX hM;obtain ⟨bP,hM⟩:=M.e_gq hM;obtain ⟨bQ,hM⟩:=M.e_gq hM;exact kX 14
   intro aX hM;exact kX 6
  intro aW hM;refine W.exit ?_;obtain rfl:=M.e_inr hM aV;replace hM:=aT;obtain ⟨am,hM⟩:=M.e_grd hM;replace am:=M.imp_of am;simp only [Bool.and_eq_true,decide_eq_true_eq] at am;obtain ⟨ao,hM⟩:=M.e_grd hM;replace ao:=M.imp_of ao;simp only [Bool.and_eq_true,decide_eq_true_eq] at ao;obtain ⟨aq,hM⟩:=M.e_grd hM;replace aq:=M.imp_of aq;simp only [Bool.and_eq_true,decide_eq_true_eq] at aq;refine kI 19 ?_ ?_
  ·intro aF hM;refine kg 4 ?_;refine W.ret ?_;obtain rfl:=M.e_inr hM aD;replace hM:=aC;have aj:=M.e_pure hM;exact ⟨_,resE_tmp rfl,⟨false,l,s,s2,aa,aj,rfl,(H.pk [3,4])⟩⟩
  intro aF hM;simp only [Bool.or_eq_false_iff,decide_eq_false_iff_not] at aF;exact kX 6
 intro aR hM;refine W.exit ?_;obtain rfl:=M.e_inr hM aD;replace hM:=aC;replace H:=H.pk [3,4];refine kg 4 ?_;exact rt

end Go.Proofs.YtbgoclcmgbpckaaGreat
end
section
set_option maxRecDepth 100000
set_option maxHeartbeats 16000000
namespace Go.Proofs.YtbgoclcmgbpckaaGreat
open Go Go.Nm
attribute [local irreducible] gd execOp SL SLD SLT WR
def zdT (lo hi:Int):M (Int × Int) :=
  M.pure (lo,hi)
theorem zfa {R}(lo hi){r}(hM:(zdT lo hi).Ends r)(w)(H:St w w [] R):Ret Tryz.prog 103 #[I lo,I hi] w fun v w'=>∃ y0 y1,(y0,y1)=r/\v = .agg #[I y0,I y1]/\St w w' [] R:=by
 refine ret_of_W Tryz.func103 rfl rfl rfl ?_;refine kA 2 ?_;intro aa ab H;refine kS 6 ?_;intro ac H;exact kR 1 []

def zdn (lo hi:Int):M (Bool × Int × Int) :=
  M.bind (zdT lo hi) fun (r0,r1) =>
  M.pure (true,r0,r1)
theorem zd5 {R}(lo hi){r}(hM:(zdn lo hi).Ends r)(w)(H:St w w [] R):Ret Tryz.prog 55 #[I lo,I hi] w fun v w'=>∃ y0 y1 y2,(y0,y1,y2)=r/\v = .agg #[B y0,I y1,I y2]/\St w w' [] R:=by
 refine ret_of_W Tryz.func55 rfl rfl rfl ?_;refine kA 2 ?_;intro aa ab H;refine kC 5 @zfa ?_;intro ac r0 r1 hM H;refine kS 1 ?_;intro ae H;exact kR 1 []

def zdD (aa:Int):M (Int × Int × (List DVal)) :=
  M.bind (zdn 20 30) fun (r0,r1,r2) =>
  M.bind (zdn aa 90) fun (ab,ac,ae) =>
  M.pure (10,5,([(⟨r0,(r1:Int),(r2:Int)⟩:DVal),(⟨false,(0:Int),(0:Int)⟩:DVal),(⟨false,(0:Int),(0:Int)⟩:DVal),(⟨ab,(ac:Int),(ae:Int)⟩:DVal)]))
theorem zfs {R}(aa){r}(hM:(zdD aa).Ends r)(w)(H:St w w [] R):Ret Tryz.prog 23 #[I aa] w fun v w'=>∃ y0 y1 y2 u0,(y0,y1,y2)=r/\v = .agg #[I y0,I y1,u0]/\St w w' [cOwn (α:=DVal) 139 u0 y2] R:=by
 refine ret_of_W Tryz.func23 rfl rfl rfl ?_;refine kA 2 ?_;intro ah ai H;refine kC 3 @zd5 ?_;intro aj r0 r1 r2 hM H;refine kC 3 @zd5 ?_;intro ak ab ac ae hM H;refine kL 0 (α:=DVal) [⟨r0,r1,r2⟩,⟨false,0,0⟩,⟨false,0,0⟩,⟨ab,ac,ae⟩] ?_;intro al am H;refine kS 1 ?_;intro ao H;exact kR 1 [0]

def zaW (lo hi:Int):M (Int × Int) :=
  M.pure (lo,hi)
theorem zbr {R}(lo hi){r}(hM:(zaW lo hi).Ends r)(w)(H:St w w [] R):Ret Tryz.prog 61 #[I lo,I hi] w fun v w'=>∃ y0 y1,(y0,y1)=r/\v = .agg #[I y0,I y1]/\St w w' [] R:=by
 refine ret_of_W Tryz.func61 rfl rfl rfl ?_;refine kA 2 ?_;intro aa ab H;refine kS 6 ?_;intro ac H;exact kR 1 []

def zdL (lo hi:Int):M ((List Span) × (List BRch)) :=
  M.bind (zaW 100 120) fun (r0,r1) =>
  M.bind (zaW 0 10) fun (aa,ab) =>
  M.bind (zaW (-200) (-100)) fun (ac,ae) =>
  M.bind (zaW 90 115) fun (ah,ai) =>
  M.bind (zaW lo hi) fun (aj,ak) =>
  M.pure (([(⟨(r0:Int),(r1:Int)⟩:Span),(⟨(aa:Int),(ab:Int)⟩:Span),(⟨(ac:Int),(ae:Int)⟩:Span)]),([(⟨(0:Int),(1:Int),(ah:Int),(ai:Int)⟩:BRch),(⟨(1:Int),(2:Int),(aj:Int),(ak:Int)⟩:BRch)]))
theorem zey {R}(lo hi){r}(hM:(zdL lo hi).Ends r)(w)(H:St w w [] R):Ret Tryz.prog 25 #[I lo,I hi] w fun v w'=>∃ y0 y1 u0 u1,(y0,y1)=r/\v = .agg #[u0,u1]/\St w w' [cOwn (α:=Span) 32 u0 y0,cOwn (α:=BRch) 156 u1 y1] R:=by
 refine ret_of_W Tryz.func25 rfl rfl rfl ?_;refine kA 2 ?_;intro al am H;refine kC 3 @zbr ?_;intro ao r0 r1 hM H;refine kC 0 @zbr ?_;intro aq aa ab hM H;refine kC 0 @zbr ?_;intro au ac ae hM H;refine kL 0 (α:=Span) [⟨r0,r1⟩,⟨aa,ab⟩,⟨ac,ae⟩] ?_;intro av aw H;refine kC 0 @zbr ?_;intro ax ah ai hM H;refine kC 3 @zbr ?_;intro ay aj ak hM H;refine kL 1 (α:=BRch) [⟨0,1,ah,ai⟩,⟨1,2,aj,ak⟩] ?_;intro az aA H;refine kS 1 ?_;intro aB H;exact kR 1 [1,0]

def zdx  : M (Int × (List Rgt)) :=
  M.pure (2,([(⟨(0:Int),(100:Int),(50:Int)⟩:Rgt),(⟨(1:Int),(60:Int),(100:Int)⟩:Rgt),(⟨(0:Int),(40:Int),(0:Int)⟩:Rgt)]))
theorem zeL {R r}(hM:(zdx).Ends r)(w)(H:St w w [] R):Ret Tryz.prog 27 #[] w fun v w'=>∃ y0 y1 u0,(y0,y1)=r/\v = .agg #[I y0,u0]/\St w w' [cOwn (α:=Rgt) 160 u0 y1] R:=by
 refine ret_of_W Tryz.func27 rfl rfl rfl ?_;refine kA 2 ?_;intro aa ab H;refine kL 6 (α:=Rgt) [⟨0,100,50⟩,⟨1,60,100⟩,⟨0,40,0⟩] ?_;intro ac ae H;refine kS 1 ?_;intro ah H;exact kR 1 [0]

def zem  : M ((List Yr) × (List Old10) × Int × Int) :=
  M.pure (([(⟨(1905:Int),(400:Int),(420:Int)⟩:Yr),(⟨(1906:Int),(250:Int),(250:Int)⟩:Yr)]),([(⟨(1900:Int),(1904:Int),(500:Int),([(1902:Int)])⟩:Old10)]),1900,1909)
theorem zeW {R r}(hM:(zem).Ends r)(w)(H:St w w [] R):Ret Tryz.prog 29 #[] w fun v w'=>∃ y0 y1 y2 y3 u0 u1 rr2 ai,(y0,y1,y2,y3)=r/\v = .agg #[u0,u1,I y2,I y3]/\St w w' [cOwn (α:=Yr) 173 u0 y0,cOwn (α:=Raw 3) 175 u1 rr2,cRo ai] R/\RepR (α:=Old10) ai.cells rr2 y1:=by
 refine ret_of_W Tryz.func29 rfl rfl rfl ?_;refine kA 2 ?_;intro aq au H;refine kL 7 (α:=Yr) [⟨1905,400,420⟩,⟨1906,250,250⟩] ?_;intro ac av H;refine kL 0 (α:=Int) [1902] ?_;intro ae aw H;refine kG 1 ?_;obtain ⟨ax,H⟩:=H.emptyE;obtain ⟨ay,H,ak⟩:=H.freezeE (k:=1) rfl;replace H:=H.nf;have aa:=ak;obtain ⟨al,H,az,am⟩:=H.joinE (i:=0) (j:=1) rfl rfl;replace aa:=aa.mono am;obtain ⟨ab,aj⟩:∃ r:Raw 3,r.cs=[I 1900,I 1904,I 500,ae]:=⟨Raw.of [I 1900,I 1904,I 500,ae] rfl (by simp only [List.all_cons,List.all_nil,Bool.true_and,Bool.and_true,Sl.oc aa]; try rfl),rfl⟩
 have ao:RepR (α:=Old10) al.cells [ab] [(⟨(1900:Int),(1904:Int),(500:Int),([(1902:Int)])⟩:Old10)]:=.cons (by rw [aj]; exact ⟨_,rfl,aa⟩)<|.nil
 refine t_bs (α:=Raw 3) T88.h [.agg #[I 1900,I 1904,I 500,ae]] [ab] H rfl (.cons (by rw [show (Flat.enc ab:List Value)=ab.cs from rfl,aj]; rfl) (Flat.rep_enc _ _)<|.nil) rfl rfl rfl ?_;intro ah aA H;replace H:=H.nf;refine s_val (x_bld (ps:=[(2,I 1900),(3,I 1909),(0,ac),(1,ah)]) (zs:=[.slice none 0 0,.slice none 0 0,I 0,I 0]) (L':=[ac,ah,I 1900,I 1909]) rfl Tryz.underlying90 Al90.h rfl (Bd90 Tryz.underlying90) (.cons (cs:=[I 1900]) rfl rfl rfl rfl rfl<|.cons (cs:=[I 1909]) rfl rfl rfl rfl rfl<|.cons (cs:=[ac]) (Sl.cells (H.os 4)) rfl rfl rfl rfl<|.cons (cs:=[ah]) (Sl.cells (rowSl rfl (H.get (k:=0) rfl) (roLe _ (H.get (k:=1) rfl)) ao)) rfl rfl rfl rfl<|.nil)) ?_;refine kS 0 ?_;intro aB H;refine s_nil ?_;replace H:=H.pk [0,1,4,5];exact kR 0 [2,0,1]

def za2 (lo hi:Int):M (Int × Int) :=
  M.pure (lo,hi)
theorem zcq {R}(lo hi){r}(hM:(za2 lo hi).Ends r)(w)(H:St w w [] R):Ret Tryz.prog 70 #[I lo,I hi] w fun v w'=>∃ y0 y1,(y0,y1)=r/\v = .agg #[I y0,I y1]/\St w w' [] R:=by
 refine ret_of_W Tryz.func70 rfl rfl rfl ?_;refine kA 2 ?_;intro aa ab H;refine kS 6 ?_;intro ac H;exact kR 1 []

def zd6 (lead:Int):M ((List Int) × (List Span) × (List Int) × (List Town) × Int × Int × (List Flood)) :=
  M.bind (za2 5 6) fun (r0,r1) =>
  M.bind (za2 2 4) fun (aa,ab) =>
  M.bind (za2 3 5) fun (ac,ae) =>
  M.bind (za2 1 2) fun (ah,ai) =>
  M.pure (([(2:Int),(2:Int),(3:Int),(-1:Int)]),([(⟨(r0:Int),(r1:Int)⟩:Span),(⟨(aa:Int),(ab:Int)⟩:Span),(⟨(ac:Int),(ae:Int)⟩:Span),(⟨(0:Int),(0:Int)⟩:Span)]),([(0:Int),(1:Int)]),([(⟨(3:Int),(lead:Int),(300:Int)⟩:Town)]),ah,ai,([(⟨(0:Int),([(200:Int),(250:Int),(310:Int)])⟩:Flood),(⟨(1:Int),([(280:Int),(240:Int),(290:Int)])⟩:Flood),(⟨(0:Int),([(100:Int),(260:Int),(300:Int)])⟩:Flood)]))
theorem zfn {R}(lead){r}(hM:(zd6 lead).Ends r)(w)(H:St w w [] R):Ret Tryz.prog 30 #[I lead] w fun v w'=>∃ y0 y1 y2 y3 y4 y5 y6 u0 u1 u2 u3 u4 rr5 ay,(y0,y1,y2,y3,y4,y5,y6)=r/\v = .agg #[u0,u1,u2,u3,I y4,I y5,u4]/\St w w' [cOwn (α:=Int) 3 u0 y0,cOwn (α:=Span) 32 u1 y1,cOwn (α:=Int) 3 u2 y2,cOwn (α:=Town) 53 u3 y3,cOwn (α:=Raw 1) 51 u4 rr5,cRo ay] R/\RepR (α:=Flood) ay.cells rr5 y6:=by
 refine ret_of_W Tryz.func30 rfl rfl rfl ?_;refine kA 2 ?_;intro aQ aR H;refine kL 3 (α:=Int) [2,2,3,-1] ?_;intro aj aS H;refine kC 0 @zcq ?_;intro aT r0 r1 hM H;refine kC 0 @zcq ?_;intro aU aD aE hM H;refine kC 0 @zcq ?_;intro aV aF aG hM H;refine kL 1 (α:=Span) [⟨r0,r1⟩,⟨aD,aE⟩,⟨aF,aG⟩,⟨0,0⟩] ?_;intro ak aW H;refine kL 0 (α:=Int) [0,1] ?_;intro al aX H;refine kL 2 (α:=Town) [⟨3,lead,300⟩] ?_;intro am aY H;refine kC 0 @zcq ?_;intro aZ ao aq hM H;refine kL 0 (α:=Int) [200,250,310] ?_;intro au a7 H;refine kL 1 (α:=Int) [280,240,290] ?_;intro av a8 H;refine kL 1 (α:=Int) [100,260,300] ?_;intro aw ba H;refine kG 1 ?_;obtain ⟨bb,H⟩:=H.emptyE;obtain ⟨bc,H,aH⟩:=H.freezeE (k:=3) rfl;replace H:=H.nf;have aa:=aH;obtain ⟨bf,H,bg,aI⟩:=H.joinE (i:=0) (j:=3) rfl rfl;replace aa:=aa.mono aI;obtain ⟨bh,H,aJ⟩:=H.freezeE (k:=3) rfl;replace H:=H.nf;have ab:=aJ;obtain ⟨bi,H,aK,aL⟩:=H.joinE (i:=0) (j:=3) rfl rfl;replace aa:=aa.mono aK;replace ab:=ab.mono aL;obtain ⟨bj,H,aM⟩:=H.freezeE (k:=3) rfl;replace H:=H.nf;have ac:=aM;obtain ⟨aN,H,az,aO⟩:=H.joinE (i:=0) (j:=3) rfl rfl;replace aa:=aa.mono az;replace ab:=ab.mono az;replace ac:=ac.mono aO;obtain ⟨ae,aA⟩:∃ r:Raw 1,r.cs=[I 0,au]:=⟨Raw.of [I 0,au] rfl (by simp only [List.all_cons,List.all_nil,Bool.true_and,Bool.and_true,Sl.oc aa]; try rfl),rfl⟩
 obtain ⟨ah,aB⟩:∃ r:Raw 1,r.cs=[I 1,av]:=⟨Raw.of [I 1,av] rfl (by simp only [List.all_cons,List.all_nil,Bool.true_and,Bool.and_true,Sl.oc ab]; try rfl),rfl⟩
 obtain ⟨ai,aC⟩:∃ r:Raw 1,r.cs=[I 0,aw]:=⟨Raw.of [I 0,aw] rfl (by simp only [List.all_cons,List.all_nil,Bool.true_and,Bool.and_true,Sl.oc ac]; try rfl),rfl⟩
 have aP:RepR (α:=Flood) aN.cells [ae,ah,ai] [(⟨(0:Int),([(200:Int),(250:Int),(310:Int)])⟩:Flood),(⟨(1:Int),([(280:Int),(240:Int),(290:Int)])⟩:Flood),(⟨(0:Int),([(100:Int),(260:Int),(300:Int)])⟩:Flood)]:=.cons (by rw [aA]; exact ⟨_,rfl,aa⟩)<|.cons (by rw [aB]; exact ⟨_,rfl,ab⟩)<|.cons (by rw [aC]; exact ⟨_,rfl,ac⟩)<|.nil
 refine t_bs (α:=Raw 1) T38.h [.agg #[I 0,au],.agg #[I 1,av],.agg #[I 0,aw]] [ae,ah,ai] H rfl (.cons (by rw [show (Flat.enc ae:List Value)=ae.cs from rfl,aA]; rfl) (Flat.rep_enc _ _)<|.cons (by rw [show (Flat.enc ah:List Value)=ah.cs from rfl,aB]; rfl) (Flat.rep_enc _ _)<|.cons (by rw [show (Flat.enc ai:List Value)=ai.cs from rfl,aC]; rfl) (Flat.rep_enc _ _)<|.nil) rfl rfl rfl ?_;intro ax bm H;replace H:=H.nf;refine s_val (x_bld (ps:=[(0,aj),(1,ak),(2,al),(3,am),(4,.agg #[I ao,I aq]),(5,ax)]) (zs:=[.slice none 0 0,.slice none 0 0,.slice none 0 0,.slice none 0 0,I 0,I 0,.slice none 0 0]) (L':=[aj,ak,al,am,I ao,I aq,ax]) rfl Tryz.underlying40 Al40.h rfl (Bd40 Tryz.underlying40) (.cons (cs:=[aj]) (Sl.cells (H.os 11)) rfl rfl rfl rfl<|.cons (cs:=[ak]) (Sl.cells (H.os 10)) rfl rfl rfl rfl<|.cons (cs:=[al]) (Sl.cells (H.os 9)) rfl rfl rfl rfl<|.cons (cs:=[am]) (Sl.cells (H.os 8)) rfl rfl rfl rfl<|.cons (cs:=[I ao,I aq]) rfl rfl rfl rfl rfl<|.cons (cs:=[ax]) (Sl.cells (rowSl rfl (H.get (k:=0) rfl) (roLe _ (H.get (k:=1) rfl)) aP)) rfl rfl rfl rfl<|.nil)) ?_;refine kS 0 ?_;intro bn H;refine s_nil ?_;replace H:=H.pk [0,1,8,9,10,11,12];exact kR 0 [5,4,3,2,0,1]

def m_daily_in (n aa greatest:Int):M Bool :=
  M.pure ((decide (aa<=n))&&(decide (n<=greatest)))
theorem daily_in_ok {R}(n aa greatest){r}(hM:(m_daily_in n aa greatest).Ends r)(w)(H:St w w [] R):Ret Tryz.prog 50 #[I n,I aa,I greatest] w fun v w'=>∃ y0,y0=r/\v=B y0/\St w w' [] R:=by
 refine ret_of_W Tryz.func50 rfl rfl rfl ?_;refine kg 16 ?_;exact rt

def m_daily_flow (n:Int):M Bool :=
  M.bind (m_daily_in n 0 1000000000) fun r2 =>
  M.pure r2
theorem daily_flow_ok {R}(n){r}(hM:(m_daily_flow n).Ends r)(w)(H:St w w [] R):Ret Tryz.prog 96 #[I n] w fun v w'=>∃ y0,y0=r/\v=B y0/\St w w' [] R:=by
 refine ret_of_W Tryz.func96 rfl rfl rfl ?_;refine kC 7 @daily_in_ok ?_;intro aa r2 hM H;refine kg 2 ?_;exact rt

def zdV (s:List DVal) (f:DVal->M Bool):Nat->M (Nat ⊕ Unit):=fun s2 =>
  bif decide ((s2:Int)<(s.length:Int)) then (
  M.grd (decide ((s2:Int)<(s.length:Int))) <|
  M.bind (f (s.getD s2 default)) fun r2 =>
  bif r2 then (
  M.fail)
  else (
  M.pure (.inl (s2+1))))
  else (
  M.pure (.inr ()))
def zdz (s:List DVal) (f:DVal->M Bool):M Int :=
  M.bind (M.iter (zdV s f) 0) fun (_:Unit) =>
  M.pure (-1)
theorem zfd {R ac aa ab}(s f)(av:Reads R ac)(ah:Sl ac aa s)(ai:FnM Tryz.prog R ab f){r}(hM:(zdz s f).Ends r)(w)(H:St w w [] R):Ret Tryz.prog 183 #[aa,ab] w fun v w'=>∃ y0,y0=r/\v=I y0/\St w w' [] R:=by
 refine ret_of_W Tryz.func183 rfl rfl rfl ?_;have aw:=(ah).len_le;refine kg 12 ?_;obtain ⟨aj,ae,ak⟩:=M.e_bind hM;obtain ⟨ax,ae⟩:=M.e_iter ae;refine W.loop (fun m σ W=>∃ (s2:Nat) (ρ:Env),σ=upds ρ [(0,aa),(1,ab),(7,I (s.length:Int)),(8,I (s2:Int))]/\M.iterN (zdV s f) m s2=some aj/\St w W [] R) ?_ ?_
 ·exact kY
 rintro ay σ az ⟨s2,ρ,rfl,al,H⟩;obtain ⟨aA,aB,aC,hM,am⟩:=M.e_iterN al;refine kI 5 ?_ ?_
 ·intro ao hM;obtain ⟨aD,hM⟩:=M.e_gq hM;refine kg 15 ?_;obtain ⟨r2,aq,hM⟩:=M.e_bind hM;refine t_callM H ai rfl rfl (s.getD s2 default) Reads.none ⟨_,rfl,rfl⟩ aq ?_;intro aE H;refine kI 1 ?_ ?_
  ·intro au hM;exact (M.e_fail hM).elim
  intro au hM;exact kX 5
 intro ao hM;refine W.exit ?_;obtain rfl:=M.e_inr hM am;replace hM:=ak;refine kg 4 ?_;exact rt

def zdH (s:List DVal) (f:DVal->M Bool):M Bool :=
  M.bind (zdz s f) fun r2 =>
  M.pure (decide (0<=r2))
theorem zer {R aa ab ac}(s f)(ae:Reads R aa)(ah:Sl aa ab s)(ai:FnM Tryz.prog R ac f){r}(hM:(zdH s f).Ends r)(w)(H:St w w [] R):Ret Tryz.prog 140 #[ab,ac] w fun v w'=>∃ y0,y0=r/\v=B y0/\St w w' [] R:=by
 refine ret_of_W Tryz.func140 rfl rfl rfl ?_;refine kC 8 @zfd ?_;intro aj r2 hM H;refine kg 3 ?_;exact rt

def m_daily_every_daily_Value__1 (x:DVal) (aa:DVal->M Bool):M Bool :=
  M.bind (aa x) fun r2 =>
  M.pure (!r2)
theorem daily_every_daily_Value__1_ok {R aa ab}(x ac)(ae:FnM Tryz.prog R ab ac)(ai:Has R (cBlk aa [ab] 195)){r}(hM:(m_daily_every_daily_Value__1 x ac).Ends r)(w)(H:St w w [] R):Ret Tryz.prog 141 #[.agg #[B x.known,I x.lo,I x.hi],Pq aa] w fun v w'=>∃ y0,y0=r/\v=B y0/\St w w' [] R:=by
 refine ret_of_W Tryz.func141 rfl rfl rfl ?_;refine kB 2 ?_;intro aj ak H;refine kg 6 ?_;obtain ⟨r2,ah,hM⟩:=M.e_bind hM;refine t_callM H ae rfl rfl x Reads.none ⟨_,rfl,rfl⟩ ah ?_;intro al H;refine kg 3 ?_;exact rt

def m_daily_every_daily_Value (l:List DVal) (so:DVal->M Bool):M Bool :=
  M.bind (zdH l (fun aa=>m_daily_every_daily_Value__1 aa so)) fun r2 =>
  M.pure (!r2)
theorem daily_every_daily_Value_ok {R ae aa ah}(l so)(aj:Reads R ae)(ak:Sl ae aa l)(al:FnM Tryz.prog R ah so){r}(hM:(m_daily_every_daily_Value l so).Ends r)(w)(H:St w w [] R):Ret Tryz.prog 97 #[aa,ah] w fun v w'=>∃ y0,y0=r/\v=B y0/\St w w' [] R:=by
 refine ret_of_W Tryz.func97 rfl rfl rfl ?_;refine kB 2 ?_;intro ab aA H;refine kg 5 ?_;refine s_val (x_mf (fs:=[]) (cs:=[Pq ab]) rfl rfl) ?_;obtain ⟨aB,am,hM⟩:=M.e_bind hM;refine s_call cq [aa,.func (.func 141) #[] #[Pq ab]] rfl (zer l (fun ac=>m_daily_every_daily_Value__1 ac so) (aj.app _) ak ⟨141,[Pq ab],rfl,cq,fun ai aC aD ao ac aE aq aF au av=>by obtain rfl:=DVal_arg au; exact (daily_every_daily_Value__1_ok ac so (FnM.app (al.app _) _) (Has.app (Has.here (k:=0) rfl) _) av ai (St.refl aq)).mono fun ao ai ⟨aG,aw,ax,ay⟩=>by subst aw; exact ⟨ax,ay⟩⟩ am _ (H.gt 1)) ?_;rintro _ aH ⟨r2,rfl,rfl,az⟩;replace H:=H.bk az;refine kg 3 ?_;exact rt

def m_daily_flows (s:Span):M Bool :=
  M.bind (m_daily_in s.lo 0 s.hi) fun r2 =>
  M.bind (M.opt r2 (m_daily_flow s.hi) false) fun r3 =>
  M.pure (r2&&r3)
theorem daily_flows_ok {R}(s){r}(hM:(m_daily_flows s).Ends r)(w)(H:St w w [] R):Ret Tryz.prog 99 #[.agg #[I s.lo,I s.hi]] w fun v w'=>∃ y0,y0=r/\v=B y0/\St w w' [] R:=by
 refine ret_of_W Tryz.func99 rfl rfl rfl ?_;refine kB 2 ?_;intro ae ah H;refine kC 8 @daily_in_ok ?_;intro ai r2 hM H;refine kg 3 ?_;obtain ⟨r3,aa,hM⟩:=M.e_bind hM;refine t_gcall r2 (gy_t rfl) cq (B r3) (fun _=>[I s.hi]) (fun hg=>lst1 (gd_of hg (I s.hi))) H (fun hg=>(daily_flow_ok s.hi (M.e_opt aa hg) _ (H.give (A:=[]) rfl)).mono fun v_ w_ ⟨y_,ab,ac,H_⟩=>by subst ab; exact ⟨ac,H.via H_⟩) ?_;intro aj H;refine kg 3 ?_;exact rt

def m_daily_Check_1 (v:DVal):M Bool :=
  M.bind (M.opt (!(!v.known)) (m_daily_flows (⟨(v.lo:Int),(v.hi:Int)⟩:Span)) false) fun r2 =>
  M.pure ((!v.known)||r2)
theorem daily_Check_1_ok {R}(v){r}(hM:(m_daily_Check_1 v).Ends r)(w)(H:St w w [] R):Ret Tryz.prog 98 #[.agg #[B v.known,I v.lo,I v.hi]] w fun v w'=>∃ y0,y0=r/\v=B y0/\St w w' [] R:=by
 refine ret_of_W Tryz.func98 rfl rfl rfl ?_;refine kB 2 ?_;intro ae ah H;refine kg 10 ?_;obtain ⟨r2,aa,hM⟩:=M.e_bind hM;refine t_gcall (!(!v.known)) (gy_f rfl) cq (B r2) (fun _=>[.agg #[I v.lo,I v.hi]]) (fun hg=>lst1 (gd_of hg (.agg #[I v.lo,I v.hi]))) H (fun hg=>(daily_flows_ok (⟨(v.lo:Int),(v.hi:Int)⟩:Span) (M.e_opt aa hg) _ (H.give (A:=[]) rfl)).mono fun v_ w_ ⟨y_,ab,ac,H_⟩=>by subst ab; exact ⟨ac,H.via H_⟩) ?_;intro ai H;refine kg 3 ?_;exact rt

def m_daily_Check (ab ac:Int) (aa:List DVal):M Int :=
  M.bind (m_daily_in (aa.length:Int) 1 60) fun r2 =>
  bif !r2 then (
  M.fail)
  else (
  M.bind (m_daily_flow ab) fun r3 =>
  M.bind (M.opt (!(!r3)) (m_daily_flow ac) false) fun r4 =>
  M.bind (M.opt (!((!r3)||(!r4))) (m_daily_every_daily_Value aa (fun ae=>m_daily_Check_1 ae)) false) fun r5 =>
  bif (((!r3)||(!r4))||(!r5)) then (
  M.fail)
  else (
  M.pure 0))
theorem daily_Check_ok {R aj ab}(ak aa ac)(ao:Reads R aj)(al:Sl aj ab ac){r}(hM:(m_daily_Check ak aa ac).Ends r)(w)(H:St w w [] R):Ret Tryz.prog 49 #[.agg #[I ak,I aa,ab]] w fun v w'=>∃ y0,y0=r/\v=I y0/\St w w' [] R:=by
 refine ret_of_W Tryz.func49 rfl rfl rfl ?_;refine kB 2 ?_;intro aE aF H;have aG:=(al).len_le;refine kC 9 @daily_in_ok ?_;intro aH r2 hM H;refine kI 3 ?_ ?_
 ·intro aq hM;exact (M.e_fail hM).elim
 intro aq hM;refine kC 4 @daily_flow_ok ?_;intro aI r3 hM H;refine kg 4 ?_;obtain ⟨r4,au,hM⟩:=M.e_bind hM;refine t_gcall (!(!r3)) (gy_f rfl) cq (B r4) (fun _=>[I aa]) (fun hg=>lst1 (gd_of hg (I aa))) H (fun hg=>(daily_flow_ok aa (M.e_opt au hg) _ (H.give (A:=[]) rfl)).mono fun v_ w_ ⟨y_,ae,ah,H_⟩=>by subst ae; exact ⟨ah,H.via H_⟩) ?_;intro aJ H;refine kg 5 ?_;obtain ⟨r5,av,hM⟩:=M.e_bind hM;refine t_gcall (!((!r3)||(!r4))) (gy_f rfl) cq (B r5) (fun _=>[ab,.func (.func 98) #[] #[]]) (fun hg=>lst2 (gd_of hg (ab)) rfl) H (fun hg=>(daily_every_daily_Value_ok ac (fun ai=>m_daily_Check_1 ai) (ao.app _) al ⟨98,[],rfl,cq,fun am aK aL aw ai aM ax aN ay az=>by obtain rfl:=DVal_arg ay; exact (daily_Check_1_ok ai az am (St.refl ax)).mono fun aw am ⟨aO,aA,aB,aC⟩=>by subst aA; exact ⟨aB,aC⟩⟩ (M.e_opt av hg) _ (H.give (A:=[]) rfl)).mono fun v_ w_ ⟨y_,ae,ah,H_⟩=>by subst ae; exact ⟨ah,H.via H_⟩) ?_;intro aP H;refine kI 4 ?_ ?_
 ·intro aD hM;exact (M.e_fail hM).elim
 intro aD hM;refine kg 5 ?_;exact rt

def m_daily_Value_span (v:DVal):M (Int × Int) :=
  bif v.known then (
  M.pure (v.lo,v.hi))
  else (
  M.pure (0,1000000000))
theorem daily_Value_span_ok {R}(v){r}(hM:(m_daily_Value_span v).Ends r)(w)(H:St w w [] R):Ret Tryz.prog 142 #[.agg #[B v.known,I v.lo,I v.hi]] w fun v w'=>∃ y0 y1,(y0,y1)=r/\v = .agg #[I y0,I y1]/\St w w' [] R:=by
 refine ret_of_W Tryz.func142 rfl rfl rfl ?_;refine kB 2 ?_;intro ab ac H;refine kal ?_;intro ae ah H;refine kI 7 ?_ ?_
 ·intro aa hM;refine kS 4 ?_;intro ai H;exact kR 1 []
 intro aa hM;refine kS 4 ?_;intro aj H;exact kR 1 []

def m_daily_work_pairs (aa ab:Int) (ac:List DVal) (ae:List Span) (back:Bool):M Bool :=
  M.pure back
theorem daily_work_pairs_ok {R aa ab ac ae ah}(ai aj ak al back)(av:Reads R ab)(aw:Sl ab ac ak)(ax:Reads R ae)(ay:Sl ae ah al)(az:Has R (cBlk aa [I ai,I aj,ac,ah] 131)){r}(hM:(m_daily_work_pairs ai aj ak al back).Ends r)(w)(H:St w w [] R):Ret Tryz.prog 144 #[Pq aa,B back] w fun v w'=>∃ y0 am ao,y0=r/\v = .func (.func 184) #[] #[Pq am,Pq ao]/\St w w' [cBlk am [Pq aa] 127,cBlk ao [B y0] 4] R:=by
 refine ret_of_W Tryz.func144 rfl rfl rfl ?_;refine kB 2 ?_;intro aq aA H;refine kbx ?_;intro au aB H;refine kg 4 ?_;refine s_val (x_mf (fs:=[]) (cs:=[Pq aq,Pq au]) rfl rfl) ?_;exact kR 2 [1,0]

def m_daily_work_pairs_1_b0 {T_:Type} (ab:T_->(Int × Int)->M (Bool × T_)) (aa:List DVal) (ac:Bool):(Nat × T_)->M ((Nat × T_) ⊕ T_):=fun (s,t2) =>
  bif decide ((s:Int)<((aa.length:Int)-1)) then (
  M.gi ((s:Int)+1) <|
  bif ac then (
  M.gi (((aa.length:Int)-1)-(s:Int)) <|
  M.gi (((aa.length:Int)-2)-(s:Int)) <|
  M.bind (ab t2 (((aa.length:Int)-1)-(s:Int),((aa.length:Int)-2)-(s:Int))) fun (go,t) =>
  bif !go then (
  M.fail)
  else (
  M.pure (.inl (s+1,t))))
  else (
  M.bind (ab t2 ((s:Int),(s:Int)+1)) fun (go,t) =>
  bif !go then (
  M.fail)
  else (
  M.pure (.inl (s+1,t)))))
  else (
  M.pure (.inr t2))
def m_daily_work_pairs_1 {T_:Type} (aa:T_->(Int × Int)->M (Bool × T_)) (t_:T_) (ae ah:Int) (ab:List DVal) (ac:Bool):M T_ :=
  M.bind (M.iter (m_daily_work_pairs_1_b0 aa ab ac) (0,t_)) fun t3 =>
  M.pure t3
theorem daily_work_pairs_1_ok {R:List Chunk} {T_:Type} {Y_:T_->List Chunk->Prop} {ai:Value} {ac:List Chunk} {aj:Nat} {aw:Nat} {ax:Cells} {aa:Value} {ak:Nat} (al:T_->(Int × Int)->M (Bool × T_)) (t_:T_) (ae:Int) (ah:Int) (ab:List DVal) (am:Bool) (ay:YieldC Tryz.prog R arII Y_ ai al) (az:Y_ t_ ac) (aQ:Reads R ax) (ao:Sl ax aa ab) (aq:∀ (t_:T_) (ac:List Chunk),Y_ t_ ac->Fld (cAll ac :: R) aw [I ae,I ah,aa]) (aR:Has R (cBlk aj [Pq aw] 127)) (aS:Has R (cBlk ak [B am] 4)) {r:T_} (hM:(m_daily_work_pairs_1 al t_ ae ah ab am).Ends r) (w:World) (H:St w w [cAll ac] R):Ret Tryz.prog 184 #[ai,Pq aj,Pq ak] w fun v w'=>∃ (y0:T_) (Ls0:List Chunk),y0=r/\v = .tuple #[]/\St w w' [cAll Ls0] R/\Y_ y0 Ls0:=by
 refine ret_of_W Tryz.func184 rfl rfl rfl ?_;refine kg 6 ?_;refine s_val (x_ld (v:=aa) rfl (fld_sc (pre:=[I ae,I ah,aa]) (i:=2) Sc72.h (Fld.get (Fld.up (aq _ _ az) (k:=0) rfl) H) rfl)) ?_;have aT:=(ao).len_le;refine kg 5 ?_;obtain ⟨aC,au,aD⟩:=M.e_bind hM;obtain ⟨aU,au⟩:=M.e_iter au;refine W.loop (fun m σ W=>∃ (s:Nat) (t2:T_) (Ls_t2:List Chunk) (ρ:Env),σ=upds ρ [(0,ai),(1,Pq aj),(2,Pq ak),(13,I ((ab.length:Int)-1)),(14,I (s:Int))]/\M.iterN (m_daily_work_pairs_1_b0 al ab am) m (s,t2)=some aC/\St w W [cAll Ls_t2] R/\Y_ t2 Ls_t2) ?_ ?_
 ·exact ⟨_,0,t_,ac,_,jQ,au,H,az⟩
 rintro aV σ aW ⟨s,t2,Ls_t2,ρ,rfl,aE,H,hY_t2⟩;obtain ⟨aA,aB,aX,hM,av⟩:=M.e_iterN aE;refine kI 5 ?_ ?_
 ·intro aF hM;obtain ⟨aY,hM⟩:=M.e_gq hM;refine kI 21 ?_ ?_
  ·intro aG hM;refine kD 0 [0] [] ?_;intro aZ H;refine kg 4 ?_;refine d_q rfl (fun w' H=>x_ld (v:=aa) rfl (fld_sc (pre:=[I ae,I ah,aa]) (i:=2) Sc72.h (Fld.get (Fld.up (aq _ _ hY_t2) (k:=0) rfl) H) rfl)) ?_;have a7:=(ao).len_le;obtain ⟨a8,hM⟩:=M.e_gq hM;refine kg 8 ?_;refine d_q rfl (fun w' H=>x_ld (v:=aa) rfl (fld_sc (pre:=[I ae,I ah,aa]) (i:=2) Sc72.h (Fld.get (Fld.up (aq _ _ hY_t2) (k:=0) rfl) H) rfl)) ?_;have ba:=(ao).len_le;obtain ⟨bb,hM⟩:=M.e_gq hM;refine kg 12 ?_;obtain ⟨⟨go,t⟩,aH,hM⟩:=M.e_bind hM;refine t_yield (L:=[]) H ay hY_t2 rfl [I (((ab.length:Int)-1)-(s:Int)),I (((ab.length:Int)-2)-(s:Int))] rfl (((ab.length:Int)-1)-(s:Int),((ab.length:Int)-2)-(s:Int)) Reads.none rfl aH ?_;intro aI bc aJ H;replace H:=H.nf;refine kI 2 ?_ ?_
   ·intro aK hM;exact (M.e_fail hM).elim
   intro aK hM;refine kg 5 ?_;exact ⟨aA,aB,s+1,t,aI,_,jQ,M.e_inl hM av,H,aJ⟩
  intro aG hM;refine kg 6 ?_;obtain ⟨⟨go,t⟩,aL,hM⟩:=M.e_bind hM;refine t_yield (L:=[]) H ay hY_t2 rfl [I (s:Int),I ((s:Int)+1)] rfl ((s:Int),(s:Int)+1) Reads.none rfl aL ?_;intro aM bf aN H;replace H:=H.nf;refine kI 2 ?_ ?_
  ·intro aO hM;exact (M.e_fail hM).elim
  intro aO hM;refine kg 5 ?_;exact ⟨aA,aB,s+1,t,aM,_,jQ,M.e_inl hM av,H,aN⟩
 intro aF hM;refine W.exit ?_;obtain rfl:=M.e_inr hM av;replace hM:=aD;have aP:=M.e_pure hM;exact ⟨_,resE_tmp0 rfl,⟨t2,Ls_t2,aP,rfl,H,hY_t2⟩⟩
theorem m_daily_work_pairs_1_le {T_:Type} {n_:Nat} {y y':T_->(Int × Int)->M (Bool × T_)} (h:∀ s a,M.LeN n_ (y s a) (y' s a)) (t_:T_) (aa ab:Int) (ac:List DVal) (ae:Bool):M.LeN n_ (m_daily_work_pairs_1 y t_ aa ab ac ae) (m_daily_work_pairs_1 y' t_ aa ab ac ae):=by
  simp only [m_daily_work_pairs_1,m_daily_work_pairs_1_b0]
  repeat' (first | refine M.le_grd ?_ | refine M.le_if ?_ ?_ | refine M.le_bind ?_ (fun x=>?_) | refine M.le_opt ?_ | refine M.le_iter (fun x=>?_) _ | exact h _ _ | exact M.le_same _ _ | (rename_i x; cases x) | (rename_i x; obtain ⟨_,_⟩:=x))

def m_daily_opened_1 (i low high ab ac:Int) (ae:List DVal) (aa:List Span):M (List Span) :=
  M.grd (decide ((0:Int)<=i)&&decide (i<(aa.length:Int))) <|
  M.pure ((aa.set (Int.toNat i) ({ (aa.getD (Int.toNat i) default) with lo:=max ((aa.getD (Int.toNat i) default).lo) low })).set (Int.toNat i) ({ ((aa.set (Int.toNat i) ({ (aa.getD (Int.toNat i) default) with lo:=max ((aa.getD (Int.toNat i) default).lo) low })).getD (Int.toNat i) default) with hi:=min ((aa.getD (Int.toNat i) default).hi) high }))
theorem daily_opened_1_ok {R al ae am ah ab}(i low high ai aj ao aa)(aq:Reads R am)(au:Sl am ah ao)(av:Has R (cBlk al [Pq ae] 127)){r}(hM:(m_daily_opened_1 i low high ai aj ao aa).Ends r)(w)(H:St w w [cOwn (α:=Span) 32 ab aa,cBlk ae [I ai,I aj,ah,ab] 131] R):Ret Tryz.prog 143 #[I i,I low,I high,Pq al] w fun v w'=>∃ y0 u0,y0=r/\v = .tuple #[]/\St w w' [cOwn (α:=Span) 32 u0 y0,cBlk ae [I ai,I aj,ah,u0] 131] R:=by
 refine ret_of_W Tryz.func143 rfl rfl rfl ?_;obtain ⟨aw,hM⟩:=M.e_gq hM;refine kg 7 ?_;have ac:=ownSl (H.get (k:=0) rfl);refine kDS 3 [1] (.q 0 (.q 1 (.q 2 (.q 3 (.q 4 (.q 6 (.q 8 (.q 9 (.q 10 (.q 12 (.l2 5 (.q 7 (.l 11 (.q 13 (.q 14 (.q 15 (.l 16 (.q 17 (.q 18 .nil)))))))) 11 (.q 13 (.l 5 (.q 7 (.q 14 (.q 15 (.l 16 (.q 17 (.q 18 .nil))))))))))))))))))) 19 [19] ?_;intro ax H;refine kg 3 ?_;refine ts_q rfl (fun w' H=>x_ncE (p:=vat ab 2 (Int.toNat i)) rfl (Sl.pl (i:=i) ac (by omega) (by omega))) ?_;refine kg 3 ?_;refine ts_q rfl (fun w' H=>x_ncE (p:=vat ab 2 (Int.toNat i)) rfl (Sl.pl (i:=i) ac (by omega) (by omega))) ?_;refine kg 2 ?_;refine ts_l2 rfl rfl ?_ ?_
 ·refine kG 1 ?_;refine kN ?_;refine kG 3 ?_;refine kN ?_;refine kg 1 ?_;refine ts_q rfl (fun w' H=>x_ncE (p:=vat ab 2 (Int.toNat i)) rfl (Sl.pl (i:=i) ac (by omega) (by omega))) ?_;refine kO 2 (α:=Span) ({ (aa.getD (Int.toNat i) default) with lo:=max ((aa.getD (Int.toNat i) default).lo) low }) ?_;intro ay H;have az:(aa.set (Int.toNat i) ({ (aa.getD (Int.toNat i) default) with lo:=max ((aa.getD (Int.toNat i) default).lo) low })).length=(aa).length:=List.length_set;refine kN ?_;refine ts_q rfl (fun w' H=>x_ncE (p:=vat ab 2 (Int.toNat i)) rfl (Sl.pl (i:=i) ac (by omega) (by omega))) ?_;refine kO 3 (α:=Span) ({ ((aa.set (Int.toNat i) ({ (aa.getD (Int.toNat i) default) with lo:=max ((aa.getD (Int.toNat i) default).lo) low })).getD (Int.toNat i) default) with hi:=min ((aa.getD (Int.toNat i) default).hi) high }) ?_;intro aA H;have aB:((aa.set (Int.toNat i) ({ (aa.getD (Int.toNat i) default) with lo:=max ((aa.getD (Int.toNat i) default).lo) low })).set (Int.toNat i) ({ ((aa.set (Int.toNat i) ({ (aa.getD (Int.toNat i) default) with lo:=max ((aa.getD (Int.toNat i) default).lo) low })).getD (Int.toNat i) default) with hi:=min ((aa.getD (Int.toNat i) default).hi) high })).length=(aa.set (Int.toNat i) ({ (aa.getD (Int.toNat i) default) with lo:=max ((aa.getD (Int.toNat i) default).lo) low })).length:=List.length_set;refine s_nil ⟨trivial,?_⟩;refine sr_nil ?_;have ak:=M.e_pure hM;exact ⟨_,resE_tmp0 rfl,⟨((aa.set (Int.toNat i) ({ (aa.getD (Int.toNat i) default) with lo:=max ((aa.getD (Int.toNat i) default).lo) low })).set (Int.toNat i) ({ ((aa.set (Int.toNat i) ({ (aa.getD (Int.toNat i) default) with lo:=max ((aa.getD (Int.toNat i) default).lo) low })).getD (Int.toNat i) default) with hi:=min ((aa.getD (Int.toNat i) default).hi) high })),ab,ak,rfl,H⟩⟩
 refine kG 1 ?_;refine kN ?_;refine kG 3 ?_;refine kN ?_;refine kg 1 ?_;refine ts_q rfl (fun w' H=>x_ncE (p:=vat ab 2 (Int.toNat i)) rfl (Sl.pl (i:=i) ac (by omega) (by omega))) ?_;refine kO 2 (α:=Span) ({ (aa.getD (Int.toNat i) default) with lo:=max ((aa.getD (Int.toNat i) default).lo) low }) ?_;intro aC H;have aD:(aa.set (Int.toNat i) ({ (aa.getD (Int.toNat i) default) with lo:=max ((aa.getD (Int.toNat i) default).lo) low })).length=(aa).length:=List.length_set;refine kN ?_;refine ts_q rfl (fun w' H=>x_ncE (p:=vat ab 2 (Int.toNat i)) rfl (Sl.pl (i:=i) ac (by omega) (by omega))) ?_;refine kO 3 (α:=Span) ({ ((aa.set (Int.toNat i) ({ (aa.getD (Int.toNat i) default) with lo:=max ((aa.getD (Int.toNat i) default).lo) low })).getD (Int.toNat i) default) with hi:=min ((aa.getD (Int.toNat i) default).hi) high }) ?_;intro aE H;have aF:((aa.set (Int.toNat i) ({ (aa.getD (Int.toNat i) default) with lo:=max ((aa.getD (Int.toNat i) default).lo) low })).set (Int.toNat i) ({ ((aa.set (Int.toNat i) ({ (aa.getD (Int.toNat i) default) with lo:=max ((aa.getD (Int.toNat i) default).lo) low })).getD (Int.toNat i) default) with hi:=min ((aa.getD (Int.toNat i) default).hi) high })).length=(aa.set (Int.toNat i) ({ (aa.getD (Int.toNat i) default) with lo:=max ((aa.getD (Int.toNat i) default).lo) low })).length:=List.length_set;refine s_nil ⟨trivial,?_⟩;refine sr_nil ?_;have ak:=M.e_pure hM;exact ⟨_,resE_tmp0 rfl,⟨((aa.set (Int.toNat i) ({ (aa.getD (Int.toNat i) default) with lo:=max ((aa.getD (Int.toNat i) default).lo) low })).set (Int.toNat i) ({ ((aa.set (Int.toNat i) ({ (aa.getD (Int.toNat i) default) with lo:=max ((aa.getD (Int.toNat i) default).lo) low })).getD (Int.toNat i) default) with hi:=min ((aa.getD (Int.toNat i) default).hi) high })),ab,ak,rfl,H⟩⟩

def zek (s:List Span) (f:Span->M Bool):Nat->M (Nat ⊕ Unit):=fun s2 =>
  bif decide ((s2:Int)<(s.length:Int)) then (
  M.grd (decide ((s2:Int)<(s.length:Int))) <|
  M.bind (f (s.getD s2 default)) fun r2 =>
  bif r2 then (
  M.fail)
  else (
  M.pure (.inl (s2+1))))
  else (
  M.pure (.inr ()))
def zdS (s:List Span) (f:Span->M Bool):M Int :=
  M.bind (M.iter (zek s f) 0) fun (_:Unit) =>
  M.pure (-1)
theorem zfJ {R ac aa ab}(s f)(av:Reads R ac)(ah:Sl ac aa s)(ai:FnM Tryz.prog R ab f){r}(hM:(zdS s f).Ends r)(w)(H:St w w [] R):Ret Tryz.prog 186 #[aa,ab] w fun v w'=>∃ y0,y0=r/\v=I y0/\St w w' [] R:=by
 refine ret_of_W Tryz.func186 rfl rfl rfl ?_;have aw:=(ah).len_le;refine kg 12 ?_;obtain ⟨aj,ae,ak⟩:=M.e_bind hM;obtain ⟨ax,ae⟩:=M.e_iter ae;refine W.loop (fun m σ W=>∃ (s2:Nat) (ρ:Env),σ=upds ρ [(0,aa),(1,ab),(7,I (s.length:Int)),(8,I (s2:Int))]/\M.iterN (zek s f) m s2=some aj/\St w W [] R) ?_ ?_
 ·exact kY
 rintro ay σ az ⟨s2,ρ,rfl,al,H⟩;obtain ⟨aA,aB,aC,hM,am⟩:=M.e_iterN al;refine kI 5 ?_ ?_
 ·intro ao hM;obtain ⟨aD,hM⟩:=M.e_gq hM;refine kg 15 ?_;obtain ⟨r2,aq,hM⟩:=M.e_bind hM;refine t_callM H ai rfl rfl (s.getD s2 default) Reads.none ⟨_,rfl,rfl⟩ aq ?_;intro aE H;refine kI 1 ?_ ?_
  ·intro au hM;exact (M.e_fail hM).elim
  intro au hM;exact kX 5
 intro ao hM;refine W.exit ?_;obtain rfl:=M.e_inr hM am;replace hM:=ak;refine kg 4 ?_;exact rt

def zdj (s:List Span) (f:Span->M Bool):M Bool :=
  M.bind (zdS s f) fun r2 =>
  M.pure (decide (0<=r2))
theorem zdU {R aa ab ac}(s f)(ae:Reads R aa)(ah:Sl aa ab s)(ai:FnM Tryz.prog R ac f){r}(hM:(zdj s f).Ends r)(w)(H:St w w [] R):Ret Tryz.prog 147 #[ab,ac] w fun v w'=>∃ y0,y0=r/\v=B y0/\St w w' [] R:=by
 refine ret_of_W Tryz.func147 rfl rfl rfl ?_;refine kC 8 @zfJ ?_;intro aj r2 hM H;refine kg 3 ?_;exact rt

def m_daily_every_api_Span__1 (x:Span) (aa:Span->M Bool):M Bool :=
  M.bind (aa x) fun r2 =>
  M.pure (!r2)
theorem daily_every_api_Span__1_ok {R aa ab}(x ac)(ae:FnM Tryz.prog R ab ac)(ai:Has R (cBlk aa [ab] 124)){r}(hM:(m_daily_every_api_Span__1 x ac).Ends r)(w)(H:St w w [] R):Ret Tryz.prog 185 #[.agg #[I x.lo,I x.hi],Pq aa] w fun v w'=>∃ y0,y0=r/\v=B y0/\St w w' [] R:=by
 refine ret_of_W Tryz.func185 rfl rfl rfl ?_;refine kB 2 ?_;intro aj ak H;refine kg 6 ?_;obtain ⟨r2,ah,hM⟩:=M.e_bind hM;refine t_callM H ae rfl rfl x Reads.none ⟨_,rfl,rfl⟩ ah ?_;intro al H;refine kg 3 ?_;exact rt

def m_daily_every_api_Span (l:List Span) (so:Span->M Bool):M Bool :=
  M.bind (zdj l (fun aa=>m_daily_every_api_Span__1 aa so)) fun r2 =>
  M.pure (!r2)
theorem daily_every_api_Span_ok {R ae aa ah}(l so)(aj:Reads R ae)(ak:Sl ae aa l)(al:FnM Tryz.prog R ah so){r}(hM:(m_daily_every_api_Span l so).Ends r)(w)(H:St w w [] R):Ret Tryz.prog 145 #[aa,ah] w fun v w'=>∃ y0,y0=r/\v=B y0/\St w w' [] R:=by
 refine ret_of_W Tryz.func145 rfl rfl rfl ?_;refine kB 2 ?_;intro ab aA H;refine kg 5 ?_;refine s_val (x_mf (fs:=[]) (cs:=[Pq ab]) rfl rfl) ?_;obtain ⟨aB,am,hM⟩:=M.e_bind hM;refine s_call cq [aa,.func (.func 185) #[] #[Pq ab]] rfl (zdU l (fun ac=>m_daily_every_api_Span__1 ac so) (aj.app _) ak ⟨185,[Pq ab],rfl,cq,fun ai aC aD ao ac aE aq aF au av=>by obtain rfl:=Span_arg au; exact (daily_every_api_Span__1_ok ac so (FnM.app (al.app _) _) (Has.app (Has.here (k:=0) rfl) _) av ai (St.refl aq)).mono fun ao ai ⟨aG,aw,ax,ay⟩=>by subst aw; exact ⟨ax,ay⟩⟩ am _ (H.gt 1)) ?_;rintro _ aH ⟨r2,rfl,rfl,az⟩;replace H:=H.bk az;refine kg 3 ?_;exact rt

def m_daily_opened_2 (s:Span):M Bool :=
  M.pure (decide (s.lo<=s.hi))
theorem daily_opened_2_ok {R}(s){r}(hM:(m_daily_opened_2 s).Ends r)(w)(H:St w w [] R):Ret Tryz.prog 146 #[.agg #[I s.lo,I s.hi]] w fun v w'=>∃ y0,y0=r/\v=B y0/\St w w' [] R:=by
 refine ret_of_W Tryz.func146 rfl rfl rfl ?_;refine kB 2 ?_;intro aa ab H;refine kg 11 ?_;exact rt

def m_daily_opened_b0 (aa:List DVal):(Nat × (List Span))->M ((Nat × (List Span)) ⊕ ((List Span) × (List Span))):=fun (s,l) =>
  bif decide ((s:Int)<(aa.length:Int)) then (
  M.grd (decide ((s:Int)<(aa.length:Int))) <|
  M.bind (m_daily_Value_span (aa.getD s default)) fun (r0,r1) =>
  M.grd (decide ((l.length+([(⟨(r0:Int),(r1:Int)⟩:Span)]).length)*16<=140737488355328)) <|
  M.pure (.inl (s+1,l++([(⟨(r0:Int),(r1:Int)⟩:Span)]))))
  else (
  M.pure (.inr (l,l)))
def m_daily_opened_b1 (aa ab:Int) (ac:List DVal):(List Span)->(Int × Int)->M ((List Span) ⊕ Unit):=fun l4 (x,x2) =>
  M.grd (decide ((0:Int)<=x)&&decide (x<(l4.length:Int))) <|
  M.gi (((l4.getD (Int.toNat x) default).lo)-ab) <|
  M.gi (((l4.getD (Int.toNat x) default).hi)+aa) <|
  M.bind (m_daily_opened_1 x2 (((l4.getD (Int.toNat x) default).lo)-ab) (((l4.getD (Int.toNat x) default).hi)+aa) aa ab ac l4) fun l_k023 =>
  M.pure (.inl l_k023)
def m_daily_opened_b2 (aa ab:Int) (ac:List DVal):(List Span)->(Int × Int)->M ((List Span) ⊕ Unit):=fun l5 (x3,x4) =>
  M.grd (decide ((0:Int)<=x3)&&decide (x3<(l5.length:Int))) <|
  M.gi (((l5.getD (Int.toNat x3) default).lo)-aa) <|
  M.gi (((l5.getD (Int.toNat x3) default).hi)+ab) <|
  M.bind (m_daily_opened_1 x4 (((l5.getD (Int.toNat x3) default).lo)-aa) (((l5.getD (Int.toNat x3) default).hi)+ab) aa ab ac l5) fun l_k0232 =>
  M.pure (.inl l_k0232)
def m_daily_opened (aa ab:Int) (ac:List DVal):M (Int × Int × (List Span) × Bool × Int) :=
  M.bind (m_daily_Check aa ab ac) fun r2 =>
  bif r2 != 0 then (
  M.fail)
  else (
  M.bind (M.iter (m_daily_opened_b0 ac) (0,[])) fun (l2,l3) =>
  M.bind (m_daily_work_pairs aa ab ac l3 false) fun ae =>
  M.bind (m_daily_work_pairs_1 (M.yl (m_daily_opened_b1 aa ab ac)) (.inl l3) aa ab ac ae) fun x_=>match x_ with
  | .inl l4=>(
  M.bind (m_daily_work_pairs aa ab ac l4 true) fun ah =>
  M.bind (m_daily_work_pairs_1 (M.yl (m_daily_opened_b2 aa ab ac)) (.inl l4) aa ab ac ah) fun x_=>match x_ with
  | .inl l5=>(
  M.bind (m_daily_every_api_Span l5 (fun ai=>m_daily_opened_2 ai)) fun r3 =>
  M.pure (aa,ab,l5,r3,0))
  | .inr _=>M.fail)
  | .inr _=>M.fail)
theorem daily_opened_ok {R aV ae}(aa ab ai)(au:Reads R aV)(ax:Sl aV ae ai){r}(hM:(m_daily_opened aa ab ai).Ends r)(w)(H:St w w [] R):Ret Tryz.prog 100 #[.agg #[I aa,I ab,ae]] w fun v w'=>∃ y0 y1 y2 y3 y4 aW u1,(y0,y1,y2,y3,y4)=r/\v = .tuple #[Pq aW,B y3,I y4]/\St w w' [cBlk aW [I y0,I y1,ae,u1] 131,cOwn (α:=Span) 32 u1 y2] R:=by
 refine ret_of_WD Tryz.func100 rfl rfl rfl ?_;replace H:St w w [cMk ([])] R:=H.mk0;have bC:=ax.len_le;unfold m_daily_opened at hM;refine WD.seq<|WD.of ?_;refine kB 1 ?_;intro ay bD H;refine kg 4 ?_;refine WD.seq<|WD.seq<|WD.of ?_;refine kC 2 @daily_Check_ok ?_;intro bE r2 hM H;refine kg 2 ?_;refine WD.seq<|WD.of ?_;refine kg 4 ?_
 refine WD.cond (r2 != 0) rfl (fun aG=>?_) (fun aG=>?_)
 ·replace hM:=M.e_t hM aG;exact (M.e_fail hM).elim
 replace hM:=M.e_f hM aG;replace aG:=dI aG;refine WD.of<|W.skip<|WD.seq<|WD.of ?_;refine kB 3 ?_;intro ac bF H;refine kal ?_;intro ah bG H;refine ksw ?_;intro bH H;refine s_nil<|WD.seq<|WD.seq<|WD.of ?_
 have bI:=(ax).len_le;refine kg 6 ?_;refine WD.block ?_;replace H:=H.nilOwn (α:=Span) 32;obtain ⟨a8,aX,ba⟩:=M.e_bind hM;obtain ⟨bJ,aX⟩:=M.e_iter aX;refine WD.loop (fun m av σ W=>∃ (s:Nat) (l:List Span) (am:Value) (ρ:Env),σ=upds ρ [(6,Pq ah),(23,ae),(24,I (ai.length:Int)),(25,I (s:Int))]/\M.iterN (m_daily_opened_b0 ai) m (s,l)=some a8/\St w W [cOwn (α:=Span) 32 am l,cBlk ah [Pq ac] 127,cBlk ac [I aa,I ab,ae,am] 131,cBlk ay [I aa,I ab,ae] 74,cMk av] R) ?_ ?_
 ·exact kY
 rintro bK av σ bL ⟨s,l,am,ρ,rfl,bb,H⟩;obtain ⟨bM,bN,bO,hM,bc⟩:=M.e_iterN bb;refine WD.seq<|WD.of ?_;refine kg 3 ?_;refine WD.seq ?_
 refine WD.cond (decide ((s:Int)<(ai.length:Int))) rfl (fun aw=>?_) (fun aw=>?_)
 ·replace hM:=M.e_t hM aw;replace aw:=dI aw;refine WD.of<|W.skip<|WD.seq<|WD.block<|WD.seq<|WD.of ?_;obtain ⟨bP,hM⟩:=M.e_gq hM;refine kA 3 ?_;intro bQ bR H;refine ksw ?_;intro bS H;refine s_nil<|WD.of ?_;refine kDS 0 [0,2,3,4,5] (.q 0 (.q 1 (.q 2 (.q 3 (.q 4 (.q 5 (.l 6 (.l 7 (.l 8 (.q 9 (.q 10 .nil))))))))))) 11 [11] ?_;intro bT H;refine kC 7 @daily_Value_span_ok ?_;intro bU r0 r1 hM H;refine kN ?_;refine kL 1 (α:=Span) [⟨r0,r1⟩] ?_;intro bV bW H;refine kN ?_;refine ts_l rfl ?_;obtain ⟨bX,hM⟩:=M.e_gq hM;refine kP 0 ?_;intro bY bZ H;refine kN ?_;refine kS 4 ?_;intro b4 H
  refine s_nil ⟨trivial,?_⟩;refine sr_nil ?_;replace H:=H.pk [2,3,4,5,6];refine WD.of ?_;exact kX 4
 replace hM:=M.e_f hM aw;replace aw:=dI aw;refine WD.of ?_;refine W.exit ?_;obtain rfl:=M.e_inr hM bc;replace hM:=ba;refine WD.seq<|WD.of<|W.region rfl<|s_val (x_mf (fs:=[]) (cs:=[Pq ah]) rfl rfl) ?_;refine kal ?_;intro ao b5 H;refine ksw ?_;intro b6 H;refine s_nil<|WD.seq<|WD.seq<|WD.of ?_;refine kC 2 @daily_work_pairs_ok ?_;intro b7 az aA aB hM H;refine s_nil<|WD.block ?_;obtain ⟨b8,bf,hM⟩:=M.e_bind hM;refine WD.range (L:=[cOwn (α:=Span) 32 am l,cBlk ac [I aa,I ab,ae,am] 131,cBlk aA [Pq ac] 127,cBlk aB [B az] 4,cBlk ao [.func (.func 143) #[] #[Pq ah]] 232,cBlk ah [Pq ac] 127,cBlk ay [I aa,I ab,ae] 74]) [Pq aA,Pq aB] (H.pk [7,3,5,0,1,2,4,6]) rfl cq ?_;intro aH aC aJ bg aK H
 have hYC:YieldC Tryz.prog ([cMk (aC :: av),cBlk aA [Pq ac] 127,cBlk aB [B az] 4,cBlk ao [.func (.func 143) #[] #[Pq ah]] 232,cBlk ah [Pq ac] 127,cBlk ay [I aa,I ab,ae] 74]++R) arII (yJ aH aJ (fun l4 aq=>∃ (aj:Value),aq=[cOwn (α:=Span) 32 aj l4,cBlk ac [I aa,I ab,ae,aj] 131]) (fun (_:Unit) _=>False) (fun _=>.ret)) (.func (.yield aH) #[] #[]) (M.yl (m_daily_opened_b1 aa ab ai)):=by
  refine YieldC.mk aK (fun l4 aq=>∃ (aj:Value),aq=[cOwn (α:=Span) 32 aj l4,cBlk ac [I aa,I ab,ae,aj] 131]) (fun (_:Unit) _=>False) (fun _=>.ret) (m_daily_opened_b1 aa ab ai) (by rintro l4 _ h_; obtain ⟨_,rfl⟩:=h_; rfl) (fun _ _ h_=>h_.elim) rfl (arII_len rfl) ?_;intro C_ bh x_ W_ aL;obtain ⟨x,x2⟩:=x_;obtain rfl:=aL;refine kg 7 ?_;refine ⟨rfl,rfl,?_⟩;intro w R aM aq s_ r aN hM H
  skip
  obtain ⟨l4,aO⟩:∃ y_,y_=s_:=⟨_,rfl⟩
  subst aO;obtain ⟨aj,rfl⟩:=aN;replace au:=au.sub aM;replace hM:(m_daily_opened_b1 aa ab ai l4 (x,x2)).Ends r:=hM;simp only [m_daily_opened_b1] at hM;replace H:=H.pk [0,1,3,4,5,6,7,2];refine kDS 1 [0,1,2,3,4,5,6,7] (.q 0 (.q 1 (.q 2 (.q 3 (.q 4 (.q 5 (.q 6 (.q 7 (.q 8 (.q 9 (.q 10 (.q 11 (.q 12 (.q 13 (.q 14 (.q 15 (.q 16 (.q 17 (.q 18 (.q 19 (.q 20 (.q 21 (.q 22 (.q 23 (.q 24 (.q 25 (.q 26 (.q 27 (.q 28 (.q 29 .nil)))))))))))))))))))))))))))))) 30 [30] ?_;intro b9 H;obtain ⟨cb,hM⟩:=M.e_gq hM;obtain ⟨cc,hM⟩:=M.e_gq hM;obtain ⟨cd,hM⟩:=M.e_gq hM;refine kG 32 ?_;obtain ⟨ce,bi,hM⟩:=M.e_bind hM;refine s_callv (f:=143) rfl cq [I x2,I (((l4.getD (Int.toNat x) default).lo)-ab),I (((l4.getD (Int.toNat x) default).hi)+aa)] rfl (daily_opened_1_ok x2 (((l4.getD (Int.toNat x) default).lo)-ab) (((l4.getD (Int.toNat x) default).hi)+aa) aa ab ai l4 (au.app _) ax (Has.here (k:=3) rfl) bi _ (H.gt 6)) ?_;rintro _ cf ⟨l_k023,aP,rfl,rfl,ak⟩;replace H:=H.bk ak;refine s_nil ⟨trivial,?_⟩;refine sr_nil ?_;exact ⟨l_k023,[cOwn (α:=Span) 32 aP l_k023,cBlk ac [I aa,I ab,ae,aP] 131],(M.e_pure hM).symm,⟨aP,rfl⟩,H.pick [0,1,7,2,3,4,5,6] (by decide) rfl⟩
 replace H:St w bg (cAll (cObj aH (.loop aJ) :: [cOwn (α:=Span) 32 am l,cBlk ac [I aa,I ab,ae,am] 131]) :: [cMk (aC :: av),cBlk aA [Pq ac] 127,cBlk aB [B az] 4,cBlk ao [.func (.func 143) #[] #[Pq ah]] 232,cBlk ah [Pq ac] 127,cBlk ay [I aa,I ab,ae] 74]) R:=St.bundleB (A:=cObj aH (.loop aJ) :: [cOwn (α:=Span) 32 am l,cBlk ac [I aa,I ab,ae,am] 131]) (T:=[cMk (aC :: av),cBlk aA [Pq ac] 127,cBlk aB [B az] 4,cBlk ao [.func (.func 143) #[] #[Pq ah]] 232,cBlk ah [Pq ac] 127,cBlk ay [I aa,I ab,ae] 74]) rfl (H.pk [0,2,3,1,4,5,6,7,8]);refine (daily_work_pairs_1_ok (M.yl (m_daily_opened_b1 aa ab ai)) (.inl l) aa ab ai az hYC ⟨_,rfl,⟨am,rfl⟩⟩ (au.app _) ax (by rintro (l4 | _) _ h_; (obtain ⟨_,rfl,_,rfl⟩:=h_; exact Fld.all (Fld.here (k:=2) rfl rfl)); (obtain ⟨_,_,h_⟩:=h_; exact h_.elim)) (Has.here (k:=1) rfl) (Has.here (k:=2) rfl) bf _ (H.gt 6)).mono ?_;rintro vq cg ⟨bj,ch,rfl,hvq,ak,aY⟩;replace H:=H.back ak rfl;clear ak hYC;rcases bj with l4 | _
 ·obtain ⟨_,rfl,aj,rfl⟩:=aY;refine ⟨_,[cOwn (α:=Span) 32 aj l4,cBlk ac [I aa,I ab,ae,aj] 131,cBlk aA [Pq ac] 127,cBlk aB [B az] 4,cBlk ao [.func (.func 143) #[] #[Pq ah]] 232,cBlk ah [Pq ac] 127,cBlk ay [I aa,I ab,ae] 74],H.unbundle.pick [0,3,1,2,4,5,6,7,8] (by decide) rfl,aK.nb,?_⟩;intro ck H;rw [aK.pd];replace H:=H.nf
  try simp only []
  replace H:=H.pk [0,1,2,5,6];refine WD.seq<|WD.seq<|WD.of ?_;refine kC 2 @daily_work_pairs_ok ?_;intro cn aD aE aF hM H;refine s_nil<|WD.block ?_;obtain ⟨cp,bm,hM⟩:=M.e_bind hM;refine WD.range (L:=[cOwn (α:=Span) 32 aj l4,cBlk ac [I aa,I ab,ae,aj] 131,cBlk aE [Pq ac] 127,cBlk aF [B aD] 4,cBlk ao [.func (.func 143) #[] #[Pq ah]] 232,cBlk ah [Pq ac] 127]) [Pq aE,Pq aF] (H.pk [2,3,4,0,1,5,6]) rfl cq ?_;intro aI aQ aR bn aS H
  have hYC:YieldC Tryz.prog ([cMk (aQ :: (aC :: av)),cBlk aE [Pq ac] 127,cBlk aF [B aD] 4,cBlk ao [.func (.func 143) #[] #[Pq ah]] 232,cBlk ah [Pq ac] 127]++R) arII (yJ aI aR (fun l5 aq=>∃ (al:Value),aq=[cOwn (α:=Span) 32 al l5,cBlk ac [I aa,I ab,ae,al] 131]) (fun (_:Unit) _=>False) (fun _=>.ret)) (.func (.yield aI) #[] #[]) (M.yl (m_daily_opened_b2 aa ab ai)):=by
   refine YieldC.mk aS (fun l5 aq=>∃ (al:Value),aq=[cOwn (α:=Span) 32 al l5,cBlk ac [I aa,I ab,ae,al] 131]) (fun (_:Unit) _=>False) (fun _=>.ret) (m_daily_opened_b2 aa ab ai) (by rintro l5 _ h_; obtain ⟨_,rfl⟩:=h_; rfl) (fun _ _ h_=>h_.elim) rfl (arII_len rfl) ?_;intro C_ bh x_ W_ aL;obtain ⟨x3,x4⟩:=x_;obtain rfl:=aL;refine kg 7 ?_;refine ⟨rfl,rfl,?_⟩;intro w R aM aq s_ r aN hM H
   skip
   obtain ⟨l5,aO⟩:∃ y_,y_=s_:=⟨_,rfl⟩
   subst aO;obtain ⟨al,rfl⟩:=aN;replace au:=au.sub aM;replace hM:(m_daily_opened_b2 aa ab ai l5 (x3,x4)).Ends r:=hM;simp only [m_daily_opened_b2] at hM;replace H:=H.pk [0,1,3,4,5,6,2];refine kDS 1 [0,1,2,3,4,5,6] (.q 0 (.q 1 (.q 2 (.q 3 (.q 4 (.q 5 (.q 6 (.q 7 (.q 8 (.q 9 (.q 10 (.q 11 (.q 12 (.q 13 (.q 14 (.q 15 (.q 16 (.q 17 (.q 18 (.q 19 (.q 20 (.q 21 (.q 22 (.q 23 (.q 24 (.q 25 (.q 26 (.q 27 (.q 28 (.q 29 .nil)))))))))))))))))))))))))))))) 30 [30] ?_;intro ct H;obtain ⟨cu,hM⟩:=M.e_gq hM;obtain ⟨cw,hM⟩:=M.e_gq hM;obtain ⟨cA,hM⟩:=M.e_gq hM;refine kG 32 ?_;obtain ⟨cB,bo,hM⟩:=M.e_bind hM;refine s_callv (f:=143) rfl cq [I x4,I (((l5.getD (Int.toNat x3) default).lo)-aa),I (((l5.getD (Int.toNat x3) default).hi)+ab)] rfl (daily_opened_1_ok x4 (((l5.getD (Int.toNat x3) default).lo)-aa) (((l5.getD (Int.toNat x3) default).hi)+ab) aa ab ai l5 (au.app _) ax (Has.here (k:=3) rfl) bo _ (H.gt 5)) ?_;rintro _ cC ⟨l_k0232,aT,rfl,rfl,ak⟩;replace H:=H.bk ak;refine s_nil ⟨trivial,?_⟩;refine sr_nil ?_;exact ⟨l_k0232,[cOwn (α:=Span) 32 aT l_k0232,cBlk ac [I aa,I ab,ae,aT] 131],(M.e_pure hM).symm,⟨aT,rfl⟩,H.pick [0,1,6,2,3,4,5] (by decide) rfl⟩
  replace H:St w bn (cAll (cObj aI (.loop aR) :: [cOwn (α:=Span) 32 aj l4,cBlk ac [I aa,I ab,ae,aj] 131]) :: [cMk (aQ :: (aC :: av)),cBlk aE [Pq ac] 127,cBlk aF [B aD] 4,cBlk ao [.func (.func 143) #[] #[Pq ah]] 232,cBlk ah [Pq ac] 127]) R:=St.bundleB (A:=cObj aI (.loop aR) :: [cOwn (α:=Span) 32 aj l4,cBlk ac [I aa,I ab,ae,aj] 131]) (T:=[cMk (aQ :: (aC :: av)),cBlk aE [Pq ac] 127,cBlk aF [B aD] 4,cBlk ao [.func (.func 143) #[] #[Pq ah]] 232,cBlk ah [Pq ac] 127]) rfl (H.pk [0,2,3,1,4,5,6,7]);refine (daily_work_pairs_1_ok (M.yl (m_daily_opened_b2 aa ab ai)) (.inl l4) aa ab ai aD hYC ⟨_,rfl,⟨aj,rfl⟩⟩ (au.app _) ax (by rintro (l5 | _) _ h_; (obtain ⟨_,rfl,_,rfl⟩:=h_; exact Fld.all (Fld.here (k:=2) rfl rfl)); (obtain ⟨_,_,h_⟩:=h_; exact h_.elim)) (Has.here (k:=1) rfl) (Has.here (k:=2) rfl) bm _ (H.gt 5)).mono ?_;rintro vq cD ⟨bp,cE,rfl,hvq,ak,aZ⟩;replace H:=H.back ak rfl;clear ak hYC;rcases bp with l5 | _
  ·obtain ⟨_,rfl,al,rfl⟩:=aZ;refine ⟨_,[cOwn (α:=Span) 32 al l5,cBlk ac [I aa,I ab,ae,al] 131,cBlk aE [Pq ac] 127,cBlk aF [B aD] 4,cBlk ao [.func (.func 143) #[] #[Pq ah]] 232,cBlk ah [Pq ac] 127],H.unbundle.pick [0,3,1,2,4,5,6,7] (by decide) rfl,aS.nb,?_⟩;intro cF H;rw [aS.pd];replace H:=H.nf
   try simp only []
   replace H:=H.pk [0,1,2,6];refine WD.seq<|WD.of ?_;refine kD 0 [0,1,2,3] [5] ?_;intro cG H;refine kg 5 ?_;refine d_l rfl ?_;obtain ⟨cH,br,hM⟩:=M.e_bind hM;refine s_call cq [al,.func (.func 146) #[] #[]] rfl (daily_every_api_Span_ok l5 (fun aU=>m_daily_opened_2 aU) (rdo 1) (H.os 1) ⟨146,[],rfl,cq,fun a7 cI cJ bt aU cK bu cL bv bw=>by obtain rfl:=Span_arg bv; exact (daily_opened_2_ok aU bw a7 (St.refl bu)).mono fun bt a7 ⟨cM,bx,bz,bA⟩=>by subst bx; exact ⟨bz,bA⟩⟩ br _ (H.gt 4)) ?_
   rintro _ cN ⟨r3,rfl,rfl,ak⟩;replace H:=H.bk ak;refine kN ?_;refine kg 4 ?_;refine WD.of ?_;refine W.ret ?_;refine bodyD_r (H.pk [0,1,2,3]) ?_;intro cO H;replace H:=H.nf;have bB:=M.e_pure hM;exact ⟨_,resE_tmp3 rfl,⟨aa,ab,l5,r3,0,ac,al,bB,rfl,(H.pk [1,0])⟩⟩
  obtain ⟨_,_,h_⟩:=aZ; exact h_.elim
 obtain ⟨_,_,h_⟩:=aY; exact h_.elim

def m_daily_agreed (aa ab:Int) (ac:List DVal):M (Int × Int × (List Span) × Int) :=
  M.bind (m_daily_opened aa ab ac) fun (ae,ah,ai,r1,r2) =>
  bif ((r2==0)&&(!r1)) then (
  M.fail)
  else (
  M.pure (ae,ah,ai,r2))
theorem daily_agreed_ok {R ab aa}(ac ae ah)(ak:Reads R ab)(al:Sl ab aa ah){r}(hM:(m_daily_agreed ac ae ah).Ends r)(w)(H:St w w [] R):Ret Tryz.prog 51 #[.agg #[I ac,I ae,aa]] w fun v w'=>∃ y0 y1 y2 y3 ai u1,(y0,y1,y2,y3)=r/\v = .tuple #[Pq ai,I y3]/\St w w' [cBlk ai [I y0,I y1,aa,u1] 131,cOwn (α:=Span) 32 u1 y2] R:=by
 refine ret_of_W Tryz.func51 rfl rfl rfl ?_;refine kB 2 ?_;intro am ao H;refine kC 6 @daily_opened_ok ?_;intro aq au av aw r1 r2 ax ay hM H;refine kI 18 ?_ ?_
 ·intro aj hM;exact (M.e_fail hM).elim
 intro aj hM;exact kR 8 [0,1]

def m_daily_both  : M Unit :=
  M.pure ()
theorem daily_both_ok {R r}(hM:(m_daily_both).Ends r)(w)(H:St w w [] R):Ret Tryz.prog 52 #[] w fun v w'=>()=r/\v = .agg #[.func (.func 101) #[] #[],.func (.func 102) #[] #[]]/\St w w' [] R:=by
 refine ret_of_W Tryz.func52 rfl rfl rfl ?_;refine kA 2 ?_;intro aa ab H;refine kG 5 ?_;refine s_val (x_bldA (e:=133) (n:=2) (s:=1) (pl:=[(0,1),(1,1)]) (ps:=[(0,.agg #[.func (.func 101) #[] #[]]),(1,.agg #[.func (.func 102) #[] #[]])]) (zs:=[.nilFunc,.nilFunc]) (L':=[.func (.func 101) #[] #[],.func (.func 102) #[] #[]]) rfl Tryz.underlying134 Al134.h rfl Sz133.h rfl (.cons (cs:=[.func (.func 101) #[] #[]]) rfl rfl rfl rfl rfl<|.cons (cs:=[.func (.func 102) #[] #[]]) rfl rfl rfl rfl rfl<|.nil)) ?_;refine ksw ?_;intro ac H;exact kR 1 []

def m_daily_both_1 (s:Span):M Int :=
  M.pure s.lo
theorem daily_both_1_ok {R}(s){r}(hM:(m_daily_both_1 s).Ends r)(w)(H:St w w [] R):Ret Tryz.prog 101 #[.agg #[I s.lo,I s.hi]] w fun v w'=>∃ y0,y0=r/\v=I y0/\St w w' [] R:=by
 refine ret_of_W Tryz.func101 rfl rfl rfl ?_;refine kB 2 ?_;intro aa ab H;refine kg 8 ?_;exact rt

def m_daily_ends_101_b0 (l:List Span):(Nat × (List Int))->M ((Nat × (List Int)) ⊕ ((List Int) × (List Int))):=fun (s,l2) =>
  bif decide ((s:Int)<(l.length:Int)) then (
  M.grd (decide ((s:Int)<(l.length:Int))) <|
  M.bind (m_daily_both_1 (l.getD s default)) fun r2 =>
  M.grd (decide ((l2.length+([(r2:Int)]).length)*8<=140737488355328)) <|
  M.pure (.inl (s+1,l2++([(r2:Int)]))))
  else (
  M.pure (.inr (l2,l2)))
def m_daily_ends_101 (l:List Span):M (List Int) :=
  M.bind (M.iter (m_daily_ends_101_b0 l) (0,[])) fun (l3,l4) =>
  M.pure l4
theorem daily_ends_101_ok {R ac aa}(l)(av:Reads R ac)(ai:Sl ac aa l){r}(hM:(m_daily_ends_101 l).Ends r)(w)(H:St w w [] R):Ret Tryz.prog 54 #[aa,.agg #[.func (.func 101) #[] #[]]] w fun v w'=>∃ y0 u0,y0=r/\v=u0/\St w w' [cOwn (α:=Int) 3 u0 y0] R:=by
 refine ret_of_W Tryz.func54 rfl rfl rfl ?_;refine kB 2 ?_;intro ae aw H;have ax:=(ai).len_le;refine kg 14 ?_;replace H:=H.nilOwn (α:=Int) 3;obtain ⟨aj,ah,ak⟩:=M.e_bind hM;obtain ⟨ay,ah⟩:=M.e_iter ah;refine W.loop (fun m σ W=>∃ (s:Nat) (l2:List Int) (ab:Value) (ρ:Env),σ=upds ρ [(3,Pq ae),(5,ab),(8,aa),(9,I (l.length:Int)),(10,I (s:Int))]/\M.iterN (m_daily_ends_101_b0 l) m (s,l2)=some aj/\St w W [cOwn (α:=Int) 3 ab l2,cBlk ae [.func (.func 101) #[] #[]] 133] R) ?_ ?_
 ·exact kY
 rintro az σ aA ⟨s,l2,ab,ρ,rfl,al,H⟩;obtain ⟨aB,aC,aD,hM,am⟩:=M.e_iterN al;refine kI 5 ?_ ?_
 ·intro ao hM;obtain ⟨aE,hM⟩:=M.e_gq hM;refine kA 7 ?_;intro aF aG H;refine ksw ?_;intro aH H;refine kg 6 ?_;obtain ⟨aI,aq,hM⟩:=M.e_bind hM;refine s_callv (f:=101) rfl cq [.agg #[I ((l.getD s default).lo),I ((l.getD s default).hi)]] rfl (daily_both_1_ok (l.getD s default) aq _ (H.gt 3)) ?_;rintro _ aJ ⟨r2,rfl,rfl,au⟩;replace H:=H.bk au;refine kL 0 (α:=Int) [r2] ?_;intro aK aL H;obtain ⟨aM,hM⟩:=M.e_gq hM;refine kP 0 ?_;intro aN aO H;refine kg 2 ?_;replace H:=H.pk [2,3];exact kX 4
 intro ao hM;refine W.exit ?_;obtain rfl:=M.e_inr hM am;replace hM:=ak;exact kR 5 [0]

def m_daily_sum_b0 (l:List Int):(Int × Nat)->M ((Int × Nat) ⊕ Int):=fun (out,s) =>
  bif decide ((s:Int)<(l.length:Int)) then (
  M.grd (decide ((s:Int)<(l.length:Int))) <|
  M.gi (out+(l.getD s 0)) <|
  M.pure (.inl (out+(l.getD s 0),s+1)))
  else (
  M.pure (.inr out))
def m_daily_sum (l:List Int):M Int :=
  M.bind (M.iter (m_daily_sum_b0 l) (0,0)) fun out2 =>
  M.pure out2
theorem daily_sum_ok {R ab aa}(l)(am:Reads R ab)(ae:Sl ab aa l){r}(hM:(m_daily_sum l).Ends r)(w)(H:St w w [] R):Ret Tryz.prog 53 #[aa] w fun v w'=>∃ y0,y0=r/\v=I y0/\St w w' [] R:=by
 refine ret_of_W Tryz.func53 rfl rfl rfl ?_;have ao:=(ae).len_le;refine kg 16 ?_;obtain ⟨ah,ac,ai⟩:=M.e_bind hM;obtain ⟨aq,ac⟩:=M.e_iter ac;refine W.loop (fun m σ W=>∃ (out:Int) (s:Nat) (ρ:Env),σ=upds ρ [(3,I out),(6,aa),(7,I (l.length:Int)),(8,I (s:Int))]/\M.iterN (m_daily_sum_b0 l) m (out,s)=some ah/\St w W [] R) ?_ ?_
 ·exact kY
 rintro au σ av ⟨out,s,ρ,rfl,aj,H⟩;obtain ⟨aw,ax,ay,hM,ak⟩:=M.e_iterN aj;refine kI 5 ?_ ?_
 ·intro al hM;obtain ⟨az,hM⟩:=M.e_gq hM;obtain ⟨aA,hM⟩:=M.e_gq hM;exact kX 19
 intro al hM;refine W.exit ?_;obtain rfl:=M.e_inr hM ak;replace hM:=ai;refine kg 5 ?_;exact rt

def m_daily_both_2 (s:Span):M Int :=
  M.pure s.hi
theorem daily_both_2_ok {R}(s){r}(hM:(m_daily_both_2 s).Ends r)(w)(H:St w w [] R):Ret Tryz.prog 102 #[.agg #[I s.lo,I s.hi]] w fun v w'=>∃ y0,y0=r/\v=I y0/\St w w' [] R:=by
 refine ret_of_W Tryz.func102 rfl rfl rfl ?_;refine kB 2 ?_;intro aa ab H;refine kg 8 ?_;exact rt

end Go.Proofs.YtbgoclcmgbpckaaGreat
end
section
set_option maxRecDepth 100000
set_option maxHeartbeats 16000000
namespace Go.Proofs.YtbgoclcmgbpckaaGreat
open Go Go.Nm
attribute [local irreducible] gd execOp SL SLD SLT WR
def m_daily_ends_102_b0 (l:List Span):(Nat × (List Int))->M ((Nat × (List Int)) ⊕ ((List Int) × (List Int))):=fun (s,l2) =>
  bif decide ((s:Int)<(l.length:Int)) then (
  M.grd (decide ((s:Int)<(l.length:Int))) <|
  M.bind (m_daily_both_2 (l.getD s default)) fun r2 =>
  M.grd (decide ((l2.length+([(r2:Int)]).length)*8<=140737488355328)) <|
  M.pure (.inl (s+1,l2++([(r2:Int)]))))
  else (
  M.pure (.inr (l2,l2)))
def m_daily_ends_102 (l:List Span):M (List Int) :=
  M.bind (M.iter (m_daily_ends_102_b0 l) (0,[])) fun (l3,l4) =>
  M.pure l4
theorem daily_ends_102_ok {R ac aa}(l)(av:Reads R ac)(ai:Sl ac aa l){r}(hM:(m_daily_ends_102 l).Ends r)(w)(H:St w w [] R):Ret Tryz.prog 54 #[aa,.agg #[.func (.func 102) #[] #[]]] w fun v w'=>∃ y0 u0,y0=r/\v=u0/\St w w' [cOwn (α:=Int) 3 u0 y0] R:=by
 refine ret_of_W Tryz.func54 rfl rfl rfl ?_;refine kB 2 ?_;intro ae aw H;have ax:=(ai).len_le;refine kg 14 ?_;replace H:=H.nilOwn (α:=Int) 3;obtain ⟨aj,ah,ak⟩:=M.e_bind hM;obtain ⟨ay,ah⟩:=M.e_iter ah;refine W.loop (fun m σ W=>∃ (s:Nat) (l2:List Int) (ab:Value) (ρ:Env),σ=upds ρ [(3,Pq ae),(5,ab),(8,aa),(9,I (l.length:Int)),(10,I (s:Int))]/\M.iterN (m_daily_ends_102_b0 l) m (s,l2)=some aj/\St w W [cOwn (α:=Int) 3 ab l2,cBlk ae [.func (.func 102) #[] #[]] 133] R) ?_ ?_
 ·exact kY
 rintro az σ aA ⟨s,l2,ab,ρ,rfl,al,H⟩;obtain ⟨aB,aC,aD,hM,am⟩:=M.e_iterN al;refine kI 5 ?_ ?_
 ·intro ao hM;obtain ⟨aE,hM⟩:=M.e_gq hM;refine kA 7 ?_;intro aF aG H;refine ksw ?_;intro aH H;refine kg 6 ?_;obtain ⟨aI,aq,hM⟩:=M.e_bind hM;refine s_callv (f:=102) rfl cq [.agg #[I ((l.getD s default).lo),I ((l.getD s default).hi)]] rfl (daily_both_2_ok (l.getD s default) aq _ (H.gt 3)) ?_;rintro _ aJ ⟨r2,rfl,rfl,au⟩;replace H:=H.bk au;refine kL 0 (α:=Int) [r2] ?_;intro aK aL H;obtain ⟨aM,hM⟩:=M.e_gq hM;refine kP 0 ?_;intro aN aO H;refine kg 2 ?_;replace H:=H.pk [2,3];exact kX 4
 intro ao hM;refine W.exit ?_;obtain rfl:=M.e_inr hM am;replace hM:=ak;exact kR 5 [0]

def m_daily_Volume (ah ai:Int) (ac:List DVal) (ab aa:Int):M (Int × Int × Int) :=
  M.bind (m_daily_Check ah ai ac) fun r2 =>
  bif r2 != 0 then (
  M.fail)
  else (
  M.bind (m_daily_in ab 0 aa) fun r3 =>
  bif ((!r3)||(decide ((ac.length:Int)<=aa))) then (
  M.fail)
  else (
  M.bind (m_daily_agreed ah ai ac) fun (aj,ak,ae,r1) =>
  bif r1 != 0 then (
  M.fail)
  else (
  M.gi (aa+1) <|
  M.grd (decide ((0:Int)<=ab)&&decide (ab<=(aa+1))&&decide ((aa+1)<=(ae.length:Int))) <|
  M.bind (m_daily_both) fun (_:Unit) =>
  M.bind (m_daily_ends_101 ((ae.take (Int.toNat (aa+1))).drop (Int.toNat ab))) fun r4 =>
  M.bind (m_daily_sum r4) fun r5 =>
  M.bind (m_daily_ends_102 ((ae.take (Int.toNat (aa+1))).drop (Int.toNat ab))) fun r6 =>
  M.bind (m_daily_sum r6) fun r7 =>
  M.pure (r5,r7,0))))
theorem daily_Volume_ok {R ae ah}(ai aj ak aa ab)(aB:Reads R ae)(ao:Sl ae ah ak){r}(hM:(m_daily_Volume ai aj ak aa ab).Ends r)(w)(H:St w w [] R):Ret Tryz.prog 22 #[.agg #[I ai,I aj,ah],I aa,I ab] w fun v w'=>∃ y0 y1 y2,(y0,y1,y2)=r/\v = .tuple #[.agg #[I y0,I y1],I y2]/\St w w' [] R:=by
 refine ret_of_W Tryz.func22 rfl rfl rfl ?_;refine kB 2 ?_;intro aC aD H;refine kal ?_;intro aE aF H;refine kC 6 @daily_Check_ok ?_;intro aG r2 hM H;refine kI 7 ?_ ?_
 ·intro aq hM;exact (M.e_fail hM).elim
 intro aq hM;refine kC 6 @daily_in_ok ?_;intro aH r3 hM H;have aI:=(ao).len_le;refine kI 9 ?_ ?_
 ·intro au hM;exact (M.e_fail hM).elim
 intro au hM;refine kC 4 @daily_agreed_ok ?_;intro aJ aK aL av r1 aM aw hM H;refine kI 12 ?_ ?_
 ·intro ax hM;exact (M.e_fail hM).elim
 intro ax hM;refine kDT 2 [0,1,2,3] (.q 0 (.q 1 (.q 2 (.q 3 (.q 4 (.q 5 (.q 6 (.q 7 (.l2 8 (.l 9 (.q 10 (.l 11 .nil))) 9 (.l 8 (.q 10 (.l 11 .nil)))))))))))) ?_;intro aN H;obtain ⟨aO,hM⟩:=M.e_gq hM;obtain ⟨aP,hM⟩:=M.e_gq hM;refine kg 7 ?_;obtain ⟨al,ay,am⟩:=sl_lohi T27.h.und T27.h.size (H.os 1) (i:=aa) (j:=ab+1) (by omega) (by omega) (by omega);replace am:Sl _ al ((av.take (Int.toNat (ab+1))).drop (Int.toNat aa)):=am;refine t_q rfl (fun w' H=>x_sl (v:=aw) (u:=al) (lo':=some (I aa)) (hi':=some (I (ab+1))) (mx':=none) rfl rfl rfl rfl (ay _)) ?_;refine t_l2 rfl rfl ?_ ?_
 ·refine kC 0 @daily_both_ok ?_;intro aQ hM H;refine kN ?_;refine kA 1 ?_;intro ac aR H;refine kN ?_;refine kS 2 ?_;intro aS H;refine kN ?_;refine t_nil ?_;replace H:=H.pk [0,2,3];refine kDo 1 [0,1] [(0,true),(1,true),(2,true),(5,true),(6,true),(7,true),(3,false),(4,false),(8,false),(9,false),(10,true),(11,false),(12,true)] ?_;intro aT H;refine kg 1 ?_;refine d_q rfl (fun w' H=>x_ix (v:=Pq ac) rfl rfl (run_indexArrC Tryz.underlying134 Sz133.h (by decide) (by decide))) ?_;refine kg 2 ?_;refine d_q rfl (fun w' H=>x_ix (v:=Oq ac 1) rfl rfl (run_indexArrC Tryz.underlying134 Sz133.h (by decide) (by decide))) ?_;refine kC 2 @daily_ends_101_ok ?_;intro aU r4 az hM H;refine kN ?_;refine kC 1 @daily_sum_ok ?_;intro aV r5 hM H;refine kN ?_;refine kC 1 @daily_ends_102_ok ?_;intro aW r6 aA hM H;refine kN ?_;refine kC 1 @daily_sum_ok ?_;intro aX r7 hM H;refine kN ?_;refine kS 2 ?_;intro aY H;refine kN ?_;refine kg 2 ?_;replace H:=H.pk [4];exact kR 0 []
 refine kal ?_;intro ac aZ H;refine kN ?_;refine kC 1 @daily_both_ok ?_;intro a7 hM H;refine kN ?_;refine kS 2 ?_;intro a8 H;refine kN ?_;refine t_nil ?_;replace H:=H.pk [0,2,3];refine kDo 1 [0,1] [(0,true),(1,true),(2,true),(5,true),(6,true),(7,true),(3,false),(4,false),(8,false),(9,false),(10,true),(11,false),(12,true)] ?_;intro ba H;refine kg 1 ?_;refine d_q rfl (fun w' H=>x_ix (v:=Pq ac) rfl rfl (run_indexArrC Tryz.underlying134 Sz133.h (by decide) (by decide))) ?_;refine kg 2 ?_;refine d_q rfl (fun w' H=>x_ix (v:=Oq ac 1) rfl rfl (run_indexArrC Tryz.underlying134 Sz133.h (by decide) (by decide))) ?_;refine kC 2 @daily_ends_101_ok ?_;intro bb r4 az hM H;refine kN ?_;refine kC 1 @daily_sum_ok ?_;intro bc r5 hM H;refine kN ?_;refine kC 1 @daily_ends_102_ok ?_;intro bf r6 aA hM H;refine kN ?_;refine kC 1 @daily_sum_ok ?_;intro bg r7 hM H;refine kN ?_;refine kS 2 ?_;intro bh H;refine kN ?_;refine kg 2 ?_;replace H:=H.pk [4];exact kR 0 []

def m_share_in (n aa greatest:Int):M Bool :=
  M.pure ((decide (aa<=n))&&(decide (n<=greatest)))
theorem share_in_ok {R}(n aa greatest){r}(hM:(m_share_in n aa greatest).Ends r)(w)(H:St w w [] R):Ret Tryz.prog 109 #[I n,I aa,I greatest] w fun v w'=>∃ y0,y0=r/\v=B y0/\St w w' [] R:=by
 refine ret_of_W Tryz.func109 rfl rfl rfl ?_;refine kg 16 ?_;exact rt

def zd0 (s:List Rgt) (f:Rgt->M Bool):Nat->M (Nat ⊕ Unit):=fun s2 =>
  bif decide ((s2:Int)<(s.length:Int)) then (
  M.grd (decide ((s2:Int)<(s.length:Int))) <|
  M.bind (f (s.getD s2 default)) fun r2 =>
  bif r2 then (
  M.fail)
  else (
  M.pure (.inl (s2+1))))
  else (
  M.pure (.inr ()))
def zea (s:List Rgt) (f:Rgt->M Bool):M Int :=
  M.bind (M.iter (zd0 s f) 0) fun (_:Unit) =>
  M.pure (-1)
theorem zfM {R ac aa ab}(s f)(av:Reads R ac)(ah:Sl ac aa s)(ai:FnM Tryz.prog R ab f){r}(hM:(zea s f).Ends r)(w)(H:St w w [] R):Ret Tryz.prog 195 #[aa,ab] w fun v w'=>∃ y0,y0=r/\v=I y0/\St w w' [] R:=by
 refine ret_of_W Tryz.func195 rfl rfl rfl ?_;have aw:=(ah).len_le;refine kg 12 ?_;obtain ⟨aj,ae,ak⟩:=M.e_bind hM;obtain ⟨ax,ae⟩:=M.e_iter ae;refine W.loop (fun m σ W=>∃ (s2:Nat) (ρ:Env),σ=upds ρ [(0,aa),(1,ab),(7,I (s.length:Int)),(8,I (s2:Int))]/\M.iterN (zd0 s f) m s2=some aj/\St w W [] R) ?_ ?_
 ·exact kY
 rintro ay σ az ⟨s2,ρ,rfl,al,H⟩;obtain ⟨aA,aB,aC,hM,am⟩:=M.e_iterN al;refine kI 5 ?_ ?_
 ·intro ao hM;obtain ⟨aD,hM⟩:=M.e_gq hM;refine kg 15 ?_;obtain ⟨r2,aq,hM⟩:=M.e_bind hM;refine t_callM H ai rfl rfl (s.getD s2 default) Reads.none ⟨_,rfl,rfl⟩ aq ?_;intro aE H;refine kI 1 ?_ ?_
  ·intro au hM;exact (M.e_fail hM).elim
  intro au hM;exact kX 5
 intro ao hM;refine W.exit ?_;obtain rfl:=M.e_inr hM am;replace hM:=ak;refine kg 4 ?_;exact rt

def zep (s:List Rgt) (f:Rgt->M Bool):M Bool :=
  M.bind (zea s f) fun r2 =>
  M.pure (decide (0<=r2))
theorem zfw {R aa ab ac}(s f)(ae:Reads R aa)(ah:Sl aa ab s)(ai:FnM Tryz.prog R ac f){r}(hM:(zep s f).Ends r)(w)(H:St w w [] R):Ret Tryz.prog 158 #[ab,ac] w fun v w'=>∃ y0,y0=r/\v=B y0/\St w w' [] R:=by
 refine ret_of_W Tryz.func158 rfl rfl rfl ?_;refine kC 8 @zfM ?_;intro aj r2 hM H;refine kg 3 ?_;exact rt

def m_share_every_share_Right__1 (x:Rgt) (aa:Rgt->M Bool):M Bool :=
  M.bind (aa x) fun r2 =>
  M.pure (!r2)
theorem share_every_share_Right__1_ok {R aa ab}(x ac)(ae:FnM Tryz.prog R ab ac)(ai:Has R (cBlk aa [ab] 204)){r}(hM:(m_share_every_share_Right__1 x ac).Ends r)(w)(H:St w w [] R):Ret Tryz.prog 159 #[.agg #[I x.state,I x.amount,I x.loss],Pq aa] w fun v w'=>∃ y0,y0=r/\v=B y0/\St w w' [] R:=by
 refine ret_of_W Tryz.func159 rfl rfl rfl ?_;refine kB 2 ?_;intro aj ak H;refine kg 6 ?_;obtain ⟨r2,ah,hM⟩:=M.e_bind hM;refine t_callM H ae rfl rfl x Reads.none ⟨_,rfl,rfl⟩ ah ?_;intro al H;refine kg 3 ?_;exact rt

def m_share_every_share_Right (l:List Rgt) (so:Rgt->M Bool):M Bool :=
  M.bind (zep l (fun aa=>m_share_every_share_Right__1 aa so)) fun r2 =>
  M.pure (!r2)
theorem share_every_share_Right_ok {R ae aa ah}(l so)(aj:Reads R ae)(ak:Sl ae aa l)(al:FnM Tryz.prog R ah so){r}(hM:(m_share_every_share_Right l so).Ends r)(w)(H:St w w [] R):Ret Tryz.prog 110 #[aa,ah] w fun v w'=>∃ y0,y0=r/\v=B y0/\St w w' [] R:=by
 refine ret_of_W Tryz.func110 rfl rfl rfl ?_;refine kB 2 ?_;intro ab aA H;refine kg 5 ?_;refine s_val (x_mf (fs:=[]) (cs:=[Pq ab]) rfl rfl) ?_;obtain ⟨aB,am,hM⟩:=M.e_bind hM;refine s_call cq [aa,.func (.func 159) #[] #[Pq ab]] rfl (zfw l (fun ac=>m_share_every_share_Right__1 ac so) (aj.app _) ak ⟨159,[Pq ab],rfl,cq,fun ai aC aD ao ac aE aq aF au av=>by obtain rfl:=Rgt_arg au; exact (share_every_share_Right__1_ok ac so (FnM.app (al.app _) _) (Has.app (Has.here (k:=0) rfl) _) av ai (St.refl aq)).mono fun ao ai ⟨aG,aw,ax,ay⟩=>by subst aw; exact ⟨ax,ay⟩⟩ am _ (H.gt 1)) ?_;rintro _ aH ⟨r2,rfl,rfl,az⟩;replace H:=H.bk az;refine kg 3 ?_;exact rt

def m_share_water (n:Int):M Bool :=
  M.bind (m_share_in n 0 1000000000) fun r2 =>
  M.pure r2
theorem share_water_ok {R}(n){r}(hM:(m_share_water n).Ends r)(w)(H:St w w [] R):Ret Tryz.prog 63 #[I n] w fun v w'=>∃ y0,y0=r/\v=B y0/\St w w' [] R:=by
 refine ret_of_W Tryz.func63 rfl rfl rfl ?_;refine kC 7 @share_in_ok ?_;intro aa r2 hM H;refine kg 2 ?_;exact rt

def m_share_Check_1 (r_:Rgt) (aa:Int) (ab:List Rgt):M Bool :=
  M.gi (aa-1) <|
  M.bind (m_share_in r_.state 0 (aa-1)) fun r2 =>
  M.bind (M.opt r2 (m_share_water r_.amount) false) fun r3 =>
  M.bind (M.opt (r2&&r3) (m_share_in r_.loss 0 1000) false) fun r4 =>
  M.pure ((r2&&r3)&&r4)
theorem share_Check_1_ok {R ac ae ah}(r_ ai aj)(am:Reads R ae)(ao:Sl ae ah aj)(aq:Has R (cBlk ac [I ai,ah] 84)){r}(hM:(m_share_Check_1 r_ ai aj).Ends r)(w)(H:St w w [] R):Ret Tryz.prog 111 #[.agg #[I r_.state,I r_.amount,I r_.loss],Pq ac] w fun v w'=>∃ y0,y0=r/\v=B y0/\St w w' [] R:=by
 refine ret_of_W Tryz.func111 rfl rfl rfl ?_;refine kB 2 ?_;intro au av H;obtain ⟨aw,hM⟩:=M.e_gq hM;refine kC 9 @share_in_ok ?_;intro ax r2 hM H;refine kg 3 ?_;obtain ⟨r3,ak,hM⟩:=M.e_bind hM;refine t_gcall r2 (gy_t rfl) cq (B r3) (fun _=>[I r_.amount]) (fun hg=>lst1 (gd_of hg (I r_.amount))) H (fun hg=>(share_water_ok r_.amount (M.e_opt ak hg) _ (H.give (A:=[]) rfl)).mono fun v_ w_ ⟨y_,aa,ab,H_⟩=>by subst aa; exact ⟨ab,H.via H_⟩) ?_;intro ay H;refine kg 4 ?_;obtain ⟨r4,al,hM⟩:=M.e_bind hM;refine t_gcall (r2&&r3) (gy_t rfl) cq (B r4) (fun _=>[I r_.loss,I 0,I 1000]) (fun hg=>lst3 (gd_of hg (I r_.loss)) rfl rfl) H (fun hg=>(share_in_ok r_.loss 0 1000 (M.e_opt al hg) _ (H.give (A:=[]) rfl)).mono fun v_ w_ ⟨y_,aa,ab,H_⟩=>by subst aa; exact ⟨ab,H.via H_⟩) ?_;intro az H;refine kg 3 ?_;exact rt

def m_share_Check (c_States:Int) (c_Rights:List Rgt):M Int :=
  M.bind (m_share_in c_States 1 12) fun r2 =>
  M.bind (M.opt (!(!r2)) (m_share_in (c_Rights.length:Int) 1 30) false) fun r3 =>
  bif ((!r2)||(!r3)) then (
  M.fail)
  else (
  M.bind (m_share_every_share_Right c_Rights (fun aa=>m_share_Check_1 aa c_States c_Rights)) fun r4 =>
  bif !r4 then (
  M.fail)
  else (
  M.pure 0))
theorem share_Check_ok {R ah aa}(c_States c_Rights)(ai:Reads R ah)(ab:Sl ah aa c_Rights){r}(hM:(m_share_Check c_States c_Rights).Ends r)(w)(H:St w w [] R):Ret Tryz.prog 62 #[.agg #[I c_States,aa]] w fun v w'=>∃ y0,y0=r/\v=I y0/\St w w' [] R:=by
 refine ret_of_W Tryz.func62 rfl rfl rfl ?_;refine kB 2 ?_;intro ac aD H;refine kC 8 @share_in_ok ?_;intro aE r2 hM H;have aF:=(ab).len_le;refine kg 5 ?_;obtain ⟨r3,ak,hM⟩:=M.e_bind hM;refine t_gcall (!(!r2)) (gy_f rfl) cq (B r3) (fun _=>[I (c_Rights.length:Int),I 1,I 30]) (fun hg=>lst3 (gd_of hg (I (c_Rights.length:Int))) rfl rfl) H (fun hg=>(share_in_ok (c_Rights.length:Int) 1 30 (M.e_opt ak hg) _ (H.give (A:=[]) rfl)).mono fun v_ w_ ⟨y_,al,am,H_⟩=>by subst al; exact ⟨am,H.via H_⟩) ?_;intro aG H;refine kI 4 ?_ ?_
 ·intro ao hM;exact (M.e_fail hM).elim
 intro ao hM;refine kg 4 ?_;refine s_val (x_mf (fs:=[]) (cs:=[Pq ac]) rfl rfl) ?_;obtain ⟨aH,aq,hM⟩:=M.e_bind hM;refine s_call cq [aa,.func (.func 111) #[] #[Pq ac]] rfl (share_every_share_Right_ok c_Rights (fun ae=>m_share_Check_1 ae c_States c_Rights) (ai.app _) ab ⟨111,[Pq ac],rfl,cq,fun aj aI aJ au ae aK av aL aw ax=>by obtain rfl:=Rgt_arg aw; exact (share_Check_1_ok ae c_States c_Rights (Reads.app (ai.app _) _) ab (Has.app (Has.here (k:=0) rfl) _) ax aj (St.refl av)).mono fun au aj ⟨aM,ay,az,aA⟩=>by subst ay; exact ⟨az,aA⟩⟩ aq _ (H.gt 1)) ?_;rintro _ aN ⟨r4,rfl,rfl,aB⟩;replace H:=H.bk aB;refine kI 3 ?_ ?_
 ·intro aC hM;exact (M.e_fail hM).elim
 intro aC hM;refine kg 5 ?_;exact rt

def m_share_office_taken (aa:Int) (ab:List Rgt) (flow:Int):M Int :=
  M.pure flow
theorem share_office_taken_ok {R aa ab ac}(ae ah flow)(am:Reads R ab)(ao:Sl ab ac ah)(aq:Fld R aa [I ae,ac]){r}(hM:(m_share_office_taken ae ah flow).Ends r)(w)(H:St w w [] R):Ret Tryz.prog 112 #[Pq aa,I flow] w fun v w'=>∃ y0 ai aj,y0=r/\v = .func (.func 160) #[] #[Pq ai,Pq aj]/\St w w' [cBlk ai [Pq aa] 205,cBlk aj [I y0] 3] R:=by
 refine ret_of_W Tryz.func112 rfl rfl rfl ?_;refine kB 2 ?_;intro ak au H;refine kbx ?_;intro al av H;refine kg 4 ?_;refine s_val (x_mf (fs:=[]) (cs:=[Pq ak,Pq al]) rfl rfl) ?_;exact kR 2 [1,0]

def m_share_office_taken_1_b0 {T_:Type} (ab:T_->(Rgt × Int)->M (Bool × T_)) (aa:List Rgt):(Int × Nat × T_)->M ((Int × Nat × T_) ⊕ (T_ × Int)):=fun (s,s2,t2) =>
  bif decide ((s2:Int)<(aa.length:Int)) then (
  M.grd (decide ((s2:Int)<(aa.length:Int))) <|
  M.gi (s-(min ((aa.getD s2 default).amount) s)) <|
  M.bind (ab t2 ((aa.getD s2 default),min ((aa.getD s2 default).amount) s)) fun (go,t) =>
  bif !go then (
  M.fail)
  else (
  M.pure (.inl (s-(min ((aa.getD s2 default).amount) s),s2+1,t))))
  else (
  M.pure (.inr (t2,s)))
def m_share_office_taken_1 {T_:Type} (aa:T_->(Rgt × Int)->M (Bool × T_)) (t_:T_) (ae:Int) (ab:List Rgt) (ac:Int):M (T_ × Int) :=
  M.bind (M.iter (m_share_office_taken_1_b0 aa ab) (ac,0,t_)) fun (t3,s3) =>
  M.pure (t3,s3)
theorem share_office_taken_1_ok {R:List Chunk} {T_:Type} {Y_:T_->List Chunk->Prop} {ah:Value} {ab:List Chunk} {am:Nat} {ao:Nat} {aq:Cells} {ae:Value} {ac:Nat} (ai:T_->(Rgt × Int)->M (Bool × T_)) (t_:T_) (aj:Int) (aa:List Rgt) (ak:Int) (aw:YieldC Tryz.prog R arRgtI Y_ ah ai) (au:Y_ t_ ab) (aL:Reads R aq) (ax:Sl aq ae aa) (ay:∀ (t_:T_) (ab:List Chunk),Y_ t_ ab->Fld (cAll ab :: R) ao [I aj,ae]) (aM:Has R (cBlk am [Pq ao] 205)) {r:(T_ × Int)} (hM:(m_share_office_taken_1 ai t_ aj aa ak).Ends r) (w:World) (H:St w w [cAll ab,cBlk ac [I ak] 3] R):Ret Tryz.prog 160 #[ah,Pq am,Pq ac] w fun v w'=>∃ (y0:T_) (y1:Int) (Ls0:List Chunk),(y0,y1)=r/\v = .tuple #[]/\St w w' [cAll Ls0,cBlk ac [I y1] 3] R/\Y_ y0 Ls0:=by
 refine ret_of_W Tryz.func160 rfl rfl rfl ?_;refine kg 6 ?_;refine s_val (x_ld (v:=ae) rfl (fld_sc (pre:=[I aj,ae]) (i:=1) Sc82.h (Fld.get (Fld.up (ay _ _ au) (k:=0) rfl) H) rfl)) ?_;have aN:=(ax).len_le;refine kg 4 ?_;obtain ⟨az,al,aA⟩:=M.e_bind hM;obtain ⟨aO,al⟩:=M.e_iter al;refine W.loop (fun m σ W=>∃ (s:Int) (s2:Nat) (t2:T_) (Ls_t2:List Chunk) (ρ:Env),σ=upds ρ [(0,ah),(2,Pq ac),(11,ae),(12,I (aa.length:Int)),(13,I (s2:Int))]/\M.iterN (m_share_office_taken_1_b0 ai aa) m (s,s2,t2)=some az/\St w W [cAll Ls_t2,cBlk ac [I s] 3] R/\Y_ t2 Ls_t2) ?_ ?_
 ·exact ⟨_,ak,0,t_,ab,_,jQ,al,H,au⟩
 rintro aP σ aQ ⟨s,s2,t2,Ls_t2,ρ,rfl,aB,H,hY_t2⟩;obtain ⟨aC,aD,aR,hM,av⟩:=M.e_iterN aB;refine kI 5 ?_ ?_
 ·intro aE hM;obtain ⟨aS,hM⟩:=M.e_gq hM;refine kA 7 ?_;intro aF aT H;refine ksw ?_;intro aU H;obtain ⟨aV,hM⟩:=M.e_gq hM;refine kS 14 ?_;intro aW H;refine kg 6 ?_;obtain ⟨⟨go,t⟩,aG,hM⟩:=M.e_bind hM;refine t_yield (L:=[cBlk aF [I ((aa.getD s2 default).state),I ((aa.getD s2 default).amount),I ((aa.getD s2 default).loss)] 160,cBlk ac [I (s-(min ((aa.getD s2 default).amount) s))] 3]) (H.pk [1,0,2]) aw hY_t2 rfl [.agg #[I ((aa.getD s2 default).state),I ((aa.getD s2 default).amount),I ((aa.getD s2 default).loss)],I (min ((aa.getD s2 default).amount) s)] rfl ((aa.getD s2 default),min ((aa.getD s2 default).amount) s) Reads.none rfl aG ?_;intro aH aX aI H;replace H:=H.nf;refine kI 2 ?_ ?_
  ·intro aJ hM;exact (M.e_fail hM).elim
  intro aJ hM;refine kg 5 ?_;exact ⟨aC,aD,s-(min ((aa.getD s2 default).amount) s),s2+1,t,aH,_,jQ,M.e_inl hM av,(H.pk [0,2]),aI⟩
 intro aE hM;refine W.exit ?_;obtain rfl:=M.e_inr hM av;replace hM:=aA;have aK:=M.e_pure hM;exact ⟨_,resE_tmp0 rfl,⟨t2,s,Ls_t2,aK,rfl,H,hY_t2⟩⟩
theorem m_share_office_taken_1_le {T_:Type} {n_:Nat} {y y':T_->(Rgt × Int)->M (Bool × T_)} (h:∀ s a,M.LeN n_ (y s a) (y' s a)) (t_:T_) (aa:Int) (ab:List Rgt) (ac:Int):M.LeN n_ (m_share_office_taken_1 y t_ aa ab ac) (m_share_office_taken_1 y' t_ aa ab ac):=by
  simp only [m_share_office_taken_1,m_share_office_taken_1_b0]
  repeat' (first | refine M.le_grd ?_ | refine M.le_if ?_ ?_ | refine M.le_bind ?_ (fun x=>?_) | refine M.le_opt ?_ | refine M.le_iter (fun x=>?_) _ | exact h _ _ | exact M.le_same _ _ | (rename_i x; cases x) | (rename_i x; obtain ⟨_,_⟩:=x))

def m_share_serve_b0  : (List Int)->(Rgt × Int)->M ((List Int) ⊕ Unit):=fun s (x,x2) =>
  M.grd (decide ((0:Int)<=x.state)&&decide (x.state<(12:Int))) <|
  M.gi (1000-x.loss) <|
  M.gi (x2*(1000-x.loss)) <|
  M.grd (decide (0<=(x2*(1000-x.loss)))&&decide ((x2*(1000-x.loss))<=(9223372036854775807:Int))&&decide ((0:Int)<1000)) <|
  M.gi ((s.getD (Int.toNat x.state) 0)+((x2*(1000-x.loss)) / 1000)) <|
  M.pure (.inl (s.set (Int.toNat x.state) ((s.getD (Int.toNat x.state) 0)+((x2*(1000-x.loss)) / 1000))))
def m_share_serve (c_States:Int) (c_Rights:List Rgt) (flow:Int):M (List Int) :=
  M.bind (m_share_office_taken c_States c_Rights flow) fun aa =>
  M.bind (m_share_office_taken_1 (M.yl m_share_serve_b0) (.inl (List.replicate 12 0)) c_States c_Rights aa) fun x_=>match x_ with
  | (.inl s,q0)=>(
  M.grd (decide ((0:Int)<=c_States)&&decide (c_States<=(12:Int))) <|
  M.grd (decide ((s.take (Int.toNat c_States)).length*8<=140737488355328)) <|
  M.pure (s.take (Int.toNat c_States)))
  | (.inr _,_)=>M.fail
theorem share_serve_ok {R aB ab}(c_States c_Rights flow)(aq:Reads R aB)(ax:Sl aB ab c_Rights){r}(hM:(m_share_serve c_States c_Rights flow).Ends r)(w)(H:St w w [] R):Ret Tryz.prog 64 #[.agg #[I c_States,ab],I flow] w fun v w'=>∃ y0 u0,y0=r/\v=u0/\St w w' [cOwn (α:=Int) 3 u0 y0] R:=by
 refine ret_of_WD Tryz.func64 rfl rfl rfl ?_;replace H:St w w [cMk ([])] R:=H.mk0;have aP:=ax.len_le;unfold m_share_serve at hM;refine WD.seq<|WD.of ?_;refine kB 1 ?_;intro ai aQ H;refine zA (.slice none 0 0) rfl<|s_nil<|WD.seq<|WD.of<|W.region rfl<|s_val (x_ld (v:=.agg #[I c_States,ab]) rfl (ldb_ag (ds:=[I c_States,ab]) Ag84.h Sz84.h (H.bl 0) rfl rfl))<|s_val (x_bld (ps:=[(0,.agg #[I c_States,ab])]) (zs:=(List.flatten [[I 0,.slice none 0 0],encF (α:=Int) (List.replicate 12 0)])) (L':=(List.flatten [[I c_States,ab],encF (α:=Int) (List.replicate 12 0)])) rfl Tryz.underlying208 Al208.h rfl (Bd208 Tryz.underlying208) (.cons (cs:=[I c_States,ab]) rfl rfl rfl (by kernel_rfl) rfl<|.nil)) ?_;refine kB 0 ?_;intro aa aR H;refine kA 0 ?_;intro ac aS H;refine kS 0 ?_;intro aT H;refine s_nil<|WD.seq<|WD.seq<|WD.of<|W.region rfl<|s_val (x_ld (v:=Pq aa) rfl (ldb_sc Sc205.h (H.bl 0) rfl))<|zM (I flow) rfl ?_;obtain ⟨aU,aE,hM⟩:=M.e_bind hM;refine s_call cq [Pq aa,I flow] rfl (share_office_taken_ok c_States c_Rights flow (aq.app _) ax (Fld.here (k:=1) rfl rfl) aE _ (H.gt 4)) ?_
 rintro vq aV ⟨au,ae,ak,rfl,hvq,ah⟩;subst vq;(try dsimp only at hM);replace H:=H.bk ah;clear ah;refine s_nil<|WD.block ?_;obtain ⟨aW,aF,hM⟩:=M.e_bind hM;refine WD.range (L:=[cBlk aa (List.flatten [[I c_States,ab],encF (α:=Int) (List.replicate 12 0)]) 208,cBlk ae [Pq aa] 205,cBlk ac [Pq aa] 205,cBlk ai [I c_States,ab] 84,cBlk ak [I au] 3]) [Pq ae,Pq ak] (H.pk [5,3,0,2,4,1]) rfl cq ?_;intro av aj ay aG az H
 have hYC:YieldC Tryz.prog ([cMk (aj :: ([])),cBlk ae [Pq aa] 205,cBlk ac [Pq aa] 205,cBlk ai [I c_States,ab] 84]++R) arRgtI (yJ av ay (fun s aw=>aw=[cBlk aa (List.flatten [[I c_States,ab],encF (α:=Int) s]) 208]/\s.length=12) (fun (_:Unit) _=>False) (fun _=>.ret)) (.func (.yield av) #[] #[]) (M.yl m_share_serve_b0):=by
  refine YieldC.mk2 az (fun s aw=>aw=[cBlk aa (List.flatten [[I c_States,ab],encF (α:=Int) s]) 208]/\s.length=12) (fun (_:Unit) _=>False) (fun _=>.ret) m_share_serve_b0 (by rintro s _ h_; obtain ⟨rfl,_⟩:=h_; rfl) (fun _ _ h_=>h_.elim) rfl (arRgtI_len rfl) ?_;intro C_ aX x_ aH;obtain ⟨x,x2⟩:=x_;obtain rfl:=aH;intro w R aA aw s_ r aI hM H
  skip
  obtain ⟨s,aJ⟩:∃ y_,y_=s_:=⟨_,rfl⟩
  subst aJ;obtain ⟨rfl,al⟩:=aI;replace H:=H.nf;refine kA 2 ?_;intro am aY H;refine kS 0 ?_;intro aZ H;refine kG 2 ?_;refine zA (I x2) rfl<|s_nil ?_
  refine ⟨rfl,[cBlk am [I x.state,I x.amount,I x.loss] 160],H.pick [0,1,2,3,4,5] (by decide) rfl,?_⟩;clear H aA;intro w R aA H;replace aq:=aq.sub aA;replace hM:(m_share_serve_b0 s (x,x2)).Ends r:=hM;simp only [m_share_serve_b0] at hM;replace H:=H.nf;refine W.block ?_;refine W.draw (fun W=>St w W [cBlk am [I x.state,I x.amount,I x.loss] 160,cMk (aj :: ([])),cBlk ae [Pq aa] 205,cBlk ac [Pq aa] 205,cBlk ai [I c_States,ab] 84] R) [(0,true),(1,true),(2,true),(3,true),(4,true),(5,true),(7,true),(8,true),(9,true),(10,true),(11,true),(12,true),(14,true),(15,true),(6,false),(13,true),(16,true),(17,false)] mixed (by decide +kernel) rfl ?_;intro a7 ao;replace H:=H.ext ao;clear ao;refine ⟨(H.pk [0,2,3,4,5]),?_⟩;refine d_q rfl (fun w' H=>x_ld (v:=Pq aa) rfl (ldb_sc Sc205.h (H.bl 3) rfl))<|d_q rfl (fun w' H=>x_fa (v:=Pq am) rfl (fa_blk (o:=0) Fd160_0.h Sz3.h))<|d_q rfl (fun w' H=>x_ld (v:=I x.state) rfl (ldb_sc Sc3.h (H.bl 0) rfl))<|d_q rfl (fun w' H=>x_nc (a:=⟨aa,0,none⟩) rfl)<|d_q rfl (fun w' H=>x_fa (v:=Oq aa 2) rfl (fa_blk (o:=0) Fd208_1.h Sz206.h)) ?_;obtain ⟨a8,hM⟩:=M.e_gd hM;refine d_q rfl (fun w' H=>x_ix (v:=.pointer (some ⟨aa,2+Int.toNat x.state*1,none⟩)) rfl rfl (run_indexS Tryz.underlying206 Sz3.h (by omega) (by omega)))<|d_q rfl (fun w' H=>x_mv (v:=I x2) rfl)<|d_q rfl (fun w' H=>x_fa (v:=Oq am 2) rfl (fa_blk (o:=0) Fd160_2.h Sz3.h))<|d_q rfl (fun w' H=>x_ld (v:=I x.loss) rfl (ldb_sc Sc3.h (H.bl 0) rfl)) ?_;obtain ⟨ba,hM⟩:=M.e_gd hM;refine d_q rfl (fun w' H=>x_ari (r:=1000-x.loss) rfl rfl rfl (by omega)) ?_;obtain ⟨bb,hM⟩:=M.e_gd hM;refine d_q rfl (fun w' H=>x_ari (r:=x2*(1000-x.loss)) rfl rfl rfl (by omega)) ?_;obtain ⟨bc,hM⟩:=M.e_gd hM;refine d_q rfl (fun w' H=>x_quo (a:=x2*(1000-x.loss)) (b:=1000) rfl rfl (by omega))<|d_q rfl (fun w' H=>x_nc (a:=⟨aa,0,none⟩) rfl)<|d_q rfl (fun w' H=>x_fa (v:=Oq aa 2) rfl (fa_blk (o:=0) Fd208_1.h Sz206.h))<|d_l rfl<|s_val (x_ld (v:=I (s.getD (Int.toNat x.state) 0)) rfl (ldS (α:=Int) (k:=1) (off:=2) (i:=(Int.toNat x.state)) (f:=0) (sz:=1) 0 Sc3.h (H.bl 1) rfl (sgo1 rfl) rfl (by decide) (by have aK:=al; omega) (by omega) rfl)) ?_;refine kN ?_;obtain ⟨bf,hM⟩:=M.e_gd hM;refine d_q rfl (fun w' H=>x_ari (r:=(s.getD (Int.toNat x.state) 0)+((x2*(1000-x.loss)) / 1000)) rfl rfl rfl (by omega))<|d_q rfl (fun w' H=>x_ix (v:=.pointer (some ⟨aa,2+Int.toNat x.state*1,none⟩)) rfl rfl (run_indexS Tryz.underlying206 Sz3.h (by omega) (by omega)))<|d_l rfl ?_;refine t_stS (α:=Int) (kc:=1) (b:=aa) (k:=1) (off:=2) (i:=(Int.toNat x.state)) (f:=0) (sz:=1) (segs:=[[I c_States,ab],encF (α:=Int) s]) (segs':=[[I c_States,ab],encF (α:=Int) (s.set (Int.toNat x.state) ((s.getD (Int.toNat x.state) 0)+((x2*(1000-x.loss)) / 1000)))]) (l:=s) (l':=s.set (Int.toNat x.state) ((s.getD (Int.toNat x.state) 0)+((x2*(1000-x.loss)) / 1000))) (vs:=[I ((s.getD (Int.toNat x.state) 0)+((x2*(1000-x.loss)) / 1000))]) (L':=[cBlk am [I x.state,I x.amount,I x.loss] 160,cBlk aa (List.flatten [[I c_States,ab],encF (α:=Int) (s.set (Int.toNat x.state) ((s.getD (Int.toNat x.state) 0)+((x2*(1000-x.loss)) / 1000)))]) 208,cMk (aj :: ([])),cBlk ae [Pq aa] 205,cBlk ac [Pq aa] 205,cBlk ai [I c_States,ab] 84]) H rfl rfl rfl Sz3.h rfl rfl rfl rfl (sgo1 rfl) rfl rfl (by have aK:=al; omega) (by omega) 0 ((s.getD (Int.toNat x.state) 0)+((x2*(1000-x.loss)) / 1000)) rfl rfl rfl rfl ?_;intro bg H
  have aL:(s.set (Int.toNat x.state) ((s.getD (Int.toNat x.state) 0)+((x2*(1000-x.loss)) / 1000))).length=12:=List.length_set.trans al;refine kN ?_;refine d_nil ?_;exact ⟨s.set (Int.toNat x.state) ((s.getD (Int.toNat x.state) 0)+((x2*(1000-x.loss)) / 1000)),[cBlk aa (List.flatten [[I c_States,ab],encF (α:=Int) (s.set (Int.toNat x.state) ((s.getD (Int.toNat x.state) 0)+((x2*(1000-x.loss)) / 1000)))]) 208],(M.e_pure hM).symm,⟨rfl,aL⟩,H.pick [1,2,3,4,5] (by decide) rfl⟩
 replace H:St w aG (cAll (cObj av (.loop ay) :: [cBlk aa (List.flatten [[I c_States,ab],encF (α:=Int) (List.replicate 12 0)]) 208]) :: [cBlk ak [I au] 3,cMk (aj :: ([])),cBlk ae [Pq aa] 205,cBlk ac [Pq aa] 205,cBlk ai [I c_States,ab] 84]) R:=St.bundleB (A:=cObj av (.loop ay) :: [cBlk aa (List.flatten [[I c_States,ab],encF (α:=Int) (List.replicate 12 0)]) 208]) (T:=[cBlk ak [I au] 3,cMk (aj :: ([])),cBlk ae [Pq aa] 205,cBlk ac [Pq aa] 205,cBlk ai [I c_States,ab] 84]) rfl (H.pk [0,2,6,1,3,4,5]);refine (share_office_taken_1_ok (M.yl m_share_serve_b0) (.inl (List.replicate 12 0)) c_States c_Rights au hYC ⟨_,rfl,⟨rfl,List.length_replicate⟩⟩ (aq.app _) ax (by rintro (s | _) _ h_; (obtain ⟨_,rfl,rfl,_⟩:=h_; exact Fld.all (Fld.here (k:=1) rfl rfl)); (obtain ⟨_,_,h_⟩:=h_; exact h_.elim)) (Has.here (k:=1) rfl) aF _ (H.gt 4)).mono ?_;rintro vq bh ⟨aM,q0,bi,rfl,hvq,ah,aC⟩;replace H:=H.back ah rfl;clear ah hYC;rcases aM with s | _
 ·(try dsimp only at hM);obtain ⟨_,rfl,rfl,al⟩:=aC;refine ⟨_,[cBlk aa (List.flatten [[I c_States,ab],encF (α:=Int) s]) 208,cBlk ae [Pq aa] 205,cBlk ac [Pq aa] 205,cBlk ai [I c_States,ab] 84,cBlk ak [I q0] 3],H.unbundle.pick [0,3,1,4,5,6,2] (by decide) rfl,az.nb,?_⟩;intro bj H;rw [az.pd];replace H:=H.nf
  try simp only []
  replace H:=H.pk [0,1,3];refine WD.seq<|WD.of ?_;refine W.draw (fun W=>St w W [cMk (aj :: ([])),cBlk aa (List.flatten [[I c_States,ab],encF (α:=Int) s]) 208,cBlk ac [Pq aa] 205] R) [(0,true),(1,true),(2,true),(3,true),(4,true),(5,true),(6,true),(7,true),(8,true),(9,false),(10,true)] mixed (by decide +kernel) rfl ?_;intro bm ao;replace H:=H.ext ao;clear ao
  refine ⟨(H.pk [0,1,2]),?_⟩;refine d_q rfl (fun w' H=>x_ld (v:=Pq aa) rfl (ldb_sc Sc205.h (H.bl 2) rfl))<|d_q rfl (fun w' H=>x_nc (a:=⟨aa,0,none⟩) rfl)<|d_q rfl (fun w' H=>x_fa (v:=Oq aa 2) rfl (fa_blk (o:=0) Fd208_1.h Sz206.h))<|d_q rfl (fun w' H=>x_ld (v:=Pq aa) rfl (ldb_sc Sc205.h (H.bl 2) rfl))<|d_q rfl (fun w' H=>x_nc (a:=⟨aa,0,none⟩) rfl)<|d_q rfl (fun w' H=>x_fa (v:=Pq aa) rfl (fa_blk (o:=0) Fd208_0.h Sz84.h))<|d_q rfl (fun w' H=>x_fa (v:=Pq aa) rfl (fa_blk (o:=0) Fd84_0.h Sz3.h))<|d_q rfl (fun w' H=>x_ld (v:=I c_States) rfl (ldb_sc Sc3.h (H.bl 1) rfl)) ?_;obtain ⟨bn,hM⟩:=M.e_gd hM
  have aN:Sl (blkC aa (List.flatten [[I c_States,ab],encF (α:=Int) s])) (.slice (some ⟨aa,2,none⟩) (Int.toNat c_States) 12) (s.take (Int.toNat c_States)):=segSl (α:=Int) (pre:=[I c_States,ab]) (post:=[]) (by simp) rfl al (by omega) (by omega);refine d_q rfl (fun w' H=>x_sl (v:=Oq aa 2) (u:=(.slice (some ⟨aa,2,none⟩) (Int.toNat c_States) 12)) (lo':=none) (hi':=some (I c_States)) (mx':=none) rfl rfl rfl rfl (run_sliceA Tryz.underlying206 Sz3.h (by omega) (by omega)))<|d_l rfl ?_;obtain ⟨bo,hM⟩:=M.e_gd hM;refine s_call cq [(.slice (some ⟨aa,2,none⟩) (Int.toNat c_States) 12)] rfl (clone_any (s.take (Int.toNat c_States)) (Reads.of (k:=1) rfl blkLe) aN (by omega) _ H.sep) ?_
  rintro aD bp ah;replace H:=H.bk ah;clear ah;refine kN ?_;refine d_q rfl (fun w' H=>x_as (v:=aD) rfl) ?_;refine d_nil ?_;replace H:=H.pk [0,1];refine WD.of ?_;refine W.ret ?_;refine bodyD_r (H.pk [1,0]) ?_;intro br H;replace H:=H.nf;have aO:=M.e_pure hM;exact ⟨_,resE_tmp rfl,⟨(s.take (Int.toNat c_States)),aD,aO,rfl,H⟩⟩
 obtain ⟨_,_,h_⟩:=aC; exact h_.elim

def m_share_Real (c_States:Int) (c_Rights:List Rgt) (flow:Int):M ((List Int) × Int) :=
  M.bind (m_share_Check c_States c_Rights) fun r2 =>
  bif r2 != 0 then (
  M.fail)
  else (
  M.bind (m_share_water flow) fun r3 =>
  bif !r3 then (
  M.fail)
  else (
  M.bind (m_share_serve c_States c_Rights flow) fun r4 =>
  M.pure (r4,0)))
theorem share_Real_ok {R aa ab}(c_States c_Rights flow)(ah:Reads R aa)(ai:Sl aa ab c_Rights){r}(hM:(m_share_Real c_States c_Rights flow).Ends r)(w)(H:St w w [] R):Ret Tryz.prog 26 #[.agg #[I c_States,ab],I flow] w fun v w'=>∃ y0 y1 u0,(y0,y1)=r/\v = .tuple #[u0,I y1]/\St w w' [cOwn (α:=Int) 3 u0 y0] R:=by
 refine ret_of_W Tryz.func26 rfl rfl rfl ?_;refine kB 2 ?_;intro aj ak H;refine kC 6 @share_Check_ok ?_;intro al r2 hM H;refine kI 10 ?_ ?_
 ·intro ac hM;exact (M.e_fail hM).elim
 intro ac hM;refine kC 3 @share_water_ok ?_;intro am r3 hM H;refine kI 3 ?_ ?_
 ·intro ae hM;exact (M.e_fail hM).elim
 intro ae hM;refine kC 5 @share_serve_ok ?_;intro ao r4 aq hM H;exact kR 3 [0]

def m_balance_in (n aa greatest:Int):M Bool :=
  M.pure ((decide (aa<=n))&&(decide (n<=greatest)))
theorem balance_in_ok {R}(n aa greatest){r}(hM:(m_balance_in n aa greatest).Ends r)(w)(H:St w w [] R):Ret Tryz.prog 57 #[I n,I aa,I greatest] w fun v w'=>∃ y0,y0=r/\v=B y0/\St w w' [] R:=by
 refine ret_of_W Tryz.func57 rfl rfl rfl ?_;refine kg 16 ?_;exact rt

def m_balance_every_api_Span__1 (x:Span) (aa:Span->M Bool):M Bool :=
  M.bind (aa x) fun r2 =>
  M.pure (!r2)
theorem balance_every_api_Span__1_ok {R aa ab}(x ac)(ae:FnM Tryz.prog R ab ac)(ai:Has R (cBlk aa [ab] 124)){r}(hM:(m_balance_every_api_Span__1 x ac).Ends r)(w)(H:St w w [] R):Ret Tryz.prog 148 #[.agg #[I x.lo,I x.hi],Pq aa] w fun v w'=>∃ y0,y0=r/\v=B y0/\St w w' [] R:=by
 refine ret_of_W Tryz.func148 rfl rfl rfl ?_;refine kB 2 ?_;intro aj ak H;refine kg 6 ?_;obtain ⟨r2,ah,hM⟩:=M.e_bind hM;refine t_callM H ae rfl rfl x Reads.none ⟨_,rfl,rfl⟩ ah ?_;intro al H;refine kg 3 ?_;exact rt

def m_balance_every_api_Span (l:List Span) (so:Span->M Bool):M Bool :=
  M.bind (zdj l (fun aa=>m_balance_every_api_Span__1 aa so)) fun r2 =>
  M.pure (!r2)
theorem balance_every_api_Span_ok {R ae aa ah}(l so)(aj:Reads R ae)(ak:Sl ae aa l)(al:FnM Tryz.prog R ah so){r}(hM:(m_balance_every_api_Span l so).Ends r)(w)(H:St w w [] R):Ret Tryz.prog 104 #[aa,ah] w fun v w'=>∃ y0,y0=r/\v=B y0/\St w w' [] R:=by
 refine ret_of_W Tryz.func104 rfl rfl rfl ?_;refine kB 2 ?_;intro ab aA H;refine kg 5 ?_;refine s_val (x_mf (fs:=[]) (cs:=[Pq ab]) rfl rfl) ?_;obtain ⟨aB,am,hM⟩:=M.e_bind hM;refine s_call cq [aa,.func (.func 148) #[] #[Pq ab]] rfl (zdU l (fun ac=>m_balance_every_api_Span__1 ac so) (aj.app _) ak ⟨148,[Pq ab],rfl,cq,fun ai aC aD ao ac aE aq aF au av=>by obtain rfl:=Span_arg au; exact (balance_every_api_Span__1_ok ac so (FnM.app (al.app _) _) (Has.app (Has.here (k:=0) rfl) _) av ai (St.refl aq)).mono fun ao ai ⟨aG,aw,ax,ay⟩=>by subst aw; exact ⟨ax,ay⟩⟩ am _ (H.gt 1)) ?_;rintro _ aH ⟨r2,rfl,rfl,az⟩;replace H:=H.bk az;refine kg 3 ?_;exact rt

def m_balance_flowing (s:Span):M Bool :=
  M.bind (m_balance_in s.lo (-1000000) s.hi) fun r2 =>
  M.bind (M.opt r2 (m_balance_in s.hi (-1000000) 1000000) false) fun r3 =>
  M.pure (r2&&r3)
theorem balance_flowing_ok {R}(s){r}(hM:(m_balance_flowing s).Ends r)(w)(H:St w w [] R):Ret Tryz.prog 105 #[.agg #[I s.lo,I s.hi]] w fun v w'=>∃ y0,y0=r/\v=B y0/\St w w' [] R:=by
 refine ret_of_W Tryz.func105 rfl rfl rfl ?_;refine kB 2 ?_;intro ae ah H;refine kC 8 @balance_in_ok ?_;intro ai r2 hM H;refine kg 3 ?_;obtain ⟨r3,aa,hM⟩:=M.e_bind hM;refine t_gcall r2 (gy_t rfl) cq (B r3) (fun _=>[I s.hi,I (-1000000),I 1000000]) (fun hg=>lst3 (gd_of hg (I s.hi)) rfl rfl) H (fun hg=>(balance_in_ok s.hi (-1000000) 1000000 (M.e_opt aa hg) _ (H.give (A:=[]) rfl)).mono fun v_ w_ ⟨y_,ab,ac,H_⟩=>by subst ab; exact ⟨ac,H.via H_⟩) ?_;intro aj H;refine kg 3 ?_;exact rt

def m_balance_Check_b0 (n_Gains:List Span) (n_Reaches:List BRch):Nat->M (Nat ⊕ Unit):=fun s =>
  bif decide ((s:Int)<(n_Reaches.length:Int)) then (
  M.grd (decide ((s:Int)<(n_Reaches.length:Int))) <|
  M.bind (m_balance_in ((n_Reaches.getD s default).src) 0 ((n_Gains.length:Int)-1)) fun r4 =>
  M.bind (M.opt (!(!r4)) (m_balance_in ((n_Reaches.getD s default).dst) 0 ((n_Gains.length:Int)-1)) false) fun r5 =>
  bif (((!r4)||(!r5))||(((n_Reaches.getD s default).src)==((n_Reaches.getD s default).dst))) then (
  M.fail)
  else (
  M.bind (m_balance_flowing (⟨((n_Reaches.getD s default).lo:Int),((n_Reaches.getD s default).hi:Int)⟩:Span)) fun r6 =>
  bif !r6 then (
  M.fail)
  else (
  M.pure (.inl (s+1)))))
  else (
  M.pure (.inr ()))
def m_balance_Check (n_Gains:List Span) (n_Reaches:List BRch):M Int :=
  M.bind (m_balance_in (n_Gains.length:Int) 1 8) fun r2 =>
  bif ((!r2)||(decide (14<(n_Reaches.length:Int)))) then (
  M.fail)
  else (
  M.bind (m_balance_every_api_Span n_Gains (fun aa=>m_balance_flowing aa)) fun r3 =>
  bif !r3 then (
  M.fail)
  else (
  M.bind (M.iter (m_balance_Check_b0 n_Gains n_Reaches) 0) fun (_:Unit) =>
  M.pure 0))
theorem balance_Check_ok {R ah aa ai ab}(n_Gains n_Reaches)(ao:Reads R ah)(ac:Sl ah aa n_Gains)(aO:Reads R ai)(aj:Sl ai ab n_Reaches){r}(hM:(m_balance_Check n_Gains n_Reaches).Ends r)(w)(H:St w w [] R):Ret Tryz.prog 56 #[.agg #[aa,ab]] w fun v w'=>∃ y0,y0=r/\v=I y0/\St w w' [] R:=by
 refine ret_of_W Tryz.func56 rfl rfl rfl ?_;refine kB 2 ?_;intro ak aP H;have aQ:=(ac).len_le;refine kC 9 @balance_in_ok ?_;intro aR r2 hM H;have aS:=(aj).len_le;refine kI 9 ?_ ?_
 ·intro aq hM;exact (M.e_fail hM).elim
 intro aq hM;refine kg 4 ?_;obtain ⟨aT,au,hM⟩:=M.e_bind hM;refine s_call cq [aa,.func (.func 105) #[] #[]] rfl (balance_every_api_Span_ok n_Gains (fun ae=>m_balance_flowing ae) (ao.app _) ac ⟨105,[],rfl,cq,fun al aU aV av ae aW aw aX ax ay=>by obtain rfl:=Span_arg ax; exact (balance_flowing_ok ae ay al (St.refl aw)).mono fun av al ⟨aY,az,aA,aB⟩=>by subst az; exact ⟨aA,aB⟩⟩ au _ (H.gt 1)) ?_;rintro _ aZ ⟨r3,rfl,rfl,aC⟩;replace H:=H.bk aC;refine kI 3 ?_ ?_
 ·intro aD hM;exact (M.e_fail hM).elim
 intro aD hM;have a7:=(aj).len_le;refine kg 10 ?_;obtain ⟨aE,am,aF⟩:=M.e_bind hM;obtain ⟨a8,am⟩:=M.e_iter am;refine W.loop (fun m σ W=>∃ (s:Nat) (ρ:Env),σ=upds ρ [(1,Pq ak),(23,ab),(24,I (n_Reaches.length:Int)),(25,I (s:Int))]/\M.iterN (m_balance_Check_b0 n_Gains n_Reaches) m s=some aE/\St w W [cBlk ak [aa,ab] 79] R) ?_ ?_
 ·exact kY
 rintro ba σ bb ⟨s,ρ,rfl,aG,H⟩;obtain ⟨bc,bf,bg,hM,aH⟩:=M.e_iterN aG;refine kI 5 ?_ ?_
 ·intro aI hM;obtain ⟨bh,hM⟩:=M.e_gq hM;refine kA 7 ?_;intro bi bj H;refine ksw ?_;intro bm H;have bn:=(ac).len_le;refine kC 10 @balance_in_ok ?_;intro bo r4 hM H;have bp:=(ac).len_le;refine kg 8 ?_;obtain ⟨r5,aJ,hM⟩:=M.e_bind hM;refine t_gcall (!(!r4)) (gy_f rfl) cq (B r5) (fun _=>[I ((n_Reaches.getD s default).dst),I 0,I ((n_Gains.length:Int)-1)]) (fun hg=>lst3 (gd_of hg (I ((n_Reaches.getD s default).dst))) rfl (gd_of hg (I ((n_Gains.length:Int)-1)))) H (fun hg=>(balance_in_ok ((n_Reaches.getD s default).dst) 0 ((n_Gains.length:Int)-1) (M.e_opt aJ hg) _ (H.give (A:=[]) rfl)).mono fun v_ w_ ⟨y_,aK,aL,H_⟩=>by subst aK; exact ⟨aL,H.via H_⟩) ?_;intro br H;refine kI 11 ?_ ?_
  ·intro aM hM;exact (M.e_fail hM).elim
  intro aM hM;refine kC 4 @balance_flowing_ok ?_;intro bt r6 hM H;refine kI 3 ?_ ?_
  ·intro aN hM;exact (M.e_fail hM).elim
  intro aN hM;exact kXp 5 [1]
 intro aI hM;refine W.exit ?_;obtain rfl:=M.e_inr hM aH;replace hM:=aF;refine kg 4 ?_;exact rt

def m_balance_begun_b0 (n_Reaches:List BRch):(Nat × (List BWay))->M ((Nat × (List BWay)) ⊕ ((List BWay) × (List BWay))):=fun (s,l) =>
  bif decide ((s:Int)<(n_Reaches.length:Int)) then (
  M.grd (decide ((s:Int)<(n_Reaches.length:Int))) <|
  M.grd (decide ((l.length+([(⟨((n_Reaches.getD s default).src:Int),((n_Reaches.getD s default).dst:Int),((n_Reaches.getD s default).lo:Int),((n_Reaches.getD s default).hi:Int),(0:Int)⟩:BWay)]).length)*40<=140737488355328)) <|
  M.pure (.inl (s+1,l++([(⟨((n_Reaches.getD s default).src:Int),((n_Reaches.getD s default).dst:Int),((n_Reaches.getD s default).lo:Int),((n_Reaches.getD s default).hi:Int),(0:Int)⟩:BWay)]))))
  else (
  M.pure (.inr (l,l)))
def m_balance_begun_b1 (n_Gains:List Span):((List BWay) × Nat)->M (((List BWay) × Nat) ⊕ ((List BWay) × (List BWay))):=fun (l4,s2) =>
  bif decide ((s2:Int)<(n_Gains.length:Int)) then (
  M.grd (decide ((s2:Int)<(n_Gains.length:Int))) <|
  M.grd (decide ((l4.length+([(⟨(n_Gains.length:Int),(s2:Int),((n_Gains.getD s2 default).lo:Int),((n_Gains.getD s2 default).hi:Int),(0:Int)⟩:BWay)]).length)*40<=140737488355328)) <|
  M.pure (.inl (l4++([(⟨(n_Gains.length:Int),(s2:Int),((n_Gains.getD s2 default).lo:Int),((n_Gains.getD s2 default).hi:Int),(0:Int)⟩:BWay)]),s2+1)))
  else (
  M.pure (.inr (l4,l4)))
def m_balance_begun_b2 (l6:List BWay):((List BWay) × Nat)->M (((List BWay) × Nat) ⊕ ((List BWay) × (List BWay))):=fun (l7,s3) =>
  bif decide ((s3:Int)<(l6.length:Int)) then (
  M.grd (decide ((s3:Int)<(l7.length:Int))) <|
  M.pure (.inl (l7.set s3 ({ (l7.getD s3 default) with now:=min (max 0 ((l7.getD s3 default).lo)) ((l7.getD s3 default).hi) }),s3+1)))
  else (
  M.pure (.inr (l7,l7)))
def m_balance_begun (n_Gains:List Span) (n_Reaches:List BRch):M ((List BWay) × Int × Int) :=
  M.bind (M.iter (m_balance_begun_b0 n_Reaches) (0,[])) fun (l2,l3) =>
  M.bind (M.iter (m_balance_begun_b1 n_Gains) (l3,0)) fun (l5,l6) =>
  M.bind (M.iter (m_balance_begun_b2 l6) (l6,0)) fun (l8,l9) =>
  M.pure (l9,(n_Gains.length:Int),(n_Reaches.length:Int))
theorem balance_begun_ok {R ak aa al ab}(n_Gains n_Reaches)(aN:Reads R ak)(am:Sl ak aa n_Gains)(aO:Reads R al)(ao:Sl al ab n_Reaches){r}(hM:(m_balance_begun n_Gains n_Reaches).Ends r)(w)(H:St w w [] R):Ret Tryz.prog 149 #[.agg #[aa,ab]] w fun v w'=>∃ y0 y1 y2 aq u1,(y0,y1,y2)=r/\v=Pq aq/\St w w' [cBlk aq [u1,I y1,I y2] 150,cOwn (α:=BWay) 153 u1 y0] R:=by
 refine ret_of_W Tryz.func149 rfl rfl rfl ?_;refine kB 2 ?_;intro ae aP H;have aQ:=(am).len_le;refine kG 8 ?_;have aR:=(ao).len_le;refine kB 4 ?_;intro ac aS H;have aT:=(ao).len_le;refine kg 11 ?_;replace H:=H.nilOwn (α:=BWay) 153;obtain ⟨ay,au,az⟩:=M.e_bind hM;obtain ⟨av,au⟩:=M.e_iter au;refine W.loop (fun m σ W=>∃ (s:Nat) (l:List BWay) (ai:Value) (ρ:Env),σ=upds ρ [(1,Pq ae),(3,Pq ac),(20,ab),(21,I (n_Reaches.length:Int)),(22,I (s:Int))]/\M.iterN (m_balance_begun_b0 n_Reaches) m (s,l)=some ay/\St w W [cOwn (α:=BWay) 153 ai l,cBlk ac [ai,I (n_Gains.length:Int),I (n_Reaches.length:Int)] 150,cBlk ae [aa,ab] 79] R) ?_ ?_
 ·exact kY
 rintro aU σ aV ⟨s,l,ai,ρ,rfl,aA,H⟩;obtain ⟨aW,aX,aY,hM,aB⟩:=M.e_iterN aA;refine kI 5 ?_ ?_
 ·intro aC hM;obtain ⟨aZ,hM⟩:=M.e_gq hM;refine kA 7 ?_;intro a7 a8 H;refine ksw ?_;intro ba H;refine kDT 1 [0,3] (.q 0 (.q 1 (.q 2 (.q 3 (.q 4 (.q 6 (.q 7 (.q 8 (.q 9 (.q 10 (.q 11 (.q 12 (.l2 5 (.l 13 (.l 14 (.q 15 (.q 16 (.q 17 (.l 18 .nil)))))) 13 (.l 5 (.l 14 (.q 15 (.q 16 (.q 17 (.l 18 .nil))))))))))))))))))) ?_;intro bb H;refine kG 12 ?_;obtain ⟨bc,hM⟩:=M.e_gq hM;refine t_l2 rfl rfl ?_ ?_
  ·refine kG 1 ?_;refine kN ?_;refine kL 1 (α:=BWay) [⟨(n_Reaches.getD s default).src,(n_Reaches.getD s default).dst,(n_Reaches.getD s default).lo,(n_Reaches.getD s default).hi,0⟩] ?_;intro bf bg H;refine kN ?_;refine kP 1 ?_;intro bh bi H;refine kN ?_;refine kS 4 ?_;intro bj H;refine kN ?_;refine t_nil ?_;replace H:=H.pk [2,3,4];exact kX 4
  refine kL 0 (α:=BWay) [⟨(n_Reaches.getD s default).src,(n_Reaches.getD s default).dst,(n_Reaches.getD s default).lo,(n_Reaches.getD s default).hi,0⟩] ?_;intro bm bn H;refine kN ?_;refine kG 2 ?_;refine kN ?_;refine kP 1 ?_;intro bo bp H;refine kN ?_;refine kS 4 ?_;intro br H;refine kN ?_;refine t_nil ?_;replace H:=H.pk [2,3,4];exact kX 4
 intro aC hM;refine W.exit ?_;obtain rfl:=M.e_inr hM aB;replace hM:=az;have bt:=(am).len_le;refine kg 9 ?_;obtain ⟨aD,aw,aE⟩:=M.e_bind hM;obtain ⟨av,aw⟩:=M.e_iter aw;refine W.loop (fun m σ W=>∃ (l4:List BWay) (s2:Nat) (aj:Value) (ρ:Env),σ=upds ρ [(3,Pq ac),(46,aa),(47,I (n_Gains.length:Int)),(48,I (s2:Int))]/\M.iterN (m_balance_begun_b1 n_Gains) m (l4,s2)=some aD/\St w W [cOwn (α:=BWay) 153 aj l4,cBlk ac [aj,I (n_Gains.length:Int),I (n_Reaches.length:Int)] 150,cBlk ae [aa,ab] 79] R) ?_ ?_
 ·exact kY
 rintro bu σ bv ⟨l4,s2,aj,ρ,rfl,aF,H⟩;obtain ⟨bw,bx,bz,hM,aG⟩:=M.e_iterN aF;refine kI 5 ?_ ?_
 ·intro aH hM;obtain ⟨bA,hM⟩:=M.e_gq hM;refine kA 8 ?_;intro bB bC H;refine kS 1 ?_;intro bD H;refine kDT 1 [0,3] (.q 0 (.q 1 (.q 2 (.q 3 (.q 4 (.q 6 (.q 7 (.q 8 (.q 9 (.q 11 (.q 12 (.l2 5 (.l 10 (.q 13 (.l 14 (.l 15 (.q 16 (.q 17 (.q 18 (.l 19 .nil)))))))) 10 (.q 13 (.l2 5 (.l 14 (.l 15 (.q 16 (.q 17 (.q 18 (.l 19 .nil)))))) 14 (.l 5 (.l 15 (.q 16 (.q 17 (.q 18 (.l 19 .nil)))))))))))))))))))) ?_;intro bE H;obtain ⟨bF,hM⟩:=M.e_gq hM;refine kg 11 ?_;refine t_l2 rfl rfl ?_ ?_
  ·refine kG 1 ?_;refine kN ?_;refine kG 2 ?_;refine kN ?_;refine kL 2 (α:=BWay) [⟨n_Gains.length,s2,(n_Gains.getD s2 default).lo,(n_Gains.getD s2 default).hi,0⟩] ?_;intro bG bH H;refine kN ?_;refine kP 1 ?_;intro bI bJ H;refine kN ?_;refine kS 4 ?_;intro bK H;refine kN ?_;refine t_nil ?_;replace H:=H.pk [2,3,4];exact kX 4
  refine kG 1 ?_;refine kN ?_;refine kG 1 ?_;refine t_l2 rfl rfl ?_ ?_
  ·refine kG 1 ?_;refine kN ?_;refine kL 1 (α:=BWay) [⟨n_Gains.length,s2,(n_Gains.getD s2 default).lo,(n_Gains.getD s2 default).hi,0⟩] ?_;intro bL bM H;refine kN ?_;refine kP 1 ?_;intro bN bO H;refine kN ?_;refine kS 4 ?_;intro bP H;refine kN ?_;refine t_nil ?_;replace H:=H.pk [2,3,4];exact kX 4
  refine kL 0 (α:=BWay) [⟨n_Gains.length,s2,(n_Gains.getD s2 default).lo,(n_Gains.getD s2 default).hi,0⟩] ?_;intro bQ bR H;refine kN ?_;refine kG 2 ?_;refine kN ?_;refine kP 1 ?_;intro bS bT H;refine kN ?_;refine kS 4 ?_;intro bU H;refine kN ?_;refine t_nil ?_;replace H:=H.pk [2,3,4];exact kX 4
 intro aH hM;refine W.exit ?_;obtain rfl:=M.e_inr hM aG;replace hM:=aE;have bV:=((H.os 0)).len_le;refine kg 12 ?_;obtain ⟨aI,ax,aJ⟩:=M.e_bind hM;obtain ⟨av,ax⟩:=M.e_iter ax;refine W.loop (fun m σ W=>∃ (l7:List BWay) (s3:Nat) (ah:Value) (ρ:Env),σ=upds ρ [(3,Pq ac),(77,ah),(78,I (l4.length:Int)),(79,I (s3:Int))]/\M.iterN (m_balance_begun_b2 l4) m (l7,s3)=some aI/\St w W [cOwn (α:=BWay) 153 ah l7,cBlk ac [ah,I (n_Gains.length:Int),I (n_Reaches.length:Int)] 150,cBlk ae [aa,ab] 79] R) ?_ ?_
 ·exact kY
 rintro bW σ bX ⟨l7,s3,ah,ρ,rfl,aK,H⟩;obtain ⟨bY,bZ,b4,hM,aL⟩:=M.e_iterN aK;refine kI 5 ?_ ?_
 ·intro aM hM;obtain ⟨b5,hM⟩:=M.e_gq hM;refine kA 8 ?_;intro b6 b7 H;refine kS 1 ?_;intro b8 H;refine kD 1 [0,2,3] [14,15,16] ?_;intro b9 H;refine kG 16 ?_;refine kN ?_;refine kG 2 ?_;refine kN ?_;refine kO 1 (α:=BWay) ({ (l7.getD s3 default) with now:=min (max 0 ((l7.getD s3 default).lo)) ((l7.getD s3 default).hi) }) ?_;intro cb H;have cc:(l7.set s3 ({ (l7.getD s3 default) with now:=min (max 0 ((l7.getD s3 default).lo)) ((l7.getD s3 default).hi) })).length=(l7).length:=List.length_set;refine kN ?_;exact kXp 5 [1,2,3]
 intro aM hM;refine W.exit ?_;obtain rfl:=M.e_inr hM aL;replace hM:=aJ;exact kR 5 [1,0]

end Go.Proofs.YtbgoclcmgbpckaaGreat
end
section
set_option maxRecDepth 100000
set_option maxHeartbeats 16000000
namespace Go.Proofs.YtbgoclcmgbpckaaGreat
open Go Go.Nm
attribute [local irreducible] gd execOp SL SLD SLT WR
def m_balance_desk_over_b0 (d_ways_all:List BWay):((List Int) × Nat)->M (((List Int) × Nat) ⊕ (List Int)):=fun (s,s2) =>
  bif decide ((s2:Int)<(d_ways_all.length:Int)) then (
  M.grd (decide ((s2:Int)<(d_ways_all.length:Int))) <|
  M.grd (decide ((0:Int)<=((d_ways_all.getD s2 default).src))&&decide (((d_ways_all.getD s2 default).src)<(10:Int))) <|
  M.gi ((s.getD (Int.toNat ((d_ways_all.getD s2 default).src)) 0)-((d_ways_all.getD s2 default).now)) <|
  M.grd (decide ((0:Int)<=((d_ways_all.getD s2 default).dst))&&decide (((d_ways_all.getD s2 default).dst)<(10:Int))) <|
  M.gi (((s.set (Int.toNat ((d_ways_all.getD s2 default).src)) ((s.getD (Int.toNat ((d_ways_all.getD s2 default).src)) 0)-((d_ways_all.getD s2 default).now))).getD (Int.toNat ((d_ways_all.getD s2 default).dst)) 0)+((d_ways_all.getD s2 default).now)) <|
  M.pure (.inl ((s.set (Int.toNat ((d_ways_all.getD s2 default).src)) ((s.getD (Int.toNat ((d_ways_all.getD s2 default).src)) 0)-((d_ways_all.getD s2 default).now))).set (Int.toNat ((d_ways_all.getD s2 default).dst)) (((s.set (Int.toNat ((d_ways_all.getD s2 default).src)) ((s.getD (Int.toNat ((d_ways_all.getD s2 default).src)) 0)-((d_ways_all.getD s2 default).now))).getD (Int.toNat ((d_ways_all.getD s2 default).dst)) 0)+((d_ways_all.getD s2 default).now)),s2+1)))
  else (
  M.pure (.inr s))
def m_balance_desk_over (d_ways_all:List BWay) (d_ways_outside d_reaches:Int):M (List Int) :=
  M.bind (M.iter (m_balance_desk_over_b0 d_ways_all) (List.replicate 10 0,0)) fun l =>
  M.pure l
theorem balance_desk_over_ok {R ak al ae}(d_ways_all d_ways_outside d_reaches)(aD:Reads R al)(aq:Sl al ae d_ways_all)(aE:Has R (cBlk ak [ae,I d_ways_outside,I d_reaches] 150)){r}(hM:(m_balance_desk_over d_ways_all d_ways_outside d_reaches).Ends r)(w)(H:St w w [] R):Ret Tryz.prog 188 #[Pq ak] w fun v w'=>∃ y0,y0=r/\v = .agg (List.flatten [[],encF (α:=Int) y0]).toArray/\St w w' [] R/\y0.length=10:=by
 refine ret_of_W Tryz.func188 rfl rfl rfl ?_;refine kg 2 ?_;refine t_alloc (cs:=(List.flatten [[],encF (α:=Int) (List.replicate 10 0)])) H Al275.h (by kernel_rfl) ?_;intro ac aF H;refine kg 3 ?_;refine t_alloc (cs:=(List.flatten [[],encF (α:=Int) (List.replicate 10 0)])) H Al275.h (by kernel_rfl) ?_;intro aa aG H;have aH:=(aq).len_le;refine kg 13 ?_;obtain ⟨au,ah,av⟩:=M.e_bind hM;obtain ⟨aI,ah⟩:=M.e_iter ah;refine W.loop (fun m σ W=>∃ (s:List Int) (s2:Nat) (ρ:Env),σ=upds ρ [(2,Pq ac),(3,Pq aa),(10,ae),(11,I (d_ways_all.length:Int)),(12,I (s2:Int))]/\M.iterN (m_balance_desk_over_b0 d_ways_all) m (s,s2)=some au/\St w W [cBlk aa (List.flatten [[],encF (α:=Int) s]) 275,cBlk ac (List.flatten [[],encF (α:=Int) (List.replicate 10 0)]) 275] R/\s.length=10) ?_ ?_
 ·exact ⟨_,List.replicate 10 0,0,_,jQ,ah,H,List.length_replicate⟩
 rintro aJ σ aK ⟨s,s2,ρ,rfl,aw,H,ab⟩;obtain ⟨ax,ay,aL,hM,am⟩:=M.e_iterN aw;refine kI 5 ?_ ?_
 ·intro az hM;obtain ⟨aM,hM⟩:=M.e_gq hM;refine kA 7 ?_;intro ao aN H;refine ksw ?_;intro aO H;refine kDo 2 [0,2] [(0,true),(1,true),(2,true),(4,true),(5,true),(3,false),(6,true),(7,true),(8,false)] ?_;intro aP H;obtain ⟨aQ,hM⟩:=M.e_gq hM;refine kg 2 ?_;refine d_q rfl (fun w' H=>x_ix (v:=.pointer (some ⟨aa,0+Int.toNat ((d_ways_all.getD s2 default).src)*1,none⟩)) rfl rfl (run_indexS Tryz.underlying275 Sz3.h (by omega) (by omega))) ?_;refine kG 3 ?_;refine s_val (x_ld (v:=I (s.getD (Int.toNat ((d_ways_all.getD s2 default).src)) 0)) rfl (ldS (α:=Int) (k:=1) (off:=0) (i:=(Int.toNat ((d_ways_all.getD s2 default).src))) (f:=0) (sz:=1) 0 Sc3.h (H.bl 1) rfl (sgo1 rfl) rfl (by decide) (by have ai:=ab; omega) (by omega) rfl)) ?_;refine kN ?_;obtain ⟨aR,hM⟩:=M.e_gq hM;refine kg 1 ?_;refine d_q rfl (fun w' H=>x_ix (v:=.pointer (some ⟨aa,0+Int.toNat ((d_ways_all.getD s2 default).src)*1,none⟩)) rfl rfl (run_indexS Tryz.underlying275 Sz3.h (by omega) (by omega)))<|d_l rfl ?_;refine t_stS (α:=Int) (kc:=1) (b:=aa) (k:=1) (off:=0) (i:=(Int.toNat ((d_ways_all.getD s2 default).src))) (f:=0) (sz:=1) (segs:=[[],encF (α:=Int) s]) (segs':=[[],encF (α:=Int) (s.set (Int.toNat ((d_ways_all.getD s2 default).src)) ((s.getD (Int.toNat ((d_ways_all.getD s2 default).src)) 0)-((d_ways_all.getD s2 default).now)))]) (l:=s) (l':=s.set (Int.toNat ((d_ways_all.getD s2 default).src)) ((s.getD (Int.toNat ((d_ways_all.getD s2 default).src)) 0)-((d_ways_all.getD s2 default).now))) (vs:=[I ((s.getD (Int.toNat ((d_ways_all.getD s2 default).src)) 0)-((d_ways_all.getD s2 default).now))]) (L':=[cBlk ao [I ((d_ways_all.getD s2 default).src),I ((d_ways_all.getD s2 default).dst),I ((d_ways_all.getD s2 default).lo),I ((d_ways_all.getD s2 default).hi),I ((d_ways_all.getD s2 default).now)] 153,cBlk aa (List.flatten [[],encF (α:=Int) (s.set (Int.toNat ((d_ways_all.getD s2 default).src)) ((s.getD (Int.toNat ((d_ways_all.getD s2 default).src)) 0)-((d_ways_all.getD s2 default).now)))]) 275,cBlk ac (List.flatten [[],encF (α:=Int) (List.replicate 10 0)]) 275]) H rfl rfl rfl Sz3.h rfl rfl rfl rfl (sgo1 rfl) rfl rfl (by have ai:=ab; omega) (by omega) 0 ((s.getD (Int.toNat ((d_ways_all.getD s2 default).src)) 0)-((d_ways_all.getD s2 default).now)) rfl rfl rfl rfl ?_;intro aS H
  have aj:(s.set (Int.toNat ((d_ways_all.getD s2 default).src)) ((s.getD (Int.toNat ((d_ways_all.getD s2 default).src)) 0)-((d_ways_all.getD s2 default).now))).length=10:=List.length_set.trans ab;refine kN ?_;refine kDo 1 [0,2] [(0,true),(1,true),(2,true),(4,true),(5,true),(3,false),(6,true),(7,true),(8,false)] ?_;intro aT H;obtain ⟨aU,hM⟩:=M.e_gq hM;refine kg 2 ?_;refine d_q rfl (fun w' H=>x_ix (v:=.pointer (some ⟨aa,0+Int.toNat ((d_ways_all.getD s2 default).dst)*1,none⟩)) rfl rfl (run_indexS Tryz.underlying275 Sz3.h (by omega) (by omega))) ?_;refine kG 3 ?_;refine s_val (x_ld (v:=I ((s.set (Int.toNat ((d_ways_all.getD s2 default).src)) ((s.getD (Int.toNat ((d_ways_all.getD s2 default).src)) 0)-((d_ways_all.getD s2 default).now))).getD (Int.toNat ((d_ways_all.getD s2 default).dst)) 0)) rfl (ldS (α:=Int) (k:=1) (off:=0) (i:=(Int.toNat ((d_ways_all.getD s2 default).dst))) (f:=0) (sz:=1) 0 Sc3.h (H.bl 1) rfl (sgo1 rfl) rfl (by decide) (by have ai:=aj; omega) (by omega) rfl)) ?_;refine kN ?_;obtain ⟨aV,hM⟩:=M.e_gq hM;refine kg 1 ?_;refine d_q rfl (fun w' H=>x_ix (v:=.pointer (some ⟨aa,0+Int.toNat ((d_ways_all.getD s2 default).dst)*1,none⟩)) rfl rfl (run_indexS Tryz.underlying275 Sz3.h (by omega) (by omega)))<|d_l rfl ?_;refine t_stS (α:=Int) (kc:=1) (b:=aa) (k:=1) (off:=0) (i:=(Int.toNat ((d_ways_all.getD s2 default).dst))) (f:=0) (sz:=1) (segs:=[[],encF (α:=Int) (s.set (Int.toNat ((d_ways_all.getD s2 default).src)) ((s.getD (Int.toNat ((d_ways_all.getD s2 default).src)) 0)-((d_ways_all.getD s2 default).now)))]) (segs':=[[],encF (α:=Int) ((s.set (Int.toNat ((d_ways_all.getD s2 default).src)) ((s.getD (Int.toNat ((d_ways_all.getD s2 default).src)) 0)-((d_ways_all.getD s2 default).now))).set (Int.toNat ((d_ways_all.getD s2 default).dst)) (((s.set (Int.toNat ((d_ways_all.getD s2 default).src)) ((s.getD (Int.toNat ((d_ways_all.getD s2 default).src)) 0)-((d_ways_all.getD s2 default).now))).getD (Int.toNat ((d_ways_all.getD s2 default).dst)) 0)+((d_ways_all.getD s2 default).now)))]) (l:=s.set (Int.toNat ((d_ways_all.getD s2 default).src)) ((s.getD (Int.toNat ((d_ways_all.getD s2 default).src)) 0)-((d_ways_all.getD s2 default).now))) (l':=(s.set (Int.toNat ((d_ways_all.getD s2 default).src)) ((s.getD (Int.toNat ((d_ways_all.getD s2 default).src)) 0)-((d_ways_all.getD s2 default).now))).set (Int.toNat ((d_ways_all.getD s2 default).dst)) (((s.set (Int.toNat ((d_ways_all.getD s2 default).src)) ((s.getD (Int.toNat ((d_ways_all.getD s2 default).src)) 0)-((d_ways_all.getD s2 default).now))).getD (Int.toNat ((d_ways_all.getD s2 default).dst)) 0)+((d_ways_all.getD s2 default).now))) (vs:=[I (((s.set (Int.toNat ((d_ways_all.getD s2 default).src)) ((s.getD (Int.toNat ((d_ways_all.getD s2 default).src)) 0)-((d_ways_all.getD s2 default).now))).getD (Int.toNat ((d_ways_all.getD s2 default).dst)) 0)+((d_ways_all.getD s2 default).now))]) (L':=[cBlk ao [I ((d_ways_all.getD s2 default).src),I ((d_ways_all.getD s2 default).dst),I ((d_ways_all.getD s2 default).lo),I ((d_ways_all.getD s2 default).hi),I ((d_ways_all.getD s2 default).now)] 153,cBlk aa (List.flatten [[],encF (α:=Int) ((s.set (Int.toNat ((d_ways_all.getD s2 default).src)) ((s.getD (Int.toNat ((d_ways_all.getD s2 default).src)) 0)-((d_ways_all.getD s2 default).now))).set (Int.toNat ((d_ways_all.getD s2 default).dst)) (((s.set (Int.toNat ((d_ways_all.getD s2 default).src)) ((s.getD (Int.toNat ((d_ways_all.getD s2 default).src)) 0)-((d_ways_all.getD s2 default).now))).getD (Int.toNat ((d_ways_all.getD s2 default).dst)) 0)+((d_ways_all.getD s2 default).now)))]) 275,cBlk ac (List.flatten [[],encF (α:=Int) (List.replicate 10 0)]) 275]) H rfl rfl rfl Sz3.h rfl rfl rfl rfl (sgo1 rfl) rfl rfl (by have ai:=aj; omega) (by omega) 0 (((s.set (Int.toNat ((d_ways_all.getD s2 default).src)) ((s.getD (Int.toNat ((d_ways_all.getD s2 default).src)) 0)-((d_ways_all.getD s2 default).now))).getD (Int.toNat ((d_ways_all.getD s2 default).dst)) 0)+((d_ways_all.getD s2 default).now)) rfl rfl rfl rfl ?_;intro aW H
  have aA:((s.set (Int.toNat ((d_ways_all.getD s2 default).src)) ((s.getD (Int.toNat ((d_ways_all.getD s2 default).src)) 0)-((d_ways_all.getD s2 default).now))).set (Int.toNat ((d_ways_all.getD s2 default).dst)) (((s.set (Int.toNat ((d_ways_all.getD s2 default).src)) ((s.getD (Int.toNat ((d_ways_all.getD s2 default).src)) 0)-((d_ways_all.getD s2 default).now))).getD (Int.toNat ((d_ways_all.getD s2 default).dst)) 0)+((d_ways_all.getD s2 default).now))).length=10:=List.length_set.trans aj;refine kN ?_;refine kg 5 ?_;exact ⟨ax,ay,(s.set (Int.toNat ((d_ways_all.getD s2 default).src)) ((s.getD (Int.toNat ((d_ways_all.getD s2 default).src)) 0)-((d_ways_all.getD s2 default).now))).set (Int.toNat ((d_ways_all.getD s2 default).dst)) (((s.set (Int.toNat ((d_ways_all.getD s2 default).src)) ((s.getD (Int.toNat ((d_ways_all.getD s2 default).src)) 0)-((d_ways_all.getD s2 default).now))).getD (Int.toNat ((d_ways_all.getD s2 default).dst)) 0)+((d_ways_all.getD s2 default).now)),s2+1,_,jQ,M.e_inl hM am,(H.pk [1,2]),aA⟩
 intro az hM;refine W.exit ?_;obtain rfl:=M.e_inr hM am;replace hM:=av;refine kg 2 ?_;refine s_val (x_ld (v:=.agg (List.flatten [[],encF (α:=Int) s]).toArray) rfl (ldb_seg (l:=s) (pre:=[]) (post:=[]) (by simp) Ag275.h Sz275.h (H.bl 0) (by simp) rfl ab)) ?_;refine t_swI 1 H rfl rfl Sz275.h List.length_replicate ab ?_;intro aX H;refine s_nil ?_;refine W.ret ?_;have aB:=(H.bl 1)
 have aC:=M.e_pure hM;exact ⟨_,(resE_of1 (v:=.agg (List.flatten [[],encF (α:=Int) s]).toArray) rfl (.cell (v:=.agg (List.flatten [[],encF (α:=Int) s]).toArray) rfl (run_loadVar_ag (ds:=(List.flatten [[],encF (α:=Int) s])) Ag275.h Sz275.h aB (seg_whole ab) (seg_len ab))<|.nil)),⟨s,aC,rfl,(H.pk []),ab⟩⟩

def zcn (s:List Int) (f:Int->M Bool):Nat->M (Nat ⊕ (Int ⊕ Unit)):=fun s2 =>
  bif decide ((s2:Int)<(s.length:Int)) then (
  M.grd (decide ((s2:Int)<(s.length:Int))) <|
  M.bind (f (s.getD s2 0)) fun r2 =>
  bif r2 then (
  M.pure (.inr (.inl (s2:Int))))
  else (
  M.pure (.inl (s2+1))))
  else (
  M.pure (.inr (.inr ())))
def zck (s:List Int) (f:Int->M Bool):M Int :=
  M.bind (M.iter (zcn s f) 0) fun x_=>match x_ with
  | (.inl s3)=>(
  M.pure s3)
  | (.inr (_:Unit))=>(
  M.pure (-1))
theorem zef {R ac aa ab}(s f)(av:Reads R ac)(aj:Sl ac aa s)(ak:FnM Tryz.prog R ab f){r}(hM:(zck s f).Ends r)(w)(H:St w w [] R):Ret Tryz.prog 189 #[aa,ab] w fun v w'=>∃ y0,y0=r/\v=I y0/\St w w' [] R:=by
 refine ret_of_W Tryz.func189 rfl rfl rfl ?_;have aw:=(aj).len_le;refine kg 12 ?_;obtain ⟨al,ae,ah⟩:=M.e_bind hM;obtain ⟨ax,ae⟩:=M.e_iter ae;refine W.loop (fun m σ W=>∃ (s2:Nat) (ρ:Env),σ=upds ρ [(0,aa),(1,ab),(7,I (s.length:Int)),(8,I (s2:Int))]/\M.iterN (zcn s f) m s2=some al/\St w W [] R) ?_ ?_
 ·exact kY
 rintro ay σ az ⟨s2,ρ,rfl,am,H⟩;obtain ⟨aA,aB,aC,hM,ai⟩:=M.e_iterN am;refine kI 5 ?_ ?_
 ·intro ao hM;obtain ⟨aD,hM⟩:=M.e_gq hM;refine kg 15 ?_;obtain ⟨r2,aq,hM⟩:=M.e_bind hM;refine t_callM H ak rfl rfl (s.getD s2 0) Reads.none (Arg.mkI (fun _=>none) _) aq ?_;intro aE H;refine kI 1 ?_ ?_
  ·intro au hM;refine kg 5 ?_;obtain rfl:=M.e_inr hM ai;replace hM:=ah;exact rt
  intro au hM;exact kX 5
 intro ao hM;refine W.exit ?_;obtain rfl:=M.e_inr hM ai;replace hM:=ah;refine kg 4 ?_;exact rt

def m_balance_desk_settle_2 (x:Int):M Bool :=
  M.pure (decide (0<x))
theorem balance_desk_settle_2_ok {R}(x){r}(hM:(m_balance_desk_settle_2 x).Ends r)(w)(H:St w w [] R):Ret Tryz.prog 190 #[I x] w fun v w'=>∃ y0,y0=r/\v=B y0/\St w w' [] R:=by
 refine ret_of_W Tryz.func190 rfl rfl rfl ?_;refine kg 10 ?_;exact rt

def m_balance_desk_steps (d_ways_all:List BWay) (d_ways_outside d_reaches place:Int):M Int :=
  M.pure place
theorem balance_desk_steps_ok {R aa ab ac}(d_ways_all d_ways_outside d_reaches place)(ak:Reads R ab)(al:Sl ab ac d_ways_all)(am:Has R (cBlk aa [ac,I d_ways_outside,I d_reaches] 150)){r}(hM:(m_balance_desk_steps d_ways_all d_ways_outside d_reaches place).Ends r)(w)(H:St w w [] R):Ret Tryz.prog 193 #[Pq aa,I place] w fun v w'=>∃ y0 ae ah,y0=r/\v = .func (.func 206) #[] #[Pq ae,Pq ah]/\St w w' [cBlk ae [Pq aa] 142,cBlk ah [I y0] 3] R:=by
 refine ret_of_W Tryz.func193 rfl rfl rfl ?_;refine kB 2 ?_;intro ai ao H;refine kbx ?_;intro aj aq H;refine kg 4 ?_;refine s_val (x_mf (fs:=[]) (cs:=[Pq ai,Pq aj]) rfl rfl) ?_;exact kR 2 [1,0]

def m_balance_desk_steps_1_b0 {T_:Type} (ac:T_->BStep->M (Bool × T_)) (aa:List BWay) (ab:Int):(Nat × T_)->M ((Nat × T_) ⊕ T_):=fun (s,t3) =>
  bif decide ((s:Int)<(aa.length:Int)) then (
  M.grd (decide ((s:Int)<(aa.length:Int))) <|
  M.bind (M.opt (((aa.getD s default).src)==ab) (ac t3 (⟨(s:Int),false⟩:BStep)) (false,t3)) fun (go,t) =>
  M.bind (M.opt ((!((((aa.getD s default).src)==ab)&&(!go)))&&(((aa.getD s default).dst)==ab)) (ac t (⟨(s:Int),true⟩:BStep)) (false,t)) fun (go2,t2) =>
  bif (((((aa.getD s default).src)==ab)&&(!go))||((((aa.getD s default).dst)==ab)&&(!go2))) then (
  M.fail)
  else (
  M.pure (.inl (s+1,t2))))
  else (
  M.pure (.inr t3))
def m_balance_desk_steps_1 {T_:Type} (aa:T_->BStep->M (Bool × T_)) (t_:T_) (ab:List BWay) (ae ah ac:Int):M T_ :=
  M.bind (M.iter (m_balance_desk_steps_1_b0 aa ab ac) (0,t_)) fun t4 =>
  M.pure t4
theorem balance_desk_steps_1_ok {R:List Chunk} {T_:Type} {Y_:T_->List Chunk->Prop} {ac:Value} {ae:List Chunk} {al:Nat} {am:Nat} {ao:Cells} {ah:Value} {ai:Nat} (aj:T_->BStep->M (Bool × T_)) (t_:T_) (aa:List BWay) (aq:Int) (au:Int) (ab:Int) (av:YieldC Tryz.prog R arBStep Y_ ac aj) (ay:Y_ t_ ae) (aN:Reads R ao) (az:Sl ao ah aa) (aO:Has R (cBlk am [ah,I aq,I au] 150)) (aP:Has R (cBlk al [Pq am] 142)) (aQ:Has R (cBlk ai [I ab] 3)) {r:T_} (hM:(m_balance_desk_steps_1 aj t_ aa aq au ab).Ends r) (w:World) (H:St w w [cAll ae] R):Ret Tryz.prog 206 #[ac,Pq al,Pq ai] w fun v w'=>∃ (y0:T_) (Ls0:List Chunk),y0=r/\v = .tuple #[]/\St w w' [cAll Ls0] R/\Y_ y0 Ls0:=by
 refine ret_of_W Tryz.func206 rfl rfl rfl ?_;have aR:=(az).len_le;refine kg 11 ?_;obtain ⟨aA,ak,aB⟩:=M.e_bind hM;obtain ⟨aS,ak⟩:=M.e_iter ak;refine W.loop (fun m σ W=>∃ (s:Nat) (t3:T_) (Ls_t3:List Chunk) (ρ:Env),σ=upds ρ [(0,ac),(2,Pq ai),(10,ah),(11,I (aa.length:Int)),(12,I (s:Int))]/\M.iterN (m_balance_desk_steps_1_b0 aj aa ab) m (s,t3)=some aA/\St w W [cAll Ls_t3] R/\Y_ t3 Ls_t3) ?_ ?_
 ·exact ⟨_,0,t_,ae,_,jQ,ak,H,ay⟩
 rintro aT σ aU ⟨s,t3,Ls_t3,ρ,rfl,aC,H,hY_t3⟩;obtain ⟨aD,aE,aV,hM,aw⟩:=M.e_iterN aC;refine kI 5 ?_ ?_
 ·intro aF hM;obtain ⟨aW,hM⟩:=M.e_gq hM;refine kA 8 ?_;intro ax aX H;refine kS 1 ?_;intro aY H;refine kg 10 ?_;refine g_val (((aa.getD s default).src)==ab) (gy_t rfl) (fun hg=>x_bld (ps:=[(0,I (s:Int)),(1,B false)]) (zs:=[I 0,B false]) (L':=[I (s:Int),B false]) (by exact prs2 (gd_of hg (I (s:Int))) rfl) Tryz.underlying240 Al240.h rfl (Bd240 Tryz.underlying240) (.cons (cs:=[I (s:Int)]) rfl rfl rfl rfl rfl<|.cons (cs:=[B false]) rfl rfl rfl rfl rfl<|.nil)) ?_;obtain ⟨⟨go,t⟩,aG,hM⟩:=M.e_bind hM;refine t_gyield (L:=[cBlk ax [I ((aa.getD s default).src),I ((aa.getD s default).dst),I ((aa.getD s default).lo),I ((aa.getD s default).hi),I ((aa.getD s default).now)] 153]) (((aa.getD s default).src)==ab) (gy_t rfl) (H.pk [1,0]) av hY_t3 (fun hg=>(gd_of hg (ac))) [.agg #[I (s:Int),B false]] (fun hg=>lst1 (gd_of hg (.agg #[I (s:Int),B false]))) (⟨(s:Int),false⟩:BStep) Reads.none rfl aG ?_;intro aZ a7 aH H;replace H:=H.nf;refine kg 10 ?_;refine g_val ((!((((aa.getD s default).src)==ab)&&(!go)))&&(((aa.getD s default).dst)==ab)) (gy_gt rfl rfl) (fun hg=>x_bld (ps:=[(0,I (s:Int)),(1,B true)]) (zs:=[I 0,B false]) (L':=[I (s:Int),B true]) (by exact prs2 (gd_of hg (I (s:Int))) rfl) Tryz.underlying240 Al240.h rfl (Bd240 Tryz.underlying240) (.cons (cs:=[I (s:Int)]) rfl rfl rfl rfl rfl<|.cons (cs:=[B true]) rfl rfl rfl rfl rfl<|.nil)) ?_;obtain ⟨⟨go2,t2⟩,aI,hM⟩:=M.e_bind hM;refine t_gyield (L:=[cBlk ax [I ((aa.getD s default).src),I ((aa.getD s default).dst),I ((aa.getD s default).lo),I ((aa.getD s default).hi),I ((aa.getD s default).now)] 153]) ((!((((aa.getD s default).src)==ab)&&(!go)))&&(((aa.getD s default).dst)==ab)) (gy_gt rfl rfl) H av aH (fun hg=>(gd_of hg (ac))) [.agg #[I (s:Int),B true]] (fun hg=>lst1 (gd_of hg (.agg #[I (s:Int),B true]))) (⟨(s:Int),true⟩:BStep) Reads.none rfl aI ?_;intro aJ a8 aK H;replace H:=H.nf;refine kI 4 ?_ ?_
  ·intro aL hM;exact (M.e_fail hM).elim
  intro aL hM;refine kg 5 ?_;exact ⟨aD,aE,s+1,t2,aJ,_,jQ,M.e_inl hM aw,(H.pk [0]),aK⟩
 intro aF hM;refine W.exit ?_;obtain rfl:=M.e_inr hM aw;replace hM:=aB;have aM:=M.e_pure hM;exact ⟨_,resE_tmp0 rfl,⟨t3,Ls_t3,aM,rfl,H,hY_t3⟩⟩
theorem m_balance_desk_steps_1_le {T_:Type} {n_:Nat} {y y':T_->BStep->M (Bool × T_)} (h:∀ s a,M.LeN n_ (y s a) (y' s a)) (t_:T_) (aa:List BWay) (ab ac ae:Int):M.LeN n_ (m_balance_desk_steps_1 y t_ aa ab ac ae) (m_balance_desk_steps_1 y' t_ aa ab ac ae):=by
  simp only [m_balance_desk_steps_1,m_balance_desk_steps_1_b0]
  repeat' (first | refine M.le_grd ?_ | refine M.le_if ?_ ?_ | refine M.le_bind ?_ (fun x=>?_) | refine M.le_opt ?_ | refine M.le_iter (fun x=>?_) _ | exact h _ _ | exact M.le_same _ _ | (rename_i x; cases x) | (rename_i x; obtain ⟨_,_⟩:=x))

def m_balance_desk_settle_1 (x:BStep):M Bool :=
  M.pure true
theorem balance_desk_settle_1_ok {R}(x){r}(hM:(m_balance_desk_settle_1 x).Ends r)(w)(H:St w w [] R):Ret Tryz.prog 187 #[.agg #[I x.way,B x.back]] w fun v w'=>∃ y0,y0=r/\v=B y0/\St w w' [] R:=by
 refine ret_of_W Tryz.func187 rfl rfl rfl ?_;refine kB 2 ?_;intro aa ab H;refine kg 6 ?_;exact rt

def m_balance_desk_room (d_ways_all:List BWay) (d_ways_outside d_reaches:Int) (s:BStep):M (Int × Int) :=
  M.grd (decide ((0:Int)<=s.way)&&decide (s.way<(d_ways_all.length:Int))) <|
  bif s.back then (
  M.grd (decide (-9223372036854775807<=((d_ways_all.getD (Int.toNat s.way) default).now))&&decide (((d_ways_all.getD (Int.toNat s.way) default).now)<=9223372036854775807)) <|
  M.grd (decide (-9223372036854775807<=((d_ways_all.getD (Int.toNat s.way) default).hi))&&decide (((d_ways_all.getD (Int.toNat s.way) default).hi)<=9223372036854775807)) <|
  M.grd (decide (-9223372036854775807<=((d_ways_all.getD (Int.toNat s.way) default).lo))&&decide (((d_ways_all.getD (Int.toNat s.way) default).lo)<=9223372036854775807)) <|
  bif decide ((-((d_ways_all.getD (Int.toNat s.way) default).now))<(-((d_ways_all.getD (Int.toNat s.way) default).hi))) then (
  M.fail)
  else (
  bif decide ((-((d_ways_all.getD (Int.toNat s.way) default).now))<(-((d_ways_all.getD (Int.toNat s.way) default).lo))) then (
  M.gi ((-((d_ways_all.getD (Int.toNat s.way) default).lo))-(-((d_ways_all.getD (Int.toNat s.way) default).now))) <|
  M.pure (0,((-((d_ways_all.getD (Int.toNat s.way) default).lo))-(-((d_ways_all.getD (Int.toNat s.way) default).now)))))
  else (
  M.pure (1,10000000000))))
  else (
  bif decide (((d_ways_all.getD (Int.toNat s.way) default).now)<((d_ways_all.getD (Int.toNat s.way) default).lo)) then (
  M.fail)
  else (
  bif decide (((d_ways_all.getD (Int.toNat s.way) default).now)<((d_ways_all.getD (Int.toNat s.way) default).hi)) then (
  M.gi (((d_ways_all.getD (Int.toNat s.way) default).hi)-((d_ways_all.getD (Int.toNat s.way) default).now)) <|
  M.pure (0,(((d_ways_all.getD (Int.toNat s.way) default).hi)-((d_ways_all.getD (Int.toNat s.way) default).now))))
  else (
  M.pure (1,10000000000))))
theorem balance_desk_room_ok {R aa ab ac}(d_ways_all d_ways_outside d_reaches s)(al:Reads R ab)(am:Sl ab ac d_ways_all)(ao:Has R (cBlk aa [ac,I d_ways_outside,I d_reaches] 150)){r}(hM:(m_balance_desk_room d_ways_all d_ways_outside d_reaches s).Ends r)(w)(H:St w w [] R):Ret Tryz.prog 154 #[Pq aa,.agg #[I s.way,B s.back]] w fun v w'=>∃ y0 y1,(y0,y1)=r/\v = .tuple #[I y0,I y1]/\St w w' [] R:=by
 refine ret_of_W Tryz.func154 rfl rfl rfl ?_;refine kB 2 ?_;intro aq au H;refine kD 4 [0] [9,10] ?_;intro av H;obtain ⟨aw,hM⟩:=M.e_gq hM;refine kA 10 ?_;intro ax ay H;refine kN ?_;refine kS 1 ?_;intro az H;refine kN ?_;refine kD 2 [0,1] [] ?_;intro aA H;refine kg 18 ?_;replace H:=H.pk [];refine kI 0 ?_ ?_
 ·intro ae hM;obtain ⟨aB,hM⟩:=M.e_gq hM;refine kg 2 ?_;refine s_val (x_neg (a:=(d_ways_all.getD (Int.toNat s.way) default).now) rfl (by omega)) ?_;obtain ⟨aC,hM⟩:=M.e_gq hM;refine kg 1 ?_;refine s_val (x_neg (a:=(d_ways_all.getD (Int.toNat s.way) default).hi) rfl (by omega)) ?_;obtain ⟨aD,hM⟩:=M.e_gq hM;refine kg 1 ?_;refine s_val (x_neg (a:=(d_ways_all.getD (Int.toNat s.way) default).lo) rfl (by omega)) ?_;refine kI 13 ?_ ?_
  ·intro ah hM;exact (M.e_fail hM).elim
  intro ah hM;refine kI 7 ?_ ?_
  ·intro ai hM;obtain ⟨aE,hM⟩:=M.e_gq hM;refine kg 8 ?_;exact rt
  intro ai hM;refine kg 6 ?_;exact rt
 intro ae hM;refine kI 10 ?_ ?_
 ·intro aj hM;exact (M.e_fail hM).elim
 intro aj hM;refine kI 7 ?_ ?_
 ·intro ak hM;obtain ⟨aF,hM⟩:=M.e_gq hM;refine kg 8 ?_;exact rt
 intro ak hM;refine kg 6 ?_;exact rt

def m_balance_desk_to (d_ways_all:List BWay) (d_ways_outside d_reaches:Int) (s:BStep):M Int :=
  bif s.back then (
  M.grd (decide ((0:Int)<=s.way)&&decide (s.way<(d_ways_all.length:Int))) <|
  M.pure ((d_ways_all.getD (Int.toNat s.way) default).src))
  else (
  M.grd (decide ((0:Int)<=s.way)&&decide (s.way<(d_ways_all.length:Int))) <|
  M.pure ((d_ways_all.getD (Int.toNat s.way) default).dst))
theorem balance_desk_to_ok {R aa ab ac}(d_ways_all d_ways_outside d_reaches s)(ah:Reads R ab)(ai:Sl ab ac d_ways_all)(aj:Has R (cBlk aa [ac,I d_ways_outside,I d_reaches] 150)){r}(hM:(m_balance_desk_to d_ways_all d_ways_outside d_reaches s).Ends r)(w)(H:St w w [] R):Ret Tryz.prog 155 #[Pq aa,.agg #[I s.way,B s.back]] w fun v w'=>∃ y0,y0=r/\v=I y0/\St w w' [] R:=by
 refine ret_of_W Tryz.func155 rfl rfl rfl ?_;refine kB 2 ?_;intro ak al H;refine kI 8 ?_ ?_
 ·intro ae hM;refine kD 1 [0] [] ?_;intro am H;obtain ⟨ao,hM⟩:=M.e_gq hM;refine kg 12 ?_;exact rt
 intro ae hM;refine kD 2 [0] [] ?_;intro aq H;obtain ⟨au,hM⟩:=M.e_gq hM;refine kg 12 ?_;exact rt

def m_balance_desk_reach_187_b4 (d_ways_all:List BWay) (d_ways_outside d_reaches:Int) (s2:Nat) (aa:List (Int × BFar)):((List (Int × BFar)) × Bool)->BStep->M (((List (Int × BFar)) × Bool) ⊕ Unit):=fun (mp,s5) x =>
  M.bind (m_balance_desk_settle_1 x) fun r2 =>
  bif !r2 then (
  M.fail)
  else (
  M.bind (m_balance_desk_room d_ways_all d_ways_outside d_reaches x) fun (r0,r1) =>
  M.gi ((((lookM aa (s2:Int)).getD default).cost)+r0) <|
  M.gi ((((lookM aa (s2:Int)).getD default).many)+1) <|
  M.bind (m_balance_desk_to d_ways_all d_ways_outside d_reaches x) fun r3 =>
  bif (((!((lookM mp (r3:Int)).isSome))||(decide (((((lookM aa (s2:Int)).getD default).cost)+r0)<(((lookM mp (r3:Int)).getD default).cost))))||((((((lookM aa (s2:Int)).getD default).cost)+r0)==(((lookM mp (r3:Int)).getD default).cost))&&(decide (((((lookM aa (s2:Int)).getD default).many)+1)<(((lookM mp (r3:Int)).getD default).many))))) then (
  M.bind (m_balance_desk_to d_ways_all d_ways_outside d_reaches x) fun r4 =>
  M.pure (.inl (setM mp (r4:Int) (⟨((((lookM aa (s2:Int)).getD default).cost)+r0:Int),((((lookM aa (s2:Int)).getD default).many)+1:Int),(x.way:Int),x.back⟩:BFar),true)))
  else (
  M.pure (.inl (mp,s5))))
def m_balance_desk_reach_187_b5 (d_ways_all:List BWay) (d_ways_outside d_reaches:Int):(Nat × (List (Int × BFar)) × Bool)->M ((Nat × (List (Int × BFar)) × Bool) ⊕ ((List (Int × BFar)) × Bool)):=fun (s2,aa,s6) =>
  bif decide ((s2:Int)<(d_ways_outside+2)) then (
  bif !((lookM aa (s2:Int)).isSome) then (
  M.gi ((s2:Int)+1) <|
  M.pure (.inl (s2+1,aa,s6)))
  else (
  M.bind (m_balance_desk_steps d_ways_all d_ways_outside d_reaches (s2:Int)) fun ab =>
  M.bind (m_balance_desk_steps_1 (M.yl (m_balance_desk_reach_187_b4 d_ways_all d_ways_outside d_reaches s2 aa)) (.inl (aa,s6)) d_ways_all d_ways_outside d_reaches ab) fun x_=>match x_ with
  | .inl (mp,s5)=>(
  M.gi ((s2:Int)+1) <|
  M.pure (.inl (s2+1,mp,s5)))
  | .inr _=>M.fail))
  else (
  M.pure (.inr (aa,s6)))
def m_balance_desk_reach_187_b6 (d_ways_all:List BWay) (d_ways_outside d_reaches:Int):((List (Int × BFar)) × Bool)->M (((List (Int × BFar)) × Bool) ⊕ (List (Int × BFar))):=fun (aa,s8) =>
  bif s8 then (
  M.gi (d_ways_outside+2) <|
  M.bind (M.iter (m_balance_desk_reach_187_b5 d_ways_all d_ways_outside d_reaches) (0,aa,false)) fun (ab,s7) =>
  M.pure (.inl (ab,s7)))
  else (
  M.pure (.inr aa))
def m_balance_desk_reach_187 (d_ways_all:List BWay) (d_ways_outside d_reaches aa:Int):M (List (Int × BFar)) :=
  M.bind (M.iter (m_balance_desk_reach_187_b6 d_ways_all d_ways_outside d_reaches) (setM ([]:List (Int × BFar)) (aa:Int) (⟨(0:Int),(0:Int),(0:Int),false⟩:BFar),true)) fun ab =>
  M.pure ab
theorem balance_desk_reach_187_ok {R ab aM aN}(d_ways_all d_ways_outside d_reaches ay)(az:Reads R aM)(aF:Sl aM aN d_ways_all)(aA:Has R (cBlk ab [aN,I d_ways_outside,I d_reaches] 150)){r}(hM:(m_balance_desk_reach_187 d_ways_all d_ways_outside d_reaches ay).Ends r)(w)(H:St w w [] R):Ret Tryz.prog 156 #[Pq ab,I ay,.agg #[.func (.func 187) #[] #[]]] w fun v w'=>∃ y0 aO,y0=r/\v = .map (some aO)/\St w w' [cMl I encFar aO y0] R:=by
 refine ret_of_WD Tryz.func156 rfl rfl rfl ?_;replace H:St w w [cMk ([])] R:=H.mk0;have br:=aF.len_le;unfold m_balance_desk_reach_187 at hM;refine WD.seq<|WD.of ?_;refine kB 1 ?_;intro ah bt H;refine kbx ?_;intro ai bu H;refine kg 2 ?_;refine WD.seq<|WD.of<|W.region rfl ?_;refine t_mkMl (κ:=Int) (ν:=BFar) I encFar H ?_;intro ac bv H;refine kG 2 ?_;refine t_insMl (i:=0) (kenc:=I) (venc:=encFar) (m:=([]:List (Int × BFar))) (k:=(ay:Int)) (v:=(⟨(0:Int),(0:Int),(0:Int),false⟩:BFar)) (L':=[cMl I encFar ac (setM ([]:List (Int × BFar)) (ay:Int) (⟨(0:Int),(0:Int),(0:Int),false⟩:BFar)),cBlk ai [.func (.func 187) #[] #[]] 245,cBlk ah [Pq ab] 142,cMk ([])]) keyIntFar Tryz.underlying247 H rfl rfl rfl rfl rfl ?_;intro bw H;refine kA 1 ?_;intro aj bx H;refine ksw ?_;intro bz H;refine s_nil<|WD.seq<|WD.of ?_;refine kg 2 ?_;refine s_val (x_mf (fs:=[Pq ab]) (cs:=[]) rfl rfl) ?_;refine kal ?_;intro ak bA H;refine ksw ?_;intro bB H;refine s_nil<|WD.seq<|WD.seq<|WD.of ?_;refine kA 1 ?_;intro bC bD H;refine ksw ?_;intro bE H;refine s_nil<|WD.block ?_;obtain ⟨aU,aP,aV⟩:=M.e_bind hM
 obtain ⟨aW,aP⟩:=M.e_iter aP;refine WD.loop (fun m aQ σ W=>∃ (ae:Nat) (aB:List (Int × BFar)) (s8:Bool) (ρ:Env),σ=upds ρ [(3,Pq ah),(5,Pq ai),(7,Pq aj),(8,Pq ak),(9,Pq ae)]/\M.iterN (m_balance_desk_reach_187_b6 d_ways_all d_ways_outside d_reaches) m (aB,s8)=some aU/\St w W [cBlk ae [B s8] 4,cBlk ak [.func (.func 154) #[Pq ab] #[]] 242,cBlk aj [.map (some ac)] 247,cMl I encFar ac aB,cBlk ai [.func (.func 187) #[] #[]] 245,cBlk ah [Pq ab] 142,cMk aQ] R) ?_ ?_
 ·exact kY
 rintro bF aQ σ bG ⟨ae,aB,s8,ρ,rfl,aX,H⟩;obtain ⟨bH,bI,bJ,hM,aY⟩:=M.e_iterN aX;refine WD.seq<|WD.seq<|WD.of ?_;refine kg 3 ?_
 refine WD.cond s8 rfl (fun aG=>?_) (fun aG=>?_)
 ·replace hM:=M.e_t hM aG;refine WD.of<|W.skip<|WD.seq<|WD.block<|WD.seq<|WD.of ?_;refine kS 1 ?_;intro bK H;refine s_nil<|WD.seq<|WD.of ?_;obtain ⟨bL,hM⟩:=M.e_gq hM;refine kg 9 ?_;refine WD.block ?_;obtain ⟨aZ,aR,a7⟩:=M.e_bind hM
  obtain ⟨aW,aR⟩:=M.e_iter aR;refine WD.loop (fun m aq σ W=>∃ (s2:Nat) (aa:List (Int × BFar)) (s6:Bool) (ρ:Env),σ=upds ρ [(3,Pq ah),(5,Pq ai),(7,Pq aj),(8,Pq ak),(9,Pq ae),(31,I (d_ways_outside+2)),(32,I (s2:Int))]/\M.iterN (m_balance_desk_reach_187_b5 d_ways_all d_ways_outside d_reaches) m (s2,aa,s6)=some aZ/\St w W [cBlk ae [B s6] 4,cBlk ak [.func (.func 154) #[Pq ab] #[]] 242,cBlk aj [.map (some ac)] 247,cMl I encFar ac aa,cBlk ai [.func (.func 187) #[] #[]] 245,cBlk ah [Pq ab] 142,cMk aq] R) ?_ ?_
  ·exact kY
  rintro bM aq σ bN ⟨s2,aa,s6,ρ,rfl,a8,H⟩;obtain ⟨bO,bP,bQ,hM,ba⟩:=M.e_iterN a8;refine WD.seq<|WD.of ?_;refine kg 3 ?_;refine WD.seq ?_
  refine WD.cond (decide ((s2:Int)<(d_ways_outside+2))) rfl (fun au=>?_) (fun au=>?_)
  ·replace hM:=M.e_t hM au;replace au:=dI au;refine WD.of<|W.skip<|WD.seq<|WD.block<|WD.seq<|WD.of ?_;refine kg 4 ?_;refine WD.seq<|WD.of ?_;refine kg 3 ?_;refine s_val (q_look (kenc:=I) (venc:=encFar) (f:=lookM aa) (k:=(s2:Int)) (v:=.tuple #[.agg #[I (((lookM aa (s2:Int)).getD default).cost),I (((lookM aa (s2:Int)).getD default).many),I (((lookM aa (s2:Int)).getD default).way),B (((lookM aa (s2:Int)).getD default).back)],B ((lookM aa (s2:Int)).isSome)]) keyIntFar Tryz.underlying247 Al250.h rfl rfl (mlMap (H.get (k:=3) rfl)) true (by rw [if_pos rfl,far_val])) ?_;refine kA 3 ?_;intro av bR H;refine ksw ?_;intro bS H;refine kg 2 ?_;refine WD.seq<|WD.seq<|WD.of ?_;refine kg 4 ?_
   refine WD.cond (!((lookM aa (s2:Int)).isSome)) rfl (fun aH=>?_) (fun aH=>?_)
   ·replace hM:=M.e_t hM aH;refine WD.of ?_;refine W.exit<|WD.of ?_;obtain ⟨bT,hM⟩:=M.e_gq hM
    exact kXp 4 [1,2,3,4,5,6,7]
   replace hM:=M.e_f hM aH;refine WD.of<|W.skip<|WD.seq<|WD.of ?_;refine kC 3 @balance_desk_steps_ok ?_;intro bU al am ao hM H;refine s_nil<|WD.block ?_;obtain ⟨bV,bb,hM⟩:=M.e_bind hM;refine WD.range (L:=[cBlk ae [B s6] 4,cMl I encFar ac aa,cBlk am [Pq ab] 142,cBlk ao [I al] 3,cBlk av [I (((lookM aa (s2:Int)).getD default).cost),I (((lookM aa (s2:Int)).getD default).many),I (((lookM aa (s2:Int)).getD default).way),B (((lookM aa (s2:Int)).getD default).back)] 250,cBlk ak [.func (.func 154) #[Pq ab] #[]] 242,cBlk aj [.map (some ac)] 247,cBlk ai [.func (.func 187) #[] #[]] 245,cBlk ah [Pq ab] 142]) [Pq am,Pq ao] (H.pk [9,3,6,0,1,2,4,5,7,8]) rfl cq ?_;intro aC ax aI bc aJ H
   have hYC:YieldC Tryz.prog ([cMk (ax :: aq),cBlk am [Pq ab] 142,cBlk ao [I al] 3,cBlk av [I (((lookM aa (s2:Int)).getD default).cost),I (((lookM aa (s2:Int)).getD default).many),I (((lookM aa (s2:Int)).getD default).way),B (((lookM aa (s2:Int)).getD default).back)] 250,cBlk ak [.func (.func 154) #[Pq ab] #[]] 242,cBlk aj [.map (some ac)] 247,cBlk ai [.func (.func 187) #[] #[]] 245,cBlk ah [Pq ab] 142]++R) arBStep (yJ aC aI (fun (mp,s5) aD=>aD=[cBlk ae [B s5] 4,cMl I encFar ac mp]) (fun (_:Unit) _=>False) (fun _=>.ret)) (.func (.yield aC) #[] #[]) (M.yl (m_balance_desk_reach_187_b4 d_ways_all d_ways_outside d_reaches s2 aa)):=by
    refine YieldC.mk2 aJ (fun (mp,s5) aD=>aD=[cBlk ae [B s5] 4,cMl I encFar ac mp]) (fun (_:Unit) _=>False) (fun _=>.ret) (m_balance_desk_reach_187_b4 d_ways_all d_ways_outside d_reaches s2 aa) (by rintro ⟨mp,s5⟩ _ h_; obtain ⟨rfl⟩:=h_; rfl) (fun _ _ h_=>h_.elim) rfl (arBStep_len rfl) ?_;intro C_ bW x bf;obtain rfl:=bf;intro w R aE aD s_ r bg hM H;obtain ⟨mp,s5⟩:=s_;obtain ⟨rfl⟩:=bg;replace H:=H.nf;refine kA 1 ?_;intro aK bX H;refine ksw ?_;intro bY H;refine s_nil ?_;refine ⟨rfl,[cBlk aK [I x.way,B x.back] 240],H.pick [0,1,2,3,4,5,6,7,8,9,10] (by decide) rfl,?_⟩;clear H aE;intro w R aE H;replace az:=az.sub aE;replace aA:=aA.sub aE;replace hM:(m_balance_desk_reach_187_b4 d_ways_all d_ways_outside d_reaches s2 aa (mp,s5) x).Ends r:=hM;simp only [m_balance_desk_reach_187_b4] at hM;replace H:=H.nf;refine kg 7 ?_;obtain ⟨bZ,bh,hM⟩:=M.e_bind hM;refine s_callv (f:=187) rfl cq [.agg #[I x.way,B x.back]] rfl (balance_desk_settle_1_ok x bh _ (H.gt 11)) ?_;rintro _ b4 ⟨r2,rfl,rfl,aw⟩;replace H:=H.bk aw;refine kI 2 ?_ ?_
    ·intro bi hM;exact (M.e_fail hM).elim
    intro bi hM;refine kg 5 ?_;obtain ⟨b5,bj,hM⟩:=M.e_bind hM;refine s_callm (f:=154) (fs:=[Pq ab]) rfl cq [.agg #[I x.way,B x.back]] rfl (balance_desk_room_ok d_ways_all d_ways_outside d_reaches x (az.app _) aF (aA.app _) bj _ (H.gt 11)) ?_;rintro _ b6 ⟨r0,r1,rfl,rfl,aw⟩;replace H:=H.bk aw;obtain ⟨b7,hM⟩:=M.e_gq hM;obtain ⟨b8,hM⟩:=M.e_gq hM;refine kA 17 ?_;intro aS b9 H;refine ksw ?_;intro cb H;refine kDT 2 [0,1,2,3,4,5,6,7,8,9,10,11] (.q 0 (.q 1 (.q 2 (.l2 3 (.q 4 (.q 5 (.q 6 (.q 7 (.l 8 (.l 9 (.q 10 .nil))))))) 8 (.l 3 (.q 4 (.q 5 (.q 6 (.q 7 (.l 9 (.q 10 .nil))))))))))) ?_;intro cc H;refine kg 3 ?_;refine t_l2 rfl rfl ?_ ?_
    ·refine kC 0 @balance_desk_to_ok ?_;intro cd r3 hM H;refine kN ?_;refine t_q rfl (fun w' H=>q_look (kenc:=I) (venc:=encFar) (f:=lookM mp) (k:=(r3:Int)) (v:=.tuple #[.agg #[I (((lookM mp (r3:Int)).getD default).cost),I (((lookM mp (r3:Int)).getD default).many),I (((lookM mp (r3:Int)).getD default).way),B (((lookM mp (r3:Int)).getD default).back)],B ((lookM mp (r3:Int)).isSome)]) keyIntFar Tryz.underlying247 Al250.h rfl rfl (mlMap (H.get (k:=3) rfl)) true (by rw [if_pos rfl,far_val])) ?_;refine kA 4 ?_;intro aL ce H;refine kN ?_;refine kS 1 ?_;intro cf H;refine kN ?_;refine kI 28 ?_ ?_
     ·intro bm hM;refine kDo 0 [0,1,2,5,6,7,8,9,10,11,12] [(0,true),(1,true),(2,true),(4,true),(3,false),(5,false),(6,true),(7,false),(8,false)] ?_;intro cg H;refine kC 5 @balance_desk_to_ok ?_;intro ch r4 hM H;refine kN ?_;refine d_l rfl ?_;refine t_mentL (i:=4) (kenc:=I) (venc:=encFar) (m:=mp) (k:=(r4:Int)) (z:=default) keyIntFar Tryz.underlying247 Al250.h H rfl rfl rfl ?_;intro ck cn H;replace H:=H.nf;refine kN ?_;refine kG 2 ?_;refine t_enstL (i:=4) (kenc:=I) (venc:=encFar) (m0:=mp) (k:=(r4:Int)) (v:=(⟨((((lookM aa (s2:Int)).getD default).cost)+r0:Int),((((lookM aa (s2:Int)).getD default).many)+1:Int),(x.way:Int),x.back⟩:BFar)) (L':=[cBlk aL [I (((lookM mp (r3:Int)).getD default).cost),I (((lookM mp (r3:Int)).getD default).many),I (((lookM mp (r3:Int)).getD default).way),B (((lookM mp (r3:Int)).getD default).back)] 250,cBlk aS [I ((((lookM aa (s2:Int)).getD default).cost)+r0),I ((((lookM aa (s2:Int)).getD default).many)+1),I x.way,B x.back] 250,cBlk aK [I x.way,B x.back] 240,cBlk ae [B s5] 4,cMl I encFar ac (setM mp (r4:Int) (⟨((((lookM aa (s2:Int)).getD default).cost)+r0:Int),((((lookM aa (s2:Int)).getD default).many)+1:Int),(x.way:Int),x.back⟩:BFar)),cMk (ax :: aq),cBlk am [Pq ab] 142,cBlk ao [I al] 3,cBlk av [I (((lookM aa (s2:Int)).getD default).cost),I (((lookM aa (s2:Int)).getD default).many),I (((lookM aa (s2:Int)).getD default).way),B (((lookM aa (s2:Int)).getD default).back)] 250,cBlk ak [.func (.func 154) #[Pq ab] #[]] 242,cBlk aj [.map (some ac)] 247,cBlk ai [.func (.func 187) #[] #[]] 245,cBlk ah [Pq ab] 142]) H rfl rfl rfl rfl rfl ?_;intro cp H;refine kN ?_;refine kS 1 ?_;intro ct H;refine kN ?_;refine d_nil ?_;exact ⟨(setM mp (r4:Int) (⟨((((lookM aa (s2:Int)).getD default).cost)+r0:Int),((((lookM aa (s2:Int)).getD default).many)+1:Int),(x.way:Int),x.back⟩:BFar),true),[cBlk ae [B true] 4,cMl I encFar ac (setM mp (r4:Int) (⟨((((lookM aa (s2:Int)).getD default).cost)+r0:Int),((((lookM aa (s2:Int)).getD default).many)+1:Int),(x.way:Int),x.back⟩:BFar))],(M.e_pure hM).symm,rfl,H.pick [3,4,5,6,7,8,9,10,11,12] (by decide) rfl⟩
     intro bm hM;refine W.skip ?_;exact ⟨(mp,s5),[cBlk ae [B s5] 4,cMl I encFar ac mp],(M.e_pure hM).symm,rfl,H.pick [3,4,5,6,7,8,9,10,11,12] (by decide) rfl⟩
    refine kal ?_;intro aL cu H;refine kN ?_;refine kC 1 @balance_desk_to_ok ?_;intro cw r3 hM H;refine kN ?_;refine t_q rfl (fun w' H=>q_look (kenc:=I) (venc:=encFar) (f:=lookM mp) (k:=(r3:Int)) (v:=.tuple #[.agg #[I (((lookM mp (r3:Int)).getD default).cost),I (((lookM mp (r3:Int)).getD default).many),I (((lookM mp (r3:Int)).getD default).way),B (((lookM mp (r3:Int)).getD default).back)],B ((lookM mp (r3:Int)).isSome)]) keyIntFar Tryz.underlying247 Al250.h rfl rfl (mlMap (H.get (k:=3) rfl)) true (by rw [if_pos rfl,far_val])) ?_;refine kS 4 ?_;intro cA H;refine kN ?_;refine kI 28 ?_ ?_
    ·intro bn hM;refine kDo 0 [0,1,2,5,6,7,8,9,10,11,12] [(0,true),(1,true),(2,true),(4,true),(3,false),(5,false),(6,true),(7,false),(8,false)] ?_;intro cB H;refine kC 5 @balance_desk_to_ok ?_;intro cC r4 hM H;refine kN ?_;refine d_l rfl ?_;refine t_mentL (i:=4) (kenc:=I) (venc:=encFar) (m:=mp) (k:=(r4:Int)) (z:=default) keyIntFar Tryz.underlying247 Al250.h H rfl rfl rfl ?_;intro cD cE H;replace H:=H.nf;refine kN ?_;refine kG 2 ?_;refine t_enstL (i:=4) (kenc:=I) (venc:=encFar) (m0:=mp) (k:=(r4:Int)) (v:=(⟨((((lookM aa (s2:Int)).getD default).cost)+r0:Int),((((lookM aa (s2:Int)).getD default).many)+1:Int),(x.way:Int),x.back⟩:BFar)) (L':=[cBlk aL [I (((lookM mp (r3:Int)).getD default).cost),I (((lookM mp (r3:Int)).getD default).many),I (((lookM mp (r3:Int)).getD default).way),B (((lookM mp (r3:Int)).getD default).back)] 250,cBlk aS [I ((((lookM aa (s2:Int)).getD default).cost)+r0),I ((((lookM aa (s2:Int)).getD default).many)+1),I x.way,B x.back] 250,cBlk aK [I x.way,B x.back] 240,cBlk ae [B s5] 4,cMl I encFar ac (setM mp (r4:Int) (⟨((((lookM aa (s2:Int)).getD default).cost)+r0:Int),((((lookM aa (s2:Int)).getD default).many)+1:Int),(x.way:Int),x.back⟩:BFar)),cMk (ax :: aq),cBlk am [Pq ab] 142,cBlk ao [I al] 3,cBlk av [I (((lookM aa (s2:Int)).getD default).cost),I (((lookM aa (s2:Int)).getD default).many),I (((lookM aa (s2:Int)).getD default).way),B (((lookM aa (s2:Int)).getD default).back)] 250,cBlk ak [.func (.func 154) #[Pq ab] #[]] 242,cBlk aj [.map (some ac)] 247,cBlk ai [.func (.func 187) #[] #[]] 245,cBlk ah [Pq ab] 142]) H rfl rfl rfl rfl rfl ?_;intro cF H;refine kN ?_;refine kS 1 ?_;intro cG H;refine kN ?_;refine d_nil ?_;exact ⟨(setM mp (r4:Int) (⟨((((lookM aa (s2:Int)).getD default).cost)+r0:Int),((((lookM aa (s2:Int)).getD default).many)+1:Int),(x.way:Int),x.back⟩:BFar),true),[cBlk ae [B true] 4,cMl I encFar ac (setM mp (r4:Int) (⟨((((lookM aa (s2:Int)).getD default).cost)+r0:Int),((((lookM aa (s2:Int)).getD default).many)+1:Int),(x.way:Int),x.back⟩:BFar))],(M.e_pure hM).symm,rfl,H.pick [3,4,5,6,7,8,9,10,11,12] (by decide) rfl⟩
    intro bn hM;refine W.skip ?_;exact ⟨(mp,s5),[cBlk ae [B s5] 4,cMl I encFar ac mp],(M.e_pure hM).symm,rfl,H.pick [3,4,5,6,7,8,9,10,11,12] (by decide) rfl⟩
   replace H:St w bc (cAll (cObj aC (.loop aI) :: [cBlk ae [B s6] 4,cMl I encFar ac aa]) :: [cMk (ax :: aq),cBlk am [Pq ab] 142,cBlk ao [I al] 3,cBlk av [I (((lookM aa (s2:Int)).getD default).cost),I (((lookM aa (s2:Int)).getD default).many),I (((lookM aa (s2:Int)).getD default).way),B (((lookM aa (s2:Int)).getD default).back)] 250,cBlk ak [.func (.func 154) #[Pq ab] #[]] 242,cBlk aj [.map (some ac)] 247,cBlk ai [.func (.func 187) #[] #[]] 245,cBlk ah [Pq ab] 142]) R:=St.bundleB (A:=cObj aC (.loop aI) :: [cBlk ae [B s6] 4,cMl I encFar ac aa]) (T:=[cMk (ax :: aq),cBlk am [Pq ab] 142,cBlk ao [I al] 3,cBlk av [I (((lookM aa (s2:Int)).getD default).cost),I (((lookM aa (s2:Int)).getD default).many),I (((lookM aa (s2:Int)).getD default).way),B (((lookM aa (s2:Int)).getD default).back)] 250,cBlk ak [.func (.func 154) #[Pq ab] #[]] 242,cBlk aj [.map (some ac)] 247,cBlk ai [.func (.func 187) #[] #[]] 245,cBlk ah [Pq ab] 142]) rfl (H.pk [0,2,3,1,4,5,6,7,8,9,10]);refine (balance_desk_steps_1_ok (M.yl (m_balance_desk_reach_187_b4 d_ways_all d_ways_outside d_reaches s2 aa)) (.inl (aa,s6)) d_ways_all d_ways_outside d_reaches al hYC ⟨_,rfl,rfl⟩ (az.app _) aF (aA.app _) (Has.here (k:=1) rfl) (Has.here (k:=2) rfl) bb _ (H.gt 8)).mono ?_;rintro vq cH ⟨bo,cI,rfl,hvq,aw,aT⟩;replace H:=H.back aw rfl;clear aw hYC;rcases bo with ⟨mp,s5⟩ | _
   ·obtain ⟨_,rfl,rfl⟩:=aT;refine ⟨_,[cBlk ae [B s5] 4,cMl I encFar ac mp,cBlk am [Pq ab] 142,cBlk ao [I al] 3,cBlk av [I (((lookM aa (s2:Int)).getD default).cost),I (((lookM aa (s2:Int)).getD default).many),I (((lookM aa (s2:Int)).getD default).way),B (((lookM aa (s2:Int)).getD default).back)] 250,cBlk ak [.func (.func 154) #[Pq ab] #[]] 242,cBlk aj [.map (some ac)] 247,cBlk ai [.func (.func 187) #[] #[]] 245,cBlk ah [Pq ab] 142],H.unbundle.pick [0,3,1,2,4,5,6,7,8,9,10] (by decide) rfl,aJ.nb,?_⟩;intro cJ H;rw [aJ.pd];replace H:=H.nf
    try simp only []
    replace H:=H.pk [0,1,2,6,7,8,9];refine WD.of ?_;obtain ⟨cK,hM⟩:=M.e_gq hM;exact kXp 4 [1,3,4,2,5,6,0]
   obtain ⟨_,_,h_⟩:=aT; exact h_.elim
  replace hM:=M.e_f hM au;replace au:=dI au;refine WD.of ?_;refine W.exit ?_;obtain rfl:=M.e_inr hM ba;replace hM:=a7;refine WD.seq<|WD.of ?_;refine kg 3 ?_;refine WD.of ?_;refine kA 1 ?_;intro cL cM H;refine ksw ?_;intro cN H
  exact kXp 1 [0,2,3,4,5,6,7]
 replace hM:=M.e_f hM aG;refine WD.of ?_;refine W.exit ?_;obtain rfl:=M.e_inr hM aY;replace hM:=aV;replace H:=H.pk [2,3,6];refine WD.seq<|WD.of ?_;refine kg 4 ?_;refine WD.of ?_;refine W.ret ?_;refine bodyD_r (H.pk [2,0,1]) ?_;intro cO H;replace H:=H.nf
 have bp:=M.e_pure hM;exact ⟨_,resE_tmp rfl,⟨aB,ac,bp,rfl,(H.pk [1])⟩⟩

def m_balance_desk_moved_1 (s:BStep) (aa:List BWay) (ac ae ab:Int):M (List BWay) :=
  bif s.back then (
  M.grd (decide ((0:Int)<=s.way)&&decide (s.way<(aa.length:Int))) <|
  M.gi (((aa.getD (Int.toNat s.way) default).now)-ab) <|
  M.pure (aa.set (Int.toNat s.way) ({ (aa.getD (Int.toNat s.way) default) with now:=((aa.getD (Int.toNat s.way) default).now)-ab })))
  else (
  M.grd (decide ((0:Int)<=s.way)&&decide (s.way<(aa.length:Int))) <|
  M.gi (((aa.getD (Int.toNat s.way) default).now)+ab) <|
  M.pure (aa.set (Int.toNat s.way) ({ (aa.getD (Int.toNat s.way) default) with now:=((aa.getD (Int.toNat s.way) default).now)+ab })))
theorem balance_desk_moved_1_ok {R ak ae ac al}(s aa ah ai ab)(ao:Has R (cBlk ak [Pq ae] 142))(aq:Has R (cBlk al [I ab] 3)){r}(hM:(m_balance_desk_moved_1 s aa ah ai ab).Ends r)(w)(H:St w w [cOwn (α:=BWay) 153 ac aa,cBlk ae [ac,I ah,I ai] 150] R):Ret Tryz.prog 194 #[.agg #[I s.way,B s.back],Pq ak,Pq al] w fun v w'=>∃ y0 u0,y0=r/\v = .tuple #[]/\St w w' [cOwn (α:=BWay) 153 u0 y0,cBlk ae [u0,I ah,I ai] 150] R:=by
 refine ret_of_W Tryz.func194 rfl rfl rfl ?_;refine kB 2 ?_;intro au av H;refine kI 6 ?_ ?_
 ·intro am hM;refine kDo 0 [0,2] [(0,true),(1,true),(2,true),(3,true),(4,true),(5,true),(6,true),(10,true),(7,false),(8,false),(9,false),(11,true),(12,false),(13,false),(14,false)] ?_;intro aw H;refine kG 9 ?_;obtain ⟨ax,hM⟩:=M.e_gq hM;refine kG 1 ?_;refine kN ?_;refine kG 2 ?_;refine kN ?_;refine kG 2 ?_;refine kN ?_;obtain ⟨ay,hM⟩:=M.e_gq hM;refine kG 3 ?_;refine kN ?_;refine kG 2 ?_;refine kN ?_;refine kO 1 (α:=BWay) ({ (aa.getD (Int.toNat s.way) default) with now:=((aa.getD (Int.toNat s.way) default).now)-ab }) ?_;intro az H;have aA:(aa.set (Int.toNat s.way) ({ (aa.getD (Int.toNat s.way) default) with now:=((aa.getD (Int.toNat s.way) default).now)-ab })).length=(aa).length:=List.length_set;refine kN ?_;refine d_nil ?_;have aj:=M.e_pure hM;exact ⟨_,resE_tmp0 rfl,⟨(aa.set (Int.toNat s.way) ({ (aa.getD (Int.toNat s.way) default) with now:=((aa.getD (Int.toNat s.way) default).now)-ab })),ac,aj,rfl,(H.pk [1,2])⟩⟩
 intro am hM;refine kDo 0 [0,2] [(0,true),(1,true),(2,true),(3,true),(4,true),(5,true),(6,true),(10,true),(7,false),(8,false),(9,false),(11,true),(12,false),(13,false),(14,false)] ?_;intro aB H;refine kG 9 ?_;obtain ⟨aC,hM⟩:=M.e_gq hM;refine kG 1 ?_;refine kN ?_;refine kG 2 ?_;refine kN ?_;refine kG 2 ?_;refine kN ?_;obtain ⟨aD,hM⟩:=M.e_gq hM;refine kG 3 ?_;refine kN ?_;refine kG 2 ?_;refine kN ?_;refine kO 1 (α:=BWay) ({ (aa.getD (Int.toNat s.way) default) with now:=((aa.getD (Int.toNat s.way) default).now)+ab }) ?_;intro aE H;have aF:(aa.set (Int.toNat s.way) ({ (aa.getD (Int.toNat s.way) default) with now:=((aa.getD (Int.toNat s.way) default).now)+ab })).length=(aa).length:=List.length_set;refine kN ?_;refine d_nil ?_;have aj:=M.e_pure hM;exact ⟨_,resE_tmp0 rfl,⟨(aa.set (Int.toNat s.way) ({ (aa.getD (Int.toNat s.way) default) with now:=((aa.getD (Int.toNat s.way) default).now)+ab })),ac,aj,rfl,(H.pk [1,2])⟩⟩

end Go.Proofs.YtbgoclcmgbpckaaGreat
end
section
set_option maxRecDepth 100000
set_option maxHeartbeats 16000000
namespace Go.Proofs.YtbgoclcmgbpckaaGreat
open Go Go.Nm
attribute [local irreducible] gd execOp SL SLD SLT WR
def m_balance_desk_moved_b0 (d_ways_all:List BWay) (d_ways_outside d_reaches aa:Int) (l:List (Int × BFar)):(Int × (List BStep))->M ((Int × (List BStep)) ⊕ ((List BStep) × (List BStep))):=fun (s,l2) =>
  bif s != aa then (
  M.grd (decide ((l2.length+([(⟨(((lookM l (s:Int)).getD default).way:Int),(((lookM l (s:Int)).getD default).back)⟩:BStep)]).length)*16<=140737488355328)) <|
  M.bind (m_balance_desk_to d_ways_all d_ways_outside d_reaches (⟨(((lookM l (s:Int)).getD default).way:Int),(!(((lookM l (s:Int)).getD default).back))⟩:BStep)) fun r2 =>
  M.pure (.inl (r2,l2++([(⟨(((lookM l (s:Int)).getD default).way:Int),(((lookM l (s:Int)).getD default).back)⟩:BStep)]))))
  else (
  M.pure (.inr (l2,l2)))
def m_balance_desk_moved_b1 (d_ways_all:List BWay) (d_ways_outside d_reaches:Int) (l4:List BStep):(Int × Nat)->M ((Int × Nat) ⊕ Int):=fun (s2,s3) =>
  bif decide ((s3:Int)<(l4.length:Int)) then (
  M.grd (decide ((s3:Int)<(l4.length:Int))) <|
  M.bind (m_balance_desk_room d_ways_all d_ways_outside d_reaches (l4.getD s3 default)) fun (r0,r1) =>
  M.pure (.inl (min s2 r1,s3+1)))
  else (
  M.pure (.inr s2))
def m_balance_desk_moved_b2 (d_ways_outside d_reaches:Int) (l4:List BStep) (s4:Int):((List BWay) × Nat)->M (((List BWay) × Nat) ⊕ ((List BWay) × (List BWay))):=fun (l5,s5) =>
  bif decide ((s5:Int)<(l4.length:Int)) then (
  M.grd (decide ((s5:Int)<(l4.length:Int))) <|
  M.bind (m_balance_desk_moved_1 (l4.getD s5 default) l5 d_ways_outside d_reaches s4) fun l_k020 =>
  M.pure (.inl (l_k020,s5+1)))
  else (
  M.pure (.inr (l5,l5)))
def m_balance_desk_moved (d_ways_all:List BWay) (d_ways_outside d_reaches aa ab:Int) (l:List (Int × BFar)) (most:Int):M (Int × (List BWay)) :=
  M.bind (M.iter (m_balance_desk_moved_b0 d_ways_all d_ways_outside d_reaches aa l) (ab,[])) fun (l3,l4) =>
  M.bind (M.iter (m_balance_desk_moved_b1 d_ways_all d_ways_outside d_reaches l4) (most,0)) fun s4 =>
  M.bind (M.iter (m_balance_desk_moved_b2 d_ways_outside d_reaches l4 s4) (d_ways_all,0)) fun (l6,l7) =>
  M.pure (s4,l7)
theorem balance_desk_moved_ok {R aa ah aj}(d_ways_all d_ways_outside d_reaches ai al l most)(av:Has R (cMl I encFar aj l)){r}(hM:(m_balance_desk_moved d_ways_all d_ways_outside d_reaches ai al l most).Ends r)(w)(H:St w w [cOwn (α:=BWay) 153 ah d_ways_all,cBlk aa [ah,I d_ways_outside,I d_reaches] 150] R):Ret Tryz.prog 157 #[Pq aa,I ai,I al,.map (some aj),I most] w fun v w'=>∃ y0 y1 u0,(y0,y1)=r/\v=I y0/\St w w' [cOwn (α:=BWay) 153 u0 y1,cBlk aa [u0,I d_ways_outside,I d_reaches] 150] R:=by
 refine ret_of_W Tryz.func157 rfl rfl rfl ?_;refine kB 2 ?_;intro ae aN H;refine kbx ?_;intro ab aO H;refine kg 13 ?_;replace H:=H.nilOwn (α:=BStep) 240;obtain ⟨aw,am,ax⟩:=M.e_bind hM;obtain ⟨ao,am⟩:=M.e_iter am;refine W.loop (fun m σ W=>∃ (s:Int) (l2:List BStep) (ac:Value) (ρ:Env),σ=upds ρ [(1,I ai),(3,.map (some aj)),(5,Pq ae),(9,Pq ab),(11,ac),(12,I s)]/\M.iterN (m_balance_desk_moved_b0 d_ways_all d_ways_outside d_reaches ai l) m (s,l2)=some aw/\St w W [cOwn (α:=BStep) 240 ac l2,cBlk ab [I most] 3,cBlk ae [Pq aa] 142,cOwn (α:=BWay) 153 ah d_ways_all,cBlk aa [ah,I d_ways_outside,I d_reaches] 150] R) ?_ ?_
 ·exact kY
 rintro aP σ aQ ⟨s,l2,ac,ρ,rfl,ay,H⟩;obtain ⟨aR,aS,aT,hM,az⟩:=M.e_iterN ay;refine kI 7 ?_ ?_
 ·intro aA hM;refine kg 6 ?_;refine s_val (q_look (kenc:=I) (venc:=encFar) (f:=lookM l) (k:=(s:Int)) (v:=.agg #[I (((lookM l (s:Int)).getD default).cost),I (((lookM l (s:Int)).getD default).many),I (((lookM l (s:Int)).getD default).way),B (((lookM l (s:Int)).getD default).back)]) keyIntFar Tryz.underlying247 Al250.h rfl rfl (mlMap (av.at H)) false (by rw [if_neg (by decide),far_val]))<|s_val (x_fdA (cs:=[I (((lookM l (s:Int)).getD default).cost),I (((lookM l (s:Int)).getD default).many),I (((lookM l (s:Int)).getD default).way),B (((lookM l (s:Int)).getD default).back)]) (ds:=[I (((lookM l (s:Int)).getD default).way),B (((lookM l (s:Int)).getD default).back)]) Fd250_2.h Ag240.h Sz240.h rfl rfl) ?_;refine kal ?_;intro aU aV H;refine ksw ?_;intro aW H;refine kL 5 (α:=BStep) [⟨((lookM l (s:Int)).getD default).way,(((lookM l (s:Int)).getD default).back)⟩] ?_;intro aX aY H;obtain ⟨aZ,hM⟩:=M.e_gq hM;refine kP 0 ?_;intro a7 a8 H;refine kS 8 ?_;intro ba H;refine kC 4 @balance_desk_to_ok ?_;intro bb r2 hM H
  exact kXp 2 [2,3,4,5,6]
 intro aA hM;refine W.exit ?_;obtain rfl:=M.e_inr hM az;replace hM:=ax;have bc:=((H.os 0)).len_le;refine kg 8 ?_;obtain ⟨aB,aq,aC⟩:=M.e_bind hM;obtain ⟨ao,aq⟩:=M.e_iter aq;refine W.loop (fun m σ W=>∃ (s2:Int) (s3:Nat) (ρ:Env),σ=upds ρ [(5,Pq ae),(9,Pq ab),(11,ac),(40,ac),(41,I (l2.length:Int)),(42,I (s3:Int))]/\M.iterN (m_balance_desk_moved_b1 d_ways_all d_ways_outside d_reaches l2) m (s2,s3)=some aB/\St w W [cOwn (α:=BStep) 240 ac l2,cBlk ab [I s2] 3,cBlk ae [Pq aa] 142,cOwn (α:=BWay) 153 ah d_ways_all,cBlk aa [ah,I d_ways_outside,I d_reaches] 150] R) ?_ ?_
 ·exact kY
 rintro bf σ bg ⟨s2,s3,ρ,rfl,aD,H⟩;obtain ⟨bh,bi,bj,hM,aE⟩:=M.e_iterN aD;refine kI 5 ?_ ?_
 ·intro aF hM;obtain ⟨bm,hM⟩:=M.e_gq hM;refine kA 7 ?_;intro bn bo H;refine ksw ?_;intro bp H;refine kC 5 @balance_desk_room_ok ?_;intro br r0 r1 hM H;refine kS 10 ?_;intro bt H;exact kXp 5 [1,2,3,4,5]
 intro aF hM;refine W.exit ?_;obtain rfl:=M.e_inr hM aE;replace hM:=aC;refine kg 2 ?_;refine s_val (x_mf (fs:=[]) (cs:=[Pq ae,Pq ab]) rfl rfl) ?_;have bu:=((H.os 0)).len_le;refine kg 10 ?_;obtain ⟨aG,au,aH⟩:=M.e_bind hM;obtain ⟨ao,au⟩:=M.e_iter au;refine W.loop (fun m σ W=>∃ (l5:List BWay) (s5:Nat) (ak:Value) (ρ:Env),σ=upds ρ [(9,Pq ab),(18,.func (.func 194) #[] #[Pq ae,Pq ab]),(57,ac),(58,I (l2.length:Int)),(59,I (s5:Int))]/\M.iterN (m_balance_desk_moved_b2 d_ways_outside d_reaches l2 s2) m (l5,s5)=some aG/\St w W [cOwn (α:=BStep) 240 ac l2,cBlk ab [I s2] 3,cBlk ae [Pq aa] 142,cOwn (α:=BWay) 153 ak l5,cBlk aa [ak,I d_ways_outside,I d_reaches] 150] R) ?_ ?_
 ·exact kY
 rintro bv σ bw ⟨l5,s5,ak,ρ,rfl,aI,H⟩;obtain ⟨bx,bz,bA,hM,aJ⟩:=M.e_iterN aI;refine kI 5 ?_ ?_
 ·intro aK hM;obtain ⟨bB,hM⟩:=M.e_gq hM;refine kA 7 ?_;intro bC bD H;refine ksw ?_;intro bE H;refine kg 4 ?_;obtain ⟨bF,aL,hM⟩:=M.e_bind hM;refine s_callv (f:=194) rfl cq [.agg #[I ((l2.getD s5 default).way),B ((l2.getD s5 default).back)]] rfl (balance_desk_moved_1_ok (l2.getD s5 default) l5 d_ways_outside d_reaches s2 (Has.here (k:=3) rfl) (Has.here (k:=2) rfl) aL _ ((H.pk [4,5,0,1,2,3]).gt 4)) ?_;rintro _ bG ⟨l_k020,bH,rfl,rfl,aM⟩;replace H:=H.pk [4,5,0,1,2,3] |>.bk aM
  exact kXp 5 [3,4,5,0,1]
 intro aK hM;refine W.exit ?_;obtain rfl:=M.e_inr hM aJ;replace hM:=aH;replace H:=H.pk [1,3,4];exact kR 5 [1,2]

def m_balance_desk_settle_b1 (aa:List Int) (r2:Int) (r3:List (Int × BFar)):(Nat × Int × Int × Int × Int × Bool)->M ((Nat × Int × Int × Int × Int × Bool) ⊕ (Int × Int × Int × Int × Bool)):=fun (s,s2,s3,s4,s5,s6) =>
  bif decide ((s:Int)<10) then (
  M.grd (decide ((0:Int)<=(s:Int))&&decide ((s:Int)<(10:Int))) <|
  bif ((decide (0<=(aa.getD s 0)))||(!((lookM r3 (s:Int)).isSome))) then (
  M.pure (.inl (s+1,s2,s3,s4,s5,s6)))
  else (
  bif (((s2==r2)||(decide ((((lookM r3 (s:Int)).getD default).cost)<s3)))||(((((lookM r3 (s:Int)).getD default).cost)==s3)&&(decide ((((lookM r3 (s:Int)).getD default).many)<s4)))) then (
  M.pure (.inl (s+1,(s:Int),((lookM r3 (s:Int)).getD default).cost,((lookM r3 (s:Int)).getD default).many,((lookM r3 (s:Int)).getD default).way,((lookM r3 (s:Int)).getD default).back)))
  else (
  M.fail)))
  else (
  M.pure (.inr (s2,s3,s4,s5,s6)))
def m_balance_desk_settle_b2 (d_ways_outside d_reaches:Int):((List BWay) × (List Int))->M (((List BWay) × (List Int)) ⊕ ((List BWay) × (List BWay))):=fun (l,aa) =>
  bif !(decide (aa=(List.replicate 10 0))) then (
  M.bind (zck aa (fun ab=>m_balance_desk_settle_2 ab)) fun r2 =>
  M.bind (m_balance_desk_reach_187 l d_ways_outside d_reaches r2) fun r3 =>
  M.bind (M.iter (m_balance_desk_settle_b1 aa r2 r3) (0,r2,0,0,0,false)) fun (s7,s8,s9,ae,ah) =>
  M.grd (decide ((0:Int)<=r2)&&decide (r2<(10:Int))) <|
  M.grd (decide ((0:Int)<=s7)&&decide (s7<(10:Int))) <|
  M.grd (decide (-9223372036854775807<=(aa.getD (Int.toNat s7) 0))&&decide ((aa.getD (Int.toNat s7) 0)<=9223372036854775807)) <|
  M.bind (m_balance_desk_moved l d_ways_outside d_reaches r2 s7 r3 (min (aa.getD (Int.toNat r2) 0) (-(aa.getD (Int.toNat s7) 0)))) fun (r4,l_d_ways_all) =>
  M.bind (m_balance_desk_over l_d_ways_all d_ways_outside d_reaches) fun ac =>
  M.pure (.inl (l_d_ways_all,ac)))
  else (
  M.pure (.inr (l,l)))
def m_balance_desk_settle (d_ways_all:List BWay) (d_ways_outside d_reaches:Int):M (List BWay) :=
  M.bind (m_balance_desk_over d_ways_all d_ways_outside d_reaches) fun r0 =>
  M.bind (M.iter (m_balance_desk_settle_b2 d_ways_outside d_reaches) (d_ways_all,r0)) fun (l2,l3) =>
  M.pure l3
theorem balance_desk_settle_ok {R ae aj}(d_ways_all d_ways_outside d_reaches){r}(hM:(m_balance_desk_settle d_ways_all d_ways_outside d_reaches).Ends r)(w)(H:St w w [cOwn (α:=BWay) 153 aj d_ways_all,cBlk ae [aj,I d_ways_outside,I d_reaches] 150] R):Ret Tryz.prog 150 #[Pq ae] w fun v w'=>∃ y0 u0,y0=r/\v = .tuple #[]/\St w w' [cOwn (α:=BWay) 153 u0 y0,cBlk ae [u0,I d_ways_outside,I d_reaches] 150] R:=by
 refine ret_of_W Tryz.func150 rfl rfl rfl ?_;refine kA 3 ?_;intro ai bb H;refine ksw ?_;intro bc H;refine kC 4 @balance_desk_over_ok ?_;intro bf r0 aq hM H;refine t_alloc (cs:=(List.flatten [[],encF (α:=Int) (List.replicate 10 0)])) H Al275.h (by kernel_rfl) ?_;intro az bg H;refine t_swI 0 H rfl rfl Sz275.h List.length_replicate aq ?_;intro bh H;refine kg 2 ?_;obtain ⟨aA,ak,aB⟩:=M.e_bind hM;obtain ⟨aC,ak⟩:=M.e_iter ak;refine W.loop (fun m σ W=>∃ (ab:Nat) (l:List BWay) (aa:List Int) (ah:Value) (ρ:Env),σ=upds ρ [(0,Pq ae),(2,Pq ai),(3,Pq ab)]/\M.iterN (m_balance_desk_settle_b2 d_ways_outside d_reaches) m (l,aa)=some aA/\St w W [cBlk ab (List.flatten [[],encF (α:=Int) aa]) 275,cBlk ai [.func (.func 187) #[] #[]] 245,cOwn (α:=BWay) 153 ah l,cBlk ae [ah,I d_ways_outside,I d_reaches] 150] R/\aa.length=10) ?_ ?_
 ·exact ⟨_,az,d_ways_all,r0,aj,_,jQ,ak,H,aq⟩
 rintro bi σ bj ⟨ab,l,aa,ah,ρ,rfl,aD,H,ac⟩;obtain ⟨aE,aF,bm,hM,au⟩:=M.e_iterN aD;refine kg 3 ?_;refine s_val (x_ld (v:=.agg (List.flatten [[],encF (α:=Int) aa]).toArray) rfl (ldb_seg (l:=aa) (pre:=[]) (post:=[]) (by simp) Ag275.h Sz275.h (H.bl 0) (by simp) rfl ac))<|s_val (x_bldA (e:=3) (n:=10) (s:=1) (ps:=[]) (zs:=(List.flatten [[],encF (α:=Int) (List.replicate 10 0)])) (L':=(List.flatten [[],encF (α:=Int) (List.replicate 10 0)])) rfl Tryz.underlying275 Al275.h (by kernel_rfl) Sz3.h rfl .nil)<|s_val (x_neS (eqArr (d:=9998) (by simp) (by simp) Tryz.underlying275 Tryz.underlying3 Sz3.h ac (List.length_replicate (n:=10) (a:=(0:Int))) _) gdA275 rfl rfl) ?_;refine kI 1 ?_ ?_
 ·intro aG hM;refine kg 3 ?_;refine W.scope ?_;refine kg 2 ?_;have aH:Sl (blkC ab (List.flatten [[],encF (α:=Int) aa])) (.slice (some ⟨ab,0,none⟩) 10 10) aa:=segSlA (α:=Int) (pre:=[]) (post:=[]) (by simp) rfl ac (by omega);refine s_val (x_sl (v:=Pq ab) (u:=(.slice (some ⟨ab,0,none⟩) 10 10)) (lo':=none) (hi':=none) (mx':=none) rfl rfl rfl rfl (run_sliceN Tryz.underlying275 Sz3.h)) ?_;obtain ⟨bn,aI,hM⟩:=M.e_bind hM;refine s_call cq [(.slice (some ⟨ab,0,none⟩) 10 10),.func (.func 190) #[] #[]] rfl (zef aa (fun al=>m_balance_desk_settle_2 al) (Reads.of (k:=0) rfl blkLe) aH ⟨190,[],rfl,cq,fun av bo bp aJ al br aK bt aL aM=>by obtain rfl:=Arg.int aL; exact (balance_desk_settle_2_ok al aM av (St.refl aK)).mono fun aJ av ⟨bu,aN,aO,aP⟩=>by subst aN; exact ⟨aO,aP⟩⟩ aI _ (H.gt 4)) ?_;rintro _ bv ⟨r2,rfl,rfl,am⟩;replace H:=H.bk am;refine kC 7 @balance_desk_reach_187_ok ?_;intro bw r3 ao hM H;refine kA 6 ?_;intro aw bx H;refine kS 1 ?_;intro bz H;refine kg 2 ?_;refine W.label ?_;refine kg 3 ?_;refine s_val (x_ld (v:=.agg (List.flatten [[],encF (α:=Int) aa]).toArray) rfl (ldb_seg (l:=aa) (pre:=[]) (post:=[]) (by simp) Ag275.h Sz275.h (H.bl 2) (by simp) rfl ac)) ?_;refine kg 3 ?_;obtain ⟨aQ,ax,aR⟩:=M.e_bind hM;obtain ⟨aC,ax⟩:=M.e_iter ax;refine W.loop (fun m σ W=>∃ (s:Nat) (s2:Int) (s3:Int) (s4:Int) (s5:Int) (s6:Bool) (ρ:Env),σ=upds ρ [(0,Pq ae),(2,Pq ai),(3,Pq ab),(4,I r2),(5,.map (some ao)),(6,I s2),(7,Pq aw),(28,.agg (List.flatten [[],encF (α:=Int) aa]).toArray),(29,I (s:Int))]/\M.iterN (m_balance_desk_settle_b1 aa r2 r3) m (s,s2,s3,s4,s5,s6)=some aQ/\St w W [cBlk aw [I s3,I s4,I s5,B s6] 250,cMl I encFar ao r3,cBlk ab (List.flatten [[],encF (α:=Int) aa]) 275,cBlk ai [.func (.func 187) #[] #[]] 245,cOwn (α:=BWay) 153 ah l,cBlk ae [ah,I d_ways_outside,I d_reaches] 150] R) ?_ ?_
  ·exact kY
  rintro bA σ bB ⟨s,s2,s3,s4,s5,s6,ρ,rfl,aS,H⟩;obtain ⟨bC,bD,bE,hM,aT⟩:=M.e_iterN aS;refine kI 5 ?_ ?_
  ·intro aU hM;obtain ⟨bF,hM⟩:=M.e_gq hM;refine kg 6 ?_;refine s_val (x_idxA (l:=aa) (i:=(s:Int)) (by simp) Tryz.underlying275 Sc3.h Sz3.h rfl rfl ac (by omega)) ?_;refine kg 7 ?_;refine s_val (q_look (kenc:=I) (venc:=encFar) (f:=lookM r3) (k:=(s:Int)) (v:=.tuple #[.agg #[I (((lookM r3 (s:Int)).getD default).cost),I (((lookM r3 (s:Int)).getD default).many),I (((lookM r3 (s:Int)).getD default).way),B (((lookM r3 (s:Int)).getD default).back)],B ((lookM r3 (s:Int)).isSome)]) keyIntFar Tryz.underlying247 Al250.h rfl rfl (mlMap (H.get (k:=1) rfl)) true (by rw [if_pos rfl,far_val])) ?_;refine kA 3 ?_;intro bG bH H;refine ksw ?_;intro bI H;refine kI 12 ?_ ?_
   ·intro aV hM;refine W.exit ?_;exact kXp 4 [1,2,3,4,5,6]
   intro aV hM;refine kI 28 ?_ ?_
   ·intro aW hM;refine kD 0 [0,2,3,4,5,6] [3] ?_;intro bJ H;refine kS 4 ?_;intro bK H;refine kN ?_;exact kXp 5 [1,2,3,4,5,6]
   intro aW hM;exact (M.e_fail hM).elim
  intro aU hM;refine W.exit ?_;obtain rfl:=M.e_inr hM aT;replace hM:=aR;refine kD 0 [0,1,2,3] [12] ?_;intro bL H;obtain ⟨bM,hM⟩:=M.e_gq hM;refine kg 5 ?_;refine d_q rfl (fun w' H=>x_ix (v:=.pointer (some ⟨ab,0+Int.toNat r2*1,none⟩)) rfl rfl (run_indexS Tryz.underlying275 Sz3.h (by omega) (by omega)))<|d_q rfl (fun w' H=>x_ld (v:=I (aa.getD (Int.toNat r2) 0)) rfl (ldS (α:=Int) (k:=1) (off:=0) (i:=(Int.toNat r2)) (f:=0) (sz:=1) 0 Sc3.h (H.bl 2) rfl (sgo1 rfl) rfl (by decide) (by have aX:=ac; omega) (by omega) rfl)) ?_;obtain ⟨bN,hM⟩:=M.e_gq hM;refine kg 1 ?_;refine d_q rfl (fun w' H=>x_ix (v:=.pointer (some ⟨ab,0+Int.toNat s2*1,none⟩)) rfl rfl (run_indexS Tryz.underlying275 Sz3.h (by omega) (by omega)))<|d_q rfl (fun w' H=>x_ld (v:=I (aa.getD (Int.toNat s2) 0)) rfl (ldS (α:=Int) (k:=1) (off:=0) (i:=(Int.toNat s2)) (f:=0) (sz:=1) 0 Sc3.h (H.bl 2) rfl (sgo1 rfl) rfl (by decide) (by have aX:=ac; omega) (by omega) rfl)) ?_;obtain ⟨bO,hM⟩:=M.e_gq hM;refine d_q rfl (fun w' H=>x_neg (a:=aa.getD (Int.toNat s2) 0) rfl (by omega)) ?_;refine kG 2 ?_;obtain ⟨bP,aY,hM⟩:=M.e_bind hM;refine s_call cq [Pq ae,I r2,I s2,.map (some ao),I (min (aa.getD (Int.toNat r2) 0) (-(aa.getD (Int.toNat s2) 0)))] rfl (balance_desk_moved_ok l d_ways_outside d_reaches r2 s2 r3 (min (aa.getD (Int.toNat r2) 0) (-(aa.getD (Int.toNat s2) 0))) (Has.here (k:=1) rfl) aY _ ((H.pk [4,5,0,1,2,3]).gt 4)) ?_
  rintro _ bQ ⟨r4,l_d_ways_all,aZ,rfl,rfl,am⟩;replace H:=H.pk [4,5,0,1,2,3] |>.bk am
  refine kN ?_;refine d_nil ?_;replace H:=H.pk [0,1,4,5];refine kg 3 ?_;refine s_val (x_ld (v:=.agg (List.flatten [[],encF (α:=Int) aa]).toArray) rfl (ldb_seg (l:=aa) (pre:=[]) (post:=[]) (by simp) Ag275.h Sz275.h (H.bl 2) (by simp) rfl ac)) ?_;refine kg 2 ?_;refine t_alloc (cs:=(List.flatten [[],encF (α:=Int) (List.replicate 10 0)])) H Al275.h (by kernel_rfl) ?_;intro a7 bR H;refine t_swI 0 H rfl rfl Sz275.h List.length_replicate ac ?_;intro bS H;refine kC 3 @balance_desk_over_ok ?_;intro bT a8 ay hM H;refine t_swI 0 H rfl rfl Sz275.h ac ay ?_;intro bU H;refine s_nil ?_;exact ⟨aE,aF,a7,l_d_ways_all,a8,aZ,_,jQ,M.e_inl hM au,(H.pk [0,4,1,2]),ay⟩
 intro aG hM;refine W.exit ?_;obtain rfl:=M.e_inr hM au;replace hM:=aB;have ba:=M.e_pure hM;exact ⟨_,resE_tmp0 rfl,⟨l,ah,ba,rfl,(H.pk [2,3])⟩⟩

def m_balance_desk_truth_b0 (d_ways_all:List BWay):(Nat × (List Int))->M ((Nat × (List Int)) ⊕ ((List Int) × (List Int))):=fun (s,l) =>
  bif decide ((s:Int)<(d_ways_all.length:Int)) then (
  M.grd (decide ((s:Int)<(d_ways_all.length:Int))) <|
  M.grd (decide ((l.length+([((d_ways_all.getD s default).now:Int)]).length)*8<=140737488355328)) <|
  M.pure (.inl (s+1,l++([((d_ways_all.getD s default).now:Int)]))))
  else (
  M.pure (.inr (l,l)))
def m_balance_desk_truth_j1 (d_ways_outside d_reaches:Int) (l3:List Int):M ((List Int) × (List Int)) :=
  M.grd (decide ((0:Int)<=d_reaches)&&decide (d_reaches<=(l3.length:Int))) <|
  M.pure ((l3.take (List.replicate (Int.toNat d_reaches) (0:Int)).length++(List.replicate (Int.toNat d_reaches) (0:Int)).drop l3.length),((l3.drop (Int.toNat d_reaches)).take (List.replicate (Int.toNat d_ways_outside) (0:Int)).length++(List.replicate (Int.toNat d_ways_outside) (0:Int)).drop (l3.drop (Int.toNat d_reaches)).length))
def m_balance_desk_truth (d_ways_all:List BWay) (d_ways_outside d_reaches:Int):M ((List Int) × (List Int)) :=
  M.bind (M.iter (m_balance_desk_truth_b0 d_ways_all) (0,[])) fun (l2,l3) =>
  M.grd (decide ((0:Int)<=d_reaches)&&decide ((8:Int)*d_reaches<=281474976710656)&&decide (d_reaches<=(9223372036854775807:Int))) <|
  M.grd (decide ((0:Int)<=d_ways_outside)&&decide ((8:Int)*d_ways_outside<=281474976710656)&&decide (d_ways_outside<=(9223372036854775807:Int))) <|
  m_balance_desk_truth_j1 d_ways_outside d_reaches l3
theorem balance_desk_truth_ok {R ak aA ay}(d_ways_all d_ways_outside d_reaches)(aU:Reads R aA)(aF:Sl aA ay d_ways_all)(aV:Has R (cBlk ak [ay,I d_ways_outside,I d_reaches] 150)){r}(hM:(m_balance_desk_truth d_ways_all d_ways_outside d_reaches).Ends r)(w)(H:St w w [] R):Ret Tryz.prog 152 #[Pq ak] w fun v w'=>∃ y0 y1 u0 u1,(y0,y1)=r/\v = .agg #[u0,u1]/\St w w' [cOwn (α:=Int) 3 u0 y0,cOwn (α:=Int) 3 u1 y1] R:=by
 refine ret_of_W Tryz.func152 rfl rfl rfl ?_;refine kA 2 ?_;intro aj aW H;have aX:=(aF).len_le;refine kg 17 ?_;replace H:=H.nilOwn (α:=Int) 3;obtain ⟨aG,aB,aH⟩:=M.e_bind hM;obtain ⟨aY,aB⟩:=M.e_iter aB;refine W.loop (fun m σ W=>∃ (s:Nat) (l:List Int) (ab:Value) (ρ:Env),σ=upds ρ [(0,Pq ak),(2,Pq aj),(3,ab),(11,ay),(12,I (d_ways_all.length:Int)),(13,I (s:Int))]/\M.iterN (m_balance_desk_truth_b0 d_ways_all) m (s,l)=some aG/\St w W [cOwn (α:=Int) 3 ab l,cBlk aj [.slice none 0 0,.slice none 0 0] 237] R) ?_ ?_
 ·exact kY
 rintro aZ σ a7 ⟨s,l,ab,ρ,rfl,aI,H⟩;obtain ⟨a8,ba,bb,hM,aJ⟩:=M.e_iterN aI;refine kI 5 ?_ ?_
 ·intro aK hM;obtain ⟨bc,hM⟩:=M.e_gq hM;refine kA 7 ?_;intro bf bg H;refine ksw ?_;intro bh H;refine kL 5 (α:=Int) [(d_ways_all.getD s default).now] ?_;intro bi bj H;obtain ⟨bm,hM⟩:=M.e_gq hM;refine kP 0 ?_;intro bn bo H;refine kg 2 ?_;replace H:=H.pk [2,3];exact kX 4
 intro aK hM;refine W.exit ?_;obtain rfl:=M.e_inr hM aJ;replace hM:=aH;refine W.seqJ (fun σ W=>∃ (aa:Nat) (ah:Value) (ai:Value) (ρ:Env),σ=upds ρ [(0,Pq ak),(2,Pq aj),(3,ab),(6,Pq aa)]/\(m_balance_desk_truth_j1 d_ways_outside d_reaches l).Ends r/\St w W [cBlk aa [ah,ai] 237,cOwn (α:=Int) 3 ai (List.replicate (Int.toNat d_ways_outside) (0:Int)),cOwn (α:=Int) 3 ah (List.replicate (Int.toNat d_reaches) (0:Int)),cOwn (α:=Int) 3 ab l,cBlk aj [.slice none 0 0,.slice none 0 0] 237] R) ?_ ?_
 ·refine kDT 0 [0,1] (.q 0 (.q 1 (.q 2 (.q 3 (.q 5 (.q 6 (.q 7 (.q 8 (.q 9 (.l3 4 (.l2 10 (.q 11 (.l 12 (.l 13 .nil))) 12 (.l 10 (.q 11 (.l 13 .nil)))) 10 (.l2 4 (.q 11 (.l 12 (.l 13 .nil))) 12 (.l 4 (.q 11 (.l 13 .nil)))) 12 (.l2 4 (.l 10 (.q 11 (.l 13 .nil))) 10 (.l 4 (.q 11 (.l 13 .nil)))))))))))))) ?_;intro bp H;obtain ⟨br,hM⟩:=M.e_gq hM;obtain ⟨bt,hM⟩:=M.e_gq hM;refine kg 9 ?_;refine t_l3 rfl rfl rfl ?_ ?_ ?_
  ·refine t_mk (α:=Int) T36.h (0:Int) rfl (n:=d_reaches) H rfl rfl (by omega) (by omega) (by omega) ?_;intro ac bu H;replace H:=H.nf;have aC:=Sl.cells (H.os 0);refine kN ?_;refine t_l2 rfl rfl ?_ ?_
   ·refine t_mk (α:=Int) T36.h (0:Int) rfl (n:=d_ways_outside) H rfl rfl (by omega) (by omega) (by omega) ?_;intro al bv H;replace H:=H.nf;have aL:=Sl.cells (H.os 0);refine kN ?_;refine t_q rfl (fun w' H=>x_bld (ps:=[(0,ac),(1,al)]) (zs:=[.slice none 0 0,.slice none 0 0]) (L':=[ac,al]) rfl Tryz.underlying237 Al237.h rfl (Bd237 Tryz.underlying237) (.cons (cs:=[ac]) aC rfl rfl rfl rfl<|.cons (cs:=[al]) aL rfl rfl rfl rfl<|.nil)) ?_;refine kA 1 ?_;intro aa bw H;refine kN ?_;refine kS 1 ?_;intro bx H;refine kN ?_;refine t_nil ?_;exact ⟨aa,ac,al,_,jQ,hM,H⟩
   refine kal ?_;intro aa bz H;refine kN ?_;refine t_l rfl ?_;refine t_mk (α:=Int) T36.h (0:Int) rfl (n:=d_ways_outside) H rfl rfl (by omega) (by omega) (by omega) ?_;intro am bA H;replace H:=H.nf;have aM:=Sl.cells (H.os 0);refine kN ?_;refine t_q rfl (fun w' H=>x_bld (ps:=[(0,ac),(1,am)]) (zs:=[.slice none 0 0,.slice none 0 0]) (L':=[ac,am]) rfl Tryz.underlying237 Al237.h rfl (Bd237 Tryz.underlying237) (.cons (cs:=[ac]) aC rfl rfl rfl rfl<|.cons (cs:=[am]) aM rfl rfl rfl rfl<|.nil)) ?_;refine kS 1 ?_;intro bB H;refine kN ?_;refine t_nil ?_;exact ⟨aa,ac,am,_,jQ,hM,(H.pk [1,0,2,3,4])⟩
  ·refine t_mk (α:=Int) T36.h (0:Int) rfl (n:=d_ways_outside) H rfl rfl (by omega) (by omega) (by omega) ?_;intro ae bC H;replace H:=H.nf;have aD:=Sl.cells (H.os 0);refine kN ?_;refine t_l2 rfl rfl ?_ ?_
   ·refine t_mk (α:=Int) T36.h (0:Int) rfl (n:=d_reaches) H rfl rfl (by omega) (by omega) (by omega) ?_;intro ao bD H;replace H:=H.nf;have aN:=Sl.cells (H.os 0);refine kN ?_;refine t_q rfl (fun w' H=>x_bld (ps:=[(0,ao),(1,ae)]) (zs:=[.slice none 0 0,.slice none 0 0]) (L':=[ao,ae]) rfl Tryz.underlying237 Al237.h rfl (Bd237 Tryz.underlying237) (.cons (cs:=[ao]) aN rfl rfl rfl rfl<|.cons (cs:=[ae]) aD rfl rfl rfl rfl<|.nil)) ?_;refine kA 1 ?_;intro aa bE H;refine kN ?_;refine kS 1 ?_;intro bF H;refine kN ?_;refine t_nil ?_;exact ⟨aa,ao,ae,_,jQ,hM,(H.pk [0,2,1,3,4])⟩
   refine kal ?_;intro aa bG H;refine kN ?_;refine t_l rfl ?_;refine t_mk (α:=Int) T36.h (0:Int) rfl (n:=d_reaches) H rfl rfl (by omega) (by omega) (by omega) ?_;intro aq bH H;replace H:=H.nf;have aO:=Sl.cells (H.os 0);refine kN ?_;refine t_q rfl (fun w' H=>x_bld (ps:=[(0,aq),(1,ae)]) (zs:=[.slice none 0 0,.slice none 0 0]) (L':=[aq,ae]) rfl Tryz.underlying237 Al237.h rfl (Bd237 Tryz.underlying237) (.cons (cs:=[aq]) aO rfl rfl rfl rfl<|.cons (cs:=[ae]) aD rfl rfl rfl rfl<|.nil)) ?_;refine kS 1 ?_;intro bI H;refine kN ?_;refine t_nil ?_;exact ⟨aa,aq,ae,_,jQ,hM,(H.pk [1,2,0,3,4])⟩
  refine kal ?_;intro aa bJ H;refine kN ?_;refine t_l2 rfl rfl ?_ ?_
  ·refine t_mk (α:=Int) T36.h (0:Int) rfl (n:=d_reaches) H rfl rfl (by omega) (by omega) (by omega) ?_;intro au bK H;replace H:=H.nf;have aP:=Sl.cells (H.os 0);refine kN ?_;refine t_l rfl ?_;refine t_mk (α:=Int) T36.h (0:Int) rfl (n:=d_ways_outside) H rfl rfl (by omega) (by omega) (by omega) ?_;intro av bL H;replace H:=H.nf;have aQ:=Sl.cells (H.os 0);refine kN ?_;refine t_q rfl (fun w' H=>x_bld (ps:=[(0,au),(1,av)]) (zs:=[.slice none 0 0,.slice none 0 0]) (L':=[au,av]) rfl Tryz.underlying237 Al237.h rfl (Bd237 Tryz.underlying237) (.cons (cs:=[au]) aP rfl rfl rfl rfl<|.cons (cs:=[av]) aQ rfl rfl rfl rfl<|.nil)) ?_;refine kS 1 ?_;intro bM H;refine kN ?_;refine t_nil ?_;exact ⟨aa,au,av,_,jQ,hM,(H.pk [2,0,1,3,4])⟩
  refine t_mk (α:=Int) T36.h (0:Int) rfl (n:=d_ways_outside) H rfl rfl (by omega) (by omega) (by omega) ?_;intro aw bN H;replace H:=H.nf;have aR:=Sl.cells (H.os 0);refine kN ?_;refine t_l rfl ?_;refine t_mk (α:=Int) T36.h (0:Int) rfl (n:=d_reaches) H rfl rfl (by omega) (by omega) (by omega) ?_;intro ax bO H;replace H:=H.nf;have aS:=Sl.cells (H.os 0);refine kN ?_;refine t_q rfl (fun w' H=>x_bld (ps:=[(0,ax),(1,aw)]) (zs:=[.slice none 0 0,.slice none 0 0]) (L':=[ax,aw]) rfl Tryz.underlying237 Al237.h rfl (Bd237 Tryz.underlying237) (.cons (cs:=[ax]) aS rfl rfl rfl rfl<|.cons (cs:=[aw]) aR rfl rfl rfl rfl<|.nil)) ?_;refine kS 1 ?_;intro bP H;refine kN ?_;refine t_nil ?_;exact ⟨aa,ax,aw,_,jQ,hM,(H.pk [2,1,0,3,4])⟩
 rintro _ bQ ⟨aa,ah,ai,ρ,rfl,hM,H⟩;unfold m_balance_desk_truth_j1 at hM;refine kg 5 ?_;refine t_copyI (k:=2) (l:=List.replicate (Int.toNat d_reaches) (0:Int)) (s:=l) (L':=[cBlk aa [ah,ai] 237,cOwn (α:=Int) 3 ai (List.replicate (Int.toNat d_ways_outside) (0:Int)),cOwn (α:=Int) 3 ah (l.take (List.replicate (Int.toNat d_reaches) (0:Int)).length++(List.replicate (Int.toNat d_reaches) (0:Int)).drop l.length),cOwn (α:=Int) 3 ab l,cBlk aj [.slice none 0 0,.slice none 0 0] 237]) H rfl T36.h.und T36.h.size rfl rfl (H.os 3) (H.ol 3) rfl ?_;intro bR bS H;refine kD 2 [0,2,3,4] [8] ?_;intro bT H;obtain ⟨bU,hM⟩:=M.e_gq hM;refine kg 7 ?_;obtain ⟨aE,aT,az⟩:=sl_lo T36.h.und T36.h.size (H.os 3) (i:=d_reaches) (by omega) (by omega);replace az:Sl _ aE (l.drop (Int.toNat d_reaches)):=az;refine d_q rfl (fun w' H=>x_sl (v:=ab) (u:=aE) (lo':=some (I d_reaches)) (hi':=none) (mx':=none) rfl rfl rfl rfl (aT _))<|d_l rfl ?_;refine t_copyI (k:=1) (l:=List.replicate (Int.toNat d_ways_outside) (0:Int)) (s:=l.drop (Int.toNat d_reaches)) (L':=[cBlk aa [ah,ai] 237,cOwn (α:=Int) 3 ai ((l.drop (Int.toNat d_reaches)).take (List.replicate (Int.toNat d_ways_outside) (0:Int)).length++(List.replicate (Int.toNat d_ways_outside) (0:Int)).drop (l.drop (Int.toNat d_reaches)).length),cOwn (α:=Int) 3 ah (l.take (List.replicate (Int.toNat d_reaches) (0:Int)).length++(List.replicate (Int.toNat d_reaches) (0:Int)).drop l.length),cOwn (α:=Int) 3 ab l,cBlk aj [.slice none 0 0,.slice none 0 0] 237]) H rfl T36.h.und T36.h.size rfl rfl az (H.ol 3) rfl ?_;intro bV bW H;refine kN ?_;refine kS 4 ?_;intro bX H;refine s_nil ?_;replace H:=H.pk [1,2,4]
 exact kR 0 [1,0]

def m_balance_off (x:Int) (s:Span):M Int :=
  M.gi (s.lo-x) <|
  M.gi (x-s.hi) <|
  M.pure (max (max 0 (s.lo-x)) (x-s.hi))
theorem balance_off_ok {R}(x s){r}(hM:(m_balance_off x s).Ends r)(w)(H:St w w [] R):Ret Tryz.prog 191 #[I x,.agg #[I s.lo,I s.hi]] w fun v w'=>∃ y0,y0=r/\v=I y0/\St w w' [] R:=by
 refine ret_of_W Tryz.func191 rfl rfl rfl ?_;refine kB 2 ?_;intro aa ab H;obtain ⟨ac,hM⟩:=M.e_gq hM;obtain ⟨ae,hM⟩:=M.e_gq hM;refine kg 12 ?_;refine s_val (x_max3 (a:=0) (b:=s.lo-x) (c:=x-s.hi) rfl rfl rfl) ?_;refine kg 2 ?_;exact rt

def m_balance_sum_b0 (l:List Int):(Int × Nat)->M ((Int × Nat) ⊕ Int):=fun (n,s) =>
  bif decide ((s:Int)<(l.length:Int)) then (
  M.grd (decide ((s:Int)<(l.length:Int))) <|
  M.gi (n+(l.getD s 0)) <|
  M.pure (.inl (n+(l.getD s 0),s+1)))
  else (
  M.pure (.inr n))
def m_balance_sum (l:List Int):M Int :=
  M.bind (M.iter (m_balance_sum_b0 l) (0,0)) fun n2 =>
  M.pure n2
theorem balance_sum_ok {R ab aa}(l)(am:Reads R ab)(ae:Sl ab aa l){r}(hM:(m_balance_sum l).Ends r)(w)(H:St w w [] R):Ret Tryz.prog 192 #[aa] w fun v w'=>∃ y0,y0=r/\v=I y0/\St w w' [] R:=by
 refine ret_of_W Tryz.func192 rfl rfl rfl ?_;have ao:=(ae).len_le;refine kg 16 ?_;obtain ⟨ah,ac,ai⟩:=M.e_bind hM;obtain ⟨aq,ac⟩:=M.e_iter ac;refine W.loop (fun m σ W=>∃ (n:Int) (s:Nat) (ρ:Env),σ=upds ρ [(3,I n),(6,aa),(7,I (l.length:Int)),(8,I (s:Int))]/\M.iterN (m_balance_sum_b0 l) m (n,s)=some ah/\St w W [] R) ?_ ?_
 ·exact kY
 rintro au σ av ⟨n,s,ρ,rfl,aj,H⟩;obtain ⟨aw,ax,ay,hM,ak⟩:=M.e_iterN aj;refine kI 5 ?_ ?_
 ·intro al hM;obtain ⟨az,hM⟩:=M.e_gq hM;obtain ⟨aA,hM⟩:=M.e_gq hM;exact kX 19
 intro al hM;refine W.exit ?_;obtain rfl:=M.e_inr hM ak;replace hM:=ai;refine kg 5 ?_;exact rt

def m_balance_cost_b0 (n_Reaches:List BRch) (t_Flows:List Int):(Nat × (List Int))->M ((Nat × (List Int)) ⊕ ((List Int) × (List Int))):=fun (s,l) =>
  bif decide ((s:Int)<(n_Reaches.length:Int)) then (
  M.grd (decide ((s:Int)<(n_Reaches.length:Int))) <|
  M.grd (decide ((s:Int)<(t_Flows.length:Int))) <|
  M.bind (m_balance_off (t_Flows.getD s 0) (⟨((n_Reaches.getD s default).lo:Int),((n_Reaches.getD s default).hi:Int)⟩:Span)) fun r2 =>
  M.grd (decide ((l.length+([(r2:Int)]).length)*8<=140737488355328)) <|
  M.pure (.inl (s+1,l++([(r2:Int)]))))
  else (
  M.pure (.inr (l,l)))
def m_balance_cost_b1 (n_Gains:List Span) (t_Gains:List Int):((List Int) × Nat)->M (((List Int) × Nat) ⊕ ((List Int) × (List Int))):=fun (l4,s2) =>
  bif decide ((s2:Int)<(n_Gains.length:Int)) then (
  M.grd (decide ((s2:Int)<(n_Gains.length:Int))) <|
  M.grd (decide ((s2:Int)<(t_Gains.length:Int))) <|
  M.bind (m_balance_off (t_Gains.getD s2 0) (n_Gains.getD s2 default)) fun r3 =>
  M.grd (decide ((l4.length+([(r3:Int)]).length)*8<=140737488355328)) <|
  M.pure (.inl (l4++([(r3:Int)]),s2+1)))
  else (
  M.pure (.inr (l4,l4)))
def m_balance_cost (n_Gains:List Span) (n_Reaches:List BRch) (t_Flows t_Gains:List Int):M Int :=
  M.bind (M.iter (m_balance_cost_b0 n_Reaches t_Flows) (0,[])) fun (l2,l3) =>
  M.bind (M.iter (m_balance_cost_b1 n_Gains t_Gains) (l3,0)) fun (l5,l6) =>
  M.bind (m_balance_sum l6) fun r4 =>
  M.pure r4
theorem balance_cost_ok {R al aa am ab ao ac aq ae}(n_Gains n_Reaches t_Flows t_Gains)(aJ:Reads R al)(aw:Sl al aa n_Gains)(aK:Reads R am)(ax:Sl am ab n_Reaches)(aL:Reads R ao)(aM:Sl ao ac t_Flows)(aN:Reads R aq)(aO:Sl aq ae t_Gains){r}(hM:(m_balance_cost n_Gains n_Reaches t_Flows t_Gains).Ends r)(w)(H:St w w [] R):Ret Tryz.prog 151 #[.agg #[aa,ab],.agg #[ac,ae]] w fun v w'=>∃ y0,y0=r/\v=I y0/\St w w' [] R:=by
 refine ret_of_W Tryz.func151 rfl rfl rfl ?_;refine kB 2 ?_;intro ai aP H;refine kbx ?_;intro ah aQ H;have aR:=(ax).len_le;refine kg 15 ?_;replace H:=H.nilOwn (α:=Int) 3;obtain ⟨ay,au,az⟩:=M.e_bind hM;obtain ⟨aA,au⟩:=M.e_iter au;refine W.loop (fun m σ W=>∃ (s:Nat) (l:List Int) (aj:Value) (ρ:Env),σ=upds ρ [(2,Pq ai),(3,Pq ah),(5,aj),(11,ab),(12,I (n_Reaches.length:Int)),(13,I (s:Int))]/\M.iterN (m_balance_cost_b0 n_Reaches t_Flows) m (s,l)=some ay/\St w W [cOwn (α:=Int) 3 aj l,cBlk ah [ac,ae] 237,cBlk ai [aa,ab] 79] R) ?_ ?_
 ·exact kY
 rintro aS σ aT ⟨s,l,aj,ρ,rfl,aB,H⟩;obtain ⟨aU,aV,aW,hM,aC⟩:=M.e_iterN aB;refine kI 5 ?_ ?_
 ·intro aD hM;obtain ⟨aX,hM⟩:=M.e_gq hM;refine kA 8 ?_;intro aY aZ H;refine kS 1 ?_;intro a7 H;refine kD 1 [0,2,3] [8,9,10] ?_;intro a8 H;obtain ⟨ba,hM⟩:=M.e_gq hM;refine kC 9 @balance_off_ok ?_;intro bb r2 hM H;refine kN ?_;refine kL 1 (α:=Int) [r2] ?_;intro bc bf H;refine kN ?_;refine d_l rfl ?_;obtain ⟨bg,hM⟩:=M.e_gq hM;refine kP 0 ?_;intro bh bi H;refine kN ?_;refine kg 2 ?_;replace H:=H.pk [2,3,4];exact kX 4
 intro aD hM;refine W.exit ?_;obtain rfl:=M.e_inr hM aC;replace hM:=az;have bj:=(aw).len_le;refine kg 9 ?_;obtain ⟨aE,av,aF⟩:=M.e_bind hM;obtain ⟨aA,av⟩:=M.e_iter av;refine W.loop (fun m σ W=>∃ (l4:List Int) (s2:Nat) (ak:Value) (ρ:Env),σ=upds ρ [(3,Pq ah),(5,ak),(31,aa),(32,I (n_Gains.length:Int)),(33,I (s2:Int))]/\M.iterN (m_balance_cost_b1 n_Gains t_Gains) m (l4,s2)=some aE/\St w W [cOwn (α:=Int) 3 ak l4,cBlk ah [ac,ae] 237,cBlk ai [aa,ab] 79] R) ?_ ?_
 ·exact kY
 rintro bm σ bn ⟨l4,s2,ak,ρ,rfl,aG,H⟩;obtain ⟨bo,bp,br,hM,aH⟩:=M.e_iterN aG;refine kI 5 ?_ ?_
 ·intro aI hM;obtain ⟨bt,hM⟩:=M.e_gq hM;refine kA 8 ?_;intro bu bv H;refine kS 1 ?_;intro bw H;refine kD 1 [0,2,3] [7,8,9] ?_;intro bx H;obtain ⟨bz,hM⟩:=M.e_gq hM;refine kC 8 @balance_off_ok ?_;intro bA r3 hM H;refine kN ?_;refine kL 1 (α:=Int) [r3] ?_;intro bB bC H;refine kN ?_;refine d_l rfl ?_;obtain ⟨bD,hM⟩:=M.e_gq hM;refine kP 0 ?_;intro bE bF H;refine kN ?_;refine kg 2 ?_;replace H:=H.pk [2,3,4];exact kX 4
 intro aI hM;refine W.exit ?_;obtain rfl:=M.e_inr hM aH;replace hM:=aF;replace H:=H.pk [0];refine kC 3 @balance_sum_ok ?_;intro bG r4 hM H;refine kg 2 ?_;exact rt

def m_balance_settled (n_Gains:List Span) (n_Reaches:List BRch):M ((List BWay) × Int × Int × Int × Int) :=
  M.bind (m_balance_Check n_Gains n_Reaches) fun r2 =>
  bif r2 != 0 then (
  M.fail)
  else (
  M.bind (m_balance_begun n_Gains n_Reaches) fun (r0,r1,aa) =>
  M.bind (m_balance_desk_settle r0 r1 aa) fun l_d_ways_all =>
  M.bind (m_balance_desk_truth l_d_ways_all r1 aa) fun (ab,ac) =>
  M.bind (m_balance_cost n_Gains n_Reaches ab ac) fun r3 =>
  M.pure (l_d_ways_all,r1,aa,r3,0))
theorem balance_settled_ok {R aa ab ac ae}(n_Gains n_Reaches)(ao:Reads R aa)(aq:Sl aa ab n_Gains)(au:Reads R ac)(av:Sl ac ae n_Reaches){r}(hM:(m_balance_settled n_Gains n_Reaches).Ends r)(w)(H:St w w [] R):Ret Tryz.prog 106 #[.agg #[ab,ae]] w fun v w'=>∃ y0 y1 y2 y3 y4 ah u1,(y0,y1,y2,y3,y4)=r/\v = .tuple #[Pq ah,I y3,I y4]/\St w w' [cBlk ah [u1,I y1,I y2] 150,cOwn (α:=BWay) 153 u1 y0] R:=by
 refine ret_of_W Tryz.func106 rfl rfl rfl ?_;refine kB 2 ?_;intro aw ax H;refine kC 8 @balance_Check_ok ?_;intro ay r2 hM H;refine kI 7 ?_ ?_
 ·intro ai hM;exact (M.e_fail hM).elim
 intro ai hM;refine kC 4 @balance_begun_ok ?_;intro az r0 r1 aj ak aA hM H;refine kg 5 ?_;obtain ⟨aB,al,hM⟩:=M.e_bind hM;refine s_call cq [Pq ak] rfl (balance_desk_settle_ok r0 r1 aj al _ ((H.pk [1,0,2]).gt 1)) ?_;rintro _ aC ⟨l_d_ways_all,aD,rfl,rfl,am⟩;replace H:=H.pk [1,0,2] |>.bk am
 refine kD 2 [0,1,2] [3,4] ?_;intro aE H;refine kC 4 @balance_desk_truth_ok ?_;intro aF aG aH aI aJ hM H;refine kN ?_;refine kC 1 @balance_cost_ok ?_;intro aK r3 hM H;refine kN ?_;refine kg 4 ?_;replace H:=H.pk [2,3];exact kR 0 [1,0]

def m_balance_fitting (n_Gains:List Span) (n_Reaches:List BRch):M ((List BWay) × Int × Int × Int) :=
  M.bind (m_balance_settled n_Gains n_Reaches) fun (aa,ab,ac,r1,r2) =>
  bif ((r2==0)&&(decide (0<r1))) then (
  M.fail)
  else (
  M.pure (aa,ab,ac,r2))
theorem balance_fitting_ok {R aa ab ac ae}(n_Gains n_Reaches)(aj:Reads R aa)(ak:Sl aa ab n_Gains)(al:Reads R ac)(am:Sl ac ae n_Reaches){r}(hM:(m_balance_fitting n_Gains n_Reaches).Ends r)(w)(H:St w w [] R):Ret Tryz.prog 58 #[.agg #[ab,ae]] w fun v w'=>∃ y0 y1 y2 y3 ah u1,(y0,y1,y2,y3)=r/\v = .tuple #[Pq ah,I y3]/\St w w' [cBlk ah [u1,I y1,I y2] 150,cOwn (α:=BWay) 153 u1 y0] R:=by
 refine ret_of_W Tryz.func58 rfl rfl rfl ?_;refine kB 2 ?_;intro ao aq H;refine kC 6 @balance_settled_ok ?_;intro au av aw ax r1 r2 ay az hM H;refine kI 18 ?_ ?_
 ·intro ai hM;exact (M.e_fail hM).elim
 intro ai hM;exact kR 8 [0,1]

def zee (s:List BWay):M (List BWay) :=
  M.grd (decide (0<s.length)) <|
  M.grd (decide ((([]:List BWay).length+s.length)*40<=140737488355328)) <|
  M.pure s
theorem zfp {R aa ab}(s)(ah:Reads R aa)(ae:Sl aa ab s){r}(hM:(zee s).Ends r)(w)(H:St w w [] R):Ret Tryz.prog 107 #[ab] w fun v w'=>∃ y0 u0,y0=r/\v=u0/\St w w' [cOwn (α:=BWay) 153 u0 y0] R:=by
 refine ret_of_W Tryz.func107 rfl rfl rfl ?_;obtain ⟨ai,hM⟩:=M.e_gq hM;refine kg 8 ?_;refine s_val (x_eqnilp (α:=BWay) T146.h.und rfl rfl ae (by omega))<|s_nil ?_
 refine W.cond false rfl (fun ac=>?_) (fun ac=>?_)
 ·exact absurd ac (by decide)
 refine kg 3 ?_;refine t_bs0 (α:=BWay) T146.h H ?_;intro aj ak H;obtain ⟨al,hM⟩:=M.e_gq hM;refine kP 1 ?_;intro am ao H;refine kg 2 ?_;exact rt

def m_balance_desk_copied (d_ways_all:List BWay) (d_ways_outside d_reaches:Int):M ((List BWay) × Int × Int) :=
  M.bind (zee d_ways_all) fun r2 =>
  M.pure (r2,d_ways_outside,d_reaches)
theorem balance_desk_copied_ok {R ab ac ae}(d_ways_all d_ways_outside d_reaches)(aj:Reads R ac)(ak:Sl ac ae d_ways_all)(al:Has R (cBlk ab [ae,I d_ways_outside,I d_reaches] 150)){r}(hM:(m_balance_desk_copied d_ways_all d_ways_outside d_reaches).Ends r)(w)(H:St w w [] R):Ret Tryz.prog 59 #[Pq ab] w fun v w'=>∃ y0 y1 y2 ah u1,(y0,y1,y2)=r/\v=Pq ah/\St w w' [cBlk ah [u1,I y1,I y2] 150,cOwn (α:=BWay) 153 u1 y0] R:=by
 refine ret_of_W Tryz.func59 rfl rfl rfl ?_;refine kDo 5 [] [(0,true),(1,true),(2,true),(3,true),(4,true),(6,true),(7,true),(8,true),(9,true),(10,true),(12,true),(13,true),(14,true),(15,true),(5,false),(11,true),(16,true),(17,false),(18,true)] ?_;intro am H;refine kC 15 @zfp ?_;intro ao r2 aa hM H;have ai:=Sl.cells (H.os 0);refine kN ?_;refine d_q rfl (fun w' H=>x_bld (ps:=[(0,aa),(1,I d_ways_outside)]) (zs:=[.slice none 0 0,I 0]) (L':=[aa,I d_ways_outside]) rfl Tryz.underlying148 Al148.h rfl (Bd148 Tryz.underlying148) (.cons (cs:=[aa]) ai rfl rfl rfl rfl<|.cons (cs:=[I d_ways_outside]) rfl rfl rfl rfl rfl<|.nil)) ?_;refine kB 2 ?_;intro aq au H;refine kN ?_;refine kg 2 ?_;exact rt

def m_balance_desk_shift_1 (s:BStep) (ab:List BWay) (ac ae aa:Int):M Bool :=
  M.bind (m_balance_desk_room ab ac ae s) fun (r0,r1) =>
  M.pure (((r0==0)&&(!(decide (s=(⟨(aa:Int),true⟩:BStep)))))&&(!(decide (s=(⟨(aa:Int),false⟩:BStep)))))
theorem balance_desk_shift_1_ok {R ab ac ae ah ai}(s aj ak al aa)(am:Reads R ae)(ao:Sl ae ah aj)(aq:Has R (cBlk ac [ah,I ak,I al] 150))(au:Has R (cBlk ab [Pq ac] 142))(av:Has R (cBlk ai [I aa] 3)){r}(hM:(m_balance_desk_shift_1 s aj ak al aa).Ends r)(w)(H:St w w [] R):Ret Tryz.prog 153 #[.agg #[I s.way,B s.back],Pq ab,Pq ai] w fun v w'=>∃ y0,y0=r/\v=B y0/\St w w' [] R:=by
 refine ret_of_W Tryz.func153 rfl rfl rfl ?_;refine kB 2 ?_;intro aw ax H;refine kC 6 @balance_desk_room_ok ?_;intro ay r0 r1 hM H;refine kg 13 ?_;refine g_val (r0==0) (gy_t rfl) (fun hg=>x_bld (ps:=[(0,I aa),(1,B true)]) (zs:=[I 0,B false]) (L':=[I aa,B true]) (by exact prs2 (gd_of hg (I aa)) rfl) Tryz.underlying240 Al240.h rfl (Bd240 Tryz.underlying240) (.cons (cs:=[I aa]) rfl rfl rfl rfl rfl<|.cons (cs:=[B true]) rfl rfl rfl rfl rfl<|.nil))<|g_val (r0==0) (gy_t rfl) (fun hg=>x_neS (eqT240 s (⟨(aa:Int),true⟩:BStep) _) gdT240 (gd_of hg (.agg #[I s.way,B s.back])) (gd_of hg (.agg #[I aa,B true]))) ?_;refine kg 4 ?_;refine g_val ((r0==0)&&(!(decide (s=(⟨(aa:Int),true⟩:BStep))))) (gy_t rfl) (fun hg=>x_bld (ps:=[(0,I aa),(1,B false)]) (zs:=[I 0,B false]) (L':=[I aa,B false]) (by exact prs2 (gd_of hg (I aa)) rfl) Tryz.underlying240 Al240.h rfl (Bd240 Tryz.underlying240) (.cons (cs:=[I aa]) rfl rfl rfl rfl rfl<|.cons (cs:=[B false]) rfl rfl rfl rfl rfl<|.nil))<|g_val ((r0==0)&&(!(decide (s=(⟨(aa:Int),true⟩:BStep))))) (gy_t rfl) (fun hg=>x_neS (eqT240 s (⟨(aa:Int),false⟩:BStep) _) gdT240 (gd_of hg (.agg #[I s.way,B s.back])) (gd_of hg (.agg #[I aa,B false]))) ?_;refine kg 3 ?_
 exact rt

end Go.Proofs.YtbgoclcmgbpckaaGreat
end
section
set_option maxRecDepth 100000
set_option maxHeartbeats 16000000
namespace Go.Proofs.YtbgoclcmgbpckaaGreat
open Go Go.Nm
attribute [local irreducible] gd execOp SL SLD SLT WR
def m_balance_desk_reach_153_b4 (d_ways_all:List BWay) (d_ways_outside d_reaches:Int) (ab:List BWay) (ac ae ah:Int) (s2:Nat) (aa:List (Int × BFar)):((List (Int × BFar)) × Bool)->BStep->M (((List (Int × BFar)) × Bool) ⊕ Unit):=fun (mp,s5) x =>
  M.bind (m_balance_desk_shift_1 x ab ac ae ah) fun r2 =>
  bif !r2 then (
  M.pure (.inl (mp,s5)))
  else (
  M.bind (m_balance_desk_room d_ways_all d_ways_outside d_reaches x) fun (r0,r1) =>
  M.gi ((((lookM aa (s2:Int)).getD default).cost)+r0) <|
  M.gi ((((lookM aa (s2:Int)).getD default).many)+1) <|
  M.bind (m_balance_desk_to d_ways_all d_ways_outside d_reaches x) fun r3 =>
  bif (((!((lookM mp (r3:Int)).isSome))||(decide (((((lookM aa (s2:Int)).getD default).cost)+r0)<(((lookM mp (r3:Int)).getD default).cost))))||((((((lookM aa (s2:Int)).getD default).cost)+r0)==(((lookM mp (r3:Int)).getD default).cost))&&(decide (((((lookM aa (s2:Int)).getD default).many)+1)<(((lookM mp (r3:Int)).getD default).many))))) then (
  M.bind (m_balance_desk_to d_ways_all d_ways_outside d_reaches x) fun r4 =>
  M.pure (.inl (setM mp (r4:Int) (⟨((((lookM aa (s2:Int)).getD default).cost)+r0:Int),((((lookM aa (s2:Int)).getD default).many)+1:Int),(x.way:Int),x.back⟩:BFar),true)))
  else (
  M.pure (.inl (mp,s5))))
def m_balance_desk_reach_153_b5 (d_ways_all:List BWay) (d_ways_outside d_reaches:Int) (ab:List BWay) (ac ae ah:Int):(Nat × (List (Int × BFar)) × Bool)->M ((Nat × (List (Int × BFar)) × Bool) ⊕ ((List (Int × BFar)) × Bool)):=fun (s2,aa,s6) =>
  bif decide ((s2:Int)<(d_ways_outside+2)) then (
  bif !((lookM aa (s2:Int)).isSome) then (
  M.gi ((s2:Int)+1) <|
  M.pure (.inl (s2+1,aa,s6)))
  else (
  M.bind (m_balance_desk_steps d_ways_all d_ways_outside d_reaches (s2:Int)) fun ai =>
  M.bind (m_balance_desk_steps_1 (M.yl (m_balance_desk_reach_153_b4 d_ways_all d_ways_outside d_reaches ab ac ae ah s2 aa)) (.inl (aa,s6)) d_ways_all d_ways_outside d_reaches ai) fun x_=>match x_ with
  | .inl (mp,s5)=>(
  M.gi ((s2:Int)+1) <|
  M.pure (.inl (s2+1,mp,s5)))
  | .inr _=>M.fail))
  else (
  M.pure (.inr (aa,s6)))
def m_balance_desk_reach_153_b6 (d_ways_all:List BWay) (d_ways_outside d_reaches:Int) (ab:List BWay) (ac ae ah:Int):((List (Int × BFar)) × Bool)->M (((List (Int × BFar)) × Bool) ⊕ (List (Int × BFar))):=fun (aa,s8) =>
  bif s8 then (
  M.gi (d_ways_outside+2) <|
  M.bind (M.iter (m_balance_desk_reach_153_b5 d_ways_all d_ways_outside d_reaches ab ac ae ah) (0,aa,false)) fun (ai,s7) =>
  M.pure (.inl (ai,s7)))
  else (
  M.pure (.inr aa))
def m_balance_desk_reach_153 (d_ways_all:List BWay) (d_ways_outside d_reaches aa:Int) (ab:List BWay) (ac ae ah:Int):M (List (Int × BFar)) :=
  M.bind (M.iter (m_balance_desk_reach_153_b6 d_ways_all d_ways_outside d_reaches ab ac ae ah) (setM ([]:List (Int × BFar)) (aa:Int) (⟨(0:Int),(0:Int),(0:Int),false⟩:BFar),true)) fun ai =>
  M.pure ai
theorem balance_desk_reach_153_ok {R ab aW aX ah aY aZ a7 ai}(d_ways_all d_ways_outside d_reaches aF ao aq au av)(aG:Reads R aW)(aL:Sl aW aX d_ways_all)(aH:Has R (cBlk ab [aX,I d_ways_outside,I d_reaches] 150))(aM:Reads R aZ)(a8:Sl aZ a7 ao)(aN:Has R (cBlk aY [a7,I aq,I au] 150))(aO:Has R (cBlk ah [Pq aY] 142))(aP:Has R (cBlk ai [I av] 3)){r}(hM:(m_balance_desk_reach_153 d_ways_all d_ways_outside d_reaches aF ao aq au av).Ends r)(w)(H:St w w [] R):Ret Tryz.prog 156 #[Pq ab,I aF,.agg #[.func (.func 153) #[] #[Pq ah,Pq ai]]] w fun v w'=>∃ y0 ba,y0=r/\v = .map (some ba)/\St w w' [cMl I encFar ba y0] R:=by
 refine ret_of_WD Tryz.func156 rfl rfl rfl ?_;replace H:St w w [cMk ([])] R:=H.mk0;have bH:=aL.len_le;have bI:=a8.len_le;unfold m_balance_desk_reach_153 at hM;refine WD.seq<|WD.of ?_;refine kB 1 ?_;intro aj bJ H;refine kbx ?_;intro ak bK H;refine kg 2 ?_;refine WD.seq<|WD.of<|W.region rfl ?_;refine t_mkMl (κ:=Int) (ν:=BFar) I encFar H ?_;intro ac bL H;refine kG 2 ?_;refine t_insMl (i:=0) (kenc:=I) (venc:=encFar) (m:=([]:List (Int × BFar))) (k:=(aF:Int)) (v:=(⟨(0:Int),(0:Int),(0:Int),false⟩:BFar)) (L':=[cMl I encFar ac (setM ([]:List (Int × BFar)) (aF:Int) (⟨(0:Int),(0:Int),(0:Int),false⟩:BFar)),cBlk ak [.func (.func 153) #[] #[Pq ah,Pq ai]] 245,cBlk aj [Pq ab] 142,cMk ([])]) keyIntFar Tryz.underlying247 H rfl rfl rfl rfl rfl ?_;intro bM H;refine kA 1 ?_;intro al bN H;refine ksw ?_;intro bO H;refine s_nil<|WD.seq<|WD.of ?_;refine kg 2 ?_;refine s_val (x_mf (fs:=[Pq ab]) (cs:=[]) rfl rfl) ?_;refine kal ?_;intro am bP H;refine ksw ?_;intro bQ H;refine s_nil<|WD.seq<|WD.seq<|WD.of ?_;refine kA 1 ?_;intro bR bS H;refine ksw ?_;intro bT H;refine s_nil<|WD.block ?_;obtain ⟨bi,bb,bj⟩:=M.e_bind hM
 obtain ⟨bm,bb⟩:=M.e_iter bb;refine WD.loop (fun m bc σ W=>∃ (ae:Nat) (aI:List (Int × BFar)) (s8:Bool) (ρ:Env),σ=upds ρ [(3,Pq aj),(5,Pq ak),(7,Pq al),(8,Pq am),(9,Pq ae)]/\M.iterN (m_balance_desk_reach_153_b6 d_ways_all d_ways_outside d_reaches ao aq au av) m (aI,s8)=some bi/\St w W [cBlk ae [B s8] 4,cBlk am [.func (.func 154) #[Pq ab] #[]] 242,cBlk al [.map (some ac)] 247,cMl I encFar ac aI,cBlk ak [.func (.func 153) #[] #[Pq ah,Pq ai]] 245,cBlk aj [Pq ab] 142,cMk bc] R) ?_ ?_
 ·exact kY
 rintro bU bc σ bV ⟨ae,aI,s8,ρ,rfl,bn,H⟩;obtain ⟨bW,bX,bY,hM,bo⟩:=M.e_iterN bn;refine WD.seq<|WD.seq<|WD.of ?_;refine kg 3 ?_
 refine WD.cond s8 rfl (fun aQ=>?_) (fun aQ=>?_)
 ·replace hM:=M.e_t hM aQ;refine WD.of<|W.skip<|WD.seq<|WD.block<|WD.seq<|WD.of ?_;refine kS 1 ?_;intro bZ H;refine s_nil<|WD.seq<|WD.of ?_;obtain ⟨b4,hM⟩:=M.e_gq hM;refine kg 9 ?_;refine WD.block ?_;obtain ⟨bp,bf,br⟩:=M.e_bind hM
  obtain ⟨bm,bf⟩:=M.e_iter bf;refine WD.loop (fun m aA σ W=>∃ (s2:Nat) (aa:List (Int × BFar)) (s6:Bool) (ρ:Env),σ=upds ρ [(3,Pq aj),(5,Pq ak),(7,Pq al),(8,Pq am),(9,Pq ae),(31,I (d_ways_outside+2)),(32,I (s2:Int))]/\M.iterN (m_balance_desk_reach_153_b5 d_ways_all d_ways_outside d_reaches ao aq au av) m (s2,aa,s6)=some bp/\St w W [cBlk ae [B s6] 4,cBlk am [.func (.func 154) #[Pq ab] #[]] 242,cBlk al [.map (some ac)] 247,cMl I encFar ac aa,cBlk ak [.func (.func 153) #[] #[Pq ah,Pq ai]] 245,cBlk aj [Pq ab] 142,cMk aA] R) ?_ ?_
  ·exact kY
  rintro b5 aA σ b6 ⟨s2,aa,s6,ρ,rfl,bt,H⟩;obtain ⟨b7,b8,b9,hM,bu⟩:=M.e_iterN bt;refine WD.seq<|WD.of ?_;refine kg 3 ?_;refine WD.seq ?_
  refine WD.cond (decide ((s2:Int)<(d_ways_outside+2))) rfl (fun aB=>?_) (fun aB=>?_)
  ·replace hM:=M.e_t hM aB;replace aB:=dI aB;refine WD.of<|W.skip<|WD.seq<|WD.block<|WD.seq<|WD.of ?_;refine kg 4 ?_;refine WD.seq<|WD.of ?_;refine kg 3 ?_;refine s_val (q_look (kenc:=I) (venc:=encFar) (f:=lookM aa) (k:=(s2:Int)) (v:=.tuple #[.agg #[I (((lookM aa (s2:Int)).getD default).cost),I (((lookM aa (s2:Int)).getD default).many),I (((lookM aa (s2:Int)).getD default).way),B (((lookM aa (s2:Int)).getD default).back)],B ((lookM aa (s2:Int)).isSome)]) keyIntFar Tryz.underlying247 Al250.h rfl rfl (mlMap (H.get (k:=3) rfl)) true (by rw [if_pos rfl,far_val])) ?_;refine kA 3 ?_;intro aC cb H;refine ksw ?_;intro cc H;refine kg 2 ?_;refine WD.seq<|WD.seq<|WD.of ?_;refine kg 4 ?_
   refine WD.cond (!((lookM aa (s2:Int)).isSome)) rfl (fun aR=>?_) (fun aR=>?_)
   ·replace hM:=M.e_t hM aR;refine WD.of ?_;refine W.exit<|WD.of ?_;obtain ⟨cd,hM⟩:=M.e_gq hM
    exact kXp 4 [1,2,3,4,5,6,7]
   replace hM:=M.e_f hM aR;refine WD.of<|W.skip<|WD.seq<|WD.of ?_;refine kC 3 @balance_desk_steps_ok ?_;intro ce aw ax ay hM H;refine s_nil<|WD.block ?_;obtain ⟨cf,bv,hM⟩:=M.e_bind hM;refine WD.range (L:=[cBlk ae [B s6] 4,cMl I encFar ac aa,cBlk ax [Pq ab] 142,cBlk ay [I aw] 3,cBlk aC [I (((lookM aa (s2:Int)).getD default).cost),I (((lookM aa (s2:Int)).getD default).many),I (((lookM aa (s2:Int)).getD default).way),B (((lookM aa (s2:Int)).getD default).back)] 250,cBlk am [.func (.func 154) #[Pq ab] #[]] 242,cBlk al [.map (some ac)] 247,cBlk ak [.func (.func 153) #[] #[Pq ah,Pq ai]] 245,cBlk aj [Pq ab] 142]) [Pq ax,Pq ay] (H.pk [9,3,6,0,1,2,4,5,7,8]) rfl cq ?_;intro aJ aE aS bw aT H
   have hYC:YieldC Tryz.prog ([cMk (aE :: aA),cBlk ax [Pq ab] 142,cBlk ay [I aw] 3,cBlk aC [I (((lookM aa (s2:Int)).getD default).cost),I (((lookM aa (s2:Int)).getD default).many),I (((lookM aa (s2:Int)).getD default).way),B (((lookM aa (s2:Int)).getD default).back)] 250,cBlk am [.func (.func 154) #[Pq ab] #[]] 242,cBlk al [.map (some ac)] 247,cBlk ak [.func (.func 153) #[] #[Pq ah,Pq ai]] 245,cBlk aj [Pq ab] 142]++R) arBStep (yJ aJ aS (fun (mp,s5) aK=>aK=[cBlk ae [B s5] 4,cMl I encFar ac mp]) (fun (_:Unit) _=>False) (fun _=>.ret)) (.func (.yield aJ) #[] #[]) (M.yl (m_balance_desk_reach_153_b4 d_ways_all d_ways_outside d_reaches ao aq au av s2 aa)):=by
    refine YieldC.mk2 aT (fun (mp,s5) aK=>aK=[cBlk ae [B s5] 4,cMl I encFar ac mp]) (fun (_:Unit) _=>False) (fun _=>.ret) (m_balance_desk_reach_153_b4 d_ways_all d_ways_outside d_reaches ao aq au av s2 aa) (by rintro ⟨mp,s5⟩ _ h_; obtain ⟨rfl⟩:=h_; rfl) (fun _ _ h_=>h_.elim) rfl (arBStep_len rfl) ?_;intro C_ cg x bx;obtain rfl:=bx;intro w R az aK s_ r bz hM H;obtain ⟨mp,s5⟩:=s_;obtain ⟨rfl⟩:=bz;replace H:=H.nf;refine kA 1 ?_;intro aU ch H;refine ksw ?_;intro ck H;refine s_nil ?_;refine ⟨rfl,[cBlk aU [I x.way,B x.back] 240],H.pick [0,1,2,3,4,5,6,7,8,9,10] (by decide) rfl,?_⟩;clear H az;intro w R az H;replace aG:=aG.sub az;replace aH:=aH.sub az;replace aM:=aM.sub az;replace aN:=aN.sub az;replace aO:=aO.sub az;replace aP:=aP.sub az;replace hM:(m_balance_desk_reach_153_b4 d_ways_all d_ways_outside d_reaches ao aq au av s2 aa (mp,s5) x).Ends r:=hM;simp only [m_balance_desk_reach_153_b4] at hM;replace H:=H.nf;refine kg 7 ?_;obtain ⟨cn,bA,hM⟩:=M.e_bind hM;refine s_callv (f:=153) rfl cq [.agg #[I x.way,B x.back]] rfl (balance_desk_shift_1_ok x ao aq au av (aM.app _) a8 (aN.app _) (aO.app _) (aP.app _) bA _ (H.gt 11)) ?_;rintro _ cp ⟨r2,rfl,rfl,aD⟩;replace H:=H.bk aD;refine kI 2 ?_ ?_
    ·intro bB hM;refine W.exit ?_;exact ⟨(mp,s5),[cBlk ae [B s5] 4,cMl I encFar ac mp],(M.e_pure hM).symm,rfl,H.pick [1,2,3,4,5,6,7,8,9,10] (by decide) rfl⟩
    intro bB hM;refine kg 5 ?_;obtain ⟨ct,bC,hM⟩:=M.e_bind hM;refine s_callm (f:=154) (fs:=[Pq ab]) rfl cq [.agg #[I x.way,B x.back]] rfl (balance_desk_room_ok d_ways_all d_ways_outside d_reaches x (aG.app _) aL (aH.app _) bC _ (H.gt 11)) ?_;rintro _ cu ⟨r0,r1,rfl,rfl,aD⟩;replace H:=H.bk aD;obtain ⟨cw,hM⟩:=M.e_gq hM;obtain ⟨cA,hM⟩:=M.e_gq hM;refine kA 17 ?_;intro bg cB H;refine ksw ?_;intro cC H;refine kDT 2 [0,1,2,3,4,5,6,7,8,9,10,11] (.q 0 (.q 1 (.q 2 (.l2 3 (.q 4 (.q 5 (.q 6 (.q 7 (.l 8 (.l 9 (.q 10 .nil))))))) 8 (.l 3 (.q 4 (.q 5 (.q 6 (.q 7 (.l 9 (.q 10 .nil))))))))))) ?_;intro cD H;refine kg 3 ?_;refine t_l2 rfl rfl ?_ ?_
    ·refine kC 0 @balance_desk_to_ok ?_;intro cE r3 hM H;refine kN ?_;refine t_q rfl (fun w' H=>q_look (kenc:=I) (venc:=encFar) (f:=lookM mp) (k:=(r3:Int)) (v:=.tuple #[.agg #[I (((lookM mp (r3:Int)).getD default).cost),I (((lookM mp (r3:Int)).getD default).many),I (((lookM mp (r3:Int)).getD default).way),B (((lookM mp (r3:Int)).getD default).back)],B ((lookM mp (r3:Int)).isSome)]) keyIntFar Tryz.underlying247 Al250.h rfl rfl (mlMap (H.get (k:=3) rfl)) true (by rw [if_pos rfl,far_val])) ?_;refine kA 4 ?_;intro aV cF H;refine kN ?_;refine kS 1 ?_;intro cG H;refine kN ?_;refine kI 28 ?_ ?_
     ·intro bD hM;refine kDo 0 [0,1,2,5,6,7,8,9,10,11,12] [(0,true),(1,true),(2,true),(4,true),(3,false),(5,false),(6,true),(7,false),(8,false)] ?_;intro cH H;refine kC 5 @balance_desk_to_ok ?_;intro cI r4 hM H;refine kN ?_;refine d_l rfl ?_;refine t_mentL (i:=4) (kenc:=I) (venc:=encFar) (m:=mp) (k:=(r4:Int)) (z:=default) keyIntFar Tryz.underlying247 Al250.h H rfl rfl rfl ?_;intro cJ cK H;replace H:=H.nf;refine kN ?_;refine kG 2 ?_;refine t_enstL (i:=4) (kenc:=I) (venc:=encFar) (m0:=mp) (k:=(r4:Int)) (v:=(⟨((((lookM aa (s2:Int)).getD default).cost)+r0:Int),((((lookM aa (s2:Int)).getD default).many)+1:Int),(x.way:Int),x.back⟩:BFar)) (L':=[cBlk aV [I (((lookM mp (r3:Int)).getD default).cost),I (((lookM mp (r3:Int)).getD default).many),I (((lookM mp (r3:Int)).getD default).way),B (((lookM mp (r3:Int)).getD default).back)] 250,cBlk bg [I ((((lookM aa (s2:Int)).getD default).cost)+r0),I ((((lookM aa (s2:Int)).getD default).many)+1),I x.way,B x.back] 250,cBlk aU [I x.way,B x.back] 240,cBlk ae [B s5] 4,cMl I encFar ac (setM mp (r4:Int) (⟨((((lookM aa (s2:Int)).getD default).cost)+r0:Int),((((lookM aa (s2:Int)).getD default).many)+1:Int),(x.way:Int),x.back⟩:BFar)),cMk (aE :: aA),cBlk ax [Pq ab] 142,cBlk ay [I aw] 3,cBlk aC [I (((lookM aa (s2:Int)).getD default).cost),I (((lookM aa (s2:Int)).getD default).many),I (((lookM aa (s2:Int)).getD default).way),B (((lookM aa (s2:Int)).getD default).back)] 250,cBlk am [.func (.func 154) #[Pq ab] #[]] 242,cBlk al [.map (some ac)] 247,cBlk ak [.func (.func 153) #[] #[Pq ah,Pq ai]] 245,cBlk aj [Pq ab] 142]) H rfl rfl rfl rfl rfl ?_;intro cL H;refine kN ?_;refine kS 1 ?_;intro cM H;refine kN ?_;refine d_nil ?_;exact ⟨(setM mp (r4:Int) (⟨((((lookM aa (s2:Int)).getD default).cost)+r0:Int),((((lookM aa (s2:Int)).getD default).many)+1:Int),(x.way:Int),x.back⟩:BFar),true),[cBlk ae [B true] 4,cMl I encFar ac (setM mp (r4:Int) (⟨((((lookM aa (s2:Int)).getD default).cost)+r0:Int),((((lookM aa (s2:Int)).getD default).many)+1:Int),(x.way:Int),x.back⟩:BFar))],(M.e_pure hM).symm,rfl,H.pick [3,4,5,6,7,8,9,10,11,12] (by decide) rfl⟩
     intro bD hM;refine W.skip ?_;exact ⟨(mp,s5),[cBlk ae [B s5] 4,cMl I encFar ac mp],(M.e_pure hM).symm,rfl,H.pick [3,4,5,6,7,8,9,10,11,12] (by decide) rfl⟩
    refine kal ?_;intro aV cN H;refine kN ?_;refine kC 1 @balance_desk_to_ok ?_;intro cO r3 hM H;refine kN ?_;refine t_q rfl (fun w' H=>q_look (kenc:=I) (venc:=encFar) (f:=lookM mp) (k:=(r3:Int)) (v:=.tuple #[.agg #[I (((lookM mp (r3:Int)).getD default).cost),I (((lookM mp (r3:Int)).getD default).many),I (((lookM mp (r3:Int)).getD default).way),B (((lookM mp (r3:Int)).getD default).back)],B ((lookM mp (r3:Int)).isSome)]) keyIntFar Tryz.underlying247 Al250.h rfl rfl (mlMap (H.get (k:=3) rfl)) true (by rw [if_pos rfl,far_val])) ?_;refine kS 4 ?_;intro cP H;refine kN ?_;refine kI 28 ?_ ?_
    ·intro bE hM;refine kDo 0 [0,1,2,5,6,7,8,9,10,11,12] [(0,true),(1,true),(2,true),(4,true),(3,false),(5,false),(6,true),(7,false),(8,false)] ?_;intro cQ H;refine kC 5 @balance_desk_to_ok ?_;intro cR r4 hM H;refine kN ?_;refine d_l rfl ?_;refine t_mentL (i:=4) (kenc:=I) (venc:=encFar) (m:=mp) (k:=(r4:Int)) (z:=default) keyIntFar Tryz.underlying247 Al250.h H rfl rfl rfl ?_;intro cS cT H;replace H:=H.nf;refine kN ?_;refine kG 2 ?_;refine t_enstL (i:=4) (kenc:=I) (venc:=encFar) (m0:=mp) (k:=(r4:Int)) (v:=(⟨((((lookM aa (s2:Int)).getD default).cost)+r0:Int),((((lookM aa (s2:Int)).getD default).many)+1:Int),(x.way:Int),x.back⟩:BFar)) (L':=[cBlk aV [I (((lookM mp (r3:Int)).getD default).cost),I (((lookM mp (r3:Int)).getD default).many),I (((lookM mp (r3:Int)).getD default).way),B (((lookM mp (r3:Int)).getD default).back)] 250,cBlk bg [I ((((lookM aa (s2:Int)).getD default).cost)+r0),I ((((lookM aa (s2:Int)).getD default).many)+1),I x.way,B x.back] 250,cBlk aU [I x.way,B x.back] 240,cBlk ae [B s5] 4,cMl I encFar ac (setM mp (r4:Int) (⟨((((lookM aa (s2:Int)).getD default).cost)+r0:Int),((((lookM aa (s2:Int)).getD default).many)+1:Int),(x.way:Int),x.back⟩:BFar)),cMk (aE :: aA),cBlk ax [Pq ab] 142,cBlk ay [I aw] 3,cBlk aC [I (((lookM aa (s2:Int)).getD default).cost),I (((lookM aa (s2:Int)).getD default).many),I (((lookM aa (s2:Int)).getD default).way),B (((lookM aa (s2:Int)).getD default).back)] 250,cBlk am [.func (.func 154) #[Pq ab] #[]] 242,cBlk al [.map (some ac)] 247,cBlk ak [.func (.func 153) #[] #[Pq ah,Pq ai]] 245,cBlk aj [Pq ab] 142]) H rfl rfl rfl rfl rfl ?_;intro cU H;refine kN ?_;refine kS 1 ?_;intro cV H;refine kN ?_;refine d_nil ?_;exact ⟨(setM mp (r4:Int) (⟨((((lookM aa (s2:Int)).getD default).cost)+r0:Int),((((lookM aa (s2:Int)).getD default).many)+1:Int),(x.way:Int),x.back⟩:BFar),true),[cBlk ae [B true] 4,cMl I encFar ac (setM mp (r4:Int) (⟨((((lookM aa (s2:Int)).getD default).cost)+r0:Int),((((lookM aa (s2:Int)).getD default).many)+1:Int),(x.way:Int),x.back⟩:BFar))],(M.e_pure hM).symm,rfl,H.pick [3,4,5,6,7,8,9,10,11,12] (by decide) rfl⟩
    intro bE hM;refine W.skip ?_;exact ⟨(mp,s5),[cBlk ae [B s5] 4,cMl I encFar ac mp],(M.e_pure hM).symm,rfl,H.pick [3,4,5,6,7,8,9,10,11,12] (by decide) rfl⟩
   replace H:St w bw (cAll (cObj aJ (.loop aS) :: [cBlk ae [B s6] 4,cMl I encFar ac aa]) :: [cMk (aE :: aA),cBlk ax [Pq ab] 142,cBlk ay [I aw] 3,cBlk aC [I (((lookM aa (s2:Int)).getD default).cost),I (((lookM aa (s2:Int)).getD default).many),I (((lookM aa (s2:Int)).getD default).way),B (((lookM aa (s2:Int)).getD default).back)] 250,cBlk am [.func (.func 154) #[Pq ab] #[]] 242,cBlk al [.map (some ac)] 247,cBlk ak [.func (.func 153) #[] #[Pq ah,Pq ai]] 245,cBlk aj [Pq ab] 142]) R:=St.bundleB (A:=cObj aJ (.loop aS) :: [cBlk ae [B s6] 4,cMl I encFar ac aa]) (T:=[cMk (aE :: aA),cBlk ax [Pq ab] 142,cBlk ay [I aw] 3,cBlk aC [I (((lookM aa (s2:Int)).getD default).cost),I (((lookM aa (s2:Int)).getD default).many),I (((lookM aa (s2:Int)).getD default).way),B (((lookM aa (s2:Int)).getD default).back)] 250,cBlk am [.func (.func 154) #[Pq ab] #[]] 242,cBlk al [.map (some ac)] 247,cBlk ak [.func (.func 153) #[] #[Pq ah,Pq ai]] 245,cBlk aj [Pq ab] 142]) rfl (H.pk [0,2,3,1,4,5,6,7,8,9,10]);refine (balance_desk_steps_1_ok (M.yl (m_balance_desk_reach_153_b4 d_ways_all d_ways_outside d_reaches ao aq au av s2 aa)) (.inl (aa,s6)) d_ways_all d_ways_outside d_reaches aw hYC ⟨_,rfl,rfl⟩ (aG.app _) aL (aH.app _) (Has.here (k:=1) rfl) (Has.here (k:=2) rfl) bv _ (H.gt 8)).mono ?_;rintro vq cW ⟨bF,cX,rfl,hvq,aD,bh⟩;replace H:=H.back aD rfl;clear aD hYC;rcases bF with ⟨mp,s5⟩ | _
   ·obtain ⟨_,rfl,rfl⟩:=bh;refine ⟨_,[cBlk ae [B s5] 4,cMl I encFar ac mp,cBlk ax [Pq ab] 142,cBlk ay [I aw] 3,cBlk aC [I (((lookM aa (s2:Int)).getD default).cost),I (((lookM aa (s2:Int)).getD default).many),I (((lookM aa (s2:Int)).getD default).way),B (((lookM aa (s2:Int)).getD default).back)] 250,cBlk am [.func (.func 154) #[Pq ab] #[]] 242,cBlk al [.map (some ac)] 247,cBlk ak [.func (.func 153) #[] #[Pq ah,Pq ai]] 245,cBlk aj [Pq ab] 142],H.unbundle.pick [0,3,1,2,4,5,6,7,8,9,10] (by decide) rfl,aT.nb,?_⟩;intro cY H;rw [aT.pd];replace H:=H.nf
    try simp only []
    replace H:=H.pk [0,1,2,6,7,8,9];refine WD.of ?_;obtain ⟨cZ,hM⟩:=M.e_gq hM;exact kXp 4 [1,3,4,2,5,6,0]
   obtain ⟨_,_,h_⟩:=bh; exact h_.elim
  replace hM:=M.e_f hM aB;replace aB:=dI aB;refine WD.of ?_;refine W.exit ?_;obtain rfl:=M.e_inr hM bu;replace hM:=br;refine WD.seq<|WD.of ?_;refine kg 3 ?_;refine WD.of ?_;refine kA 1 ?_;intro c6 c7 H;refine ksw ?_;intro c8 H
  exact kXp 1 [0,2,3,4,5,6,7]
 replace hM:=M.e_f hM aQ;refine WD.of ?_;refine W.exit ?_;obtain rfl:=M.e_inr hM bo;replace hM:=bj;replace H:=H.pk [2,3,6];refine WD.seq<|WD.of ?_;refine kg 4 ?_;refine WD.of ?_;refine W.ret ?_;refine bodyD_r (H.pk [2,0,1]) ?_;intro c9 H;replace H:=H.nf
 have bG:=M.e_pure hM;exact ⟨_,resE_tmp rfl,⟨aI,ac,bG,rfl,(H.pk [1])⟩⟩

def m_balance_desk_shift_b0 (d_ways_outside d_reaches at_:Int) (up:Bool) (most:Int):((List BWay) × Int)->M (((List BWay) × Int) ⊕ (Int × (List BWay) × (List BWay))):=fun (l,total) =>
  bif decide (total<most) then (
  M.bind (m_balance_desk_room l d_ways_outside d_reaches (⟨(at_:Int),(!up)⟩:BStep)) fun (r0,r1) =>
  M.bind (m_balance_desk_to l d_ways_outside d_reaches (⟨(at_:Int),(!up)⟩:BStep)) fun r2 =>
  M.bind (m_balance_desk_to l d_ways_outside d_reaches (⟨(at_:Int),up⟩:BStep)) fun r3 =>
  M.bind (m_balance_desk_reach_153 l d_ways_outside d_reaches r2 l d_ways_outside d_reaches at_) fun r4 =>
  bif ((!((lookM r4 (r3:Int)).isSome))||(decide (0<r0))) then (
  M.pure (.inr (total,l,l)))
  else (
  M.gi (most-total) <|
  M.bind (m_balance_desk_moved l d_ways_outside d_reaches r2 r3 r4 (min r1 (most-total))) fun (r5,l_d_ways_all) =>
  bif up then (
  M.grd (decide ((0:Int)<=at_)&&decide (at_<(l_d_ways_all.length:Int))) <|
  M.gi (((l_d_ways_all.getD (Int.toNat at_) default).now)+r5) <|
  M.gi (total+r5) <|
  M.pure (.inl (l_d_ways_all.set (Int.toNat at_) ({ (l_d_ways_all.getD (Int.toNat at_) default) with now:=((l_d_ways_all.getD (Int.toNat at_) default).now)+r5 }),total+r5)))
  else (
  M.fail)))
  else (
  M.fail)
def m_balance_desk_shift (d_ways_all:List BWay) (d_ways_outside d_reaches at_:Int) (up:Bool) (most:Int):M (Int × (List BWay)) :=
  M.bind (M.iter (m_balance_desk_shift_b0 d_ways_outside d_reaches at_ up most) (d_ways_all,0)) fun (total2,l2,l3) =>
  M.pure (total2,l3)
theorem balance_desk_shift_ok {R aa ah}(d_ways_all d_ways_outside d_reaches at_ up most){r}(hM:(m_balance_desk_shift d_ways_all d_ways_outside d_reaches at_ up most).Ends r)(w)(H:St w w [cOwn (α:=BWay) 153 ah d_ways_all,cBlk aa [ah,I d_ways_outside,I d_reaches] 150] R):Ret Tryz.prog 108 #[Pq aa,I at_,B up,I most] w fun v w'=>∃ y0 y1 u0,(y0,y1)=r/\v=I y0/\St w w' [cOwn (α:=BWay) 153 u0 y1,cBlk aa [u0,I d_ways_outside,I d_reaches] 150] R:=by
 refine ret_of_W Tryz.func108 rfl rfl rfl ?_;refine kB 2 ?_;intro ab aA H;refine kbx ?_;intro ac aB H;refine kg 4 ?_;refine s_val (x_mf (fs:=[]) (cs:=[Pq ab,Pq ac]) rfl rfl) ?_;refine kA 1 ?_;intro ai aC H;refine ksw ?_;intro aD H;refine kA 7 ?_;intro aj aE H;refine ksw ?_;intro aF H;refine kg 7 ?_;obtain ⟨al,ak,am⟩:=M.e_bind hM;obtain ⟨aG,ak⟩:=M.e_iter ak;refine W.loop (fun m σ W=>∃ (l:List BWay) (total:Int) (ae:Value) (ρ:Env),σ=upds ρ [(2,B up),(3,I most),(4,Pq ab),(5,Pq ac),(9,Pq ai),(10,Pq aj),(11,I total)]/\M.iterN (m_balance_desk_shift_b0 d_ways_outside d_reaches at_ up most) m (l,total)=some al/\St w W [cBlk aj [I at_,B (!up)] 240,cBlk ai [.func (.func 153) #[] #[Pq ab,Pq ac]] 245,cBlk ac [I at_] 3,cBlk ab [Pq aa] 142,cOwn (α:=BWay) 153 ae l,cBlk aa [ae,I d_ways_outside,I d_reaches] 150] R) ?_ ?_
 ·exact kY
 rintro aH σ aI ⟨l,total,ae,ρ,rfl,ao,H⟩;obtain ⟨aJ,aK,aL,hM,aq⟩:=M.e_iterN ao;refine kI 7 ?_ ?_
 ·intro au hM;refine kC 6 @balance_desk_room_ok ?_;intro aM r0 r1 hM H;refine kDo 7 [0,1,2,3,4,5] [(0,true),(1,true),(3,true),(4,true),(5,true),(6,true),(2,false),(7,false),(8,true),(9,true)] ?_;intro aN H;refine kC 7 @balance_desk_to_ok ?_;intro aO r2 hM H;refine kN ?_;refine kC 1 @balance_desk_to_ok ?_;intro aP r3 hM H;refine kN ?_;refine kC 8 @balance_desk_reach_153_ok ?_;intro aQ r4 av hM H;refine kg 7 ?_;refine s_val (q_look (kenc:=I) (venc:=encFar) (f:=lookM r4) (k:=(r3:Int)) (v:=.tuple #[.agg #[I (((lookM r4 (r3:Int)).getD default).cost),I (((lookM r4 (r3:Int)).getD default).many),I (((lookM r4 (r3:Int)).getD default).way),B (((lookM r4 (r3:Int)).getD default).back)],B ((lookM r4 (r3:Int)).isSome)]) keyIntFar Tryz.underlying247 Al250.h rfl rfl (mlMap (H.get (k:=0) rfl)) true (by rw [if_pos rfl,far_val])) ?_;refine kA 3 ?_;intro aR aS H;refine ksw ?_;intro aT H;refine kI 11 ?_ ?_
  ·intro aw hM;refine W.exit ?_;obtain rfl:=M.e_inr hM aq;replace hM:=am;replace H:=H.pk [6,7];refine kg 5 ?_;exact rt
  intro aw hM;obtain ⟨aU,hM⟩:=M.e_gq hM;refine kg 12 ?_;obtain ⟨aV,ax,hM⟩:=M.e_bind hM;refine s_call cq [Pq aa,I r2,I r3,.map (some av),I (min r1 (most-total))] rfl (balance_desk_moved_ok l d_ways_outside d_reaches r2 r3 r4 (min r1 (most-total)) (Has.here (k:=1) rfl) ax _ ((H.pk [6,7,0,1,2,3,4,5]).gt 6)) ?_;rintro _ aW ⟨r5,l_d_ways_all,aX,rfl,rfl,ay⟩;replace H:=H.pk [6,7,0,1,2,3,4,5] |>.bk ay
  refine kg 2 ?_;replace H:=H.pk [0,1,4,5,6,7];refine kI 5 ?_ ?_
  ·intro az hM;refine kDo 0 [1,2,3,4,5] [(0,true),(1,true),(2,true),(3,true),(4,true),(5,true),(9,true),(6,false),(7,false),(8,false),(10,true),(11,false),(12,false),(13,false)] ?_;intro aY H;refine kG 8 ?_;obtain ⟨aZ,hM⟩:=M.e_gq hM;refine kG 1 ?_;refine kN ?_;refine kG 2 ?_;refine kN ?_;refine kG 2 ?_;refine kN ?_;obtain ⟨a7,hM⟩:=M.e_gq hM;refine kG 3 ?_;refine kN ?_;refine kG 2 ?_;refine kN ?_;refine kO 1 (α:=BWay) ({ (l_d_ways_all.getD (Int.toNat at_) default) with now:=((l_d_ways_all.getD (Int.toNat at_) default).now)+r5 }) ?_;intro a8 H;have ba:(l_d_ways_all.set (Int.toNat at_) ({ (l_d_ways_all.getD (Int.toNat at_) default) with now:=((l_d_ways_all.getD (Int.toNat at_) default).now)+r5 })).length=(l_d_ways_all).length:=List.length_set;refine kN ?_;obtain ⟨bb,hM⟩:=M.e_gq hM;exact kXp 7 [2,3,4,5,0,1]
  intro az hM;exact (M.e_fail hM).elim
 intro au hM;exact (M.e_fail hM).elim

def m_balance_desk_span (d_ways_all:List BWay) (d_ways_outside d_reaches at_:Int):M (Int × Int) :=
  M.bind (m_balance_desk_copied d_ways_all d_ways_outside d_reaches) fun (r0,r1,r2) =>
  M.bind (m_balance_desk_copied d_ways_all d_ways_outside d_reaches) fun (aa,ab,ac) =>
  M.bind (m_balance_desk_shift r0 r1 r2 at_ false 100000000) fun (r3,l_d_ways_all) =>
  M.bind (m_balance_desk_shift aa ab ac at_ true 100000000) fun (r4,l_d_ways_all2) =>
  M.grd (decide ((0:Int)<=at_)&&decide (at_<(l_d_ways_all.length:Int))) <|
  M.grd (decide ((0:Int)<=at_)&&decide (at_<(l_d_ways_all2.length:Int))) <|
  M.pure (((l_d_ways_all.getD (Int.toNat at_) default).now),((l_d_ways_all2.getD (Int.toNat at_) default).now))
theorem balance_desk_span_ok {R ab ac ae}(d_ways_all d_ways_outside d_reaches at_)(aq:Reads R ac)(au:Sl ac ae d_ways_all)(av:Has R (cBlk ab [ae,I d_ways_outside,I d_reaches] 150)){r}(hM:(m_balance_desk_span d_ways_all d_ways_outside d_reaches at_).Ends r)(w)(H:St w w [] R):Ret Tryz.prog 60 #[Pq ab,I at_] w fun v w'=>∃ y0 y1,(y0,y1)=r/\v = .agg #[I y0,I y1]/\St w w' [] R:=by
 refine ret_of_W Tryz.func60 rfl rfl rfl ?_;refine kA 2 ?_;intro aw ax H;refine kC 4 @balance_desk_copied_ok ?_;intro ay r0 r1 r2 ah az hM H;refine kC 1 @balance_desk_copied_ok ?_;intro aA ai aj ak al aB hM H;refine kg 7 ?_;obtain ⟨aC,am,hM⟩:=M.e_bind hM;refine s_call cq [Pq ah,I at_,B false,I 100000000] rfl (balance_desk_shift_ok r0 r1 r2 at_ false 100000000 am _ ((H.pk [3,2,0,1,4]).gt 3)) ?_;rintro _ aD ⟨r3,l_d_ways_all,aE,rfl,rfl,aa⟩;replace H:=H.pk [3,2,0,1,4] |>.bk aa
 refine kg 5 ?_;obtain ⟨aF,ao,hM⟩:=M.e_bind hM;refine s_call cq [Pq al,I at_,B true,I 100000000] rfl (balance_desk_shift_ok ai aj ak at_ true 100000000 ao _ ((H.pk [3,2,0,1,4]).gt 3)) ?_;rintro _ aG ⟨r4,l_d_ways_all2,aH,rfl,rfl,aa⟩;replace H:=H.pk [3,2,0,1,4] |>.bk aa
 refine kD 2 [0,1,2,3] [19] ?_;intro aI H;obtain ⟨aJ,hM⟩:=M.e_gq hM;obtain ⟨aK,hM⟩:=M.e_gq hM;refine kS 20 ?_;intro aL H;refine kN ?_;refine d_nil ?_;replace H:=H.pk [4];exact kR 0 []

end Go.Proofs.YtbgoclcmgbpckaaGreat
end
section
set_option maxRecDepth 100000
set_option maxHeartbeats 16000000
namespace Go.Proofs.YtbgoclcmgbpckaaGreat
open Go Go.Nm
attribute [local irreducible] gd execOp SL SLD SLT WR
def m_balance_Group_b0 (n_Gains:List Span) (stations:List Int) (r2:Int):(Int × Nat)->M ((Int × Nat) ⊕ Unit):=fun (last,s) =>
  bif decide ((s:Int)<(stations.length:Int)) then (
  M.grd (decide ((s:Int)<(stations.length:Int))) <|
  M.grd ((!(r2==0)||(decide ((-9223372036854775808:Int)<=(last+1))&&decide ((last+1)<=(9223372036854775807:Int))))) <|
  M.bind (M.opt (r2==0) (m_balance_in (stations.getD s 0) (last+1) ((n_Gains.length:Int)-1)) false) fun r3 =>
  bif ((r2==0)&&(!r3)) then (
  M.fail)
  else (
  M.pure (.inl (stations.getD s 0,s+1))))
  else (
  M.pure (.inr ()))
def m_balance_Group_b1 (stations:List Int) (ab aa:Int):((List BWay) × Int × Nat)->M (((List BWay) × Int × Nat) ⊕ ((List BWay) × Int × (List BWay))):=fun (l,total,s2) =>
  bif decide ((s2:Int)<(stations.length:Int)) then (
  M.grd (decide ((s2:Int)<(stations.length:Int))) <|
  M.gi (aa+(stations.getD s2 0)) <|
  M.grd (decide ((0:Int)<=(aa+(stations.getD s2 0)))&&decide ((aa+(stations.getD s2 0))<(l.length:Int))) <|
  M.gi (total+(((l.set (Int.toNat (aa+(stations.getD s2 0))) ({ (l.getD (Int.toNat (aa+(stations.getD s2 0))) default) with src:=ab+1 })).getD (Int.toNat (aa+(stations.getD s2 0))) default).now)) <|
  M.pure (.inl (l.set (Int.toNat (aa+(stations.getD s2 0))) ({ (l.getD (Int.toNat (aa+(stations.getD s2 0))) default) with src:=ab+1 }),total+(((l.set (Int.toNat (aa+(stations.getD s2 0))) ({ (l.getD (Int.toNat (aa+(stations.getD s2 0))) default) with src:=ab+1 })).getD (Int.toNat (aa+(stations.getD s2 0))) default).now),s2+1)))
  else (
  M.pure (.inr (l,total,l)))
def m_balance_Group (n_Gains:List Span) (n_Reaches:List BRch) (stations:List Int):M (Int × Int × Int) :=
  M.bind (m_balance_Check n_Gains n_Reaches) fun r2 =>
  M.bind (M.iter (m_balance_Group_b0 n_Gains stations r2) (-1,0)) fun (_:Unit) =>
  bif ((r2==0)&&((stations.length:Int)==0)) then (
  M.fail)
  else (
  bif r2 != 0 then (
  M.fail)
  else (
  M.bind (m_balance_fitting n_Gains n_Reaches) fun (ac,ae,ah,r1) =>
  bif r1 != 0 then (
  M.fail)
  else (
  M.bind (m_balance_desk_copied ac ae ah) fun (r0,aa,ab) =>
  M.gi (aa+1) <|
  M.bind (M.iter (m_balance_Group_b1 stations aa ab) (r0,0,0)) fun (l2,total2,l3) =>
  M.grd (decide ((r0.length:Int)=(l3.length:Int))) <|
  M.grd (decide (0<l3.length)&&decide (0<([(⟨(aa:Int),(aa+1:Int),(-100000000:Int),(100000000:Int),(total2:Int)⟩:BWay)]).length)&&decide ((l3.length+([(⟨(aa:Int),(aa+1:Int),(-100000000:Int),(100000000:Int),(total2:Int)⟩:BWay)]).length)*40<=140737488355328)) <|
  M.bind (m_balance_desk_span (l3++([(⟨(aa:Int),(aa+1:Int),(-100000000:Int),(100000000:Int),(total2:Int)⟩:BWay)])) aa ab (r0.length:Int)) fun (ai,aj) =>
  M.pure (ai,aj,0))))
theorem balance_Group_ok {R am ai ao aj aq ae}(n_Gains n_Reaches stations)(ba:Reads R am)(aA:Sl am ai n_Gains)(bb:Reads R ao)(bc:Sl ao aj n_Reaches)(bf:Reads R aq)(ak:Sl aq ae stations){r}(hM:(m_balance_Group n_Gains n_Reaches stations).Ends r)(w)(H:St w w [] R):Ret Tryz.prog 24 #[.agg #[ai,aj],ae] w fun v w'=>∃ y0 y1 y2,(y0,y1,y2)=r/\v = .tuple #[.agg #[I y0,I y1],I y2]/\St w w' [] R:=by
 refine ret_of_W Tryz.func24 rfl rfl rfl ?_;refine kB 2 ?_;intro au bg H;refine kal ?_;intro ah bh H;refine kC 5 @balance_Check_ok ?_;intro bi r2 hM H;have bj:=(ak).len_le;refine kg 14 ?_;obtain ⟨aB,av,aC⟩:=M.e_bind hM;obtain ⟨aD,av⟩:=M.e_iter av;refine W.loop (fun m σ W=>∃ (last:Int) (s:Nat) (ρ:Env),σ=upds ρ [(1,ae),(2,Pq au),(4,Pq ah),(6,I r2),(7,I last),(19,ae),(20,I (stations.length:Int)),(21,I (s:Int))]/\M.iterN (m_balance_Group_b0 n_Gains stations r2) m (last,s)=some aB/\St w W [cBlk ah [I 0,I 0] 32,cBlk au [ai,aj] 79] R) ?_ ?_
 ·exact kY
 rintro bm σ bn ⟨last,s,ρ,rfl,aE,H⟩;obtain ⟨bo,bp,br,hM,aF⟩:=M.e_iterN aE;refine kI 5 ?_ ?_
 ·intro aG hM;obtain ⟨bt,hM⟩:=M.e_gq hM;obtain ⟨al,hM⟩:=M.e_grd hM;replace al:=M.imp_of al;simp only [Bool.and_eq_true,decide_eq_true_eq] at al;have bu:=(aA).len_le;refine kg 22 ?_;obtain ⟨r3,aH,hM⟩:=M.e_bind hM;refine t_gcall (r2==0) (gy_t rfl) cq (B r3) (fun _=>[I (stations.getD s 0),I (last+1),I ((n_Gains.length:Int)-1)]) (fun hg=>lst3 (gd_of hg (I (stations.getD s 0))) (gd_of hg (I (last+1))) (gd_of hg (I ((n_Gains.length:Int)-1)))) H (fun hg=>(balance_in_ok (stations.getD s 0) (last+1) ((n_Gains.length:Int)-1) (M.e_opt aH hg) _ (H.give (A:=[]) rfl)).mono fun v_ w_ ⟨y_,aI,aJ,H_⟩=>by subst aI; exact ⟨aJ,H.via H_⟩) ?_;intro bv H;refine kI 3 ?_ ?_
  ·intro aK hM;exact (M.e_fail hM).elim
  intro aK hM;exact kX 9
 intro aG hM;refine W.exit ?_;obtain rfl:=M.e_inr hM aF;replace hM:=aC;have bw:=(ak).len_le;refine kI 11 ?_ ?_
 ·intro aL hM;exact (M.e_fail hM).elim
 intro aL hM;refine kI 7 ?_ ?_
 ·intro aM hM;exact (M.e_fail hM).elim
 intro aM hM;refine kC 4 @balance_fitting_ok ?_;intro bx bz bA bB r1 bC bD hM H;refine kI 12 ?_ ?_
 ·intro aN hM;exact (M.e_fail hM).elim
 intro aN hM;refine kC 4 @balance_desk_copied_ok ?_;intro bE r0 aa ab aw bF hM H;refine kg 2 ?_;replace H:=H.pk [0,1,4];refine kD 1 [0,1,2] [] ?_;intro bG H;obtain ⟨bH,hM⟩:=M.e_gq hM;have bI:=((H.os 1)).len_le;have bJ:=(ak).len_le;refine kg 27 ?_;obtain ⟨aO,ax,aP⟩:=M.e_bind hM;obtain ⟨aD,ax⟩:=M.e_iter ax;refine W.loop (fun m σ W=>∃ (l:List BWay) (total:Int) (s2:Nat) (ac:Value) (ρ:Env),σ=upds ρ [(4,Pq ah),(10,Pq aw),(11,I (aa+1)),(12,I (r0.length:Int)),(13,I total),(74,ae),(75,I (stations.length:Int)),(76,I (s2:Int))]/\M.iterN (m_balance_Group_b1 stations aa ab) m (l,total,s2)=some aO/\St w W [cBlk aw [ac,I aa,I ab] 150,cOwn (α:=BWay) 153 ac l,cBlk ah [I 0,I 0] 32] R) ?_ ?_
 ·exact kY
 rintro bK σ bL ⟨l,total,s2,ac,ρ,rfl,aQ,H⟩;obtain ⟨bM,bN,bO,hM,aR⟩:=M.e_iterN aQ;refine kI 5 ?_ ?_
 ·intro aS hM;obtain ⟨bP,hM⟩:=M.e_gq hM;refine kD 10 [0,1,2] [] ?_;intro bQ H;obtain ⟨bR,hM⟩:=M.e_gq hM;obtain ⟨bS,hM⟩:=M.e_gq hM;refine kg 18 ?_;refine s_val (x_ncE (p:=vat ac 5 (Int.toNat (ab+(stations.getD s2 0)))) rfl (Sl.pl (i:=ab+(stations.getD s2 0)) (H.os 1) (by omega) (by omega))) ?_;refine kO 1 (α:=BWay) ({ (l.getD (Int.toNat (ab+(stations.getD s2 0))) default) with src:=aa+1 }) ?_;intro bT H;have bU:(l.set (Int.toNat (ab+(stations.getD s2 0))) ({ (l.getD (Int.toNat (ab+(stations.getD s2 0))) default) with src:=aa+1 })).length=(l).length:=List.length_set;refine kg 4 ?_;refine s_val (x_ncE (p:=vat ac 5 (Int.toNat (ab+(stations.getD s2 0)))) rfl (Sl.pl (i:=ab+(stations.getD s2 0)) (H.os 1) (by omega) (by omega))) ?_;obtain ⟨bV,hM⟩:=M.e_gq hM;exact kX 9
 intro aS hM;refine W.exit ?_;obtain rfl:=M.e_inr hM aR;replace hM:=aP;refine kDT 1 [1,2] (.q 0 (.q 1 (.q 2 (.q 3 (.q 4 (.q 6 (.q 7 (.q 9 (.q 10 (.q 11 (.q 12 (.q 14 (.q 15 (.q 16 (.l2 5 (.q 8 (.l 13 (.q 17 (.l 18 (.l 19 (.q 20 (.q 21 (.q 22 (.l 23 .nil))))))))) 13 (.q 17 (.l2 5 (.q 8 (.l 18 (.l 19 (.q 20 (.q 21 (.q 22 (.l 23 .nil))))))) 18 (.l 5 (.q 8 (.l 19 (.q 20 (.q 21 (.q 22 (.l 23 .nil)))))))))))))))))))))))) ?_;intro bW H;refine kG 13 ?_;obtain ⟨bX,hM⟩:=M.e_gq hM;obtain ⟨bY,hM⟩:=M.e_gq hM;refine kg 1 ?_;refine t_l2 rfl rfl ?_ ?_
 ·refine kG 1 ?_;refine kN ?_;obtain ⟨aT,aU,aV⟩:=sl_full T146.h.und T146.h.size (H.os 1) (j:=(r0.length:Int)) (by omega);refine t_q rfl (fun w' H=>x_sl (v:=ac) (u:=(.slice aT l.length l.length)) (lo':=none) (hi':=some (I (r0.length:Int))) (mx':=some (I (r0.length:Int))) rfl rfl rfl rfl (aU _)) ?_;refine kG 2 ?_;refine kN ?_;refine kL 2 (α:=BWay) [⟨aa,aa+1,-100000000,100000000,total⟩] ?_;intro bZ b4 H;refine kN ?_;refine t_l rfl ?_;refine t_app3 (α:=BWay) (l:=l) (l2:=[(⟨(aa:Int),(aa+1:Int),(-100000000:Int),(100000000:Int),(total:Int)⟩:BWay)]) T146.h H rfl rfl aV (H.ol 2) (H.os 0) (H.ol 0) (by omega) (by omega) (by omega) (by omega) ?_;intro b5 b6 H;refine kN ?_;refine kS 4 ?_;intro b7 H;refine kN ?_;refine t_nil ?_;replace H:=H.pk [0,2,4];refine kC 4 @balance_desk_span_ok ?_;intro b8 ay az hM H;refine ksw ?_;intro b9 H;refine kg 2 ?_;replace H:=H.pk [2];exact kR 0 []
 refine kG 1 ?_;refine kN ?_;refine kG 1 ?_;refine t_l2 rfl rfl ?_ ?_
 ·refine kG 1 ?_;refine kN ?_;obtain ⟨aW,aX,aY⟩:=sl_full T146.h.und T146.h.size (H.os 1) (j:=(r0.length:Int)) (by omega);refine t_q rfl (fun w' H=>x_sl (v:=ac) (u:=(.slice aW l.length l.length)) (lo':=none) (hi':=some (I (r0.length:Int))) (mx':=some (I (r0.length:Int))) rfl rfl rfl rfl (aX _)) ?_;refine kL 1 (α:=BWay) [⟨aa,aa+1,-100000000,100000000,total⟩] ?_;intro cb cc H;refine kN ?_;refine t_l rfl ?_;refine t_app3 (α:=BWay) (l:=l) (l2:=[(⟨(aa:Int),(aa+1:Int),(-100000000:Int),(100000000:Int),(total:Int)⟩:BWay)]) T146.h H rfl rfl aY (H.ol 2) (H.os 0) (H.ol 0) (by omega) (by omega) (by omega) (by omega) ?_;intro cd ce H;refine kN ?_;refine kS 4 ?_;intro cf H;refine kN ?_;refine t_nil ?_;replace H:=H.pk [0,2,4];refine kC 4 @balance_desk_span_ok ?_;intro cg ay az hM H;refine ksw ?_;intro ch H;refine kg 2 ?_;replace H:=H.pk [2];exact kR 0 []
 refine kL 0 (α:=BWay) [⟨aa,aa+1,-100000000,100000000,total⟩] ?_;intro ck cn H;refine kN ?_;refine kG 2 ?_;refine kN ?_;obtain ⟨aZ,a7,a8⟩:=sl_full T146.h.und T146.h.size (H.os 2) (j:=(r0.length:Int)) (by omega);refine t_q rfl (fun w' H=>x_sl (v:=ac) (u:=(.slice aZ l.length l.length)) (lo':=none) (hi':=some (I (r0.length:Int))) (mx':=some (I (r0.length:Int))) rfl rfl rfl rfl (a7 _))<|t_l rfl ?_;refine t_app3 (α:=BWay) (l:=l) (l2:=[(⟨(aa:Int),(aa+1:Int),(-100000000:Int),(100000000:Int),(total:Int)⟩:BWay)]) T146.h H rfl rfl a8 (H.ol 2) (H.os 0) (H.ol 0) (by omega) (by omega) (by omega) (by omega) ?_;intro cp ct H;refine kN ?_;refine kS 4 ?_;intro cu H;refine kN ?_;refine t_nil ?_;replace H:=H.pk [0,2,4];refine kC 4 @balance_desk_span_ok ?_;intro cw ay az hM H;refine ksw ?_;intro cA H;refine kg 2 ?_;replace H:=H.pk [2]
 exact kR 0 []

def zag (n aa greatest:Int):M Bool :=
  M.pure ((decide (aa<=n))&&(decide (n<=greatest)))
theorem zaj {R}(n aa greatest){r}(hM:(zag n aa greatest).Ends r)(w)(H:St w w [] R):Ret Tryz.prog 114 #[I n,I aa,I greatest] w fun v w'=>∃ y0,y0=r/\v=B y0/\St w w' [] R:=by
 refine ret_of_W Tryz.func114 rfl rfl rfl ?_;refine kg 16 ?_;exact rt

def zdY (s:List Old10) (f:Old10->M Bool):Nat->M (Nat ⊕ Unit):=fun s2 =>
  bif decide ((s2:Int)<(s.length:Int)) then (
  M.grd (decide ((s2:Int)<(s.length:Int))) <|
  M.bind (f (s.getD s2 default)) fun r2 =>
  bif r2 then (
  M.fail)
  else (
  M.pure (.inl (s2+1))))
  else (
  M.pure (.inr ()))
def zel (s:List Old10) (f:Old10->M Bool):M Int :=
  M.bind (M.iter (zdY s f) 0) fun (_:Unit) =>
  M.pure (-1)
theorem zeX {R ae ab ac}(s f)(ah:Reads R ae)(ai:Sl ae ab s)(al:FnM Tryz.prog R ac f){r}(hM:(zel s f).Ends r)(w)(H:St w w [] R):Ret Tryz.prog 212 #[ab,ac] w fun v w'=>∃ y0,y0=r/\v=I y0/\St w w' [] R:=by
 refine ret_of_W Tryz.func212 rfl rfl rfl ?_;have az:=(ai).len_le;refine kg 12 ?_;obtain ⟨am,aj,ao⟩:=M.e_bind hM;obtain ⟨aA,aj⟩:=M.e_iter aj;refine W.loop (fun m σ W=>∃ (s2:Nat) (ρ:Env),σ=upds ρ [(0,ab),(1,ac),(7,I (s.length:Int)),(8,I (s2:Int))]/\M.iterN (zdY s f) m s2=some am/\St w W [] R) ?_ ?_
 ·exact kY
 rintro aB σ aC ⟨s2,ρ,rfl,aq,H⟩;obtain ⟨aD,aE,aF,hM,au⟩:=M.e_iterN aq;refine kI 5 ?_ ?_
 ·intro av hM;obtain ⟨aG,hM⟩:=M.e_gq hM;refine kg 14 ?_;obtain ⟨ak,aw,aa⟩:=Old10_atA ai (i:=(s2:Int)) (by omega) (by omega);replace aa:Sl _ ak (s.getD s2 default).passed:=aa;have aH:=aa.len_le;refine s_val (x_ld (v:=.agg #[I ((s.getD s2 default).src),I ((s.getD s2 default).dst),I ((s.getD s2 default).stage),ak]) rfl (ld_ag Ag175.h Sz175.h (At.mono aw (ah.at H)))) ?_;obtain ⟨r2,ax,hM⟩:=M.e_bind hM;refine t_callM H al rfl rfl (s.getD s2 default) (ah.app _) ⟨_,Old10_mk aa,rfl⟩ ax ?_;intro aI H;refine kI 1 ?_ ?_
  ·intro ay hM;exact (M.e_fail hM).elim
  intro ay hM;exact kX 5
 intro av hM;refine W.exit ?_;obtain rfl:=M.e_inr hM au;replace hM:=ao;refine kg 4 ?_;exact rt

def zdX (s:List Old10) (f:Old10->M Bool):M Bool :=
  M.bind (zel s f) fun r2 =>
  M.pure (decide (0<=r2))
theorem zeq {R aa ab ac}(s f)(ae:Reads R aa)(ah:Sl aa ab s)(ai:FnM Tryz.prog R ac f){r}(hM:(zdX s f).Ends r)(w)(H:St w w [] R):Ret Tryz.prog 207 #[ab,ac] w fun v w'=>∃ y0,y0=r/\v=B y0/\St w w' [] R:=by
 refine ret_of_W Tryz.func207 rfl rfl rfl ?_;refine kC 8 @zeX ?_;intro aj r2 hM H;refine kg 3 ?_;exact rt

def zcM (x:Old10) (aa:Old10->M Bool):M Bool :=
  M.bind (aa x) fun r2 =>
  M.pure (!r2)
theorem zfq {R aa ab ac ae}(x ah)(ai:Reads R aa)(aj:Sl aa ab x.passed)(ak:FnM Tryz.prog R ae ah)(am:Has R (cBlk ac [ae] 285)){r}(hM:(zcM x ah).Ends r)(w)(H:St w w [] R):Ret Tryz.prog 208 #[.agg #[I x.src,I x.dst,I x.stage,ab],Pq ac] w fun v w'=>∃ y0,y0=r/\v=B y0/\St w w' [] R:=by
 refine ret_of_W Tryz.func208 rfl rfl rfl ?_;refine kB 2 ?_;intro ao aq H;refine kg 6 ?_;obtain ⟨r2,al,hM⟩:=M.e_bind hM;refine t_callM H ak rfl rfl x (ai.app _) ⟨_,Old10_mk aj,rfl⟩ al ?_;intro au H;refine kg 3 ?_;exact rt

def zdb (l:List Old10) (so:Old10->M Bool):M Bool :=
  M.bind (zdX l (fun aa=>zcM aa so)) fun r2 =>
  M.pure (!r2)
theorem zdE {R ae aa ah}(l so)(aj:Reads R ae)(ak:Sl ae aa l)(al:FnM Tryz.prog R ah so){r}(hM:(zdb l so).Ends r)(w)(H:St w w [] R):Ret Tryz.prog 197 #[aa,ah] w fun v w'=>∃ y0,y0=r/\v=B y0/\St w w' [] R:=by
 refine ret_of_W Tryz.func197 rfl rfl rfl ?_;refine kB 2 ?_;intro ab aC H;refine kg 5 ?_;refine s_val (x_mf (fs:=[]) (cs:=[Pq ab]) rfl rfl) ?_;obtain ⟨aD,am,hM⟩:=M.e_bind hM;refine s_call cq [aa,.func (.func 208) #[] #[Pq ab]] rfl (zeq l (fun ac=>zcM ac so) (aj.app _) ak ⟨208,[Pq ab],rfl,cq,fun ai aE aF ao ac aG aq au av aw=>by obtain ⟨aH,rfl,ax⟩:=Old10_arg av; exact (zfq ac so au ax (FnM.app (al.app _) _) (Has.app (Has.here (k:=0) rfl) _) aw ai (St.refl aq)).mono fun ao ai ⟨aI,ay,az,aA⟩=>by subst ay; exact ⟨az,aA⟩⟩ am _ (H.gt 1)) ?_;rintro _ aJ ⟨r2,rfl,rfl,aB⟩;replace H:=H.bk aB;refine kg 3 ?_;exact rt

def zc4 (o:Old10):M Bool :=
  M.pure (decide ((o.passed.length:Int)<=10))
theorem ze1 {R aa ab}(o)(ae:Reads R aa)(ac:Sl aa ab o.passed){r}(hM:(zc4 o).Ends r)(w)(H:St w w [] R):Ret Tryz.prog 196 #[.agg #[I o.src,I o.dst,I o.stage,ab]] w fun v w'=>∃ y0,y0=r/\v=B y0/\St w w' [] R:=by
 refine ret_of_W Tryz.func196 rfl rfl rfl ?_;refine kB 2 ?_;intro ah ai H;have aj:=(ac).len_le;refine kg 10 ?_;exact rt

def zdA (ac:List Yr) (ae:List Old10) (aa ab:Int) (x2:Yr):M Bool :=
  M.bind (zag x2.year aa ab) fun r2 =>
  M.bind (M.opt r2 (zag x2.lo 0 x2.hi) false) fun r3 =>
  M.bind (M.opt (r2&&r3) (zag x2.hi 0 2000) false) fun r4 =>
  M.pure ((r2&&r3)&&r4)
theorem zeM {R ac ae ah ai}(aj ak al am x2)(aw:Reads R ac)(ax:Sl ac ae aj)(ay:Reads R ah)(az:Sl ah ai ak){r}(hM:(zdA aj ak al am x2).Ends r)(w)(H:St w w [] R):Ret Tryz.prog 198 #[.agg #[ae,ai,I al,I am],.iface 173 (.agg #[I x2.year,I x2.lo,I x2.hi])] w fun v w'=>∃ y0,y0=r/\v=B y0/\St w w' [] R:=by
 refine ret_of_W Tryz.func198 rfl rfl rfl ?_;refine kB 2 ?_;intro aA aB H;refine kg 10 ?_;refine s_val (x_ta0 (z:=.agg #[I 0,I 0]) Tryz.underlying295 (by intro m h_; cases h_) (by decide) Al295.h rfl) ?_;refine kg 3 ?_;refine W.cond false rfl (fun ao=>?_) (fun ao=>?_)
 ·exact absurd ao (by decide)
 refine kg 2 ?_;refine s_val (x_ta1 (v:=.agg #[I x2.year,I x2.lo,I x2.hi]) Tryz.underlying173 (by intro m h_; cases h_) rfl) ?_;refine kg 3 ?_;refine W.cond true rfl (fun aq=>?_) (fun aq=>?_)
 ·refine kA 2 ?_;intro aC aD H;refine ksw ?_;intro aE H;refine kC 9 @zaj ?_;intro aF r2 hM H;refine kg 7 ?_;obtain ⟨r3,au,hM⟩:=M.e_bind hM;refine t_gcall r2 (gy_t rfl) cq (B r3) (fun _=>[I x2.lo,I 0,I x2.hi]) (fun hg=>lst3 (gd_of hg (I x2.lo)) rfl (gd_of hg (I x2.hi))) H (fun hg=>(zaj x2.lo 0 x2.hi (M.e_opt au hg) _ (H.give (A:=[]) rfl)).mono fun v_ w_ ⟨y_,aa,ab,H_⟩=>by subst aa; exact ⟨ab,H.via H_⟩) ?_;intro aG H;refine kg 5 ?_;obtain ⟨r4,av,hM⟩:=M.e_bind hM;refine t_gcall (r2&&r3) (gy_t rfl) cq (B r4) (fun _=>[I x2.hi,I 0,I 2000]) (fun hg=>lst3 (gd_of hg (I x2.hi)) rfl rfl) H (fun hg=>(zaj x2.hi 0 2000 (M.e_opt av hg) _ (H.give (A:=[]) rfl)).mono fun v_ w_ ⟨y_,aa,ab,H_⟩=>by subst aa; exact ⟨ab,H.via H_⟩) ?_;intro aH H;refine kg 3 ?_;replace H:=H.pk [];exact rt
 exact absurd aq (by decide)

def zd1 (l:List Int) (last:Int):(Int × Nat)->M ((Int × Nat) ⊕ Unit):=fun (first2,s) =>
  bif decide ((s:Int)<(l.length:Int)) then (
  M.grd (decide ((s:Int)<(l.length:Int))) <|
  M.bind (zag (l.getD s 0) first2 last) fun r2 =>
  bif !r2 then (
  M.fail)
  else (
  M.gi ((l.getD s 0)+1) <|
  M.pure (.inl ((l.getD s 0)+1,s+1))))
  else (
  M.pure (.inr ()))
def zdt (l:List Int) (first last:Int):M Bool :=
  M.bind (M.iter (zd1 l last) (first,0)) fun (_:Unit) =>
  M.pure true
theorem zfL {R ab aa}(l first last)(ao:Reads R ab)(ae:Sl ab aa l){r}(hM:(zdt l first last).Ends r)(w)(H:St w w [] R):Ret Tryz.prog 209 #[aa,I first,I last] w fun v w'=>∃ y0,y0=r/\v=B y0/\St w w' [] R:=by
 refine ret_of_W Tryz.func209 rfl rfl rfl ?_;have aq:=(ae).len_le;refine kg 12 ?_;obtain ⟨ah,ac,ai⟩:=M.e_bind hM;obtain ⟨au,ac⟩:=M.e_iter ac;refine W.loop (fun m σ W=>∃ (first2:Int) (s:Nat) (ρ:Env),σ=upds ρ [(1,I first2),(2,I last),(9,aa),(10,I (l.length:Int)),(11,I (s:Int))]/\M.iterN (zd1 l last) m (first2,s)=some ah/\St w W [] R) ?_ ?_
 ·exact kY
 rintro av σ aw ⟨first2,s,ρ,rfl,aj,H⟩;obtain ⟨ax,ay,az,hM,ak⟩:=M.e_iterN aj;refine kI 5 ?_ ?_
 ·intro al hM;obtain ⟨aA,hM⟩:=M.e_gq hM;refine kC 15 @zaj ?_;intro aB r2 hM H;refine kI 2 ?_ ?_
  ·intro am hM;exact (M.e_fail hM).elim
  intro am hM;obtain ⟨aC,hM⟩:=M.e_gq hM;exact kX 10
 intro al hM;refine W.exit ?_;obtain rfl:=M.e_inr hM ak;replace hM:=ai;refine kg 4 ?_;exact rt

def zdy (ac:List Yr) (ae:List Old10) (aa ab:Int) (x2:Old10):M Bool :=
  M.bind (zag x2.src aa x2.dst) fun r2 =>
  M.bind (M.opt r2 (zag x2.dst aa ab) false) fun r3 =>
  M.bind (M.opt (r2&&r3) (zag x2.stage 1 2000) false) fun r4 =>
  M.bind (M.opt ((r2&&r3)&&r4) (zdt x2.passed x2.src x2.dst) false) fun r5 =>
  M.pure (((r2&&r3)&&r4)&&r5)
theorem ze3 {R ai aj ak al am aa}(ao aq ab ac x2)(aC:Reads R ai)(aD:Sl ai aj ao)(aE:Reads R ak)(aF:Sl ak al aq)(ax:Reads R am)(ay:Sl am aa x2.passed){r}(hM:(zdy ao aq ab ac x2).Ends r)(w)(H:St w w [] R):Ret Tryz.prog 198 #[.agg #[aj,al,I ab,I ac],.iface 175 (.agg #[I x2.src,I x2.dst,I x2.stage,aa])] w fun v w'=>∃ y0,y0=r/\v=B y0/\St w w' [] R:=by
 refine ret_of_W Tryz.func198 rfl rfl rfl ?_;refine kB 2 ?_;intro aG aH H;refine kg 10 ?_;refine s_val (x_ta0 (z:=.agg #[I 0,I 0]) Tryz.underlying295 (by intro m h_; cases h_) (by decide) Al295.h rfl) ?_;refine kg 3 ?_;refine W.cond false rfl (fun au=>?_) (fun au=>?_)
 ·exact absurd au (by decide)
 refine kg 2 ?_;refine s_val (x_ta0 (z:=.agg #[I 0,I 0,I 0]) Tryz.underlying173 (by intro m h_; cases h_) (by decide) Al173.h rfl) ?_;refine kg 3 ?_;refine W.cond false rfl (fun av=>?_) (fun av=>?_)
 ·exact absurd av (by decide)
 refine kg 2 ?_;refine s_val (x_ta1 (v:=.agg #[I x2.src,I x2.dst,I x2.stage,aa]) Tryz.underlying175 (by intro m h_; cases h_) rfl) ?_;refine kg 3 ?_;refine W.cond true rfl (fun aw=>?_) (fun aw=>?_)
 ·refine kA 2 ?_;intro aI aJ H;refine kS 0 ?_;intro aK H;refine kC 9 @zaj ?_;intro aL r2 hM H;refine kg 7 ?_;obtain ⟨r3,az,hM⟩:=M.e_bind hM;refine t_gcall r2 (gy_t rfl) cq (B r3) (fun _=>[I x2.dst,I ab,I ac]) (fun hg=>lst3 (gd_of hg (I x2.dst)) (gd_of hg (I ab)) (gd_of hg (I ac))) H (fun hg=>(zaj x2.dst ab ac (M.e_opt az hg) _ (H.give (A:=[]) rfl)).mono fun v_ w_ ⟨y_,ae,ah,H_⟩=>by subst ae; exact ⟨ah,H.via H_⟩) ?_;intro aM H;refine kg 4 ?_;obtain ⟨r4,aA,hM⟩:=M.e_bind hM;refine t_gcall (r2&&r3) (gy_t rfl) cq (B r4) (fun _=>[I x2.stage,I 1,I 2000]) (fun hg=>lst3 (gd_of hg (I x2.stage)) rfl rfl) H (fun hg=>(zaj x2.stage 1 2000 (M.e_opt aA hg) _ (H.give (A:=[]) rfl)).mono fun v_ w_ ⟨y_,ae,ah,H_⟩=>by subst ae; exact ⟨ah,H.via H_⟩) ?_;intro aN H;refine kg 8 ?_;obtain ⟨r5,aB,hM⟩:=M.e_bind hM;refine t_gcall ((r2&&r3)&&r4) (gy_t rfl) cq (B r5) (fun _=>[aa,I x2.src,I x2.dst]) (fun hg=>lst3 (gd_of hg (aa)) (gd_of hg (I x2.src)) (gd_of hg (I x2.dst))) H (fun hg=>(zfL x2.passed x2.src x2.dst (ax.app _) ay (M.e_opt aB hg) _ (H.give (A:=[]) rfl)).mono fun v_ w_ ⟨y_,ae,ah,H_⟩=>by subst ae; exact ⟨ah,H.via H_⟩) ?_;intro aO H;refine kg 3 ?_;replace H:=H.pk [];exact rt
 exact absurd aw (by decide)

def zdd (o:Old10) (aa:List Yr) (ab:List Old10) (ac ae:Int):M Bool :=
  M.bind (zdy aa ab ac ae o) fun r2 =>
  M.pure r2
theorem ze2 {R ai ah aj ak aa al ab}(o am ao ac ae)(au:Reads R ai)(av:Sl ai ah o.passed)(aw:Reads R ak)(ax:Sl ak aa am)(ay:Reads R al)(az:Sl al ab ao)(aq:Has R (cBlk aj [aa,ab,I ac,I ae] 90)){r}(hM:(zdd o am ao ac ae).Ends r)(w)(H:St w w [] R):Ret Tryz.prog 199 #[.agg #[I o.src,I o.dst,I o.stage,ah],Pq aj] w fun v w'=>∃ y0,y0=r/\v=B y0/\St w w' [] R:=by
 refine ret_of_W Tryz.func199 rfl rfl rfl ?_;refine kB 2 ?_;intro aA aB H;refine kg 4 ?_;refine s_val (x_ld (v:=.agg #[aa,ab,I ac,I ae]) rfl (ldb_ag (ds:=[aa,ab,I ac,I ae]) Ag90.h Sz90.h (aq.blk H) rfl rfl)) ?_;refine kg 1 ?_;refine s_val (x_mi (v:=.agg #[I o.src,I o.dst,I o.stage,ah]) Tryz.underlying175 (by intro m h_; cases h_) rfl) ?_;refine kC 0 @ze3 ?_;intro aC r2 hM H;refine kg 2 ?_;exact rt

def zdC (aa:List Yr) (ab:List Old10) (ac ae:Int):Nat->M (Nat ⊕ Unit):=fun s =>
  bif decide ((s:Int)<(aa.length:Int)) then (
  M.grd (decide ((s:Int)<(aa.length:Int))) <|
  M.bind (zdA aa ab ac ae (aa.getD s default)) fun r5 =>
  bif !r5 then (
  M.fail)
  else (
  M.grd ((!(decide (0<(s:Int)))||(decide ((-9223372036854775808:Int)<=((s:Int)-1))&&decide (((s:Int)-1)<=(9223372036854775807:Int))))) <|
  M.grd ((!(decide (0<(s:Int)))||(decide ((0:Int)<=((s:Int)-1))&&decide (((s:Int)-1)<(aa.length:Int))))) <|
  bif ((decide (0<(s:Int)))&&(decide (((aa.getD s default).year)<=((aa.getD (Int.toNat ((s:Int)-1)) default).year)))) then (
  M.fail)
  else (
  M.pure (.inl (s+1)))))
  else (
  M.pure (.inr ()))
def zdu (ae:List Yr) (ab:List Old10) (ac aa:Int):M Int :=
  M.bind (zag ac 0 aa) fun r2 =>
  M.bind (M.opt (!(!r2)) (zag aa 0 3000) false) fun r3 =>
  M.grd ((!(!((!r2)||(!r3)))||(decide ((-9223372036854775808:Int)<=(aa-ac))&&decide ((aa-ac)<=(9223372036854775807:Int))))) <|
  bif (((!r2)||(!r3))||(decide (1000<=(aa-ac)))) then (
  M.fail)
  else (
  M.bind (M.opt (!((decide (60<(ae.length:Int)))||(decide (8<(ab.length:Int))))) (zdb ab (fun ah=>zc4 ah)) false) fun r4 =>
  bif (((decide (60<(ae.length:Int)))||(decide (8<(ab.length:Int))))||(!r4)) then (
  M.fail)
  else (
  M.bind (M.iter (zdC ae ab ac aa) 0) fun (_:Unit) =>
  M.bind (zdb ab (fun ah=>zdd ah ae ab ac aa)) fun r6 =>
  bif !r6 then (
  M.fail)
  else (
  M.pure 0)))
theorem zfK {R aI al aJ ah}(aa ac ai ab)(aL:Reads R aI)(ao:Sl aI al aa)(aq:Reads R aJ)(am:Sl aJ ah ac){r}(hM:(zdu aa ac ai ab).Ends r)(w)(H:St w w [] R):Ret Tryz.prog 161 #[.agg #[al,ah,I ai,I ab]] w fun v w'=>∃ y0,y0=r/\v=I y0/\St w w' [] R:=by
 refine ret_of_W Tryz.func161 rfl rfl rfl ?_;refine kB 2 ?_;intro aj bf H;refine kC 14 @zaj ?_;intro bg r2 hM H;refine kg 4 ?_;obtain ⟨r3,aM,hM⟩:=M.e_bind hM;refine t_gcall (!(!r2)) (gy_f rfl) cq (B r3) (fun _=>[I ab,I 0,I 3000]) (fun hg=>lst3 (gd_of hg (I ab)) rfl rfl) H (fun hg=>(zaj ab 0 3000 (M.e_opt aM hg) _ (H.give (A:=[]) rfl)).mono fun v_ w_ ⟨y_,au,av,H_⟩=>by subst au; exact ⟨av,H.via H_⟩) ?_;intro bh H;obtain ⟨aw,hM⟩:=M.e_grd hM;replace aw:=M.imp_of aw;simp only [Bool.and_eq_true,decide_eq_true_eq] at aw;refine kI 12 ?_ ?_
 ·intro aN hM;exact (M.e_fail hM).elim
 intro aN hM;have bi:=(ao).len_le;have bj:=(am).len_le;refine kg 16 ?_;obtain ⟨r4,aO,hM⟩:=M.e_bind hM;refine t_gcall (!((decide (60<(aa.length:Int)))||(decide (8<(ac.length:Int))))) (gy_f rfl) cq (B r4) (fun _=>[ah,.func (.func 196) #[] #[]]) (fun hg=>lst2 (gd_of hg (ah)) (gd_of hg (.func (.func 196) #[] #[]))) H (fun hg=>(zdE ac (fun ae=>zc4 ae) (aq.app _) am ⟨196,[],rfl,cq,fun ak aP aQ ax ae aR ay az aA aB=>by obtain ⟨aS,rfl,aC⟩:=Old10_arg aA; exact (ze1 ae az aC aB ak (St.refl ay)).mono fun ax ak ⟨aT,aD,aE,aF⟩=>by subst aD; exact ⟨aE,aF⟩⟩ (M.e_opt aO hg) _ (H.give (A:=[]) rfl)).mono fun v_ w_ ⟨y_,au,av,H_⟩=>by subst au; exact ⟨av,H.via H_⟩) ?_;intro bm H;refine kI 4 ?_ ?_
 ·intro aU hM;exact (M.e_fail hM).elim
 intro aU hM;have bn:=(ao).len_le;refine kg 10 ?_;obtain ⟨aV,aK,aW⟩:=M.e_bind hM;obtain ⟨bo,aK⟩:=M.e_iter aK;refine W.loop (fun m σ W=>∃ (s:Nat) (ρ:Env),σ=upds ρ [(1,Pq aj),(46,al),(47,I (aa.length:Int)),(48,I (s:Int))]/\M.iterN (zdC aa ac ai ab) m s=some aV/\St w W [cBlk aj [al,ah,I ai,I ab] 90] R) ?_ ?_
 ·exact kY
 rintro bp σ br ⟨s,ρ,rfl,aX,H⟩;obtain ⟨bt,bu,bv,hM,aY⟩:=M.e_iterN aX;refine kI 5 ?_ ?_
 ·intro aZ hM;obtain ⟨bw,hM⟩:=M.e_gq hM;refine kA 8 ?_;intro bx bz H;refine kS 1 ?_;intro bA H;refine kg 6 ?_;refine s_val (x_mi (v:=.agg #[I ((aa.getD s default).year),I ((aa.getD s default).lo),I ((aa.getD s default).hi)]) Tryz.underlying173 (by intro m h_; cases h_) rfl) ?_;refine kC 0 @zeM ?_;intro bB r5 hM H;refine kI 3 ?_ ?_
  ·intro a7 hM;exact (M.e_fail hM).elim
  intro a7 hM;refine kD 1 [0,1] [] ?_;intro bC H;obtain ⟨aG,hM⟩:=M.e_grd hM;replace aG:=M.imp_of aG;simp only [Bool.and_eq_true,decide_eq_true_eq] at aG;obtain ⟨aH,hM⟩:=M.e_grd hM;replace aH:=M.imp_of aH;simp only [Bool.and_eq_true,decide_eq_true_eq] at aH;refine kI 16 ?_ ?_
  ·intro a8 hM;exact (M.e_fail hM).elim
  intro a8 hM;exact kXp 5 [1]
 intro aZ hM;refine W.exit ?_;obtain rfl:=M.e_inr hM aY;replace hM:=aW;refine kg 5 ?_;refine s_val (x_mf (fs:=[]) (cs:=[Pq aj]) rfl rfl) ?_;obtain ⟨bD,ba,hM⟩:=M.e_bind hM;refine s_call cq [ah,.func (.func 199) #[] #[Pq aj]] rfl (zdE ac (fun ae=>zdd ae aa ac ai ab) (aq.app _) am ⟨199,[Pq aj],rfl,cq,fun ak aP aQ ax ae aR ay az aA aB=>by obtain ⟨aS,rfl,aC⟩:=Old10_arg aA; exact (ze2 ae aa ac ai ab az aC (Reads.app (aL.app _) _) ao (Reads.app (aq.app _) _) am (Has.app (Has.here (k:=0) rfl) _) aB ak (St.refl ay)).mono fun ax ak ⟨aT,aD,aE,aF⟩=>by subst aD; exact ⟨aE,aF⟩⟩ ba _ (H.gt 1)) ?_;rintro _ bE ⟨r6,rfl,rfl,bb⟩;replace H:=H.bk bb;refine kI 2 ?_ ?_
 ·intro bc hM;exact (M.e_fail hM).elim
 intro bc hM;refine kg 5 ?_;exact rt

def zcD (s:List Int) (v:Int):Nat->M (Nat ⊕ (Int ⊕ Unit)):=fun s2 =>
  bif decide ((s2:Int)<(s.length:Int)) then (
  M.grd (decide ((s2:Int)<(s.length:Int))) <|
  bif v==(s.getD s2 0) then (
  M.pure (.inr (.inl (s2:Int))))
  else (
  M.pure (.inl (s2+1))))
  else (
  M.pure (.inr (.inr ())))
def zcV (s:List Int) (v:Int):M Int :=
  M.bind (M.iter (zcD s v) 0) fun x_=>match x_ with
  | (.inl s3)=>(
  M.pure s3)
  | (.inr (_:Unit))=>(
  M.pure (-1))
theorem zeU {R ab aa}(s v)(ao:Reads R ab)(ai:Sl ab aa s){r}(hM:(zcV s v).Ends r)(w)(H:St w w [] R):Ret Tryz.prog 165 #[aa,I v] w fun v w'=>∃ y0,y0=r/\v=I y0/\St w w' [] R:=by
 refine ret_of_W Tryz.func165 rfl rfl rfl ?_;have aq:=(ai).len_le;refine kg 12 ?_;obtain ⟨aj,ac,ae⟩:=M.e_bind hM;obtain ⟨au,ac⟩:=M.e_iter ac;refine W.loop (fun m σ W=>∃ (s2:Nat) (ρ:Env),σ=upds ρ [(0,aa),(1,I v),(7,I (s.length:Int)),(8,I (s2:Int))]/\M.iterN (zcD s v) m s2=some aj/\St w W [] R) ?_ ?_
 ·exact kY
 rintro av σ aw ⟨s2,ρ,rfl,ak,H⟩;obtain ⟨ax,ay,az,hM,ah⟩:=M.e_iterN ak;refine kI 5 ?_ ?_
 ·intro al hM;obtain ⟨aA,hM⟩:=M.e_gq hM;refine kI 17 ?_ ?_
  ·intro am hM;refine kg 5 ?_;obtain rfl:=M.e_inr hM ah;replace hM:=ae;exact rt
  intro am hM;exact kX 5
 intro al hM;refine W.exit ?_;obtain rfl:=M.e_inr hM ah;replace hM:=ae;refine kg 4 ?_;exact rt

def zbo (s:List Int) (v:Int):M Bool :=
  M.bind (zcV s v) fun r2 =>
  M.pure (decide (0<=r2))
theorem zeh {R aa ab}(s v)(ac:Reads R aa)(ae:Sl aa ab s){r}(hM:(zbo s v).Ends r)(w)(H:St w w [] R):Ret Tryz.prog 126 #[ab,I v] w fun v w'=>∃ y0,y0=r/\v=B y0/\St w w' [] R:=by
 refine ret_of_W Tryz.func126 rfl rfl rfl ?_;refine kC 8 @zeU ?_;intro ah r2 hM H;refine kg 3 ?_;exact rt

def zdM (aa:Int):((List (Int × Span)) × Int)->M (((List (Int × Span)) × Int) ⊕ (List (Int × Span))):=fun (mp,year) =>
  bif decide (year<=aa) then (
  M.gi (year+1) <|
  M.pure (.inl (setM mp (year:Int) (⟨(0:Int),(2000:Int)⟩:Span),year+1)))
  else (
  M.pure (.inr mp))
def zei (aa:List Yr):((List (Int × Span)) × Nat)->M (((List (Int × Span)) × Nat) ⊕ (List (Int × Span))):=fun (ab,s) =>
  bif decide ((s:Int)<(aa.length:Int)) then (
  M.grd (decide ((s:Int)<(aa.length:Int))) <|
  bif !(decide ((aa.getD s default)=(⟨((aa.getD s default).year:Int),(((lookM ab ((aa.getD s default).year:Int)).getD default).lo:Int),(((lookM ab ((aa.getD s default).year:Int)).getD default).hi:Int)⟩:Yr))) then (
  M.pure (.inl (setM ab ((aa.getD s default).year:Int) (⟨((aa.getD s default).lo:Int),((aa.getD s default).hi:Int)⟩:Span),s+1)))
  else (
  M.fail))
  else (
  M.pure (.inr ab))
def zeo (aa:List Old10) (ky:Int):(Nat × Int × Int)->M ((Nat × Int × Int) ⊕ (Int × Int)):=fun (s2,s3,s4) =>
  bif decide ((s2:Int)<(aa.length:Int)) then (
  M.grd (decide ((s2:Int)<(aa.length:Int))) <|
  M.bind (zag ky ((aa.getD s2 default).src) ((aa.getD s2 default).dst)) fun r3 =>
  bif !r3 then (
  M.pure (.inl (s2+1,s3,s4)))
  else (
  M.bind (zbo ((aa.getD s2 default).passed) ky) fun r4 =>
  bif r4 then (
  M.pure (.inl (s2+1,max s3 ((aa.getD s2 default).stage),s4)))
  else (
  M.gi (((aa.getD s2 default).stage)-1) <|
  M.pure (.inl (s2+1,s3,min s4 (((aa.getD s2 default).stage)-1))))))
  else (
  M.pure (.inr (s3,s4)))
def zdZ (aa:List Old10) (ky:Int) (vl:Span):M Span :=
  M.bind (M.iter (zeo aa ky) (0,(vl).lo,(vl).hi)) fun (s5,s6) =>
  M.pure (⟨(s5:Int),(s6:Int)⟩:Span)
def zen (ac:List Yr) (ae:List Old10) (aa ab:Int):M (Int × Int × (List (Int × Span)) × Int) :=
  M.bind (zdu ac ae aa ab) fun r2 =>
  bif r2 != 0 then (
  M.fail)
  else (
  M.bind (M.iter (zdM ab) (([]:List (Int × Span)),aa)) fun ah =>
  M.bind (M.iter (zei ac) (ah,0)) fun ai =>
  M.bind (M.mapL (zdZ ae) ai) fun mq =>
  M.pure (aa,ab,mq,0))
theorem zfg {R aA ab aB ac}(aa am ah ae)(br:Reads R aA)(aM:Sl aA ab aa)(aN:Reads R aB)(aC:Sl aB ac am){r}(hM:(zen aa am ah ae).Ends r)(w)(H:St w w [] R):Ret Tryz.prog 113 #[.agg #[ab,ac,I ah,I ae]] w fun v w'=>∃ y0 y1 y2 y3 aD aE,(y0,y1,y2,y3)=r/\v = .tuple #[Pq aD,I y3]/\St w w' [cBlk aD [ab,ac,I y0,I y1,.map (some aE)] 218,cMl I encSp aE y2] R:=by
 refine ret_of_W Tryz.func113 rfl rfl rfl ?_;refine kB 2 ?_;intro ak bt H;refine kC 7 @zfK ?_;intro bu r2 hM H;refine kI 7 ?_ ?_
 ·intro aO hM;exact (M.e_fail hM).elim
 intro aO hM;refine kg 4 ?_;refine t_mkMl (κ:=Int) (ν:=Span) I encSp H ?_;intro ai bv H;refine kB 1 ?_;intro al bw H;refine kg 10 ?_;obtain ⟨aP,aF,aQ⟩:=M.e_bind hM;obtain ⟨aG,aF⟩:=M.e_iter aF;refine W.loop (fun m σ W=>∃ (mp:List (Int × Span)) (year:Int) (ρ:Env),σ=upds ρ [(1,Pq ak),(5,Pq al),(6,I year)]/\M.iterN (zdM ae) m (mp,year)=some aP/\St w W [cBlk al [ab,ac,I ah,I ae,.map (some ai)] 218,cMl I encSp ai mp,cBlk ak [ab,ac,I ah,I ae] 90] R) ?_ ?_
 ·exact kY
 rintro bx σ bz ⟨mp,year,ρ,rfl,aR,H⟩;obtain ⟨bA,bB,bC,hM,aS⟩:=M.e_iterN aR;refine kI 8 ?_ ?_
 ·intro aT hM;refine kG 10 ?_;refine t_putMl (i:=1) (kenc:=I) (venc:=encSp) (m:=mp) (k:=(year:Int)) (v:=(⟨(0:Int),(2000:Int)⟩:Span)) (L':=[cBlk al [ab,ac,I ah,I ae,.map (some ai)] 218,cMl I encSp ai (setM mp (year:Int) (⟨(0:Int),(2000:Int)⟩:Span)),cBlk ak [ab,ac,I ah,I ae] 90]) keyIntSp Tryz.underlying216 H rfl rfl rfl rfl rfl ?_;intro bD H;obtain ⟨bE,hM⟩:=M.e_gq hM;exact kX 6
 intro aT hM;refine W.exit ?_;obtain rfl:=M.e_inr hM aS;replace hM:=aQ;have bF:=(aM).len_le;refine kg 9 ?_;obtain ⟨aU,aH,aV⟩:=M.e_bind hM;obtain ⟨aG,aH⟩:=M.e_iter aH;refine W.loop (fun m σ W=>∃ (aj:List (Int × Span)) (s:Nat) (ρ:Env),σ=upds ρ [(1,Pq ak),(5,Pq al),(38,ab),(39,I (aa.length:Int)),(40,I (s:Int))]/\M.iterN (zei aa) m (aj,s)=some aU/\St w W [cBlk al [ab,ac,I ah,I ae,.map (some ai)] 218,cMl I encSp ai aj,cBlk ak [ab,ac,I ah,I ae] 90] R) ?_ ?_
 ·exact kY
 rintro bG σ bH ⟨aj,s,ρ,rfl,aW,H⟩;obtain ⟨bI,bJ,bK,hM,aX⟩:=M.e_iterN aW;refine kI 5 ?_ ?_
 ·intro aY hM;obtain ⟨bL,hM⟩:=M.e_gq hM;refine kA 7 ?_;intro aZ bM H;refine ksw ?_;intro bN H;refine kD 2 [0,1,2,3] [10,11] ?_;intro bO H;refine kg 8 ?_;refine d_q rfl (fun w' H=>q_look (kenc:=I) (venc:=encSp) (f:=lookM aj) (k:=((aa.getD s default).year:Int)) (v:=.agg #[I (((lookM aj ((aa.getD s default).year:Int)).getD default).lo),I (((lookM aj ((aa.getD s default).year:Int)).getD default).hi)]) keyIntSp Tryz.underlying216 Al32.h rfl rfl (mlMap (H.get (k:=2) rfl)) false (by rw [if_neg (by decide),span_val])) ?_;refine kA 2 ?_;intro a7 bP H;refine kN ?_;refine kS 1 ?_;intro bQ H;refine kN ?_;refine kg 5 ?_;refine s_val (x_neS (eqT173 (aa.getD s default) (⟨((aa.getD s default).year:Int),(((lookM aj ((aa.getD s default).year:Int)).getD default).lo:Int),(((lookM aj ((aa.getD s default).year:Int)).getD default).hi:Int)⟩:Yr) _) gdT173 rfl rfl) ?_;refine kI 1 ?_ ?_
  ·intro a8 hM;refine kD 0 [0,1,2,4] [8] ?_;intro bR H;refine kG 9 ?_;refine t_putMl (i:=3) (kenc:=I) (venc:=encSp) (m:=aj) (k:=((aa.getD s default).year:Int)) (v:=(⟨((aa.getD s default).lo:Int),((aa.getD s default).hi:Int)⟩:Span)) (L':=[cBlk a7 [I ((aa.getD s default).year),I (((lookM aj ((aa.getD s default).year:Int)).getD default).lo),I (((lookM aj ((aa.getD s default).year:Int)).getD default).hi)] 173,cBlk aZ [I ((aa.getD s default).year),I ((aa.getD s default).lo),I ((aa.getD s default).hi)] 173,cBlk al [ab,ac,I ah,I ae,.map (some ai)] 218,cMl I encSp ai (setM aj ((aa.getD s default).year:Int) (⟨((aa.getD s default).lo:Int),((aa.getD s default).hi:Int)⟩:Span)),cBlk ak [ab,ac,I ah,I ae] 90]) keyIntSp Tryz.underlying216 H rfl rfl rfl rfl rfl ?_;intro bS H;refine kN ?_;refine d_nil ?_;replace H:=H.pk [2,3,4];exact kX 4
  intro a8 hM;exact (M.e_fail hM).elim
 intro aY hM;refine W.exit ?_;obtain rfl:=M.e_inr hM aX;replace hM:=aV;refine kg 7 ?_;refine t_range (i:=1) (kenc:=I) (venc:=encSp) Tryz.underlying216 H rfl rfl ?_;intro au bT H;replace H:=H.nf;refine kg 2 ?_;obtain ⟨mq,aI,hM⟩:=M.e_bind hM;refine W.loop (fun c_ σ W=>∃ (ao:List (Int × Span)) (aq:List Bool) (aJ:Option Nat) (ρ:Env),σ=upds ρ [(1,Pq ak),(5,Pq al),(70,Pq au)]/\c_=aq.count true/\ItR aj mq ao aq/\St w W [cBlk al [ab,ac,I ah,I ae,.map (some ai)] 218,cIt I encSp ai au ao aq aJ,cBlk ak [ab,ac,I ah,I ae] 90] R) ?_ ?_
 ·exact ⟨_,_,_,_,_,jQ,rfl,ItR.init aI,H⟩
 rintro c_ σ ba ⟨ao,aq,aJ,ρ,rfl,rfl,aw,H⟩;refine kg 2 ?_;refine t_next (i:=1) H rfl rfl (fun bb=>?_) (fun j_ ky vl bU ax av H=>?_)
 ·refine kg 3 ?_;refine W.cond false rfl (fun h_=>absurd h_ (by decide)) (fun _=>?_);refine W.exit ?_;obtain rfl:=aw.fin bb;replace H:St w ba [cBlk al [ab,ac,I ah,I ae,.map (some ai)] 218,cMl I encSp ai ao,cBlk ak [ab,ac,I ah,I ae] 90] R:=H.itEnd (i:=1) rfl rfl;exact kR 6 [0,1]
 refine kg 3 ?_;refine W.cond true rfl (fun _=>?_) (fun h_=>absurd h_ (by decide));refine W.skip ?_;obtain ⟨bV,hM,bc⟩:=aw.at_ aI ax av;simp only [zdZ] at hM;replace H:=H.nf;refine kg 3 ?_;refine s_val (x_entry (v:=vl) (H.get (k:=1) rfl) av rfl) ?_;refine kA 2 ?_;intro ay bW H;refine kS 1 ?_;intro bX H;have bY:=(aC).len_le;refine kg 10 ?_;obtain ⟨bf,aK,bg⟩:=M.e_bind hM;obtain ⟨aG,aK⟩:=M.e_iter aK;refine W.loop (fun m σ W=>∃ (s2:Nat) (s3:Int) (s4:Int) (ρ:Env),σ=upds ρ [(1,Pq ak),(5,Pq al),(10,I ky),(11,Pq ay),(70,Pq au),(77,ac),(78,I (am.length:Int)),(79,I (s2:Int))]/\M.iterN (zeo am ky) m (s2,s3,s4)=some bf/\St w W [cBlk ay [I s3,I s4] 32,cBlk al [ab,ac,I ah,I ae,.map (some ai)] 218,cIt I encSp ai au ao (aq.set j_ false) (some j_),cBlk ak [ab,ac,I ah,I ae] 90] R) ?_ ?_
 ·exact kY
 rintro bZ σ b4 ⟨s2,s3,s4,ρ,rfl,bh,H⟩;obtain ⟨b5,b6,b7,hM,bi⟩:=M.e_iterN bh;refine kI 5 ?_ ?_
 ·intro bj hM;obtain ⟨b8,hM⟩:=M.e_gq hM;refine kg 6 ?_;obtain ⟨aL,bm,az⟩:=Old10_atA aC (i:=(s2:Int)) (by omega) (by omega);replace az:Sl _ aL (am.getD s2 default).passed:=az;have b9:=az.len_le;refine s_val (x_ld (v:=.agg #[I ((am.getD s2 default).src),I ((am.getD s2 default).dst),I ((am.getD s2 default).stage),aL]) rfl (ld_ag Ag175.h Sz175.h (At.mono bm (aN.at H)))) ?_;refine kal ?_;intro cb cc H;refine kS 0 ?_;intro cd H;refine kC 9 @zaj ?_;intro ce r3 hM H;refine kI 3 ?_ ?_
  ·intro bn hM;refine W.exit ?_;exact kXp 4 [1,2,3,4]
  intro bn hM;refine kC 5 @zeh ?_;intro cf r4 hM H;refine kI 2 ?_ ?_
  ·intro bo hM;refine kS 7 ?_;intro cg H;exact kXp 5 [1,2,3,4]
  intro bo hM;obtain ⟨ch,hM⟩:=M.e_gq hM;refine kS 8 ?_;intro ck H;exact kXp 5 [1,2,3,4]
 intro bj hM;refine W.exit ?_;obtain rfl:=M.e_inr hM bi;replace hM:=bg;refine kD 0 [0,1,3] [6] ?_;intro cn H;refine kG 7 ?_;refine t_putIt (i:=2) (j:=j_) (kenc:=I) (venc:=encSp) (m:=ao) (k:=ky) (v:=(⟨(s3:Int),(s4:Int)⟩:Span)) (L':=[cBlk ay [I s3,I s4] 32,cBlk al [ab,ac,I ah,I ae,.map (some ai)] 218,cIt I encSp ai au (ao.set j_ (ky,(⟨(s3:Int),(s4:Int)⟩:Span))) (aq.set j_ false) (some j_),cBlk ak [ab,ac,I ah,I ae] 90]) keyIntSp Tryz.underlying216 H rfl rfl av rfl rfl rfl ?_;intro cp H;refine kN ?_;refine d_nil ?_;have bp:=M.e_pure hM;subst bp;exact ⟨_,ItR.less ax,_,_,_,_,jQ,rfl,aw.step ax av bc,(H.pk [1,2,3])⟩

def zdm (ac:List Yr) (ae:List Old10) (ah ai:Int) (aj:List (Int × Span)) (aa ab:Int):M (Int × Int) :=
  M.pure (aa,ab)
theorem zeb {R aa ab ac ae ah ai}(aj ak al am ao aq au)(aB:Reads R ab)(aC:Sl ab ac aj)(aD:Reads R ae)(aE:Sl ae ah ak)(aF:Has R (cMl I encSp ai ao))(aG:Has R (cBlk aa [ac,ah,I al,I am,.map (some ai)] 218)){r}(hM:(zdm aj ak al am ao aq au).Ends r)(w)(H:St w w [] R):Ret Tryz.prog 67 #[Pq aa,I aq,I au] w fun v w'=>∃ y0 y1 av aw ax,(y0,y1)=r/\v = .func (.func 116) #[] #[Pq av,Pq aw,Pq ax]/\St w w' [cBlk av [I y0] 3,cBlk aw [I y1] 3,cBlk ax [Pq aa] 161] R:=by
 refine ret_of_W Tryz.func67 rfl rfl rfl ?_;refine kB 2 ?_;intro ay aH H;refine kbx ?_;intro az aI H;refine kbx ?_;intro aA aJ H;refine kg 4 ?_;refine s_val (x_mf (fs:=[]) (cs:=[Pq az,Pq aA,Pq ay]) rfl rfl) ?_;exact kR 2 [1,0,2]

def zdi {T_:Type} (aa:T_->(Int × Span)->M (Bool × T_)) (ab:Int) (ac:List (Int × Span)):(Int × T_)->M ((Int × T_) ⊕ T_):=fun (year,t2) =>
  bif decide (year<=ab) then (
  M.bind (aa t2 (year,((lookM ac (year:Int)).getD default))) fun (go,t) =>
  bif !go then (
  M.fail)
  else (
  M.gi (year+1) <|
  M.pure (.inl (year+1,t))))
  else (
  M.pure (.inr t2))
def zaH {T_:Type} (aa:T_->(Int × Span)->M (Bool × T_)) (t_:T_) (ab ac:Int) (ah:List Yr) (ai:List Old10) (aj ak:Int) (ae:List (Int × Span)):M T_ :=
  M.bind (M.iter (zdi aa ac ae) (ab,t_)) fun t3 =>
  M.pure t3
theorem zec {R:List Chunk} {T_:Type} {Y_:T_->List Chunk->Prop} {ab:Value} {ac:List Chunk} {am:Nat} {ae:Nat} {ah:Nat} {ao:Nat} {aq:Cells} {au:Value} {av:Cells} {aw:Value} {ax:Nat} (ai:T_->(Int × Span)->M (Bool × T_)) (t_:T_) (aj:Int) (ak:Int) (ay:List Yr) (az:List Old10) (aA:Int) (aB:Int) (aa:List (Int × Span)) (aD:YieldC Tryz.prog R arISpan Y_ ab ai) (aE:Y_ t_ ac) (aR:Has R (cBlk am [I aj] 3)) (aS:Has R (cBlk ae [I ak] 3)) (aT:Reads R aq) (aU:Sl aq au ay) (aV:Reads R av) (aW:Sl av aw az) (aF:Has R (cMl I encSp ax aa)) (aX:Has R (cBlk ao [au,aw,I aA,I aB,.map (some ax)] 218)) (aY:Has R (cBlk ah [Pq ao] 161)) {r:T_} (hM:(zaH ai t_ aj ak ay az aA aB aa).Ends r) (w:World) (H:St w w [cAll ac] R):Ret Tryz.prog 116 #[ab,Pq am,Pq ae,Pq ah] w fun v w'=>∃ (y0:T_) (Ls0:List Chunk),y0=r/\v = .tuple #[]/\St w w' [cAll Ls0] R/\Y_ y0 Ls0:=by
 refine ret_of_W Tryz.func116 rfl rfl rfl ?_;refine kg 6 ?_;obtain ⟨aG,al,aH⟩:=M.e_bind hM;obtain ⟨aZ,al⟩:=M.e_iter al;refine W.loop (fun m σ W=>∃ (year:Int) (t2:T_) (Ls_t2:List Chunk) (ρ:Env),σ=upds ρ [(0,ab),(2,Pq ae),(3,Pq ah),(5,I year)]/\M.iterN (zdi ai ak aa) m (year,t2)=some aG/\St w W [cAll Ls_t2] R/\Y_ t2 Ls_t2) ?_ ?_
 ·exact ⟨_,aj,t_,ac,_,jQ,al,H,aE⟩
 rintro a7 σ a8 ⟨year,t2,Ls_t2,ρ,rfl,aI,H,hY_t2⟩;obtain ⟨aJ,aK,ba,hM,aC⟩:=M.e_iterN aI;refine kI 7 ?_ ?_
 ·intro aL hM;refine kg 12 ?_;refine s_val (q_look (kenc:=I) (venc:=encSp) (f:=lookM aa) (k:=(year:Int)) (v:=.agg #[I (((lookM aa (year:Int)).getD default).lo),I (((lookM aa (year:Int)).getD default).hi)]) keyIntSp Tryz.underlying216 Al32.h rfl rfl (mlMap (aF.at H)) false (by rw [if_neg (by decide),span_val])) ?_;obtain ⟨⟨go,t⟩,aM,hM⟩:=M.e_bind hM;refine t_yield (L:=[]) H aD hY_t2 rfl [I year,.agg #[I (((lookM aa (year:Int)).getD default).lo),I (((lookM aa (year:Int)).getD default).hi)]] rfl (year,((lookM aa (year:Int)).getD default)) Reads.none rfl aM ?_;intro aN bb aO H;replace H:=H.nf;refine kI 2 ?_ ?_
  ·intro aP hM;exact (M.e_fail hM).elim
  intro aP hM;obtain ⟨bc,hM⟩:=M.e_gq hM;refine kg 6 ?_;exact ⟨aJ,aK,year+1,t,aN,_,jQ,M.e_inl hM aC,H,aO⟩
 intro aL hM;refine W.exit ?_;obtain rfl:=M.e_inr hM aC;replace hM:=aH;have aQ:=M.e_pure hM;exact ⟨_,resE_tmp0 rfl,⟨t2,Ls_t2,aQ,rfl,H,hY_t2⟩⟩
theorem zeP {T_:Type} {n_:Nat} {y y':T_->(Int × Span)->M (Bool × T_)} (h:∀ s a,M.LeN n_ (y s a) (y' s a)) (t_:T_) (aa ab:Int) (ac:List Yr) (ae:List Old10) (ah ai:Int) (aj:List (Int × Span)):M.LeN n_ (zaH y t_ aa ab ac ae ah ai aj) (zaH y' t_ aa ab ac ae ah ai aj):=by
  simp only [zaH,zdi]
  repeat' (first | refine M.le_grd ?_ | refine M.le_if ?_ ?_ | refine M.le_bind ?_ (fun x=>?_) | refine M.le_opt ?_ | refine M.le_iter (fun x=>?_) _ | exact h _ _ | exact M.le_same _ _ | (rename_i x; cases x) | (rename_i x; obtain ⟨_,_⟩:=x))

def zaN  : Unit->(Int × Span)->M (Unit ⊕ Unit):=fun (_:Unit) (x,x2) =>
  bif decide (x2.hi<x2.lo) then (
  M.fail)
  else (
  M.pure (.inl ()))
def zcU (ac:List Yr) (ae:List Old10) (aa ab:Int) (ah:List (Int × Span)):M (Int × Bool) :=
  M.bind (zdm ac ae aa ab ah aa ab) fun (ai,aj) =>
  M.bind (zaH (M.yl zaN) (.inl ()) ai aj ac ae aa ab ah) fun x_=>match x_ with
  | .inl _=>(
  M.pure (0,false))
  | .inr _=>M.fail
theorem zft {R aa aF aG aH aI aJ}(aq au av aw ax)(ay:Reads R aF)(aK:Sl aF aG aq)(az:Reads R aH)(aL:Sl aH aI au)(aA:Has R (cMl I encSp aJ ax))(aB:Has R (cBlk aa [aG,aI,I av,I aw,.map (some aJ)] 218)){r}(hM:(zcU aq au av aw ax).Ends r)(w)(H:St w w [] R):Ret Tryz.prog 115 #[Pq aa] w fun v w'=>∃ y0 y1,(y0,y1)=r/\v = .tuple #[I y0,B y1]/\St w w' [] R:=by
 refine ret_of_WD Tryz.func115 rfl rfl rfl ?_;replace H:St w w [cMk ([])] R:=H.mk0;have aW:=aK.len_le;have aX:=aL.len_le;unfold zcU at hM;refine WD.seq<|WD.of ?_;refine kg 4 ?_;refine WD.scope<|WD.seq<|WD.of ?_;refine kA 1 ?_;intro ak aY H;refine kal ?_;intro al aZ H;refine ksw ?_;intro a7 H;refine ksw ?_;intro a8 H;refine s_nil<|WD.seq<|WD.of ?_;refine W.label<|WD.seq<|WD.seq<|WD.of ?_;refine kD 0 [0,1,2] [11] ?_;intro ba H;refine kC 12 @zeb ?_;intro bb ab ac ae ah ai hM H;refine kN ?_;refine d_nil<|WD.block ?_;obtain ⟨bc,aO,hM⟩:=M.e_bind hM;refine WD.range (L:=[cBlk ae [I ab] 3,cBlk ah [I ac] 3,cBlk ai [Pq aa] 161,cBlk al [B false] 4,cBlk ak [I 0] 3]) [Pq ae,Pq ah,Pq ai] (H.pk [5,0,1,2,3,4]) rfl cq ?_;intro am aC aD aP aE H
 have hYC:YieldC Tryz.prog ([cMk (aC :: ([])),cBlk ae [I ab] 3,cBlk ah [I ac] 3,cBlk ai [Pq aa] 161,cBlk al [B false] 4,cBlk ak [I 0] 3]++R) arISpan (yJ am aD (fun _ ao=>ao=[]) (fun (_:Unit) _=>False) (fun _=>.ret)) (.func (.yield am) #[] #[]) (M.yl zaN):=by
  refine YieldC.mk2 aE (fun _ ao=>ao=[]) (fun (_:Unit) _=>False) (fun _=>.ret) zaN (by rintro _ _ h_; obtain ⟨rfl⟩:=h_; rfl) (fun _ _ h_=>h_.elim) rfl (arISpan_len rfl) ?_;intro C_ bf x_ aQ;obtain ⟨x,x2⟩:=x_;obtain rfl:=aQ;intro w R aj ao s_ r aR hM H
  skip
  obtain ⟨rfl⟩:=aR;replace H:=H.nf;refine kA 5 ?_;intro aS bg H;refine ksw ?_;intro bh H;refine s_nil ?_;refine ⟨rfl,[cBlk aS [I x2.lo,I x2.hi] 32],H.pick [0,1,2,3,4,5,6] (by decide) rfl,?_⟩;clear H aj;intro w R aj H;replace ay:=ay.sub aj;replace az:=az.sub aj;replace aA:=aA.sub aj;replace aB:=aB.sub aj;replace hM:(zaN () (x,x2)).Ends r:=hM;simp only [zaN] at hM;replace H:=H.nf;refine kI 9 ?_ ?_
  ·intro aT hM;exact (M.e_fail hM).elim
  intro aT hM;refine W.skip ?_;exact ⟨(),[],(M.e_pure hM).symm,rfl,H.pick [1,2,3,4,5,6] (by decide) rfl⟩
 replace H:St w aP (cAll (cObj am (.loop aD) :: []) :: [cMk (aC :: ([])),cBlk ae [I ab] 3,cBlk ah [I ac] 3,cBlk ai [Pq aa] 161,cBlk al [B false] 4,cBlk ak [I 0] 3]) R:=St.bundleB (A:=cObj am (.loop aD) :: []) (T:=[cMk (aC :: ([])),cBlk ae [I ab] 3,cBlk ah [I ac] 3,cBlk ai [Pq aa] 161,cBlk al [B false] 4,cBlk ak [I 0] 3]) rfl (H.pk [0,1,2,3,4,5,6]);refine (zec (M.yl zaN) (.inl ()) ab ac aq au av aw ax hYC ⟨_,rfl,rfl⟩ (Has.here (k:=1) rfl) (Has.here (k:=2) rfl) (ay.app _) aK (az.app _) aL (aA.app _) (aB.app _) (Has.here (k:=3) rfl) aO _ (H.gt 6)).mono ?_;rintro vq bi ⟨aU,bj,rfl,hvq,aM,aN⟩;replace H:=H.back aM rfl;clear aM hYC;rcases aU with _ | _
 ·obtain ⟨_,rfl,rfl⟩:=aN;refine ⟨_,[cBlk ae [I ab] 3,cBlk ah [I ac] 3,cBlk ai [Pq aa] 161,cBlk al [B false] 4,cBlk ak [I 0] 3],H.unbundle.pick [0,1,2,3,4,5,6] (by decide) rfl,aE.nb,?_⟩;intro bm H;rw [aE.pd];replace H:=H.nf
  try simp only []
  replace H:=H.pk [0,4,5];refine WD.seq<|WD.of ?_;refine kD 0 [0,1,2] [] ?_;intro bn H;refine kg 5 ?_;replace H:=H.pk [0];refine WD.of ?_;refine W.ret ?_;refine bodyD_r (H.pk [0]) ?_;intro bo H;replace H:=H.nf
  have aV:=M.e_pure hM;exact ⟨_,resE_tmp2 rfl,⟨0,false,aV,rfl,H⟩⟩
 obtain ⟨_,_,h_⟩:=aN; exact h_.elim

end Go.Proofs.YtbgoclcmgbpckaaGreat
end
