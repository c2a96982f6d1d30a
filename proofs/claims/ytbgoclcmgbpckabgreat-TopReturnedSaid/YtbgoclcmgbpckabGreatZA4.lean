/- Part 4 of the texts on which the proof rests. Conditions: none. -/
import Derived.Test.YtbgoclcmgbpckabGreatZA3
set_option linter.unusedVariables false
set_option linter.unusedSimpArgs false
set_option linter.unusedSectionVars false
section
set_option maxRecDepth 100000
set_option maxHeartbeats 16000000
namespace Go.Proofs.YtbgoclcmgbpckabGreat
open Go Go.Nm
attribute [local irreducible] gd execOp SL SLD SLT WR
def zeA (lo hi:Int):M (Int × Int) :=
  M.pure (lo,hi)
theorem zgq {R}(lo hi){r}(hM:(zeA lo hi).Ends r)(w)(H:St w w [] R):Ret Tryz.prog 132 #[I lo,I hi] w fun v w'=>∃ y0 y1,(y0,y1)=r/\v = .agg #[I y0,I y1]/\St w w' [] R:=by
 refine ret_of_W Tryz.func132 rfl rfl rfl ?_;refine kA 2 ?_;intro aa ab H;refine kS 6 ?_;intro ac H;exact kR 1 []

def zdm (lo hi:Int):M (Bool × Int × Int) :=
  M.bind (zeA lo hi) fun (r0,r1) =>
  M.pure (true,r0,r1)
theorem zeI {R}(lo hi){r}(hM:(zdm lo hi).Ends r)(w)(H:St w w [] R):Ret Tryz.prog 85 #[I lo,I hi] w fun v w'=>∃ y0 y1 y2,(y0,y1,y2)=r/\v = .agg #[B y0,I y1,I y2]/\St w w' [] R:=by
 refine ret_of_W Tryz.func85 rfl rfl rfl ?_;refine kA 2 ?_;intro aa ab H;refine kC 5 @zgq ?_;intro ac r0 r1 hM H;refine kS 1 ?_;intro ae H;exact kR 1 []

def zdM (aa:Int):M (Int × Int × (List DVal)) :=
  M.bind (zdm 20 30) fun (r0,r1,r2) =>
  M.bind (zdm aa 90) fun (ab,ac,ae) =>
  M.pure (10,5,([(⟨r0,(r1:Int),(r2:Int)⟩:DVal),(⟨false,(0:Int),(0:Int)⟩:DVal),(⟨false,(0:Int),(0:Int)⟩:DVal),(⟨ab,(ac:Int),(ae:Int)⟩:DVal)]))
theorem zfF {R}(aa){r}(hM:(zdM aa).Ends r)(w)(H:St w w [] R):Ret Tryz.prog 42 #[I aa] w fun v w'=>∃ y0 y1 y2 u0,(y0,y1,y2)=r/\v = .agg #[I y0,I y1,u0]/\St w w' [cOwn (α:=DVal) 189 u0 y2] R:=by
 refine ret_of_W Tryz.func42 rfl rfl rfl ?_;refine kA 2 ?_;intro ah ai H;refine kC 3 @zeI ?_;intro aj r0 r1 r2 hM H;refine kC 3 @zeI ?_;intro ak ab ac ae hM H;refine kL 0 (α:=DVal) [⟨r0,r1,r2⟩,⟨false,0,0⟩,⟨false,0,0⟩,⟨ab,ac,ae⟩] ?_;intro al am H;refine kS 1 ?_;intro ao H;exact kR 1 [0]

def zaR (lo hi:Int):M (Int × Int) :=
  M.pure (lo,hi)
theorem za7 {R}(lo hi){r}(hM:(zaR lo hi).Ends r)(w)(H:St w w [] R):Ret Tryz.prog 91 #[I lo,I hi] w fun v w'=>∃ y0 y1,(y0,y1)=r/\v = .agg #[I y0,I y1]/\St w w' [] R:=by
 refine ret_of_W Tryz.func91 rfl rfl rfl ?_;refine kA 2 ?_;intro aa ab H;refine kS 6 ?_;intro ac H;exact kR 1 []

def zew (lo hi:Int):M ((List Span) × (List BRch)) :=
  M.bind (zaR 100 120) fun (r0,r1) =>
  M.bind (zaR 0 10) fun (aa,ab) =>
  M.bind (zaR (-200) (-100)) fun (ac,ae) =>
  M.bind (zaR 90 115) fun (ah,ai) =>
  M.bind (zaR lo hi) fun (aj,ak) =>
  M.pure (([(⟨(r0:Int),(r1:Int)⟩:Span),(⟨(aa:Int),(ab:Int)⟩:Span),(⟨(ac:Int),(ae:Int)⟩:Span)]),([(⟨(0:Int),(1:Int),(ah:Int),(ai:Int)⟩:BRch),(⟨(1:Int),(2:Int),(aj:Int),(ak:Int)⟩:BRch)]))
theorem zfY {R}(lo hi){r}(hM:(zew lo hi).Ends r)(w)(H:St w w [] R):Ret Tryz.prog 44 #[I lo,I hi] w fun v w'=>∃ y0 y1 u0 u1,(y0,y1)=r/\v = .agg #[u0,u1]/\St w w' [cOwn (α:=Span) 27 u0 y0,cOwn (α:=BRch) 207 u1 y1] R:=by
 refine ret_of_W Tryz.func44 rfl rfl rfl ?_;refine kA 2 ?_;intro al am H;refine kC 3 @za7 ?_;intro ao r0 r1 hM H;refine kC 0 @za7 ?_;intro ap aa ab hM H;refine kC 0 @za7 ?_;intro aq ac ae hM H;refine kL 0 (α:=Span) [⟨r0,r1⟩,⟨aa,ab⟩,⟨ac,ae⟩] ?_;intro au av H;refine kC 0 @za7 ?_;intro aw ah ai hM H;refine kC 3 @za7 ?_;intro ax aj ak hM H;refine kL 1 (α:=BRch) [⟨0,1,ah,ai⟩,⟨1,2,aj,ak⟩] ?_;intro ay az H;refine kS 1 ?_;intro aA H;exact kR 1 [1,0]

def zdO  : M (Int × (List Rgt)) :=
  M.pure (2,([(⟨(0:Int),(100:Int),(50:Int)⟩:Rgt),(⟨(1:Int),(60:Int),(100:Int)⟩:Rgt),(⟨(0:Int),(40:Int),(0:Int)⟩:Rgt)]))
theorem ze8 {R r}(hM:(zdO).Ends r)(w)(H:St w w [] R):Ret Tryz.prog 46 #[] w fun v w'=>∃ y0 y1 u0,(y0,y1)=r/\v = .agg #[I y0,u0]/\St w w' [cOwn (α:=Rgt) 211 u0 y1] R:=by
 refine ret_of_W Tryz.func46 rfl rfl rfl ?_;refine kA 2 ?_;intro aa ab H;refine kL 6 (α:=Rgt) [⟨0,100,50⟩,⟨1,60,100⟩,⟨0,40,0⟩] ?_;intro ac ae H;refine kS 1 ?_;intro ah H;exact kR 1 [0]

def zeU  : M ((List Yr) × (List Old10) × Int × Int) :=
  M.pure (([(⟨(1905:Int),(400:Int),(420:Int)⟩:Yr),(⟨(1906:Int),(250:Int),(250:Int)⟩:Yr)]),([(⟨(1900:Int),(1904:Int),(500:Int),([(1902:Int)])⟩:Old10)]),1900,1909)
theorem zfc {R r}(hM:(zeU).Ends r)(w)(H:St w w [] R):Ret Tryz.prog 47 #[] w fun v w'=>∃ y0 y1 y2 y3 u0 u1 rr2 ai,(y0,y1,y2,y3)=r/\v = .agg #[u0,u1,I y2,I y3]/\St w w' [cOwn (α:=Yr) 58 u0 y0,cOwn (α:=Raw 3) 60 u1 rr2,cRo ai] R/\RepR (α:=Old10) ai.cells rr2 y1:=by
 refine ret_of_W Tryz.func47 rfl rfl rfl ?_;refine kA 2 ?_;intro ap aq H;refine kL 7 (α:=Yr) [⟨1905,400,420⟩,⟨1906,250,250⟩] ?_;intro ac au H;refine kL 0 (α:=Int) [1902] ?_;intro ae av H;refine kG 1 ?_;obtain ⟨aw,H⟩:=H.emptyE;obtain ⟨ax,H,ak⟩:=H.freezeE (k:=1) rfl;replace H:=H.nf;have aa:=ak;obtain ⟨al,H,ay,am⟩:=H.joinE (i:=0) (j:=1) rfl rfl;replace aa:=aa.mono am;obtain ⟨ab,aj⟩:∃ r:Raw 3,r.cs=[I 1900,I 1904,I 500,ae]:=⟨Raw.of [I 1900,I 1904,I 500,ae] rfl (by simp only [List.all_cons,List.all_nil,Bool.true_and,Bool.and_true,Sl.oc aa]; try rfl),rfl⟩
 have ao:RepR (α:=Old10) al.cells [ab] [(⟨(1900:Int),(1904:Int),(500:Int),([(1902:Int)])⟩:Old10)]:=.cons (by rw [aj]; exact ⟨_,rfl,aa⟩)<|.nil
 refine t_bs (α:=Raw 3) T53.h [.agg #[I 1900,I 1904,I 500,ae]] [ab] H rfl (.cons (by rw [show (Flat.enc ab:List Value)=ab.cs from rfl,aj]; rfl) (Flat.rep_enc _ _)<|.nil) rfl rfl rfl ?_;intro ah az H;replace H:=H.nf;refine s_val (x_bld (ps:=[(2,I 1900),(3,I 1909),(0,ac),(1,ah)]) (zs:=[.slice none 0 0,.slice none 0 0,I 0,I 0]) (L':=[ac,ah,I 1900,I 1909]) rfl Tryz.underlying55 Al55.h rfl (Bd55 Tryz.underlying55) (.cons (cs:=[I 1900]) rfl rfl rfl rfl rfl<|.cons (cs:=[I 1909]) rfl rfl rfl rfl rfl<|.cons (cs:=[ac]) (Sl.cells (H.os 4)) rfl rfl rfl rfl<|.cons (cs:=[ah]) (Sl.cells (rowSl rfl (H.get (k:=0) rfl) (roLe _ (H.get (k:=1) rfl)) ao)) rfl rfl rfl rfl<|.nil)) ?_;refine kS 0 ?_;intro aA H;refine s_nil ?_;replace H:=H.pk [0,1,4,5];exact kR 0 [2,0,1]

def zaV (lo hi:Int):M (Int × Int) :=
  M.pure (lo,hi)
theorem zbY {R}(lo hi){r}(hM:(zaV lo hi).Ends r)(w)(H:St w w [] R):Ret Tryz.prog 97 #[I lo,I hi] w fun v w'=>∃ y0 y1,(y0,y1)=r/\v = .agg #[I y0,I y1]/\St w w' [] R:=by
 refine ret_of_W Tryz.func97 rfl rfl rfl ?_;refine kA 2 ?_;intro aa ab H;refine kS 6 ?_;intro ac H;exact kR 1 []

def zeb (lead:Int):M ((List Int) × (List Span) × (List Int) × (List Town) × Int × Int × (List Flood)) :=
  M.bind (zaV 5 6) fun (r0,r1) =>
  M.bind (zaV 2 4) fun (aa,ab) =>
  M.bind (zaV 3 5) fun (ac,ae) =>
  M.bind (zaV 1 2) fun (ah,ai) =>
  M.pure (([(2:Int),(2:Int),(3:Int),(-1:Int)]),([(⟨(r0:Int),(r1:Int)⟩:Span),(⟨(aa:Int),(ab:Int)⟩:Span),(⟨(ac:Int),(ae:Int)⟩:Span),(⟨(0:Int),(0:Int)⟩:Span)]),([(0:Int),(1:Int)]),([(⟨(3:Int),(lead:Int),(300:Int)⟩:Town)]),ah,ai,([(⟨(0:Int),([(200:Int),(250:Int),(310:Int)])⟩:Flood),(⟨(1:Int),([(280:Int),(240:Int),(290:Int)])⟩:Flood),(⟨(0:Int),([(100:Int),(260:Int),(300:Int)])⟩:Flood)]))
theorem zfz {R}(lead){r}(hM:(zeb lead).Ends r)(w)(H:St w w [] R):Ret Tryz.prog 49 #[I lead] w fun v w'=>∃ y0 y1 y2 y3 y4 y5 y6 u0 u1 u2 u3 u4 rr5 ax,(y0,y1,y2,y3,y4,y5,y6)=r/\v = .agg #[u0,u1,u2,u3,I y4,I y5,u4]/\St w w' [cOwn (α:=Int) 3 u0 y0,cOwn (α:=Span) 27 u1 y1,cOwn (α:=Int) 3 u2 y2,cOwn (α:=Town) 219 u3 y3,cOwn (α:=Raw 1) 221 u4 rr5,cRo ax] R/\RepR (α:=Flood) ax.cells rr5 y6:=by
 refine ret_of_W Tryz.func49 rfl rfl rfl ?_;refine kA 2 ?_;intro aP aQ H;refine kL 3 (α:=Int) [2,2,3,-1] ?_;intro aj aR H;refine kC 0 @zbY ?_;intro aS r0 r1 hM H;refine kC 0 @zbY ?_;intro aT aC aD hM H;refine kC 0 @zbY ?_;intro aU aE aF hM H;refine kL 1 (α:=Span) [⟨r0,r1⟩,⟨aC,aD⟩,⟨aE,aF⟩,⟨0,0⟩] ?_;intro ak aV H;refine kL 0 (α:=Int) [0,1] ?_;intro al aW H;refine kL 2 (α:=Town) [⟨3,lead,300⟩] ?_;intro am aX H;refine kC 0 @zbY ?_;intro aY ao ap hM H;refine kL 0 (α:=Int) [200,250,310] ?_;intro aq aZ H;refine kL 1 (α:=Int) [280,240,290] ?_;intro au a6 H;refine kL 1 (α:=Int) [100,260,300] ?_;intro av a7 H;refine kG 1 ?_;obtain ⟨a8,H⟩:=H.emptyE;obtain ⟨ba,H,aG⟩:=H.freezeE (k:=3) rfl;replace H:=H.nf;have aa:=aG;obtain ⟨bb,H,bc,aH⟩:=H.joinE (i:=0) (j:=3) rfl rfl;replace aa:=aa.mono aH;obtain ⟨bf,H,aI⟩:=H.freezeE (k:=3) rfl;replace H:=H.nf;have ab:=aI;obtain ⟨bg,H,aJ,aK⟩:=H.joinE (i:=0) (j:=3) rfl rfl;replace aa:=aa.mono aJ;replace ab:=ab.mono aK;obtain ⟨bh,H,aL⟩:=H.freezeE (k:=3) rfl;replace H:=H.nf;have ac:=aL;obtain ⟨aM,H,ay,aN⟩:=H.joinE (i:=0) (j:=3) rfl rfl;replace aa:=aa.mono ay;replace ab:=ab.mono ay;replace ac:=ac.mono aN;obtain ⟨ae,az⟩:∃ r:Raw 1,r.cs=[I 0,aq]:=⟨Raw.of [I 0,aq] rfl (by simp only [List.all_cons,List.all_nil,Bool.true_and,Bool.and_true,Sl.oc aa]; try rfl),rfl⟩
 obtain ⟨ah,aA⟩:∃ r:Raw 1,r.cs=[I 1,au]:=⟨Raw.of [I 1,au] rfl (by simp only [List.all_cons,List.all_nil,Bool.true_and,Bool.and_true,Sl.oc ab]; try rfl),rfl⟩
 obtain ⟨ai,aB⟩:∃ r:Raw 1,r.cs=[I 0,av]:=⟨Raw.of [I 0,av] rfl (by simp only [List.all_cons,List.all_nil,Bool.true_and,Bool.and_true,Sl.oc ac]; try rfl),rfl⟩
 have aO:RepR (α:=Flood) aM.cells [ae,ah,ai] [(⟨(0:Int),([(200:Int),(250:Int),(310:Int)])⟩:Flood),(⟨(1:Int),([(280:Int),(240:Int),(290:Int)])⟩:Flood),(⟨(0:Int),([(100:Int),(260:Int),(300:Int)])⟩:Flood)]:=.cons (by rw [az]; exact ⟨_,rfl,aa⟩)<|.cons (by rw [aA]; exact ⟨_,rfl,ab⟩)<|.cons (by rw [aB]; exact ⟨_,rfl,ac⟩)<|.nil
 refine t_bs (α:=Raw 1) T144.h [.agg #[I 0,aq],.agg #[I 1,au],.agg #[I 0,av]] [ae,ah,ai] H rfl (.cons (by rw [show (Flat.enc ae:List Value)=ae.cs from rfl,az]; rfl) (Flat.rep_enc _ _)<|.cons (by rw [show (Flat.enc ah:List Value)=ah.cs from rfl,aA]; rfl) (Flat.rep_enc _ _)<|.cons (by rw [show (Flat.enc ai:List Value)=ai.cs from rfl,aB]; rfl) (Flat.rep_enc _ _)<|.nil) rfl rfl rfl ?_;intro aw bi H;replace H:=H.nf;refine s_val (x_bld (ps:=[(0,aj),(1,ak),(2,al),(3,am),(4,.agg #[I ao,I ap]),(5,aw)]) (zs:=[.slice none 0 0,.slice none 0 0,.slice none 0 0,.slice none 0 0,I 0,I 0,.slice none 0 0]) (L':=[aj,ak,al,am,I ao,I ap,aw]) rfl Tryz.underlying146 Al146.h rfl (Bd146 Tryz.underlying146) (.cons (cs:=[aj]) (Sl.cells (H.os 11)) rfl rfl rfl rfl<|.cons (cs:=[ak]) (Sl.cells (H.os 10)) rfl rfl rfl rfl<|.cons (cs:=[al]) (Sl.cells (H.os 9)) rfl rfl rfl rfl<|.cons (cs:=[am]) (Sl.cells (H.os 8)) rfl rfl rfl rfl<|.cons (cs:=[I ao,I ap]) rfl rfl rfl rfl rfl<|.cons (cs:=[aw]) (Sl.cells (rowSl rfl (H.get (k:=0) rfl) (roLe _ (H.get (k:=1) rfl)) aO)) rfl rfl rfl rfl<|.nil)) ?_;refine kS 0 ?_;intro bj H;refine s_nil ?_;replace H:=H.pk [0,1,8,9,10,11,12];exact kR 0 [5,4,3,2,0,1]

def m_daily_in (n aa greatest:Int):M Bool :=
  M.pure ((decide (aa<=n))&&(decide (n<=greatest)))
theorem daily_in_ok {R}(n aa greatest){r}(hM:(m_daily_in n aa greatest).Ends r)(w)(H:St w w [] R):Ret Tryz.prog 80 #[I n,I aa,I greatest] w fun v w'=>∃ y0,y0=r/\v=B y0/\St w w' [] R:=by
 refine ret_of_W Tryz.func80 rfl rfl rfl ?_;refine kg 16 ?_;exact rt

def m_daily_flow (n:Int):M Bool :=
  M.bind (m_daily_in n 0 1000000000) fun r2 =>
  M.pure r2
theorem daily_flow_ok {R}(n){r}(hM:(m_daily_flow n).Ends r)(w)(H:St w w [] R):Ret Tryz.prog 125 #[I n] w fun v w'=>∃ y0,y0=r/\v=B y0/\St w w' [] R:=by
 refine ret_of_W Tryz.func125 rfl rfl rfl ?_;refine kC 7 @daily_in_ok ?_;intro aa r2 hM H;refine kg 2 ?_;exact rt

def zeC (s:List DVal) (f:DVal->M Bool):Nat->M (Nat ⊕ Unit):=fun s2 =>
  bif decide ((s2:Int)<(s.length:Int)) then (
  M.grd (decide ((s2:Int)<(s.length:Int))) <|
  M.bind (f (s.getD s2 default)) fun r2 =>
  bif r2 then (
  M.fail)
  else (
  M.pure (.inl (s2+1))))
  else (
  M.pure (.inr ()))
def zer (s:List DVal) (f:DVal->M Bool):M Int :=
  M.bind (M.iter (zeC s f) 0) fun (_:Unit) =>
  M.pure (-1)
theorem zfp {R ac aa ab}(s f)(au:Reads R ac)(ah:Sl ac aa s)(ai:FnM Tryz.prog R ab f){r}(hM:(zer s f).Ends r)(w)(H:St w w [] R):Ret Tryz.prog 223 #[aa,ab] w fun v w'=>∃ y0,y0=r/\v=I y0/\St w w' [] R:=by
 refine ret_of_W Tryz.func223 rfl rfl rfl ?_;have av:=(ah).len_le;refine kg 12 ?_;obtain ⟨aj,ae,ak⟩:=M.e_bind hM;obtain ⟨aw,ae⟩:=M.e_iter ae;refine W.loop (fun m σ W=>∃ (s2:Nat) (ρ:Env),σ=upds ρ [(0,aa),(1,ab),(7,I (s.length:Int)),(8,I (s2:Int))]/\M.iterN (zeC s f) m s2=some aj/\St w W [] R) ?_ ?_
 ·exact kY
 rintro ax σ ay ⟨s2,ρ,rfl,al,H⟩;obtain ⟨az,aA,aB,hM,am⟩:=M.e_iterN al;refine kI 5 ?_ ?_
 ·intro ao hM;obtain ⟨aC,hM⟩:=M.e_gq hM;refine kg 15 ?_;obtain ⟨r2,ap,hM⟩:=M.e_bind hM;refine t_callM H ai rfl rfl (s.getD s2 default) Reads.none ⟨_,rfl,rfl⟩ ap ?_;intro aD H;refine kI 1 ?_ ?_
  ·intro aq hM;exact (M.e_fail hM).elim
  intro aq hM;exact kX 5
 intro ao hM;refine W.exit ?_;obtain rfl:=M.e_inr hM am;replace hM:=ak;refine kg 4 ?_;exact rt

def zdZ (s:List DVal) (f:DVal->M Bool):M Bool :=
  M.bind (zer s f) fun r2 =>
  M.pure (decide (0<=r2))
theorem zeW {R aa ab ac}(s f)(ae:Reads R aa)(ah:Sl aa ab s)(ai:FnM Tryz.prog R ac f){r}(hM:(zdZ s f).Ends r)(w)(H:St w w [] R):Ret Tryz.prog 174 #[ab,ac] w fun v w'=>∃ y0,y0=r/\v=B y0/\St w w' [] R:=by
 refine ret_of_W Tryz.func174 rfl rfl rfl ?_;refine kC 8 @zfp ?_;intro aj r2 hM H;refine kg 3 ?_;exact rt

def m_daily_every_daily_Value__1 (x:DVal) (aa:DVal->M Bool):M Bool :=
  M.bind (aa x) fun r2 =>
  M.pure (!r2)
theorem daily_every_daily_Value__1_ok {R aa ab}(x ac)(ae:FnM Tryz.prog R ab ac)(ai:Has R (cBlk aa [ab] 246)){r}(hM:(m_daily_every_daily_Value__1 x ac).Ends r)(w)(H:St w w [] R):Ret Tryz.prog 175 #[.agg #[B x.known,I x.lo,I x.hi],Pq aa] w fun v w'=>∃ y0,y0=r/\v=B y0/\St w w' [] R:=by
 refine ret_of_W Tryz.func175 rfl rfl rfl ?_;refine kB 2 ?_;intro aj ak H;refine kg 6 ?_;obtain ⟨r2,ah,hM⟩:=M.e_bind hM;refine t_callM H ae rfl rfl x Reads.none ⟨_,rfl,rfl⟩ ah ?_;intro al H;refine kg 3 ?_;exact rt

def m_daily_every_daily_Value (l:List DVal) (so:DVal->M Bool):M Bool :=
  M.bind (zdZ l (fun aa=>m_daily_every_daily_Value__1 aa so)) fun r2 =>
  M.pure (!r2)
theorem daily_every_daily_Value_ok {R ae aa ah}(l so)(aj:Reads R ae)(ak:Sl ae aa l)(al:FnM Tryz.prog R ah so){r}(hM:(m_daily_every_daily_Value l so).Ends r)(w)(H:St w w [] R):Ret Tryz.prog 126 #[aa,ah] w fun v w'=>∃ y0,y0=r/\v=B y0/\St w w' [] R:=by
 refine ret_of_W Tryz.func126 rfl rfl rfl ?_;refine kB 2 ?_;intro ab az H;refine kg 5 ?_;refine s_val (x_mf (fs:=[]) (cs:=[Pq ab]) rfl rfl) ?_;obtain ⟨aA,am,hM⟩:=M.e_bind hM;refine s_call cq [aa,.func (.func 175) #[] #[Pq ab]] rfl (zeW l (fun ac=>m_daily_every_daily_Value__1 ac so) (aj.app _) ak ⟨175,[Pq ab],rfl,cq,fun ai aB aC ao ac aD ap aE aq au=>by obtain rfl:=DVal_arg aq; exact (daily_every_daily_Value__1_ok ac so (FnM.app (al.app _) _) (Has.app (Has.here (k:=0) rfl) _) au ai (St.refl ap)).mono fun ao ai ⟨aF,av,aw,ax⟩=>by subst av; exact ⟨aw,ax⟩⟩ am _ (H.gt 1)) ?_;rintro _ aG ⟨r2,rfl,rfl,ay⟩;replace H:=H.bk ay;refine kg 3 ?_;exact rt

def m_daily_flows (s:Span):M Bool :=
  M.bind (m_daily_in s.lo 0 s.hi) fun r2 =>
  M.bind (M.opt r2 (m_daily_flow s.hi) false) fun r3 =>
  M.pure (r2&&r3)
theorem daily_flows_ok {R}(s){r}(hM:(m_daily_flows s).Ends r)(w)(H:St w w [] R):Ret Tryz.prog 128 #[.agg #[I s.lo,I s.hi]] w fun v w'=>∃ y0,y0=r/\v=B y0/\St w w' [] R:=by
 refine ret_of_W Tryz.func128 rfl rfl rfl ?_;refine kB 2 ?_;intro ae ah H;refine kC 8 @daily_in_ok ?_;intro ai r2 hM H;refine kg 3 ?_;obtain ⟨r3,aa,hM⟩:=M.e_bind hM;refine t_gcall r2 (gy_t rfl) cq (B r3) (fun _=>[I s.hi]) (fun hg=>lst1 (gd_of hg (I s.hi))) H (fun hg=>(daily_flow_ok s.hi (M.e_opt aa hg) _ (H.give (A:=[]) rfl)).mono fun v_ w_ ⟨y_,ab,ac,H_⟩=>by subst ab; exact ⟨ac,H.via H_⟩) ?_;intro aj H;refine kg 3 ?_;exact rt

def m_daily_Check_1 (v:DVal):M Bool :=
  M.bind (M.opt (!(!v.known)) (m_daily_flows (⟨(v.lo:Int),(v.hi:Int)⟩:Span)) false) fun r2 =>
  M.pure ((!v.known)||r2)
theorem daily_Check_1_ok {R}(v){r}(hM:(m_daily_Check_1 v).Ends r)(w)(H:St w w [] R):Ret Tryz.prog 127 #[.agg #[B v.known,I v.lo,I v.hi]] w fun v w'=>∃ y0,y0=r/\v=B y0/\St w w' [] R:=by
 refine ret_of_W Tryz.func127 rfl rfl rfl ?_;refine kB 2 ?_;intro ae ah H;refine kg 10 ?_;obtain ⟨r2,aa,hM⟩:=M.e_bind hM;refine t_gcall (!(!v.known)) (gy_f rfl) cq (B r2) (fun _=>[.agg #[I v.lo,I v.hi]]) (fun hg=>lst1 (gd_of hg (.agg #[I v.lo,I v.hi]))) H (fun hg=>(daily_flows_ok (⟨(v.lo:Int),(v.hi:Int)⟩:Span) (M.e_opt aa hg) _ (H.give (A:=[]) rfl)).mono fun v_ w_ ⟨y_,ab,ac,H_⟩=>by subst ab; exact ⟨ac,H.via H_⟩) ?_;intro ai H;refine kg 3 ?_;exact rt

def m_daily_Check (ab ac:Int) (aa:List DVal):M Int :=
  M.bind (m_daily_in (aa.length:Int) 1 60) fun r2 =>
  bif !r2 then (
  M.fail)
  else (
  M.bind (m_daily_flow ab) fun r3 =>
  M.bind (M.opt (!(!r3)) (m_daily_flow ac) false) fun r4 =>
  M.bind (M.opt (!((!r3)||(!r4))) (m_daily_every_daily_Value aa (fun ae=>m_daily_Check_1 ae)) false) fun r5 =>
  bif (((!r3)||(!r4))||(!r5)) then (
  M.fail)
  else (
  M.pure 0))
theorem daily_Check_ok {R aj ab}(ak aa ac)(ao:Reads R aj)(al:Sl aj ab ac){r}(hM:(m_daily_Check ak aa ac).Ends r)(w)(H:St w w [] R):Ret Tryz.prog 79 #[.agg #[I ak,I aa,ab]] w fun v w'=>∃ y0,y0=r/\v=I y0/\St w w' [] R:=by
 refine ret_of_W Tryz.func79 rfl rfl rfl ?_;refine kB 2 ?_;intro aD aE H;have aF:=(al).len_le;refine kC 9 @daily_in_ok ?_;intro aG r2 hM H;refine kI 3 ?_ ?_
 ·intro ap hM;exact (M.e_fail hM).elim
 intro ap hM;refine kC 4 @daily_flow_ok ?_;intro aH r3 hM H;refine kg 4 ?_;obtain ⟨r4,aq,hM⟩:=M.e_bind hM;refine t_gcall (!(!r3)) (gy_f rfl) cq (B r4) (fun _=>[I aa]) (fun hg=>lst1 (gd_of hg (I aa))) H (fun hg=>(daily_flow_ok aa (M.e_opt aq hg) _ (H.give (A:=[]) rfl)).mono fun v_ w_ ⟨y_,ae,ah,H_⟩=>by subst ae; exact ⟨ah,H.via H_⟩) ?_;intro aI H;refine kg 5 ?_;obtain ⟨r5,au,hM⟩:=M.e_bind hM;refine t_gcall (!((!r3)||(!r4))) (gy_f rfl) cq (B r5) (fun _=>[ab,.func (.func 127) #[] #[]]) (fun hg=>lst2 (gd_of hg (ab)) rfl) H (fun hg=>(daily_every_daily_Value_ok ac (fun ai=>m_daily_Check_1 ai) (ao.app _) al ⟨127,[],rfl,cq,fun am aJ aK av ai aL aw aM ax ay=>by obtain rfl:=DVal_arg ax; exact (daily_Check_1_ok ai ay am (St.refl aw)).mono fun av am ⟨aN,az,aA,aB⟩=>by subst az; exact ⟨aA,aB⟩⟩ (M.e_opt au hg) _ (H.give (A:=[]) rfl)).mono fun v_ w_ ⟨y_,ae,ah,H_⟩=>by subst ae; exact ⟨ah,H.via H_⟩) ?_;intro aO H;refine kI 4 ?_ ?_
 ·intro aC hM;exact (M.e_fail hM).elim
 intro aC hM;refine kg 5 ?_;exact rt

def m_daily_Value_span (v:DVal):M (Int × Int) :=
  bif v.known then (
  M.pure (v.lo,v.hi))
  else (
  M.pure (0,1000000000))
theorem daily_Value_span_ok {R}(v){r}(hM:(m_daily_Value_span v).Ends r)(w)(H:St w w [] R):Ret Tryz.prog 176 #[.agg #[B v.known,I v.lo,I v.hi]] w fun v w'=>∃ y0 y1,(y0,y1)=r/\v = .agg #[I y0,I y1]/\St w w' [] R:=by
 refine ret_of_W Tryz.func176 rfl rfl rfl ?_;refine kB 2 ?_;intro ab ac H;refine kal ?_;intro ae ah H;refine kI 7 ?_ ?_
 ·intro aa hM;refine kS 4 ?_;intro ai H;exact kR 1 []
 intro aa hM;refine kS 4 ?_;intro aj H;exact kR 1 []

def m_daily_work_pairs (aa ab:Int) (ac:List DVal) (ae:List Span) (back:Bool):M Bool :=
  M.pure back
theorem daily_work_pairs_ok {R aa ab ac ae ah}(ai aj ak al back)(au:Reads R ab)(av:Sl ab ac ak)(aw:Reads R ae)(ax:Sl ae ah al)(ay:Has R (cBlk aa [I ai,I aj,ac,ah] 181)){r}(hM:(m_daily_work_pairs ai aj ak al back).Ends r)(w)(H:St w w [] R):Ret Tryz.prog 178 #[Pq aa,B back] w fun v w'=>∃ y0 am ao,y0=r/\v = .func (.func 224) #[] #[Pq am,Pq ao]/\St w w' [cBlk am [Pq aa] 177,cBlk ao [B y0] 4] R:=by
 refine ret_of_W Tryz.func178 rfl rfl rfl ?_;refine kB 2 ?_;intro ap az H;refine kbx ?_;intro aq aA H;refine kg 4 ?_;refine s_val (x_mf (fs:=[]) (cs:=[Pq ap,Pq aq]) rfl rfl) ?_;exact kR 2 [1,0]

def m_daily_work_pairs_1_b0 {T_:Type} (ab:T_->(Int × Int)->M (Bool × T_)) (aa:List DVal) (ac:Bool):(Nat × T_)->M ((Nat × T_) ⊕ T_):=fun (s,t2) =>
  bif decide ((s:Int)<((aa.length:Int)-1)) then (
  M.gi ((s:Int)+1) <|
  bif ac then (
  M.gi (((aa.length:Int)-1)-(s:Int)) <|
  M.gi (((aa.length:Int)-2)-(s:Int)) <|
  M.bind (ab t2 (((aa.length:Int)-1)-(s:Int),((aa.length:Int)-2)-(s:Int))) fun (go,t) =>
  bif !go then (
  M.fail)
  else (
  M.pure (.inl (s+1,t))))
  else (
  M.bind (ab t2 ((s:Int),(s:Int)+1)) fun (go,t) =>
  bif !go then (
  M.fail)
  else (
  M.pure (.inl (s+1,t)))))
  else (
  M.pure (.inr t2))
def m_daily_work_pairs_1 {T_:Type} (aa:T_->(Int × Int)->M (Bool × T_)) (t_:T_) (ae ah:Int) (ab:List DVal) (ac:Bool):M T_ :=
  M.bind (M.iter (m_daily_work_pairs_1_b0 aa ab ac) (0,t_)) fun t3 =>
  M.pure t3
theorem daily_work_pairs_1_ok {R:List Chunk} {T_:Type} {Y_:T_->List Chunk->Prop} {ai:Value} {ac:List Chunk} {aj:Nat} {av:Nat} {aw:Cells} {aa:Value} {ak:Nat} (al:T_->(Int × Int)->M (Bool × T_)) (t_:T_) (ae:Int) (ah:Int) (ab:List DVal) (am:Bool) (ax:YieldC Tryz.prog R arII Y_ ai al) (ay:Y_ t_ ac) (aP:Reads R aw) (ao:Sl aw aa ab) (ap:∀ (t_:T_) (ac:List Chunk),Y_ t_ ac->Fld (cAll ac :: R) av [I ae,I ah,aa]) (aQ:Has R (cBlk aj [Pq av] 177)) (aR:Has R (cBlk ak [B am] 4)) {r:T_} (hM:(m_daily_work_pairs_1 al t_ ae ah ab am).Ends r) (w:World) (H:St w w [cAll ac] R):Ret Tryz.prog 224 #[ai,Pq aj,Pq ak] w fun v w'=>∃ (y0:T_) (Ls0:List Chunk),y0=r/\v = .tuple #[]/\St w w' [cAll Ls0] R/\Y_ y0 Ls0:=by
 refine ret_of_W Tryz.func224 rfl rfl rfl ?_;refine kg 6 ?_;refine s_val (x_ld (v:=aa) rfl (fld_sc (pre:=[I ae,I ah,aa]) (i:=2) Sc126.h (Fld.get (Fld.up (ap _ _ ay) (k:=0) rfl) H) rfl)) ?_;have aS:=(ao).len_le;refine kg 5 ?_;obtain ⟨aB,aq,aC⟩:=M.e_bind hM;obtain ⟨aT,aq⟩:=M.e_iter aq;refine W.loop (fun m σ W=>∃ (s:Nat) (t2:T_) (Ls_t2:List Chunk) (ρ:Env),σ=upds ρ [(0,ai),(1,Pq aj),(2,Pq ak),(13,I ((ab.length:Int)-1)),(14,I (s:Int))]/\M.iterN (m_daily_work_pairs_1_b0 al ab am) m (s,t2)=some aB/\St w W [cAll Ls_t2] R/\Y_ t2 Ls_t2) ?_ ?_
 ·exact ⟨_,0,t_,ac,_,jQ,aq,H,ay⟩
 rintro aU σ aV ⟨s,t2,Ls_t2,ρ,rfl,aD,H,hY_t2⟩;obtain ⟨az,aA,aW,hM,au⟩:=M.e_iterN aD;refine kI 5 ?_ ?_
 ·intro aE hM;obtain ⟨aX,hM⟩:=M.e_gq hM;refine kI 21 ?_ ?_
  ·intro aF hM;refine kD 0 [0] [] ?_;intro aY H;refine kg 4 ?_;refine d_q rfl (fun w' H=>x_ld (v:=aa) rfl (fld_sc (pre:=[I ae,I ah,aa]) (i:=2) Sc126.h (Fld.get (Fld.up (ap _ _ hY_t2) (k:=0) rfl) H) rfl)) ?_;have aZ:=(ao).len_le;obtain ⟨a6,hM⟩:=M.e_gq hM;refine kg 8 ?_;refine d_q rfl (fun w' H=>x_ld (v:=aa) rfl (fld_sc (pre:=[I ae,I ah,aa]) (i:=2) Sc126.h (Fld.get (Fld.up (ap _ _ hY_t2) (k:=0) rfl) H) rfl)) ?_;have a7:=(ao).len_le;obtain ⟨a8,hM⟩:=M.e_gq hM;refine kg 12 ?_;obtain ⟨⟨go,t⟩,aG,hM⟩:=M.e_bind hM;refine t_yield (L:=[]) H ax hY_t2 rfl [I (((ab.length:Int)-1)-(s:Int)),I (((ab.length:Int)-2)-(s:Int))] rfl (((ab.length:Int)-1)-(s:Int),((ab.length:Int)-2)-(s:Int)) Reads.none rfl aG ?_;intro aH ba aI H;replace H:=H.nf;refine kI 2 ?_ ?_
   ·intro aJ hM;exact (M.e_fail hM).elim
   intro aJ hM;refine kg 5 ?_;exact ⟨az,aA,s+1,t,aH,_,jQ,M.e_inl hM au,H,aI⟩
  intro aF hM;refine kg 6 ?_;obtain ⟨⟨go,t⟩,aK,hM⟩:=M.e_bind hM;refine t_yield (L:=[]) H ax hY_t2 rfl [I (s:Int),I ((s:Int)+1)] rfl ((s:Int),(s:Int)+1) Reads.none rfl aK ?_;intro aL bb aM H;replace H:=H.nf;refine kI 2 ?_ ?_
  ·intro aN hM;exact (M.e_fail hM).elim
  intro aN hM;refine kg 5 ?_;exact ⟨az,aA,s+1,t,aL,_,jQ,M.e_inl hM au,H,aM⟩
 intro aE hM;refine W.exit ?_;obtain rfl:=M.e_inr hM au;replace hM:=aC;have aO:=M.e_pure hM;exact ⟨_,resE_tmp0 rfl,⟨t2,Ls_t2,aO,rfl,H,hY_t2⟩⟩
def m_daily_opened_1 (i low high ab ac:Int) (ae:List DVal) (aa:List Span):M (List Span) :=
  M.grd (decide ((0:Int)<=i)&&decide (i<(aa.length:Int))) <|
  M.pure ((aa.set (Int.toNat i) ({ (aa.getD (Int.toNat i) default) with lo:=max ((aa.getD (Int.toNat i) default).lo) low })).set (Int.toNat i) ({ ((aa.set (Int.toNat i) ({ (aa.getD (Int.toNat i) default) with lo:=max ((aa.getD (Int.toNat i) default).lo) low })).getD (Int.toNat i) default) with hi:=min ((aa.getD (Int.toNat i) default).hi) high }))
theorem daily_opened_1_ok {R al ae am ah ab}(i low high ai aj ao aa)(ap:Reads R am)(aq:Sl am ah ao)(au:Has R (cBlk al [Pq ae] 177)){r}(hM:(m_daily_opened_1 i low high ai aj ao aa).Ends r)(w)(H:St w w [cOwn (α:=Span) 27 ab aa,cBlk ae [I ai,I aj,ah,ab] 181] R):Ret Tryz.prog 177 #[I i,I low,I high,Pq al] w fun v w'=>∃ y0 u0,y0=r/\v = .tuple #[]/\St w w' [cOwn (α:=Span) 27 u0 y0,cBlk ae [I ai,I aj,ah,u0] 181] R:=by
 refine ret_of_W Tryz.func177 rfl rfl rfl ?_;obtain ⟨av,hM⟩:=M.e_gq hM;refine kg 7 ?_;have ac:=ownSl (H.get (k:=0) rfl);refine kDS 3 [1] (.q 0 (.q 1 (.q 2 (.q 3 (.q 4 (.q 6 (.q 8 (.q 9 (.q 10 (.q 12 (.l2 5 (.q 7 (.l 11 (.q 13 (.q 14 (.q 15 (.l 16 (.q 17 (.q 18 .nil)))))))) 11 (.q 13 (.l 5 (.q 7 (.q 14 (.q 15 (.l 16 (.q 17 (.q 18 .nil))))))))))))))))))) 19 [19] ?_;intro aw H;refine kg 3 ?_;refine ts_q rfl (fun w' H=>x_ncE (p:=vat ab 2 (Int.toNat i)) rfl (Sl.pl (i:=i) ac (by omega) (by omega))) ?_;refine kg 3 ?_;refine ts_q rfl (fun w' H=>x_ncE (p:=vat ab 2 (Int.toNat i)) rfl (Sl.pl (i:=i) ac (by omega) (by omega))) ?_;refine kg 2 ?_;refine ts_l2 rfl rfl ?_ ?_
 ·refine kG 1 ?_;refine kN ?_;refine kG 3 ?_;refine kN ?_;refine kg 1 ?_;refine ts_q rfl (fun w' H=>x_ncE (p:=vat ab 2 (Int.toNat i)) rfl (Sl.pl (i:=i) ac (by omega) (by omega))) ?_;refine kO 2 (α:=Span) ({ (aa.getD (Int.toNat i) default) with lo:=max ((aa.getD (Int.toNat i) default).lo) low }) ?_;intro ax H;have ay:(aa.set (Int.toNat i) ({ (aa.getD (Int.toNat i) default) with lo:=max ((aa.getD (Int.toNat i) default).lo) low })).length=(aa).length:=List.length_set;refine kN ?_;refine ts_q rfl (fun w' H=>x_ncE (p:=vat ab 2 (Int.toNat i)) rfl (Sl.pl (i:=i) ac (by omega) (by omega))) ?_;refine kO 3 (α:=Span) ({ ((aa.set (Int.toNat i) ({ (aa.getD (Int.toNat i) default) with lo:=max ((aa.getD (Int.toNat i) default).lo) low })).getD (Int.toNat i) default) with hi:=min ((aa.getD (Int.toNat i) default).hi) high }) ?_;intro az H;have aA:((aa.set (Int.toNat i) ({ (aa.getD (Int.toNat i) default) with lo:=max ((aa.getD (Int.toNat i) default).lo) low })).set (Int.toNat i) ({ ((aa.set (Int.toNat i) ({ (aa.getD (Int.toNat i) default) with lo:=max ((aa.getD (Int.toNat i) default).lo) low })).getD (Int.toNat i) default) with hi:=min ((aa.getD (Int.toNat i) default).hi) high })).length=(aa.set (Int.toNat i) ({ (aa.getD (Int.toNat i) default) with lo:=max ((aa.getD (Int.toNat i) default).lo) low })).length:=List.length_set;refine s_nil ⟨trivial,?_⟩;refine sr_nil ?_;have ak:=M.e_pure hM;exact ⟨_,resE_tmp0 rfl,⟨((aa.set (Int.toNat i) ({ (aa.getD (Int.toNat i) default) with lo:=max ((aa.getD (Int.toNat i) default).lo) low })).set (Int.toNat i) ({ ((aa.set (Int.toNat i) ({ (aa.getD (Int.toNat i) default) with lo:=max ((aa.getD (Int.toNat i) default).lo) low })).getD (Int.toNat i) default) with hi:=min ((aa.getD (Int.toNat i) default).hi) high })),ab,ak,rfl,H⟩⟩
 refine kG 1 ?_;refine kN ?_;refine kG 3 ?_;refine kN ?_;refine kg 1 ?_;refine ts_q rfl (fun w' H=>x_ncE (p:=vat ab 2 (Int.toNat i)) rfl (Sl.pl (i:=i) ac (by omega) (by omega))) ?_;refine kO 2 (α:=Span) ({ (aa.getD (Int.toNat i) default) with lo:=max ((aa.getD (Int.toNat i) default).lo) low }) ?_;intro aB H;have aC:(aa.set (Int.toNat i) ({ (aa.getD (Int.toNat i) default) with lo:=max ((aa.getD (Int.toNat i) default).lo) low })).length=(aa).length:=List.length_set;refine kN ?_;refine ts_q rfl (fun w' H=>x_ncE (p:=vat ab 2 (Int.toNat i)) rfl (Sl.pl (i:=i) ac (by omega) (by omega))) ?_;refine kO 3 (α:=Span) ({ ((aa.set (Int.toNat i) ({ (aa.getD (Int.toNat i) default) with lo:=max ((aa.getD (Int.toNat i) default).lo) low })).getD (Int.toNat i) default) with hi:=min ((aa.getD (Int.toNat i) default).hi) high }) ?_;intro aD H;have aE:((aa.set (Int.toNat i) ({ (aa.getD (Int.toNat i) default) with lo:=max ((aa.getD (Int.toNat i) default).lo) low })).set (Int.toNat i) ({ ((aa.set (Int.toNat i) ({ (aa.getD (Int.toNat i) default) with lo:=max ((aa.getD (Int.toNat i) default).lo) low })).getD (Int.toNat i) default) with hi:=min ((aa.getD (Int.toNat i) default).hi) high })).length=(aa.set (Int.toNat i) ({ (aa.getD (Int.toNat i) default) with lo:=max ((aa.getD (Int.toNat i) default).lo) low })).length:=List.length_set;refine s_nil ⟨trivial,?_⟩;refine sr_nil ?_;have ak:=M.e_pure hM;exact ⟨_,resE_tmp0 rfl,⟨((aa.set (Int.toNat i) ({ (aa.getD (Int.toNat i) default) with lo:=max ((aa.getD (Int.toNat i) default).lo) low })).set (Int.toNat i) ({ ((aa.set (Int.toNat i) ({ (aa.getD (Int.toNat i) default) with lo:=max ((aa.getD (Int.toNat i) default).lo) low })).getD (Int.toNat i) default) with hi:=min ((aa.getD (Int.toNat i) default).hi) high })),ab,ak,rfl,H⟩⟩

def zaL (s:List Span) (f:Span->M Bool):Nat->M (Nat ⊕ (Int ⊕ Unit)):=fun s2 =>
  bif decide ((s2:Int)<(s.length:Int)) then (
  M.grd (decide ((s2:Int)<(s.length:Int))) <|
  M.bind (f (s.getD s2 default)) fun r2 =>
  bif r2 then (
  M.pure (.inr (.inl (s2:Int))))
  else (
  M.pure (.inl (s2+1))))
  else (
  M.pure (.inr (.inr ())))
def zbW (s:List Span) (f:Span->M Bool):M Int :=
  M.bind (M.iter (zaL s f) 0) fun x_=>match x_ with
  | (.inl s3)=>(
  M.pure s3)
  | (.inr (_:Unit))=>(
  M.pure (-1))
theorem zfQ {R ac aa ab}(s f)(au:Reads R ac)(aj:Sl ac aa s)(ak:FnM Tryz.prog R ab f){r}(hM:(zbW s f).Ends r)(w)(H:St w w [] R):Ret Tryz.prog 156 #[aa,ab] w fun v w'=>∃ y0,y0=r/\v=I y0/\St w w' [] R:=by
 refine ret_of_W Tryz.func156 rfl rfl rfl ?_;have av:=(aj).len_le;refine kg 12 ?_;obtain ⟨al,ae,ah⟩:=M.e_bind hM;obtain ⟨aw,ae⟩:=M.e_iter ae;refine W.loop (fun m σ W=>∃ (s2:Nat) (ρ:Env),σ=upds ρ [(0,aa),(1,ab),(7,I (s.length:Int)),(8,I (s2:Int))]/\M.iterN (zaL s f) m s2=some al/\St w W [] R) ?_ ?_
 ·exact kY
 rintro ax σ ay ⟨s2,ρ,rfl,am,H⟩;obtain ⟨az,aA,aB,hM,ai⟩:=M.e_iterN am;refine kI 5 ?_ ?_
 ·intro ao hM;obtain ⟨aC,hM⟩:=M.e_gq hM;refine kg 15 ?_;obtain ⟨r2,ap,hM⟩:=M.e_bind hM;refine t_callM H ak rfl rfl (s.getD s2 default) Reads.none ⟨_,rfl,rfl⟩ ap ?_;intro aD H;refine kI 1 ?_ ?_
  ·intro aq hM;refine kg 5 ?_;obtain rfl:=M.e_inr hM ai;replace hM:=ah;exact rt
  intro aq hM;exact kX 5
 intro ao hM;refine W.exit ?_;obtain rfl:=M.e_inr hM ai;replace hM:=ah;refine kg 4 ?_;exact rt

def zaI (s:List Span) (f:Span->M Bool):M Bool :=
  M.bind (zbW s f) fun r2 =>
  M.pure (decide (0<=r2))
theorem zdi {R aa ab ac}(s f)(ae:Reads R aa)(ah:Sl aa ab s)(ai:FnM Tryz.prog R ac f){r}(hM:(zaI s f).Ends r)(w)(H:St w w [] R):Ret Tryz.prog 104 #[ab,ac] w fun v w'=>∃ y0,y0=r/\v=B y0/\St w w' [] R:=by
 refine ret_of_W Tryz.func104 rfl rfl rfl ?_;refine kC 8 @zfQ ?_;intro aj r2 hM H;refine kg 3 ?_;exact rt

def m_daily_every_api_Span__1 (x:Span) (aa:Span->M Bool):M Bool :=
  M.bind (aa x) fun r2 =>
  M.pure (!r2)
theorem daily_every_api_Span__1_ok {R aa ab}(x ac)(ae:FnM Tryz.prog R ab ac)(ai:Has R (cBlk aa [ab] 156)){r}(hM:(m_daily_every_api_Span__1 x ac).Ends r)(w)(H:St w w [] R):Ret Tryz.prog 225 #[.agg #[I x.lo,I x.hi],Pq aa] w fun v w'=>∃ y0,y0=r/\v=B y0/\St w w' [] R:=by
 refine ret_of_W Tryz.func225 rfl rfl rfl ?_;refine kB 2 ?_;intro aj ak H;refine kg 6 ?_;obtain ⟨r2,ah,hM⟩:=M.e_bind hM;refine t_callM H ae rfl rfl x Reads.none ⟨_,rfl,rfl⟩ ah ?_;intro al H;refine kg 3 ?_;exact rt

def m_daily_every_api_Span (l:List Span) (so:Span->M Bool):M Bool :=
  M.bind (zaI l (fun aa=>m_daily_every_api_Span__1 aa so)) fun r2 =>
  M.pure (!r2)
theorem daily_every_api_Span_ok {R ae aa ah}(l so)(aj:Reads R ae)(ak:Sl ae aa l)(al:FnM Tryz.prog R ah so){r}(hM:(m_daily_every_api_Span l so).Ends r)(w)(H:St w w [] R):Ret Tryz.prog 179 #[aa,ah] w fun v w'=>∃ y0,y0=r/\v=B y0/\St w w' [] R:=by
 refine ret_of_W Tryz.func179 rfl rfl rfl ?_;refine kB 2 ?_;intro ab az H;refine kg 5 ?_;refine s_val (x_mf (fs:=[]) (cs:=[Pq ab]) rfl rfl) ?_;obtain ⟨aA,am,hM⟩:=M.e_bind hM;refine s_call cq [aa,.func (.func 225) #[] #[Pq ab]] rfl (zdi l (fun ac=>m_daily_every_api_Span__1 ac so) (aj.app _) ak ⟨225,[Pq ab],rfl,cq,fun ai aB aC ao ac aD ap aE aq au=>by obtain rfl:=Span_arg aq; exact (daily_every_api_Span__1_ok ac so (FnM.app (al.app _) _) (Has.app (Has.here (k:=0) rfl) _) au ai (St.refl ap)).mono fun ao ai ⟨aF,av,aw,ax⟩=>by subst av; exact ⟨aw,ax⟩⟩ am _ (H.gt 1)) ?_;rintro _ aG ⟨r2,rfl,rfl,ay⟩;replace H:=H.bk ay;refine kg 3 ?_;exact rt

def m_daily_opened_2 (s:Span):M Bool :=
  M.pure (decide (s.lo<=s.hi))
theorem daily_opened_2_ok {R}(s){r}(hM:(m_daily_opened_2 s).Ends r)(w)(H:St w w [] R):Ret Tryz.prog 180 #[.agg #[I s.lo,I s.hi]] w fun v w'=>∃ y0,y0=r/\v=B y0/\St w w' [] R:=by
 refine ret_of_W Tryz.func180 rfl rfl rfl ?_;refine kB 2 ?_;intro aa ab H;refine kg 11 ?_;exact rt

def m_daily_opened_b0 (aa:List DVal):(Nat × (List Span))->M ((Nat × (List Span)) ⊕ ((List Span) × (List Span))):=fun (s,l) =>
  bif decide ((s:Int)<(aa.length:Int)) then (
  M.grd (decide ((s:Int)<(aa.length:Int))) <|
  M.bind (m_daily_Value_span (aa.getD s default)) fun (r0,r1) =>
  M.grd (decide ((l.length+([(⟨(r0:Int),(r1:Int)⟩:Span)]).length)*16<=140737488355328)) <|
  M.pure (.inl (s+1,l++([(⟨(r0:Int),(r1:Int)⟩:Span)]))))
  else (
  M.pure (.inr (l,l)))
def m_daily_opened_b1 (aa ab:Int) (ac:List DVal):(List Span)->(Int × Int)->M ((List Span) ⊕ Unit):=fun l4 (x,x2) =>
  M.grd (decide ((0:Int)<=x)&&decide (x<(l4.length:Int))) <|
  M.gi (((l4.getD (Int.toNat x) default).lo)-ab) <|
  M.gi (((l4.getD (Int.toNat x) default).hi)+aa) <|
  M.bind (m_daily_opened_1 x2 (((l4.getD (Int.toNat x) default).lo)-ab) (((l4.getD (Int.toNat x) default).hi)+aa) aa ab ac l4) fun l_k023 =>
  M.pure (.inl l_k023)
def m_daily_opened_b2 (aa ab:Int) (ac:List DVal):(List Span)->(Int × Int)->M ((List Span) ⊕ Unit):=fun l5 (x3,x4) =>
  M.grd (decide ((0:Int)<=x3)&&decide (x3<(l5.length:Int))) <|
  M.gi (((l5.getD (Int.toNat x3) default).lo)-aa) <|
  M.gi (((l5.getD (Int.toNat x3) default).hi)+ab) <|
  M.bind (m_daily_opened_1 x4 (((l5.getD (Int.toNat x3) default).lo)-aa) (((l5.getD (Int.toNat x3) default).hi)+ab) aa ab ac l5) fun l_k0232 =>
  M.pure (.inl l_k0232)
def m_daily_opened (aa ab:Int) (ac:List DVal):M (Int × Int × (List Span) × Bool × Int) :=
  M.bind (m_daily_Check aa ab ac) fun r2 =>
  bif r2 != 0 then (
  M.fail)
  else (
  M.bind (M.iter (m_daily_opened_b0 ac) (0,[])) fun (l2,l3) =>
  M.bind (m_daily_work_pairs aa ab ac l3 false) fun ae =>
  M.bind (m_daily_work_pairs_1 (M.yl (m_daily_opened_b1 aa ab ac)) (.inl l3) aa ab ac ae) fun x_=>match x_ with
  | .inl l4=>(
  M.bind (m_daily_work_pairs aa ab ac l4 true) fun ah =>
  M.bind (m_daily_work_pairs_1 (M.yl (m_daily_opened_b2 aa ab ac)) (.inl l4) aa ab ac ah) fun x_=>match x_ with
  | .inl l5=>(
  M.bind (m_daily_every_api_Span l5 (fun ai=>m_daily_opened_2 ai)) fun r3 =>
  M.pure (aa,ab,l5,r3,0))
  | .inr _=>M.fail)
  | .inr _=>M.fail)
theorem daily_opened_ok {R aU ae}(aa ab ai)(aq:Reads R aU)(aw:Sl aU ae ai){r}(hM:(m_daily_opened aa ab ai).Ends r)(w)(H:St w w [] R):Ret Tryz.prog 129 #[.agg #[I aa,I ab,ae]] w fun v w'=>∃ y0 y1 y2 y3 y4 aV u1,(y0,y1,y2,y3,y4)=r/\v = .tuple #[Pq aV,B y3,I y4]/\St w w' [cBlk aV [I y0,I y1,ae,u1] 181,cOwn (α:=Span) 27 u1 y2] R:=by
 refine ret_of_WD Tryz.func129 rfl rfl rfl ?_;replace H:St w w [cMk ([])] R:=H.mk0;have bA:=aw.len_le;unfold m_daily_opened at hM;refine WD.seq<|WD.of ?_;refine kB 1 ?_;intro ax bB H;refine kg 4 ?_;refine WD.seq<|WD.seq<|WD.of ?_;refine kC 2 @daily_Check_ok ?_;intro bC r2 hM H;refine kg 2 ?_;refine WD.seq<|WD.of ?_;refine kg 4 ?_
 refine WD.cond (r2 != 0) rfl (fun aF=>?_) (fun aF=>?_)
 ·replace hM:=M.e_t hM aF;exact (M.e_fail hM).elim
 replace hM:=M.e_f hM aF;replace aF:=dI aF;refine WD.of<|W.skip<|WD.seq<|WD.of ?_;refine kB 3 ?_;intro ac bD H;refine kal ?_;intro ah bE H;refine ksw ?_;intro bF H;refine s_nil<|WD.seq<|WD.seq<|WD.of ?_
 have bG:=(aw).len_le;refine kg 6 ?_;refine WD.block ?_;replace H:=H.nilOwn (α:=Span) 27;obtain ⟨a6,aW,a7⟩:=M.e_bind hM;obtain ⟨bH,aW⟩:=M.e_iter aW;refine WD.loop (fun m au σ W=>∃ (s:Nat) (l:List Span) (am:Value) (ρ:Env),σ=upds ρ [(6,Pq ah),(23,ae),(24,I (ai.length:Int)),(25,I (s:Int))]/\M.iterN (m_daily_opened_b0 ai) m (s,l)=some a6/\St w W [cOwn (α:=Span) 27 am l,cBlk ah [Pq ac] 177,cBlk ac [I aa,I ab,ae,am] 181,cBlk ax [I aa,I ab,ae] 128,cMk au] R) ?_ ?_
 ·exact kY
 rintro bI au σ bJ ⟨s,l,am,ρ,rfl,a8,H⟩;obtain ⟨bK,bL,bM,hM,ba⟩:=M.e_iterN a8;refine WD.seq<|WD.of ?_;refine kg 3 ?_;refine WD.seq ?_
 refine WD.cond (decide ((s:Int)<(ai.length:Int))) rfl (fun av=>?_) (fun av=>?_)
 ·replace hM:=M.e_t hM av;replace av:=dI av;refine WD.of<|W.skip<|WD.seq<|WD.block<|WD.seq<|WD.of ?_;obtain ⟨bN,hM⟩:=M.e_gq hM;refine kA 3 ?_;intro bO bP H;refine ksw ?_;intro bQ H;refine s_nil<|WD.of ?_;refine kDS 0 [0,2,3,4,5] (.q 0 (.q 1 (.q 2 (.q 3 (.q 4 (.q 5 (.l 6 (.l 7 (.l 8 (.q 9 (.q 10 .nil))))))))))) 11 [11] ?_;intro bR H;refine kC 7 @daily_Value_span_ok ?_;intro bS r0 r1 hM H;refine kN ?_;refine kL 1 (α:=Span) [⟨r0,r1⟩] ?_;intro bT bU H;refine kN ?_;refine ts_l rfl ?_;obtain ⟨bV,hM⟩:=M.e_gq hM;refine kP 0 ?_;intro bW bX H;refine kN ?_;refine kS 4 ?_;intro bY H
  refine s_nil ⟨trivial,?_⟩;refine sr_nil ?_;replace H:=H.pk [2,3,4,5,6];refine WD.of ?_;exact kX 4
 replace hM:=M.e_f hM av;replace av:=dI av;refine WD.of ?_;refine W.exit ?_;obtain rfl:=M.e_inr hM ba;replace hM:=a7;refine WD.seq<|WD.of<|W.region rfl<|s_val (x_mf (fs:=[]) (cs:=[Pq ah]) rfl rfl) ?_;refine kal ?_;intro ao bZ H;refine ksw ?_;intro b4 H;refine s_nil<|WD.seq<|WD.seq<|WD.of ?_;refine kC 2 @daily_work_pairs_ok ?_;intro b6 ay az aA hM H;refine s_nil<|WD.block ?_;obtain ⟨b7,bb,hM⟩:=M.e_bind hM;refine WD.range (L:=[cOwn (α:=Span) 27 am l,cBlk ac [I aa,I ab,ae,am] 181,cBlk az [Pq ac] 177,cBlk aA [B ay] 4,cBlk ao [.func (.func 177) #[] #[Pq ah]] 301,cBlk ah [Pq ac] 177,cBlk ax [I aa,I ab,ae] 128]) [Pq az,Pq aA] (H.pk [7,3,5,0,1,2,4,6]) rfl cq ?_;intro aG aB aI bc aJ H
 have hYC:YieldC Tryz.prog ([cMk (aB :: au),cBlk az [Pq ac] 177,cBlk aA [B ay] 4,cBlk ao [.func (.func 177) #[] #[Pq ah]] 301,cBlk ah [Pq ac] 177,cBlk ax [I aa,I ab,ae] 128]++R) arII (yJ aG aI (fun l4 ap=>∃ (aj:Value),ap=[cOwn (α:=Span) 27 aj l4,cBlk ac [I aa,I ab,ae,aj] 181]) (fun (_:Unit) _=>False) (fun _=>.ret)) (.func (.yield aG) #[] #[]) (M.yl (m_daily_opened_b1 aa ab ai)):=by
  refine YieldC.mk aJ (fun l4 ap=>∃ (aj:Value),ap=[cOwn (α:=Span) 27 aj l4,cBlk ac [I aa,I ab,ae,aj] 181]) (fun (_:Unit) _=>False) (fun _=>.ret) (m_daily_opened_b1 aa ab ai) (by rintro l4 _ h_; obtain ⟨_,rfl⟩:=h_; rfl) (fun _ _ h_=>h_.elim) rfl (arII_len rfl) ?_;intro C_ bf x_ W_ aK;obtain ⟨x,x2⟩:=x_;obtain rfl:=aK;refine kg 7 ?_;refine ⟨rfl,rfl,?_⟩;intro w R aL ap s_ r aM hM H
  skip
  obtain ⟨l4,aN⟩:∃ y_,y_=s_:=⟨_,rfl⟩
  subst aN;obtain ⟨aj,rfl⟩:=aM;replace aq:=aq.sub aL;replace hM:(m_daily_opened_b1 aa ab ai l4 (x,x2)).Ends r:=hM;simp only [m_daily_opened_b1] at hM;replace H:=H.pk [0,1,3,4,5,6,7,2];refine kDS 1 [0,1,2,3,4,5,6,7] (.q 0 (.q 1 (.q 2 (.q 3 (.q 4 (.q 5 (.q 6 (.q 7 (.q 8 (.q 9 (.q 10 (.q 11 (.q 12 (.q 13 (.q 14 (.q 15 (.q 16 (.q 17 (.q 18 (.q 19 (.q 20 (.q 21 (.q 22 (.q 23 (.q 24 (.q 25 (.q 26 (.q 27 (.q 28 (.q 29 .nil)))))))))))))))))))))))))))))) 30 [30] ?_;intro b8 H;obtain ⟨b9,hM⟩:=M.e_gq hM;obtain ⟨cb,hM⟩:=M.e_gq hM;obtain ⟨cc,hM⟩:=M.e_gq hM;refine kG 32 ?_;obtain ⟨cd,bg,hM⟩:=M.e_bind hM;refine s_callv (f:=177) rfl cq [I x2,I (((l4.getD (Int.toNat x) default).lo)-ab),I (((l4.getD (Int.toNat x) default).hi)+aa)] rfl (daily_opened_1_ok x2 (((l4.getD (Int.toNat x) default).lo)-ab) (((l4.getD (Int.toNat x) default).hi)+aa) aa ab ai l4 (aq.app _) aw (Has.here (k:=3) rfl) bg _ (H.gt 6)) ?_;rintro _ ce ⟨l_k023,aO,rfl,rfl,ak⟩;replace H:=H.bk ak;refine s_nil ⟨trivial,?_⟩;refine sr_nil ?_;exact ⟨l_k023,[cOwn (α:=Span) 27 aO l_k023,cBlk ac [I aa,I ab,ae,aO] 181],(M.e_pure hM).symm,⟨aO,rfl⟩,H.pick [0,1,7,2,3,4,5,6] (by decide) rfl⟩
 replace H:St w bc (cAll (cObj aG (.loop aI) :: [cOwn (α:=Span) 27 am l,cBlk ac [I aa,I ab,ae,am] 181]) :: [cMk (aB :: au),cBlk az [Pq ac] 177,cBlk aA [B ay] 4,cBlk ao [.func (.func 177) #[] #[Pq ah]] 301,cBlk ah [Pq ac] 177,cBlk ax [I aa,I ab,ae] 128]) R:=St.bundleB (A:=cObj aG (.loop aI) :: [cOwn (α:=Span) 27 am l,cBlk ac [I aa,I ab,ae,am] 181]) (T:=[cMk (aB :: au),cBlk az [Pq ac] 177,cBlk aA [B ay] 4,cBlk ao [.func (.func 177) #[] #[Pq ah]] 301,cBlk ah [Pq ac] 177,cBlk ax [I aa,I ab,ae] 128]) rfl (H.pk [0,2,3,1,4,5,6,7,8]);refine (daily_work_pairs_1_ok (M.yl (m_daily_opened_b1 aa ab ai)) (.inl l) aa ab ai ay hYC ⟨_,rfl,⟨am,rfl⟩⟩ (aq.app _) aw (by rintro (l4 | _) _ h_; (obtain ⟨_,rfl,_,rfl⟩:=h_; exact Fld.all (Fld.here (k:=2) rfl rfl)); (obtain ⟨_,_,h_⟩:=h_; exact h_.elim)) (Has.here (k:=1) rfl) (Has.here (k:=2) rfl) bb _ (H.gt 6)).mono ?_;rintro vq cf ⟨bh,cg,rfl,hvq,ak,aX⟩;replace H:=H.back ak rfl;clear ak hYC;rcases bh with l4 | _
 ·obtain ⟨_,rfl,aj,rfl⟩:=aX;refine ⟨_,[cOwn (α:=Span) 27 aj l4,cBlk ac [I aa,I ab,ae,aj] 181,cBlk az [Pq ac] 177,cBlk aA [B ay] 4,cBlk ao [.func (.func 177) #[] #[Pq ah]] 301,cBlk ah [Pq ac] 177,cBlk ax [I aa,I ab,ae] 128],H.unbundle.pick [0,3,1,2,4,5,6,7,8] (by decide) rfl,aJ.nb,?_⟩;intro ch H;rw [aJ.pd];replace H:=H.nf
  try simp only []
  replace H:=H.pk [0,1,2,5,6];refine WD.seq<|WD.seq<|WD.of ?_;refine kC 2 @daily_work_pairs_ok ?_;intro cj aC aD aE hM H;refine s_nil<|WD.block ?_;obtain ⟨ck,bi,hM⟩:=M.e_bind hM;refine WD.range (L:=[cOwn (α:=Span) 27 aj l4,cBlk ac [I aa,I ab,ae,aj] 181,cBlk aD [Pq ac] 177,cBlk aE [B aC] 4,cBlk ao [.func (.func 177) #[] #[Pq ah]] 301,cBlk ah [Pq ac] 177]) [Pq aD,Pq aE] (H.pk [2,3,4,0,1,5,6]) rfl cq ?_;intro aH aP aQ bj aR H
  have hYC:YieldC Tryz.prog ([cMk (aP :: (aB :: au)),cBlk aD [Pq ac] 177,cBlk aE [B aC] 4,cBlk ao [.func (.func 177) #[] #[Pq ah]] 301,cBlk ah [Pq ac] 177]++R) arII (yJ aH aQ (fun l5 ap=>∃ (al:Value),ap=[cOwn (α:=Span) 27 al l5,cBlk ac [I aa,I ab,ae,al] 181]) (fun (_:Unit) _=>False) (fun _=>.ret)) (.func (.yield aH) #[] #[]) (M.yl (m_daily_opened_b2 aa ab ai)):=by
   refine YieldC.mk aR (fun l5 ap=>∃ (al:Value),ap=[cOwn (α:=Span) 27 al l5,cBlk ac [I aa,I ab,ae,al] 181]) (fun (_:Unit) _=>False) (fun _=>.ret) (m_daily_opened_b2 aa ab ai) (by rintro l5 _ h_; obtain ⟨_,rfl⟩:=h_; rfl) (fun _ _ h_=>h_.elim) rfl (arII_len rfl) ?_;intro C_ bf x_ W_ aK;obtain ⟨x3,x4⟩:=x_;obtain rfl:=aK;refine kg 7 ?_;refine ⟨rfl,rfl,?_⟩;intro w R aL ap s_ r aM hM H
   skip
   obtain ⟨l5,aN⟩:∃ y_,y_=s_:=⟨_,rfl⟩
   subst aN;obtain ⟨al,rfl⟩:=aM;replace aq:=aq.sub aL;replace hM:(m_daily_opened_b2 aa ab ai l5 (x3,x4)).Ends r:=hM;simp only [m_daily_opened_b2] at hM;replace H:=H.pk [0,1,3,4,5,6,2];refine kDS 1 [0,1,2,3,4,5,6] (.q 0 (.q 1 (.q 2 (.q 3 (.q 4 (.q 5 (.q 6 (.q 7 (.q 8 (.q 9 (.q 10 (.q 11 (.q 12 (.q 13 (.q 14 (.q 15 (.q 16 (.q 17 (.q 18 (.q 19 (.q 20 (.q 21 (.q 22 (.q 23 (.q 24 (.q 25 (.q 26 (.q 27 (.q 28 (.q 29 .nil)))))))))))))))))))))))))))))) 30 [30] ?_;intro cn H;obtain ⟨cp,hM⟩:=M.e_gq hM;obtain ⟨cr,hM⟩:=M.e_gq hM;obtain ⟨ct,hM⟩:=M.e_gq hM;refine kG 32 ?_;obtain ⟨cu,bm,hM⟩:=M.e_bind hM;refine s_callv (f:=177) rfl cq [I x4,I (((l5.getD (Int.toNat x3) default).lo)-aa),I (((l5.getD (Int.toNat x3) default).hi)+ab)] rfl (daily_opened_1_ok x4 (((l5.getD (Int.toNat x3) default).lo)-aa) (((l5.getD (Int.toNat x3) default).hi)+ab) aa ab ai l5 (aq.app _) aw (Has.here (k:=3) rfl) bm _ (H.gt 5)) ?_;rintro _ cv ⟨l_k0232,aS,rfl,rfl,ak⟩;replace H:=H.bk ak;refine s_nil ⟨trivial,?_⟩;refine sr_nil ?_;exact ⟨l_k0232,[cOwn (α:=Span) 27 aS l_k0232,cBlk ac [I aa,I ab,ae,aS] 181],(M.e_pure hM).symm,⟨aS,rfl⟩,H.pick [0,1,6,2,3,4,5] (by decide) rfl⟩
  replace H:St w bj (cAll (cObj aH (.loop aQ) :: [cOwn (α:=Span) 27 aj l4,cBlk ac [I aa,I ab,ae,aj] 181]) :: [cMk (aP :: (aB :: au)),cBlk aD [Pq ac] 177,cBlk aE [B aC] 4,cBlk ao [.func (.func 177) #[] #[Pq ah]] 301,cBlk ah [Pq ac] 177]) R:=St.bundleB (A:=cObj aH (.loop aQ) :: [cOwn (α:=Span) 27 aj l4,cBlk ac [I aa,I ab,ae,aj] 181]) (T:=[cMk (aP :: (aB :: au)),cBlk aD [Pq ac] 177,cBlk aE [B aC] 4,cBlk ao [.func (.func 177) #[] #[Pq ah]] 301,cBlk ah [Pq ac] 177]) rfl (H.pk [0,2,3,1,4,5,6,7]);refine (daily_work_pairs_1_ok (M.yl (m_daily_opened_b2 aa ab ai)) (.inl l4) aa ab ai aC hYC ⟨_,rfl,⟨aj,rfl⟩⟩ (aq.app _) aw (by rintro (l5 | _) _ h_; (obtain ⟨_,rfl,_,rfl⟩:=h_; exact Fld.all (Fld.here (k:=2) rfl rfl)); (obtain ⟨_,_,h_⟩:=h_; exact h_.elim)) (Has.here (k:=1) rfl) (Has.here (k:=2) rfl) bi _ (H.gt 5)).mono ?_;rintro vq cB ⟨bn,cC,rfl,hvq,ak,aY⟩;replace H:=H.back ak rfl;clear ak hYC;rcases bn with l5 | _
  ·obtain ⟨_,rfl,al,rfl⟩:=aY;refine ⟨_,[cOwn (α:=Span) 27 al l5,cBlk ac [I aa,I ab,ae,al] 181,cBlk aD [Pq ac] 177,cBlk aE [B aC] 4,cBlk ao [.func (.func 177) #[] #[Pq ah]] 301,cBlk ah [Pq ac] 177],H.unbundle.pick [0,3,1,2,4,5,6,7] (by decide) rfl,aR.nb,?_⟩;intro cD H;rw [aR.pd];replace H:=H.nf
   try simp only []
   replace H:=H.pk [0,1,2,6];refine WD.seq<|WD.of ?_;refine kD 0 [0,1,2,3] [5] ?_;intro cE H;refine kg 5 ?_;refine d_l rfl ?_;obtain ⟨cF,bo,hM⟩:=M.e_bind hM;refine s_call cq [al,.func (.func 180) #[] #[]] rfl (daily_every_api_Span_ok l5 (fun aT=>m_daily_opened_2 aT) (rdo 1) (H.os 1) ⟨180,[],rfl,cq,fun aZ cG cH bp aT cI br cJ bt bu=>by obtain rfl:=Span_arg bt; exact (daily_opened_2_ok aT bu aZ (St.refl br)).mono fun bp aZ ⟨cK,bv,bw,bx⟩=>by subst bv; exact ⟨bw,bx⟩⟩ bo _ (H.gt 4)) ?_
   rintro _ cL ⟨r3,rfl,rfl,ak⟩;replace H:=H.bk ak;refine kN ?_;refine kg 4 ?_;refine WD.of ?_;refine W.ret ?_;refine bodyD_r (H.pk [0,1,2,3]) ?_;intro cM H;replace H:=H.nf;have bz:=M.e_pure hM;exact ⟨_,resE_tmp3 rfl,⟨aa,ab,l5,r3,0,ac,al,bz,rfl,(H.pk [1,0])⟩⟩
  obtain ⟨_,_,h_⟩:=aY; exact h_.elim
 obtain ⟨_,_,h_⟩:=aX; exact h_.elim

def m_daily_agreed (aa ab:Int) (ac:List DVal):M (Int × Int × (List Span) × Int) :=
  M.bind (m_daily_opened aa ab ac) fun (ae,ah,ai,r1,r2) =>
  bif ((r2==0)&&(!r1)) then (
  M.fail)
  else (
  M.pure (ae,ah,ai,r2))
theorem daily_agreed_ok {R ab aa}(ac ae ah)(ak:Reads R ab)(al:Sl ab aa ah){r}(hM:(m_daily_agreed ac ae ah).Ends r)(w)(H:St w w [] R):Ret Tryz.prog 81 #[.agg #[I ac,I ae,aa]] w fun v w'=>∃ y0 y1 y2 y3 ai u1,(y0,y1,y2,y3)=r/\v = .tuple #[Pq ai,I y3]/\St w w' [cBlk ai [I y0,I y1,aa,u1] 181,cOwn (α:=Span) 27 u1 y2] R:=by
 refine ret_of_W Tryz.func81 rfl rfl rfl ?_;refine kB 2 ?_;intro am ao H;refine kC 6 @daily_opened_ok ?_;intro ap aq au av r1 r2 aw ax hM H;refine kI 18 ?_ ?_
 ·intro aj hM;exact (M.e_fail hM).elim
 intro aj hM;exact kR 8 [0,1]

def m_daily_both  : M Unit :=
  M.pure ()
theorem daily_both_ok {R r}(hM:(m_daily_both).Ends r)(w)(H:St w w [] R):Ret Tryz.prog 82 #[] w fun v w'=>()=r/\v = .agg #[.func (.func 130) #[] #[],.func (.func 131) #[] #[]]/\St w w' [] R:=by
 refine ret_of_W Tryz.func82 rfl rfl rfl ?_;refine kA 2 ?_;intro aa ab H;refine kG 5 ?_;refine s_val (x_bldA (e:=183) (n:=2) (s:=1) (pl:=[(0,1),(1,1)]) (ps:=[(0,.agg #[.func (.func 130) #[] #[]]),(1,.agg #[.func (.func 131) #[] #[]])]) (zs:=[.nilFunc,.nilFunc]) (L':=[.func (.func 130) #[] #[],.func (.func 131) #[] #[]]) rfl Tryz.underlying184 Al184.h rfl Sz183.h rfl (.cons (cs:=[.func (.func 130) #[] #[]]) rfl rfl rfl rfl rfl<|.cons (cs:=[.func (.func 131) #[] #[]]) rfl rfl rfl rfl rfl<|.nil)) ?_;refine ksw ?_;intro ac H;exact kR 1 []

def m_daily_both_1 (s:Span):M Int :=
  M.pure s.lo
theorem daily_both_1_ok {R}(s){r}(hM:(m_daily_both_1 s).Ends r)(w)(H:St w w [] R):Ret Tryz.prog 130 #[.agg #[I s.lo,I s.hi]] w fun v w'=>∃ y0,y0=r/\v=I y0/\St w w' [] R:=by
 refine ret_of_W Tryz.func130 rfl rfl rfl ?_;refine kB 2 ?_;intro aa ab H;refine kg 8 ?_;exact rt

def m_daily_ends_130_b0 (l:List Span):(Nat × (List Int))->M ((Nat × (List Int)) ⊕ ((List Int) × (List Int))):=fun (s,l2) =>
  bif decide ((s:Int)<(l.length:Int)) then (
  M.grd (decide ((s:Int)<(l.length:Int))) <|
  M.bind (m_daily_both_1 (l.getD s default)) fun r2 =>
  M.grd (decide ((l2.length+([(r2:Int)]).length)*8<=140737488355328)) <|
  M.pure (.inl (s+1,l2++([(r2:Int)]))))
  else (
  M.pure (.inr (l2,l2)))
def m_daily_ends_130 (l:List Span):M (List Int) :=
  M.bind (M.iter (m_daily_ends_130_b0 l) (0,[])) fun (l3,l4) =>
  M.pure l4
theorem daily_ends_130_ok {R ac aa}(l)(au:Reads R ac)(ai:Sl ac aa l){r}(hM:(m_daily_ends_130 l).Ends r)(w)(H:St w w [] R):Ret Tryz.prog 84 #[aa,.agg #[.func (.func 130) #[] #[]]] w fun v w'=>∃ y0 u0,y0=r/\v=u0/\St w w' [cOwn (α:=Int) 3 u0 y0] R:=by
 refine ret_of_W Tryz.func84 rfl rfl rfl ?_;refine kB 2 ?_;intro ae av H;have aw:=(ai).len_le;refine kg 14 ?_;replace H:=H.nilOwn (α:=Int) 3;obtain ⟨aj,ah,ak⟩:=M.e_bind hM;obtain ⟨ax,ah⟩:=M.e_iter ah;refine W.loop (fun m σ W=>∃ (s:Nat) (l2:List Int) (ab:Value) (ρ:Env),σ=upds ρ [(3,Pq ae),(5,ab),(8,aa),(9,I (l.length:Int)),(10,I (s:Int))]/\M.iterN (m_daily_ends_130_b0 l) m (s,l2)=some aj/\St w W [cOwn (α:=Int) 3 ab l2,cBlk ae [.func (.func 130) #[] #[]] 183] R) ?_ ?_
 ·exact kY
 rintro ay σ az ⟨s,l2,ab,ρ,rfl,al,H⟩;obtain ⟨aA,aB,aC,hM,am⟩:=M.e_iterN al;refine kI 5 ?_ ?_
 ·intro ao hM;obtain ⟨aD,hM⟩:=M.e_gq hM;refine kA 7 ?_;intro aE aF H;refine ksw ?_;intro aG H;refine kg 6 ?_;obtain ⟨aH,ap,hM⟩:=M.e_bind hM;refine s_callv (f:=130) rfl cq [.agg #[I ((l.getD s default).lo),I ((l.getD s default).hi)]] rfl (daily_both_1_ok (l.getD s default) ap _ (H.gt 3)) ?_;rintro _ aI ⟨r2,rfl,rfl,aq⟩;replace H:=H.bk aq;refine kL 0 (α:=Int) [r2] ?_;intro aJ aK H;obtain ⟨aL,hM⟩:=M.e_gq hM;refine kP 0 ?_;intro aM aN H;refine kg 2 ?_;replace H:=H.pk [2,3];exact kX 4
 intro ao hM;refine W.exit ?_;obtain rfl:=M.e_inr hM am;replace hM:=ak;exact kR 5 [0]

def m_daily_sum_b0 (l:List Int):(Int × Nat)->M ((Int × Nat) ⊕ Int):=fun (out,s) =>
  bif decide ((s:Int)<(l.length:Int)) then (
  M.grd (decide ((s:Int)<(l.length:Int))) <|
  M.gi (out+(l.getD s 0)) <|
  M.pure (.inl (out+(l.getD s 0),s+1)))
  else (
  M.pure (.inr out))
def m_daily_sum (l:List Int):M Int :=
  M.bind (M.iter (m_daily_sum_b0 l) (0,0)) fun out2 =>
  M.pure out2
theorem daily_sum_ok {R ab aa}(l)(am:Reads R ab)(ae:Sl ab aa l){r}(hM:(m_daily_sum l).Ends r)(w)(H:St w w [] R):Ret Tryz.prog 83 #[aa] w fun v w'=>∃ y0,y0=r/\v=I y0/\St w w' [] R:=by
 refine ret_of_W Tryz.func83 rfl rfl rfl ?_;have ao:=(ae).len_le;refine kg 16 ?_;obtain ⟨ah,ac,ai⟩:=M.e_bind hM;obtain ⟨ap,ac⟩:=M.e_iter ac;refine W.loop (fun m σ W=>∃ (out:Int) (s:Nat) (ρ:Env),σ=upds ρ [(3,I out),(6,aa),(7,I (l.length:Int)),(8,I (s:Int))]/\M.iterN (m_daily_sum_b0 l) m (out,s)=some ah/\St w W [] R) ?_ ?_
 ·exact kY
 rintro aq σ au ⟨out,s,ρ,rfl,aj,H⟩;obtain ⟨av,aw,ax,hM,ak⟩:=M.e_iterN aj;refine kI 5 ?_ ?_
 ·intro al hM;obtain ⟨ay,hM⟩:=M.e_gq hM;obtain ⟨az,hM⟩:=M.e_gq hM;exact kX 19
 intro al hM;refine W.exit ?_;obtain rfl:=M.e_inr hM ak;replace hM:=ai;refine kg 5 ?_;exact rt

def m_daily_both_2 (s:Span):M Int :=
  M.pure s.hi
theorem daily_both_2_ok {R}(s){r}(hM:(m_daily_both_2 s).Ends r)(w)(H:St w w [] R):Ret Tryz.prog 131 #[.agg #[I s.lo,I s.hi]] w fun v w'=>∃ y0,y0=r/\v=I y0/\St w w' [] R:=by
 refine ret_of_W Tryz.func131 rfl rfl rfl ?_;refine kB 2 ?_;intro aa ab H;refine kg 8 ?_;exact rt

end Go.Proofs.YtbgoclcmgbpckabGreat
end
section
set_option maxRecDepth 100000
set_option maxHeartbeats 16000000
namespace Go.Proofs.YtbgoclcmgbpckabGreat
open Go Go.Nm
attribute [local irreducible] gd execOp SL SLD SLT WR
def m_daily_ends_131_b0 (l:List Span):(Nat × (List Int))->M ((Nat × (List Int)) ⊕ ((List Int) × (List Int))):=fun (s,l2) =>
  bif decide ((s:Int)<(l.length:Int)) then (
  M.grd (decide ((s:Int)<(l.length:Int))) <|
  M.bind (m_daily_both_2 (l.getD s default)) fun r2 =>
  M.grd (decide ((l2.length+([(r2:Int)]).length)*8<=140737488355328)) <|
  M.pure (.inl (s+1,l2++([(r2:Int)]))))
  else (
  M.pure (.inr (l2,l2)))
def m_daily_ends_131 (l:List Span):M (List Int) :=
  M.bind (M.iter (m_daily_ends_131_b0 l) (0,[])) fun (l3,l4) =>
  M.pure l4
theorem daily_ends_131_ok {R ac aa}(l)(au:Reads R ac)(ai:Sl ac aa l){r}(hM:(m_daily_ends_131 l).Ends r)(w)(H:St w w [] R):Ret Tryz.prog 84 #[aa,.agg #[.func (.func 131) #[] #[]]] w fun v w'=>∃ y0 u0,y0=r/\v=u0/\St w w' [cOwn (α:=Int) 3 u0 y0] R:=by
 refine ret_of_W Tryz.func84 rfl rfl rfl ?_;refine kB 2 ?_;intro ae av H;have aw:=(ai).len_le;refine kg 14 ?_;replace H:=H.nilOwn (α:=Int) 3;obtain ⟨aj,ah,ak⟩:=M.e_bind hM;obtain ⟨ax,ah⟩:=M.e_iter ah;refine W.loop (fun m σ W=>∃ (s:Nat) (l2:List Int) (ab:Value) (ρ:Env),σ=upds ρ [(3,Pq ae),(5,ab),(8,aa),(9,I (l.length:Int)),(10,I (s:Int))]/\M.iterN (m_daily_ends_131_b0 l) m (s,l2)=some aj/\St w W [cOwn (α:=Int) 3 ab l2,cBlk ae [.func (.func 131) #[] #[]] 183] R) ?_ ?_
 ·exact kY
 rintro ay σ az ⟨s,l2,ab,ρ,rfl,al,H⟩;obtain ⟨aA,aB,aC,hM,am⟩:=M.e_iterN al;refine kI 5 ?_ ?_
 ·intro ao hM;obtain ⟨aD,hM⟩:=M.e_gq hM;refine kA 7 ?_;intro aE aF H;refine ksw ?_;intro aG H;refine kg 6 ?_;obtain ⟨aH,ap,hM⟩:=M.e_bind hM;refine s_callv (f:=131) rfl cq [.agg #[I ((l.getD s default).lo),I ((l.getD s default).hi)]] rfl (daily_both_2_ok (l.getD s default) ap _ (H.gt 3)) ?_;rintro _ aI ⟨r2,rfl,rfl,aq⟩;replace H:=H.bk aq;refine kL 0 (α:=Int) [r2] ?_;intro aJ aK H;obtain ⟨aL,hM⟩:=M.e_gq hM;refine kP 0 ?_;intro aM aN H;refine kg 2 ?_;replace H:=H.pk [2,3];exact kX 4
 intro ao hM;refine W.exit ?_;obtain rfl:=M.e_inr hM am;replace hM:=ak;exact kR 5 [0]

def m_daily_Volume (ah ai:Int) (ac:List DVal) (ab aa:Int):M (Int × Int × Int) :=
  M.bind (m_daily_Check ah ai ac) fun r2 =>
  bif r2 != 0 then (
  M.fail)
  else (
  M.bind (m_daily_in ab 0 aa) fun r3 =>
  bif ((!r3)||(decide ((ac.length:Int)<=aa))) then (
  M.fail)
  else (
  M.bind (m_daily_agreed ah ai ac) fun (aj,ak,ae,r1) =>
  bif r1 != 0 then (
  M.fail)
  else (
  M.gi (aa+1) <|
  M.grd (decide ((0:Int)<=ab)&&decide (ab<=(aa+1))&&decide ((aa+1)<=(ae.length:Int))) <|
  M.bind (m_daily_both) fun (_:Unit) =>
  M.bind (m_daily_ends_130 ((ae.take (Int.toNat (aa+1))).drop (Int.toNat ab))) fun r4 =>
  M.bind (m_daily_sum r4) fun r5 =>
  M.bind (m_daily_ends_131 ((ae.take (Int.toNat (aa+1))).drop (Int.toNat ab))) fun r6 =>
  M.bind (m_daily_sum r6) fun r7 =>
  M.pure (r5,r7,0))))
theorem daily_Volume_ok {R ae ah}(ai aj ak aa ab)(aA:Reads R ae)(ao:Sl ae ah ak){r}(hM:(m_daily_Volume ai aj ak aa ab).Ends r)(w)(H:St w w [] R):Ret Tryz.prog 41 #[.agg #[I ai,I aj,ah],I aa,I ab] w fun v w'=>∃ y0 y1 y2,(y0,y1,y2)=r/\v = .tuple #[.agg #[I y0,I y1],I y2]/\St w w' [] R:=by
 refine ret_of_W Tryz.func41 rfl rfl rfl ?_;refine kB 2 ?_;intro aB aC H;refine kal ?_;intro aD aE H;refine kC 6 @daily_Check_ok ?_;intro aF r2 hM H;refine kI 7 ?_ ?_
 ·intro ap hM;exact (M.e_fail hM).elim
 intro ap hM;refine kC 6 @daily_in_ok ?_;intro aG r3 hM H;have aH:=(ao).len_le;refine kI 9 ?_ ?_
 ·intro aq hM;exact (M.e_fail hM).elim
 intro aq hM;refine kC 4 @daily_agreed_ok ?_;intro aI aJ aK au r1 aL av hM H;refine kI 12 ?_ ?_
 ·intro aw hM;exact (M.e_fail hM).elim
 intro aw hM;refine kDT 2 [0,1,2,3] (.q 0 (.q 1 (.q 2 (.q 3 (.q 4 (.q 5 (.q 6 (.q 7 (.l2 8 (.l 9 (.q 10 (.l 11 .nil))) 9 (.l 8 (.q 10 (.l 11 .nil)))))))))))) ?_;intro aM H;obtain ⟨aN,hM⟩:=M.e_gq hM;obtain ⟨aO,hM⟩:=M.e_gq hM;refine kg 7 ?_;obtain ⟨al,ax,am⟩:=sl_lohi T23.h.und T23.h.size (H.os 1) (i:=aa) (j:=ab+1) (by omega) (by omega) (by omega);replace am:Sl _ al ((au.take (Int.toNat (ab+1))).drop (Int.toNat aa)):=am;refine t_q rfl (fun w' H=>x_sl (v:=av) (u:=al) (lo':=some (I aa)) (hi':=some (I (ab+1))) (mx':=none) rfl rfl rfl rfl (ax _)) ?_;refine t_l2 rfl rfl ?_ ?_
 ·refine kC 0 @daily_both_ok ?_;intro aP hM H;refine kN ?_;refine kA 1 ?_;intro ac aQ H;refine kN ?_;refine kS 2 ?_;intro aR H;refine kN ?_;refine t_nil ?_;replace H:=H.pk [0,2,3];refine kDo 1 [0,1] [(0,true),(1,true),(2,true),(5,true),(6,true),(7,true),(3,false),(4,false),(8,false),(9,false),(10,true),(11,false),(12,true)] ?_;intro aS H;refine kg 1 ?_;refine d_q rfl (fun w' H=>x_ix (v:=Pq ac) rfl rfl (run_indexArrC Tryz.underlying184 Sz183.h (by decide) (by decide))) ?_;refine kg 2 ?_;refine d_q rfl (fun w' H=>x_ix (v:=Oq ac 1) rfl rfl (run_indexArrC Tryz.underlying184 Sz183.h (by decide) (by decide))) ?_;refine kC 2 @daily_ends_130_ok ?_;intro aT r4 ay hM H;refine kN ?_;refine kC 1 @daily_sum_ok ?_;intro aU r5 hM H;refine kN ?_;refine kC 1 @daily_ends_131_ok ?_;intro aV r6 az hM H;refine kN ?_;refine kC 1 @daily_sum_ok ?_;intro aW r7 hM H;refine kN ?_;refine kS 2 ?_;intro aX H;refine kN ?_;refine kg 2 ?_;replace H:=H.pk [4];exact kR 0 []
 refine kal ?_;intro ac aY H;refine kN ?_;refine kC 1 @daily_both_ok ?_;intro aZ hM H;refine kN ?_;refine kS 2 ?_;intro a6 H;refine kN ?_;refine t_nil ?_;replace H:=H.pk [0,2,3];refine kDo 1 [0,1] [(0,true),(1,true),(2,true),(5,true),(6,true),(7,true),(3,false),(4,false),(8,false),(9,false),(10,true),(11,false),(12,true)] ?_;intro a7 H;refine kg 1 ?_;refine d_q rfl (fun w' H=>x_ix (v:=Pq ac) rfl rfl (run_indexArrC Tryz.underlying184 Sz183.h (by decide) (by decide))) ?_;refine kg 2 ?_;refine d_q rfl (fun w' H=>x_ix (v:=Oq ac 1) rfl rfl (run_indexArrC Tryz.underlying184 Sz183.h (by decide) (by decide))) ?_;refine kC 2 @daily_ends_130_ok ?_;intro a8 r4 ay hM H;refine kN ?_;refine kC 1 @daily_sum_ok ?_;intro ba r5 hM H;refine kN ?_;refine kC 1 @daily_ends_131_ok ?_;intro bb r6 az hM H;refine kN ?_;refine kC 1 @daily_sum_ok ?_;intro bc r7 hM H;refine kN ?_;refine kS 2 ?_;intro bf H;refine kN ?_;refine kg 2 ?_;replace H:=H.pk [4];exact kR 0 []

def m_share_in (n aa greatest:Int):M Bool :=
  M.pure ((decide (aa<=n))&&(decide (n<=greatest)))
theorem share_in_ok {R}(n aa greatest){r}(hM:(m_share_in n aa greatest).Ends r)(w)(H:St w w [] R):Ret Tryz.prog 138 #[I n,I aa,I greatest] w fun v w'=>∃ y0,y0=r/\v=B y0/\St w w' [] R:=by
 refine ret_of_W Tryz.func138 rfl rfl rfl ?_;refine kg 16 ?_;exact rt

def zd8 (s:List Rgt) (f:Rgt->M Bool):Nat->M (Nat ⊕ Unit):=fun s2 =>
  bif decide ((s2:Int)<(s.length:Int)) then (
  M.grd (decide ((s2:Int)<(s.length:Int))) <|
  M.bind (f (s.getD s2 default)) fun r2 =>
  bif r2 then (
  M.fail)
  else (
  M.pure (.inl (s2+1))))
  else (
  M.pure (.inr ()))
def zeK (s:List Rgt) (f:Rgt->M Bool):M Int :=
  M.bind (M.iter (zd8 s f) 0) fun (_:Unit) =>
  M.pure (-1)
theorem zgK {R ac aa ab}(s f)(au:Reads R ac)(ah:Sl ac aa s)(ai:FnM Tryz.prog R ab f){r}(hM:(zeK s f).Ends r)(w)(H:St w w [] R):Ret Tryz.prog 233 #[aa,ab] w fun v w'=>∃ y0,y0=r/\v=I y0/\St w w' [] R:=by
 refine ret_of_W Tryz.func233 rfl rfl rfl ?_;have av:=(ah).len_le;refine kg 12 ?_;obtain ⟨aj,ae,ak⟩:=M.e_bind hM;obtain ⟨aw,ae⟩:=M.e_iter ae;refine W.loop (fun m σ W=>∃ (s2:Nat) (ρ:Env),σ=upds ρ [(0,aa),(1,ab),(7,I (s.length:Int)),(8,I (s2:Int))]/\M.iterN (zd8 s f) m s2=some aj/\St w W [] R) ?_ ?_
 ·exact kY
 rintro ax σ ay ⟨s2,ρ,rfl,al,H⟩;obtain ⟨az,aA,aB,hM,am⟩:=M.e_iterN al;refine kI 5 ?_ ?_
 ·intro ao hM;obtain ⟨aC,hM⟩:=M.e_gq hM;refine kg 15 ?_;obtain ⟨r2,ap,hM⟩:=M.e_bind hM;refine t_callM H ai rfl rfl (s.getD s2 default) Reads.none ⟨_,rfl,rfl⟩ ap ?_;intro aD H;refine kI 1 ?_ ?_
  ·intro aq hM;exact (M.e_fail hM).elim
  intro aq hM;exact kX 5
 intro ao hM;refine W.exit ?_;obtain rfl:=M.e_inr hM am;replace hM:=ak;refine kg 4 ?_;exact rt

def zen (s:List Rgt) (f:Rgt->M Bool):M Bool :=
  M.bind (zeK s f) fun r2 =>
  M.pure (decide (0<=r2))
theorem zgz {R aa ab ac}(s f)(ae:Reads R aa)(ah:Sl aa ab s)(ai:FnM Tryz.prog R ac f){r}(hM:(zen s f).Ends r)(w)(H:St w w [] R):Ret Tryz.prog 191 #[ab,ac] w fun v w'=>∃ y0,y0=r/\v=B y0/\St w w' [] R:=by
 refine ret_of_W Tryz.func191 rfl rfl rfl ?_;refine kC 8 @zgK ?_;intro aj r2 hM H;refine kg 3 ?_;exact rt

def m_share_every_share_Right__1 (x:Rgt) (aa:Rgt->M Bool):M Bool :=
  M.bind (aa x) fun r2 =>
  M.pure (!r2)
theorem share_every_share_Right__1_ok {R aa ab}(x ac)(ae:FnM Tryz.prog R ab ac)(ai:Has R (cBlk aa [ab] 254)){r}(hM:(m_share_every_share_Right__1 x ac).Ends r)(w)(H:St w w [] R):Ret Tryz.prog 192 #[.agg #[I x.state,I x.amount,I x.loss],Pq aa] w fun v w'=>∃ y0,y0=r/\v=B y0/\St w w' [] R:=by
 refine ret_of_W Tryz.func192 rfl rfl rfl ?_;refine kB 2 ?_;intro aj ak H;refine kg 6 ?_;obtain ⟨r2,ah,hM⟩:=M.e_bind hM;refine t_callM H ae rfl rfl x Reads.none ⟨_,rfl,rfl⟩ ah ?_;intro al H;refine kg 3 ?_;exact rt

def m_share_every_share_Right (l:List Rgt) (so:Rgt->M Bool):M Bool :=
  M.bind (zen l (fun aa=>m_share_every_share_Right__1 aa so)) fun r2 =>
  M.pure (!r2)
theorem share_every_share_Right_ok {R ae aa ah}(l so)(aj:Reads R ae)(ak:Sl ae aa l)(al:FnM Tryz.prog R ah so){r}(hM:(m_share_every_share_Right l so).Ends r)(w)(H:St w w [] R):Ret Tryz.prog 139 #[aa,ah] w fun v w'=>∃ y0,y0=r/\v=B y0/\St w w' [] R:=by
 refine ret_of_W Tryz.func139 rfl rfl rfl ?_;refine kB 2 ?_;intro ab az H;refine kg 5 ?_;refine s_val (x_mf (fs:=[]) (cs:=[Pq ab]) rfl rfl) ?_;obtain ⟨aA,am,hM⟩:=M.e_bind hM;refine s_call cq [aa,.func (.func 192) #[] #[Pq ab]] rfl (zgz l (fun ac=>m_share_every_share_Right__1 ac so) (aj.app _) ak ⟨192,[Pq ab],rfl,cq,fun ai aB aC ao ac aD ap aE aq au=>by obtain rfl:=Rgt_arg aq; exact (share_every_share_Right__1_ok ac so (FnM.app (al.app _) _) (Has.app (Has.here (k:=0) rfl) _) au ai (St.refl ap)).mono fun ao ai ⟨aF,av,aw,ax⟩=>by subst av; exact ⟨aw,ax⟩⟩ am _ (H.gt 1)) ?_;rintro _ aG ⟨r2,rfl,rfl,ay⟩;replace H:=H.bk ay;refine kg 3 ?_;exact rt

def m_share_water (n:Int):M Bool :=
  M.bind (m_share_in n 0 1000000000) fun r2 =>
  M.pure r2
theorem share_water_ok {R}(n){r}(hM:(m_share_water n).Ends r)(w)(H:St w w [] R):Ret Tryz.prog 93 #[I n] w fun v w'=>∃ y0,y0=r/\v=B y0/\St w w' [] R:=by
 refine ret_of_W Tryz.func93 rfl rfl rfl ?_;refine kC 7 @share_in_ok ?_;intro aa r2 hM H;refine kg 2 ?_;exact rt

def m_share_Check_1 (r_:Rgt) (aa:Int) (ab:List Rgt):M Bool :=
  M.gi (aa-1) <|
  M.bind (m_share_in r_.state 0 (aa-1)) fun r2 =>
  M.bind (M.opt r2 (m_share_water r_.amount) false) fun r3 =>
  M.bind (M.opt (r2&&r3) (m_share_in r_.loss 0 1000) false) fun r4 =>
  M.pure ((r2&&r3)&&r4)
theorem share_Check_1_ok {R ac ae ah}(r_ ai aj)(am:Reads R ae)(ao:Sl ae ah aj)(ap:Has R (cBlk ac [I ai,ah] 139)){r}(hM:(m_share_Check_1 r_ ai aj).Ends r)(w)(H:St w w [] R):Ret Tryz.prog 140 #[.agg #[I r_.state,I r_.amount,I r_.loss],Pq ac] w fun v w'=>∃ y0,y0=r/\v=B y0/\St w w' [] R:=by
 refine ret_of_W Tryz.func140 rfl rfl rfl ?_;refine kB 2 ?_;intro aq au H;obtain ⟨av,hM⟩:=M.e_gq hM;refine kC 9 @share_in_ok ?_;intro aw r2 hM H;refine kg 3 ?_;obtain ⟨r3,ak,hM⟩:=M.e_bind hM;refine t_gcall r2 (gy_t rfl) cq (B r3) (fun _=>[I r_.amount]) (fun hg=>lst1 (gd_of hg (I r_.amount))) H (fun hg=>(share_water_ok r_.amount (M.e_opt ak hg) _ (H.give (A:=[]) rfl)).mono fun v_ w_ ⟨y_,aa,ab,H_⟩=>by subst aa; exact ⟨ab,H.via H_⟩) ?_;intro ax H;refine kg 4 ?_;obtain ⟨r4,al,hM⟩:=M.e_bind hM;refine t_gcall (r2&&r3) (gy_t rfl) cq (B r4) (fun _=>[I r_.loss,I 0,I 1000]) (fun hg=>lst3 (gd_of hg (I r_.loss)) rfl rfl) H (fun hg=>(share_in_ok r_.loss 0 1000 (M.e_opt al hg) _ (H.give (A:=[]) rfl)).mono fun v_ w_ ⟨y_,aa,ab,H_⟩=>by subst aa; exact ⟨ab,H.via H_⟩) ?_;intro ay H;refine kg 3 ?_;exact rt

def m_share_Check (c_States:Int) (c_Rights:List Rgt):M Int :=
  M.bind (m_share_in c_States 1 12) fun r2 =>
  M.bind (M.opt (!(!r2)) (m_share_in (c_Rights.length:Int) 1 30) false) fun r3 =>
  bif ((!r2)||(!r3)) then (
  M.fail)
  else (
  M.bind (m_share_every_share_Right c_Rights (fun aa=>m_share_Check_1 aa c_States c_Rights)) fun r4 =>
  bif !r4 then (
  M.fail)
  else (
  M.pure 0))
theorem share_Check_ok {R ah aa}(c_States c_Rights)(ai:Reads R ah)(ab:Sl ah aa c_Rights){r}(hM:(m_share_Check c_States c_Rights).Ends r)(w)(H:St w w [] R):Ret Tryz.prog 92 #[.agg #[I c_States,aa]] w fun v w'=>∃ y0,y0=r/\v=I y0/\St w w' [] R:=by
 refine ret_of_W Tryz.func92 rfl rfl rfl ?_;refine kB 2 ?_;intro ac aC H;refine kC 8 @share_in_ok ?_;intro aD r2 hM H;have aE:=(ab).len_le;refine kg 5 ?_;obtain ⟨r3,ak,hM⟩:=M.e_bind hM;refine t_gcall (!(!r2)) (gy_f rfl) cq (B r3) (fun _=>[I (c_Rights.length:Int),I 1,I 30]) (fun hg=>lst3 (gd_of hg (I (c_Rights.length:Int))) rfl rfl) H (fun hg=>(share_in_ok (c_Rights.length:Int) 1 30 (M.e_opt ak hg) _ (H.give (A:=[]) rfl)).mono fun v_ w_ ⟨y_,al,am,H_⟩=>by subst al; exact ⟨am,H.via H_⟩) ?_;intro aF H;refine kI 4 ?_ ?_
 ·intro ao hM;exact (M.e_fail hM).elim
 intro ao hM;refine kg 4 ?_;refine s_val (x_mf (fs:=[]) (cs:=[Pq ac]) rfl rfl) ?_;obtain ⟨aG,ap,hM⟩:=M.e_bind hM;refine s_call cq [aa,.func (.func 140) #[] #[Pq ac]] rfl (share_every_share_Right_ok c_Rights (fun ae=>m_share_Check_1 ae c_States c_Rights) (ai.app _) ab ⟨140,[Pq ac],rfl,cq,fun aj aH aI aq ae aJ au aK av aw=>by obtain rfl:=Rgt_arg av; exact (share_Check_1_ok ae c_States c_Rights (Reads.app (ai.app _) _) ab (Has.app (Has.here (k:=0) rfl) _) aw aj (St.refl au)).mono fun aq aj ⟨aL,ax,ay,az⟩=>by subst ax; exact ⟨ay,az⟩⟩ ap _ (H.gt 1)) ?_;rintro _ aM ⟨r4,rfl,rfl,aA⟩;replace H:=H.bk aA;refine kI 3 ?_ ?_
 ·intro aB hM;exact (M.e_fail hM).elim
 intro aB hM;refine kg 5 ?_;exact rt

def m_share_office_taken (aa:Int) (ab:List Rgt) (flow:Int):M Int :=
  M.pure flow
theorem share_office_taken_ok {R aa ab ac}(ae ah flow)(am:Reads R ab)(ao:Sl ab ac ah)(ap:Fld R aa [I ae,ac]){r}(hM:(m_share_office_taken ae ah flow).Ends r)(w)(H:St w w [] R):Ret Tryz.prog 141 #[Pq aa,I flow] w fun v w'=>∃ y0 ai aj,y0=r/\v = .func (.func 193) #[] #[Pq ai,Pq aj]/\St w w' [cBlk ai [Pq aa] 255,cBlk aj [I y0] 3] R:=by
 refine ret_of_W Tryz.func141 rfl rfl rfl ?_;refine kB 2 ?_;intro ak aq H;refine kbx ?_;intro al au H;refine kg 4 ?_;refine s_val (x_mf (fs:=[]) (cs:=[Pq ak,Pq al]) rfl rfl) ?_;exact kR 2 [1,0]

def m_share_office_taken_1_b0 {T_:Type} (ab:T_->(Rgt × Int)->M (Bool × T_)) (aa:List Rgt):(Int × Nat × T_)->M ((Int × Nat × T_) ⊕ (T_ × Int)):=fun (s,s2,t2) =>
  bif decide ((s2:Int)<(aa.length:Int)) then (
  M.grd (decide ((s2:Int)<(aa.length:Int))) <|
  M.gi (s-(min ((aa.getD s2 default).amount) s)) <|
  M.bind (ab t2 ((aa.getD s2 default),min ((aa.getD s2 default).amount) s)) fun (go,t) =>
  bif !go then (
  M.fail)
  else (
  M.pure (.inl (s-(min ((aa.getD s2 default).amount) s),s2+1,t))))
  else (
  M.pure (.inr (t2,s)))
def m_share_office_taken_1 {T_:Type} (aa:T_->(Rgt × Int)->M (Bool × T_)) (t_:T_) (ae:Int) (ab:List Rgt) (ac:Int):M (T_ × Int) :=
  M.bind (M.iter (m_share_office_taken_1_b0 aa ab) (ac,0,t_)) fun (t3,s3) =>
  M.pure (t3,s3)
theorem share_office_taken_1_ok {R:List Chunk} {T_:Type} {Y_:T_->List Chunk->Prop} {ah:Value} {ab:List Chunk} {am:Nat} {ao:Nat} {ap:Cells} {ae:Value} {ac:Nat} (ai:T_->(Rgt × Int)->M (Bool × T_)) (t_:T_) (aj:Int) (aa:List Rgt) (ak:Int) (av:YieldC Tryz.prog R arRgtI Y_ ah ai) (aq:Y_ t_ ab) (aK:Reads R ap) (aw:Sl ap ae aa) (ax:∀ (t_:T_) (ab:List Chunk),Y_ t_ ab->Fld (cAll ab :: R) ao [I aj,ae]) (aL:Has R (cBlk am [Pq ao] 255)) {r:(T_ × Int)} (hM:(m_share_office_taken_1 ai t_ aj aa ak).Ends r) (w:World) (H:St w w [cAll ab,cBlk ac [I ak] 3] R):Ret Tryz.prog 193 #[ah,Pq am,Pq ac] w fun v w'=>∃ (y0:T_) (y1:Int) (Ls0:List Chunk),(y0,y1)=r/\v = .tuple #[]/\St w w' [cAll Ls0,cBlk ac [I y1] 3] R/\Y_ y0 Ls0:=by
 refine ret_of_W Tryz.func193 rfl rfl rfl ?_;refine kg 6 ?_;refine s_val (x_ld (v:=ae) rfl (fld_sc (pre:=[I aj,ae]) (i:=1) Sc137.h (Fld.get (Fld.up (ax _ _ aq) (k:=0) rfl) H) rfl)) ?_;have aM:=(aw).len_le;refine kg 4 ?_;obtain ⟨ay,al,az⟩:=M.e_bind hM;obtain ⟨aN,al⟩:=M.e_iter al;refine W.loop (fun m σ W=>∃ (s:Int) (s2:Nat) (t2:T_) (Ls_t2:List Chunk) (ρ:Env),σ=upds ρ [(0,ah),(2,Pq ac),(11,ae),(12,I (aa.length:Int)),(13,I (s2:Int))]/\M.iterN (m_share_office_taken_1_b0 ai aa) m (s,s2,t2)=some ay/\St w W [cAll Ls_t2,cBlk ac [I s] 3] R/\Y_ t2 Ls_t2) ?_ ?_
 ·exact ⟨_,ak,0,t_,ab,_,jQ,al,H,aq⟩
 rintro aO σ aP ⟨s,s2,t2,Ls_t2,ρ,rfl,aA,H,hY_t2⟩;obtain ⟨aB,aC,aQ,hM,au⟩:=M.e_iterN aA;refine kI 5 ?_ ?_
 ·intro aD hM;obtain ⟨aR,hM⟩:=M.e_gq hM;refine kA 7 ?_;intro aE aS H;refine ksw ?_;intro aT H;obtain ⟨aU,hM⟩:=M.e_gq hM;refine kS 14 ?_;intro aV H;refine kg 6 ?_;obtain ⟨⟨go,t⟩,aF,hM⟩:=M.e_bind hM;refine t_yield (L:=[cBlk aE [I ((aa.getD s2 default).state),I ((aa.getD s2 default).amount),I ((aa.getD s2 default).loss)] 211,cBlk ac [I (s-(min ((aa.getD s2 default).amount) s))] 3]) (H.pk [1,0,2]) av hY_t2 rfl [.agg #[I ((aa.getD s2 default).state),I ((aa.getD s2 default).amount),I ((aa.getD s2 default).loss)],I (min ((aa.getD s2 default).amount) s)] rfl ((aa.getD s2 default),min ((aa.getD s2 default).amount) s) Reads.none rfl aF ?_;intro aG aW aH H;replace H:=H.nf;refine kI 2 ?_ ?_
  ·intro aI hM;exact (M.e_fail hM).elim
  intro aI hM;refine kg 5 ?_;exact ⟨aB,aC,s-(min ((aa.getD s2 default).amount) s),s2+1,t,aG,_,jQ,M.e_inl hM au,(H.pk [0,2]),aH⟩
 intro aD hM;refine W.exit ?_;obtain rfl:=M.e_inr hM au;replace hM:=az;have aJ:=M.e_pure hM;exact ⟨_,resE_tmp0 rfl,⟨t2,s,Ls_t2,aJ,rfl,H,hY_t2⟩⟩
def m_share_serve_b0  : (List Int)->(Rgt × Int)->M ((List Int) ⊕ Unit):=fun s (x,x2) =>
  M.grd (decide ((0:Int)<=x.state)&&decide (x.state<(12:Int))) <|
  M.gi (1000-x.loss) <|
  M.gi (x2*(1000-x.loss)) <|
  M.grd (decide (0<=(x2*(1000-x.loss)))&&decide ((x2*(1000-x.loss))<=(9223372036854775807:Int))&&decide ((0:Int)<1000)) <|
  M.gi ((s.getD (Int.toNat x.state) 0)+((x2*(1000-x.loss)) / 1000)) <|
  M.pure (.inl (s.set (Int.toNat x.state) ((s.getD (Int.toNat x.state) 0)+((x2*(1000-x.loss)) / 1000))))
def m_share_serve (c_States:Int) (c_Rights:List Rgt) (flow:Int):M (List Int) :=
  M.bind (m_share_office_taken c_States c_Rights flow) fun aa =>
  M.bind (m_share_office_taken_1 (M.yl m_share_serve_b0) (.inl (List.replicate 12 0)) c_States c_Rights aa) fun x_=>match x_ with
  | (.inl s,q0)=>(
  M.grd (decide ((0:Int)<=c_States)&&decide (c_States<=(12:Int))) <|
  M.grd (decide ((s.take (Int.toNat c_States)).length*8<=140737488355328)) <|
  M.pure (s.take (Int.toNat c_States)))
  | (.inr _,_)=>M.fail
theorem share_serve_ok {R aA ab}(c_States c_Rights flow)(ap:Reads R aA)(aw:Sl aA ab c_Rights){r}(hM:(m_share_serve c_States c_Rights flow).Ends r)(w)(H:St w w [] R):Ret Tryz.prog 94 #[.agg #[I c_States,ab],I flow] w fun v w'=>∃ y0 u0,y0=r/\v=u0/\St w w' [cOwn (α:=Int) 3 u0 y0] R:=by
 refine ret_of_WD Tryz.func94 rfl rfl rfl ?_;replace H:St w w [cMk ([])] R:=H.mk0;have aO:=aw.len_le;unfold m_share_serve at hM;refine WD.seq<|WD.of ?_;refine kB 1 ?_;intro ai aP H;refine zA (.slice none 0 0) rfl<|s_nil<|WD.seq<|WD.of<|W.region rfl<|s_val (x_ld (v:=.agg #[I c_States,ab]) rfl (ldb_ag (ds:=[I c_States,ab]) Ag139.h Sz139.h (H.bl 0) rfl rfl))<|s_val (x_bld (ps:=[(0,.agg #[I c_States,ab])]) (zs:=(List.flatten [[I 0,.slice none 0 0],encF (α:=Int) (List.replicate 12 0)])) (L':=(List.flatten [[I c_States,ab],encF (α:=Int) (List.replicate 12 0)])) rfl Tryz.underlying258 Al258.h rfl (Bd258 Tryz.underlying258) (.cons (cs:=[I c_States,ab]) rfl rfl rfl (by kernel_rfl) rfl<|.nil)) ?_;refine kB 0 ?_;intro aa aQ H;refine kA 0 ?_;intro ac aR H;refine kS 0 ?_;intro aS H;refine s_nil<|WD.seq<|WD.seq<|WD.of<|W.region rfl<|s_val (x_ld (v:=Pq aa) rfl (ldb_sc Sc255.h (H.bl 0) rfl))<|zM (I flow) rfl ?_;obtain ⟨aT,aD,hM⟩:=M.e_bind hM;refine s_call cq [Pq aa,I flow] rfl (share_office_taken_ok c_States c_Rights flow (ap.app _) aw (Fld.here (k:=1) rfl rfl) aD _ (H.gt 4)) ?_
 rintro vq aU ⟨aq,ae,ak,rfl,hvq,ah⟩;subst vq;(try dsimp only at hM);replace H:=H.bk ah;clear ah;refine s_nil<|WD.block ?_;obtain ⟨aV,aE,hM⟩:=M.e_bind hM;refine WD.range (L:=[cBlk aa (List.flatten [[I c_States,ab],encF (α:=Int) (List.replicate 12 0)]) 258,cBlk ae [Pq aa] 255,cBlk ac [Pq aa] 255,cBlk ai [I c_States,ab] 139,cBlk ak [I aq] 3]) [Pq ae,Pq ak] (H.pk [5,3,0,2,4,1]) rfl cq ?_;intro au aj ax aF ay H
 have hYC:YieldC Tryz.prog ([cMk (aj :: ([])),cBlk ae [Pq aa] 255,cBlk ac [Pq aa] 255,cBlk ai [I c_States,ab] 139]++R) arRgtI (yJ au ax (fun s av=>av=[cBlk aa (List.flatten [[I c_States,ab],encF (α:=Int) s]) 258]/\s.length=12) (fun (_:Unit) _=>False) (fun _=>.ret)) (.func (.yield au) #[] #[]) (M.yl m_share_serve_b0):=by
  refine YieldC.mk2 ay (fun s av=>av=[cBlk aa (List.flatten [[I c_States,ab],encF (α:=Int) s]) 258]/\s.length=12) (fun (_:Unit) _=>False) (fun _=>.ret) m_share_serve_b0 (by rintro s _ h_; obtain ⟨rfl,_⟩:=h_; rfl) (fun _ _ h_=>h_.elim) rfl (arRgtI_len rfl) ?_;intro C_ aW x_ aG;obtain ⟨x,x2⟩:=x_;obtain rfl:=aG;intro w R az av s_ r aH hM H
  skip
  obtain ⟨s,aI⟩:∃ y_,y_=s_:=⟨_,rfl⟩
  subst aI;obtain ⟨rfl,al⟩:=aH;replace H:=H.nf;refine kA 2 ?_;intro am aX H;refine kS 0 ?_;intro aY H;refine kG 2 ?_;refine zA (I x2) rfl<|s_nil ?_
  refine ⟨rfl,[cBlk am [I x.state,I x.amount,I x.loss] 211],H.pick [0,1,2,3,4,5] (by decide) rfl,?_⟩;clear H az;intro w R az H;replace ap:=ap.sub az;replace hM:(m_share_serve_b0 s (x,x2)).Ends r:=hM;simp only [m_share_serve_b0] at hM;replace H:=H.nf;refine W.block ?_;refine W.draw (fun W=>St w W [cBlk am [I x.state,I x.amount,I x.loss] 211,cMk (aj :: ([])),cBlk ae [Pq aa] 255,cBlk ac [Pq aa] 255,cBlk ai [I c_States,ab] 139] R) [(0,true),(1,true),(2,true),(3,true),(4,true),(5,true),(7,true),(8,true),(9,true),(10,true),(11,true),(12,true),(14,true),(15,true),(6,false),(13,true),(16,true),(17,false)] mixed (by decide +kernel) rfl ?_;intro aZ ao;replace H:=H.ext ao;clear ao;refine ⟨(H.pk [0,2,3,4,5]),?_⟩;refine d_q rfl (fun w' H=>x_ld (v:=Pq aa) rfl (ldb_sc Sc255.h (H.bl 3) rfl))<|d_q rfl (fun w' H=>x_fa (v:=Pq am) rfl (fa_blk (o:=0) Fd211_0.h Sz3.h))<|d_q rfl (fun w' H=>x_ld (v:=I x.state) rfl (ldb_sc Sc3.h (H.bl 0) rfl))<|d_q rfl (fun w' H=>x_nc (a:=⟨aa,0,none⟩) rfl)<|d_q rfl (fun w' H=>x_fa (v:=Oq aa 2) rfl (fa_blk (o:=0) Fd258_1.h Sz256.h)) ?_;obtain ⟨a6,hM⟩:=M.e_gd hM;refine d_q rfl (fun w' H=>x_ix (v:=.pointer (some ⟨aa,2+Int.toNat x.state*1,none⟩)) rfl rfl (run_indexS Tryz.underlying256 Sz3.h (by omega) (by omega)))<|d_q rfl (fun w' H=>x_mv (v:=I x2) rfl)<|d_q rfl (fun w' H=>x_fa (v:=Oq am 2) rfl (fa_blk (o:=0) Fd211_2.h Sz3.h))<|d_q rfl (fun w' H=>x_ld (v:=I x.loss) rfl (ldb_sc Sc3.h (H.bl 0) rfl)) ?_;obtain ⟨a7,hM⟩:=M.e_gd hM;refine d_q rfl (fun w' H=>x_ari (r:=1000-x.loss) rfl rfl rfl (by omega)) ?_;obtain ⟨a8,hM⟩:=M.e_gd hM;refine d_q rfl (fun w' H=>x_ari (r:=x2*(1000-x.loss)) rfl rfl rfl (by omega)) ?_;obtain ⟨ba,hM⟩:=M.e_gd hM;refine d_q rfl (fun w' H=>x_quo (a:=x2*(1000-x.loss)) (b:=1000) rfl rfl (by omega))<|d_q rfl (fun w' H=>x_nc (a:=⟨aa,0,none⟩) rfl)<|d_q rfl (fun w' H=>x_fa (v:=Oq aa 2) rfl (fa_blk (o:=0) Fd258_1.h Sz256.h))<|d_l rfl<|s_val (x_ld (v:=I (s.getD (Int.toNat x.state) 0)) rfl (ldS (α:=Int) (k:=1) (off:=2) (i:=(Int.toNat x.state)) (f:=0) (sz:=1) 0 Sc3.h (H.bl 1) rfl (sgo1 rfl) rfl (by decide) (by have aJ:=al; omega) (by omega) rfl)) ?_;refine kN ?_;obtain ⟨bb,hM⟩:=M.e_gd hM;refine d_q rfl (fun w' H=>x_ari (r:=(s.getD (Int.toNat x.state) 0)+((x2*(1000-x.loss)) / 1000)) rfl rfl rfl (by omega))<|d_q rfl (fun w' H=>x_ix (v:=.pointer (some ⟨aa,2+Int.toNat x.state*1,none⟩)) rfl rfl (run_indexS Tryz.underlying256 Sz3.h (by omega) (by omega)))<|d_l rfl ?_;refine t_stS (α:=Int) (kc:=1) (b:=aa) (k:=1) (off:=2) (i:=(Int.toNat x.state)) (f:=0) (sz:=1) (segs:=[[I c_States,ab],encF (α:=Int) s]) (segs':=[[I c_States,ab],encF (α:=Int) (s.set (Int.toNat x.state) ((s.getD (Int.toNat x.state) 0)+((x2*(1000-x.loss)) / 1000)))]) (l:=s) (l':=s.set (Int.toNat x.state) ((s.getD (Int.toNat x.state) 0)+((x2*(1000-x.loss)) / 1000))) (vs:=[I ((s.getD (Int.toNat x.state) 0)+((x2*(1000-x.loss)) / 1000))]) (L':=[cBlk am [I x.state,I x.amount,I x.loss] 211,cBlk aa (List.flatten [[I c_States,ab],encF (α:=Int) (s.set (Int.toNat x.state) ((s.getD (Int.toNat x.state) 0)+((x2*(1000-x.loss)) / 1000)))]) 258,cMk (aj :: ([])),cBlk ae [Pq aa] 255,cBlk ac [Pq aa] 255,cBlk ai [I c_States,ab] 139]) H rfl rfl rfl Sz3.h rfl rfl rfl rfl (sgo1 rfl) rfl rfl (by have aJ:=al; omega) (by omega) 0 ((s.getD (Int.toNat x.state) 0)+((x2*(1000-x.loss)) / 1000)) rfl rfl rfl rfl ?_;intro bc H
  have aK:(s.set (Int.toNat x.state) ((s.getD (Int.toNat x.state) 0)+((x2*(1000-x.loss)) / 1000))).length=12:=List.length_set.trans al;refine kN ?_;refine d_nil ?_;exact ⟨s.set (Int.toNat x.state) ((s.getD (Int.toNat x.state) 0)+((x2*(1000-x.loss)) / 1000)),[cBlk aa (List.flatten [[I c_States,ab],encF (α:=Int) (s.set (Int.toNat x.state) ((s.getD (Int.toNat x.state) 0)+((x2*(1000-x.loss)) / 1000)))]) 258],(M.e_pure hM).symm,⟨rfl,aK⟩,H.pick [1,2,3,4,5] (by decide) rfl⟩
 replace H:St w aF (cAll (cObj au (.loop ax) :: [cBlk aa (List.flatten [[I c_States,ab],encF (α:=Int) (List.replicate 12 0)]) 258]) :: [cBlk ak [I aq] 3,cMk (aj :: ([])),cBlk ae [Pq aa] 255,cBlk ac [Pq aa] 255,cBlk ai [I c_States,ab] 139]) R:=St.bundleB (A:=cObj au (.loop ax) :: [cBlk aa (List.flatten [[I c_States,ab],encF (α:=Int) (List.replicate 12 0)]) 258]) (T:=[cBlk ak [I aq] 3,cMk (aj :: ([])),cBlk ae [Pq aa] 255,cBlk ac [Pq aa] 255,cBlk ai [I c_States,ab] 139]) rfl (H.pk [0,2,6,1,3,4,5]);refine (share_office_taken_1_ok (M.yl m_share_serve_b0) (.inl (List.replicate 12 0)) c_States c_Rights aq hYC ⟨_,rfl,⟨rfl,List.length_replicate⟩⟩ (ap.app _) aw (by rintro (s | _) _ h_; (obtain ⟨_,rfl,rfl,_⟩:=h_; exact Fld.all (Fld.here (k:=1) rfl rfl)); (obtain ⟨_,_,h_⟩:=h_; exact h_.elim)) (Has.here (k:=1) rfl) aE _ (H.gt 4)).mono ?_;rintro vq bf ⟨aL,q0,bg,rfl,hvq,ah,aB⟩;replace H:=H.back ah rfl;clear ah hYC;rcases aL with s | _
 ·(try dsimp only at hM);obtain ⟨_,rfl,rfl,al⟩:=aB;refine ⟨_,[cBlk aa (List.flatten [[I c_States,ab],encF (α:=Int) s]) 258,cBlk ae [Pq aa] 255,cBlk ac [Pq aa] 255,cBlk ai [I c_States,ab] 139,cBlk ak [I q0] 3],H.unbundle.pick [0,3,1,4,5,6,2] (by decide) rfl,ay.nb,?_⟩;intro bh H;rw [ay.pd];replace H:=H.nf
  try simp only []
  replace H:=H.pk [0,1,3];refine WD.seq<|WD.of ?_;refine W.draw (fun W=>St w W [cMk (aj :: ([])),cBlk aa (List.flatten [[I c_States,ab],encF (α:=Int) s]) 258,cBlk ac [Pq aa] 255] R) [(0,true),(1,true),(2,true),(3,true),(4,true),(5,true),(6,true),(7,true),(8,true),(9,false),(10,true)] mixed (by decide +kernel) rfl ?_;intro bi ao;replace H:=H.ext ao;clear ao
  refine ⟨(H.pk [0,1,2]),?_⟩;refine d_q rfl (fun w' H=>x_ld (v:=Pq aa) rfl (ldb_sc Sc255.h (H.bl 2) rfl))<|d_q rfl (fun w' H=>x_nc (a:=⟨aa,0,none⟩) rfl)<|d_q rfl (fun w' H=>x_fa (v:=Oq aa 2) rfl (fa_blk (o:=0) Fd258_1.h Sz256.h))<|d_q rfl (fun w' H=>x_ld (v:=Pq aa) rfl (ldb_sc Sc255.h (H.bl 2) rfl))<|d_q rfl (fun w' H=>x_nc (a:=⟨aa,0,none⟩) rfl)<|d_q rfl (fun w' H=>x_fa (v:=Pq aa) rfl (fa_blk (o:=0) Fd258_0.h Sz139.h))<|d_q rfl (fun w' H=>x_fa (v:=Pq aa) rfl (fa_blk (o:=0) Fd139_0.h Sz3.h))<|d_q rfl (fun w' H=>x_ld (v:=I c_States) rfl (ldb_sc Sc3.h (H.bl 1) rfl)) ?_;obtain ⟨bj,hM⟩:=M.e_gd hM
  have aM:Sl (blkC aa (List.flatten [[I c_States,ab],encF (α:=Int) s])) (.slice (some ⟨aa,2,none⟩) (Int.toNat c_States) 12) (s.take (Int.toNat c_States)):=segSl (α:=Int) (pre:=[I c_States,ab]) (post:=[]) (by simp) rfl al (by omega) (by omega);refine d_q rfl (fun w' H=>x_sl (v:=Oq aa 2) (u:=(.slice (some ⟨aa,2,none⟩) (Int.toNat c_States) 12)) (lo':=none) (hi':=some (I c_States)) (mx':=none) rfl rfl rfl rfl (run_sliceA Tryz.underlying256 Sz3.h (by omega) (by omega)))<|d_l rfl ?_;obtain ⟨bm,hM⟩:=M.e_gd hM;refine s_call cq [(.slice (some ⟨aa,2,none⟩) (Int.toNat c_States) 12)] rfl (clone_any (s.take (Int.toNat c_States)) (Reads.of (k:=1) rfl blkLe) aM (by omega) _ H.sep) ?_
  rintro aC bn ah;replace H:=H.bk ah;clear ah;refine kN ?_;refine d_q rfl (fun w' H=>x_as (v:=aC) rfl) ?_;refine d_nil ?_;replace H:=H.pk [0,1];refine WD.of ?_;refine W.ret ?_;refine bodyD_r (H.pk [1,0]) ?_;intro bo H;replace H:=H.nf;have aN:=M.e_pure hM;exact ⟨_,resE_tmp rfl,⟨(s.take (Int.toNat c_States)),aC,aN,rfl,H⟩⟩
 obtain ⟨_,_,h_⟩:=aB; exact h_.elim

def m_share_Real (c_States:Int) (c_Rights:List Rgt) (flow:Int):M ((List Int) × Int) :=
  M.bind (m_share_Check c_States c_Rights) fun r2 =>
  bif r2 != 0 then (
  M.fail)
  else (
  M.bind (m_share_water flow) fun r3 =>
  bif !r3 then (
  M.fail)
  else (
  M.bind (m_share_serve c_States c_Rights flow) fun r4 =>
  M.pure (r4,0)))
theorem share_Real_ok {R aa ab}(c_States c_Rights flow)(ah:Reads R aa)(ai:Sl aa ab c_Rights){r}(hM:(m_share_Real c_States c_Rights flow).Ends r)(w)(H:St w w [] R):Ret Tryz.prog 45 #[.agg #[I c_States,ab],I flow] w fun v w'=>∃ y0 y1 u0,(y0,y1)=r/\v = .tuple #[u0,I y1]/\St w w' [cOwn (α:=Int) 3 u0 y0] R:=by
 refine ret_of_W Tryz.func45 rfl rfl rfl ?_;refine kB 2 ?_;intro aj ak H;refine kC 6 @share_Check_ok ?_;intro al r2 hM H;refine kI 10 ?_ ?_
 ·intro ac hM;exact (M.e_fail hM).elim
 intro ac hM;refine kC 3 @share_water_ok ?_;intro am r3 hM H;refine kI 3 ?_ ?_
 ·intro ae hM;exact (M.e_fail hM).elim
 intro ae hM;refine kC 5 @share_serve_ok ?_;intro ao r4 ap hM H;exact kR 3 [0]

def m_balance_in (n aa greatest:Int):M Bool :=
  M.pure ((decide (aa<=n))&&(decide (n<=greatest)))
theorem balance_in_ok {R}(n aa greatest){r}(hM:(m_balance_in n aa greatest).Ends r)(w)(H:St w w [] R):Ret Tryz.prog 87 #[I n,I aa,I greatest] w fun v w'=>∃ y0,y0=r/\v=B y0/\St w w' [] R:=by
 refine ret_of_W Tryz.func87 rfl rfl rfl ?_;refine kg 16 ?_;exact rt

def m_balance_every_api_Span__1 (x:Span) (aa:Span->M Bool):M Bool :=
  M.bind (aa x) fun r2 =>
  M.pure (!r2)
theorem balance_every_api_Span__1_ok {R aa ab}(x ac)(ae:FnM Tryz.prog R ab ac)(ai:Has R (cBlk aa [ab] 156)){r}(hM:(m_balance_every_api_Span__1 x ac).Ends r)(w)(H:St w w [] R):Ret Tryz.prog 181 #[.agg #[I x.lo,I x.hi],Pq aa] w fun v w'=>∃ y0,y0=r/\v=B y0/\St w w' [] R:=by
 refine ret_of_W Tryz.func181 rfl rfl rfl ?_;refine kB 2 ?_;intro aj ak H;refine kg 6 ?_;obtain ⟨r2,ah,hM⟩:=M.e_bind hM;refine t_callM H ae rfl rfl x Reads.none ⟨_,rfl,rfl⟩ ah ?_;intro al H;refine kg 3 ?_;exact rt

def m_balance_every_api_Span (l:List Span) (so:Span->M Bool):M Bool :=
  M.bind (zaI l (fun aa=>m_balance_every_api_Span__1 aa so)) fun r2 =>
  M.pure (!r2)
theorem balance_every_api_Span_ok {R ae aa ah}(l so)(aj:Reads R ae)(ak:Sl ae aa l)(al:FnM Tryz.prog R ah so){r}(hM:(m_balance_every_api_Span l so).Ends r)(w)(H:St w w [] R):Ret Tryz.prog 133 #[aa,ah] w fun v w'=>∃ y0,y0=r/\v=B y0/\St w w' [] R:=by
 refine ret_of_W Tryz.func133 rfl rfl rfl ?_;refine kB 2 ?_;intro ab az H;refine kg 5 ?_;refine s_val (x_mf (fs:=[]) (cs:=[Pq ab]) rfl rfl) ?_;obtain ⟨aA,am,hM⟩:=M.e_bind hM;refine s_call cq [aa,.func (.func 181) #[] #[Pq ab]] rfl (zdi l (fun ac=>m_balance_every_api_Span__1 ac so) (aj.app _) ak ⟨181,[Pq ab],rfl,cq,fun ai aB aC ao ac aD ap aE aq au=>by obtain rfl:=Span_arg aq; exact (balance_every_api_Span__1_ok ac so (FnM.app (al.app _) _) (Has.app (Has.here (k:=0) rfl) _) au ai (St.refl ap)).mono fun ao ai ⟨aF,av,aw,ax⟩=>by subst av; exact ⟨aw,ax⟩⟩ am _ (H.gt 1)) ?_;rintro _ aG ⟨r2,rfl,rfl,ay⟩;replace H:=H.bk ay;refine kg 3 ?_;exact rt

def m_balance_flowing (s:Span):M Bool :=
  M.bind (m_balance_in s.lo (-1000000) s.hi) fun r2 =>
  M.bind (M.opt r2 (m_balance_in s.hi (-1000000) 1000000) false) fun r3 =>
  M.pure (r2&&r3)
theorem balance_flowing_ok {R}(s){r}(hM:(m_balance_flowing s).Ends r)(w)(H:St w w [] R):Ret Tryz.prog 134 #[.agg #[I s.lo,I s.hi]] w fun v w'=>∃ y0,y0=r/\v=B y0/\St w w' [] R:=by
 refine ret_of_W Tryz.func134 rfl rfl rfl ?_;refine kB 2 ?_;intro ae ah H;refine kC 8 @balance_in_ok ?_;intro ai r2 hM H;refine kg 3 ?_;obtain ⟨r3,aa,hM⟩:=M.e_bind hM;refine t_gcall r2 (gy_t rfl) cq (B r3) (fun _=>[I s.hi,I (-1000000),I 1000000]) (fun hg=>lst3 (gd_of hg (I s.hi)) rfl rfl) H (fun hg=>(balance_in_ok s.hi (-1000000) 1000000 (M.e_opt aa hg) _ (H.give (A:=[]) rfl)).mono fun v_ w_ ⟨y_,ab,ac,H_⟩=>by subst ab; exact ⟨ac,H.via H_⟩) ?_;intro aj H;refine kg 3 ?_;exact rt

def m_balance_Check_b0 (n_Gains:List Span) (n_Reaches:List BRch):Nat->M (Nat ⊕ Unit):=fun s =>
  bif decide ((s:Int)<(n_Reaches.length:Int)) then (
  M.grd (decide ((s:Int)<(n_Reaches.length:Int))) <|
  M.bind (m_balance_in ((n_Reaches.getD s default).src) 0 ((n_Gains.length:Int)-1)) fun r4 =>
  M.bind (M.opt (!(!r4)) (m_balance_in ((n_Reaches.getD s default).dst) 0 ((n_Gains.length:Int)-1)) false) fun r5 =>
  bif (((!r4)||(!r5))||(((n_Reaches.getD s default).src)==((n_Reaches.getD s default).dst))) then (
  M.fail)
  else (
  M.bind (m_balance_flowing (⟨((n_Reaches.getD s default).lo:Int),((n_Reaches.getD s default).hi:Int)⟩:Span)) fun r6 =>
  bif !r6 then (
  M.fail)
  else (
  M.pure (.inl (s+1)))))
  else (
  M.pure (.inr ()))
def m_balance_Check (n_Gains:List Span) (n_Reaches:List BRch):M Int :=
  M.bind (m_balance_in (n_Gains.length:Int) 1 8) fun r2 =>
  bif ((!r2)||(decide (14<(n_Reaches.length:Int)))) then (
  M.fail)
  else (
  M.bind (m_balance_every_api_Span n_Gains (fun aa=>m_balance_flowing aa)) fun r3 =>
  bif !r3 then (
  M.fail)
  else (
  M.bind (M.iter (m_balance_Check_b0 n_Gains n_Reaches) 0) fun (_:Unit) =>
  M.pure 0))
theorem balance_Check_ok {R ah aa ai ab}(n_Gains n_Reaches)(ao:Reads R ah)(ac:Sl ah aa n_Gains)(aN:Reads R ai)(aj:Sl ai ab n_Reaches){r}(hM:(m_balance_Check n_Gains n_Reaches).Ends r)(w)(H:St w w [] R):Ret Tryz.prog 86 #[.agg #[aa,ab]] w fun v w'=>∃ y0,y0=r/\v=I y0/\St w w' [] R:=by
 refine ret_of_W Tryz.func86 rfl rfl rfl ?_;refine kB 2 ?_;intro ak aO H;have aP:=(ac).len_le;refine kC 9 @balance_in_ok ?_;intro aQ r2 hM H;have aR:=(aj).len_le;refine kI 9 ?_ ?_
 ·intro ap hM;exact (M.e_fail hM).elim
 intro ap hM;refine kg 4 ?_;obtain ⟨aS,aq,hM⟩:=M.e_bind hM;refine s_call cq [aa,.func (.func 134) #[] #[]] rfl (balance_every_api_Span_ok n_Gains (fun ae=>m_balance_flowing ae) (ao.app _) ac ⟨134,[],rfl,cq,fun al aT aU au ae aV av aW aw ax=>by obtain rfl:=Span_arg aw; exact (balance_flowing_ok ae ax al (St.refl av)).mono fun au al ⟨aX,ay,az,aA⟩=>by subst ay; exact ⟨az,aA⟩⟩ aq _ (H.gt 1)) ?_;rintro _ aY ⟨r3,rfl,rfl,aB⟩;replace H:=H.bk aB;refine kI 3 ?_ ?_
 ·intro aC hM;exact (M.e_fail hM).elim
 intro aC hM;have aZ:=(aj).len_le;refine kg 10 ?_;obtain ⟨aD,am,aE⟩:=M.e_bind hM;obtain ⟨a6,am⟩:=M.e_iter am;refine W.loop (fun m σ W=>∃ (s:Nat) (ρ:Env),σ=upds ρ [(1,Pq ak),(23,ab),(24,I (n_Reaches.length:Int)),(25,I (s:Int))]/\M.iterN (m_balance_Check_b0 n_Gains n_Reaches) m s=some aD/\St w W [cBlk ak [aa,ab] 133] R) ?_ ?_
 ·exact kY
 rintro a7 σ a8 ⟨s,ρ,rfl,aF,H⟩;obtain ⟨ba,bb,bc,hM,aG⟩:=M.e_iterN aF;refine kI 5 ?_ ?_
 ·intro aH hM;obtain ⟨bf,hM⟩:=M.e_gq hM;refine kA 7 ?_;intro bg bh H;refine ksw ?_;intro bi H;have bj:=(ac).len_le;refine kC 10 @balance_in_ok ?_;intro bm r4 hM H;have bn:=(ac).len_le;refine kg 8 ?_;obtain ⟨r5,aI,hM⟩:=M.e_bind hM;refine t_gcall (!(!r4)) (gy_f rfl) cq (B r5) (fun _=>[I ((n_Reaches.getD s default).dst),I 0,I ((n_Gains.length:Int)-1)]) (fun hg=>lst3 (gd_of hg (I ((n_Reaches.getD s default).dst))) rfl (gd_of hg (I ((n_Gains.length:Int)-1)))) H (fun hg=>(balance_in_ok ((n_Reaches.getD s default).dst) 0 ((n_Gains.length:Int)-1) (M.e_opt aI hg) _ (H.give (A:=[]) rfl)).mono fun v_ w_ ⟨y_,aJ,aK,H_⟩=>by subst aJ; exact ⟨aK,H.via H_⟩) ?_;intro bo H;refine kI 11 ?_ ?_
  ·intro aL hM;exact (M.e_fail hM).elim
  intro aL hM;refine kC 4 @balance_flowing_ok ?_;intro bp r6 hM H;refine kI 3 ?_ ?_
  ·intro aM hM;exact (M.e_fail hM).elim
  intro aM hM;exact kXp 5 [1]
 intro aH hM;refine W.exit ?_;obtain rfl:=M.e_inr hM aG;replace hM:=aE;refine kg 4 ?_;exact rt

def m_balance_begun_b0 (n_Reaches:List BRch):(Nat × (List BWay))->M ((Nat × (List BWay)) ⊕ ((List BWay) × (List BWay))):=fun (s,l) =>
  bif decide ((s:Int)<(n_Reaches.length:Int)) then (
  M.grd (decide ((s:Int)<(n_Reaches.length:Int))) <|
  M.grd (decide ((l.length+([(⟨((n_Reaches.getD s default).src:Int),((n_Reaches.getD s default).dst:Int),((n_Reaches.getD s default).lo:Int),((n_Reaches.getD s default).hi:Int),(0:Int)⟩:BWay)]).length)*40<=140737488355328)) <|
  M.pure (.inl (s+1,l++([(⟨((n_Reaches.getD s default).src:Int),((n_Reaches.getD s default).dst:Int),((n_Reaches.getD s default).lo:Int),((n_Reaches.getD s default).hi:Int),(0:Int)⟩:BWay)]))))
  else (
  M.pure (.inr (l,l)))
def m_balance_begun_b1 (n_Gains:List Span):((List BWay) × Nat)->M (((List BWay) × Nat) ⊕ ((List BWay) × (List BWay))):=fun (l4,s2) =>
  bif decide ((s2:Int)<(n_Gains.length:Int)) then (
  M.grd (decide ((s2:Int)<(n_Gains.length:Int))) <|
  M.grd (decide ((l4.length+([(⟨(n_Gains.length:Int),(s2:Int),((n_Gains.getD s2 default).lo:Int),((n_Gains.getD s2 default).hi:Int),(0:Int)⟩:BWay)]).length)*40<=140737488355328)) <|
  M.pure (.inl (l4++([(⟨(n_Gains.length:Int),(s2:Int),((n_Gains.getD s2 default).lo:Int),((n_Gains.getD s2 default).hi:Int),(0:Int)⟩:BWay)]),s2+1)))
  else (
  M.pure (.inr (l4,l4)))
def m_balance_begun_b2 (l6:List BWay):((List BWay) × Nat)->M (((List BWay) × Nat) ⊕ ((List BWay) × (List BWay))):=fun (l7,s3) =>
  bif decide ((s3:Int)<(l6.length:Int)) then (
  M.grd (decide ((s3:Int)<(l7.length:Int))) <|
  M.pure (.inl (l7.set s3 ({ (l7.getD s3 default) with now:=min (max 0 ((l7.getD s3 default).lo)) ((l7.getD s3 default).hi) }),s3+1)))
  else (
  M.pure (.inr (l7,l7)))
def m_balance_begun (n_Gains:List Span) (n_Reaches:List BRch):M ((List BWay) × Int × Int) :=
  M.bind (M.iter (m_balance_begun_b0 n_Reaches) (0,[])) fun (l2,l3) =>
  M.bind (M.iter (m_balance_begun_b1 n_Gains) (l3,0)) fun (l5,l6) =>
  M.bind (M.iter (m_balance_begun_b2 l6) (l6,0)) fun (l8,l9) =>
  M.pure (l9,(n_Gains.length:Int),(n_Reaches.length:Int))
theorem balance_begun_ok {R ak aa al ab}(n_Gains n_Reaches)(aM:Reads R ak)(am:Sl ak aa n_Gains)(aN:Reads R al)(ao:Sl al ab n_Reaches){r}(hM:(m_balance_begun n_Gains n_Reaches).Ends r)(w)(H:St w w [] R):Ret Tryz.prog 182 #[.agg #[aa,ab]] w fun v w'=>∃ y0 y1 y2 ap u1,(y0,y1,y2)=r/\v=Pq ap/\St w w' [cBlk ap [u1,I y1,I y2] 200,cOwn (α:=BWay) 203 u1 y0] R:=by
 refine ret_of_W Tryz.func182 rfl rfl rfl ?_;refine kB 2 ?_;intro ae aO H;have aP:=(am).len_le;refine kG 8 ?_;have aQ:=(ao).len_le;refine kB 4 ?_;intro ac aR H;have aS:=(ao).len_le;refine kg 11 ?_;replace H:=H.nilOwn (α:=BWay) 203;obtain ⟨ax,aq,ay⟩:=M.e_bind hM;obtain ⟨au,aq⟩:=M.e_iter aq;refine W.loop (fun m σ W=>∃ (s:Nat) (l:List BWay) (ai:Value) (ρ:Env),σ=upds ρ [(1,Pq ae),(3,Pq ac),(20,ab),(21,I (n_Reaches.length:Int)),(22,I (s:Int))]/\M.iterN (m_balance_begun_b0 n_Reaches) m (s,l)=some ax/\St w W [cOwn (α:=BWay) 203 ai l,cBlk ac [ai,I (n_Gains.length:Int),I (n_Reaches.length:Int)] 200,cBlk ae [aa,ab] 133] R) ?_ ?_
 ·exact kY
 rintro aT σ aU ⟨s,l,ai,ρ,rfl,az,H⟩;obtain ⟨aV,aW,aX,hM,aA⟩:=M.e_iterN az;refine kI 5 ?_ ?_
 ·intro aB hM;obtain ⟨aY,hM⟩:=M.e_gq hM;refine kA 7 ?_;intro aZ a6 H;refine ksw ?_;intro a7 H;refine kDT 1 [0,3] (.q 0 (.q 1 (.q 2 (.q 3 (.q 4 (.q 6 (.q 7 (.q 8 (.q 9 (.q 10 (.q 11 (.q 12 (.l2 5 (.l 13 (.l 14 (.q 15 (.q 16 (.q 17 (.l 18 .nil)))))) 13 (.l 5 (.l 14 (.q 15 (.q 16 (.q 17 (.l 18 .nil))))))))))))))))))) ?_;intro a8 H;refine kG 12 ?_;obtain ⟨ba,hM⟩:=M.e_gq hM;refine t_l2 rfl rfl ?_ ?_
  ·refine kG 1 ?_;refine kN ?_;refine kL 1 (α:=BWay) [⟨(n_Reaches.getD s default).src,(n_Reaches.getD s default).dst,(n_Reaches.getD s default).lo,(n_Reaches.getD s default).hi,0⟩] ?_;intro bb bc H;refine kN ?_;refine kP 1 ?_;intro bf bg H;refine kN ?_;refine kS 4 ?_;intro bh H;refine kN ?_;refine t_nil ?_;replace H:=H.pk [2,3,4];exact kX 4
  refine kL 0 (α:=BWay) [⟨(n_Reaches.getD s default).src,(n_Reaches.getD s default).dst,(n_Reaches.getD s default).lo,(n_Reaches.getD s default).hi,0⟩] ?_;intro bi bj H;refine kN ?_;refine kG 2 ?_;refine kN ?_;refine kP 1 ?_;intro bm bn H;refine kN ?_;refine kS 4 ?_;intro bo H;refine kN ?_;refine t_nil ?_;replace H:=H.pk [2,3,4];exact kX 4
 intro aB hM;refine W.exit ?_;obtain rfl:=M.e_inr hM aA;replace hM:=ay;have bp:=(am).len_le;refine kg 9 ?_;obtain ⟨aC,av,aD⟩:=M.e_bind hM;obtain ⟨au,av⟩:=M.e_iter av;refine W.loop (fun m σ W=>∃ (l4:List BWay) (s2:Nat) (aj:Value) (ρ:Env),σ=upds ρ [(3,Pq ac),(46,aa),(47,I (n_Gains.length:Int)),(48,I (s2:Int))]/\M.iterN (m_balance_begun_b1 n_Gains) m (l4,s2)=some aC/\St w W [cOwn (α:=BWay) 203 aj l4,cBlk ac [aj,I (n_Gains.length:Int),I (n_Reaches.length:Int)] 200,cBlk ae [aa,ab] 133] R) ?_ ?_
 ·exact kY
 rintro br σ bt ⟨l4,s2,aj,ρ,rfl,aE,H⟩;obtain ⟨bu,bv,bw,hM,aF⟩:=M.e_iterN aE;refine kI 5 ?_ ?_
 ·intro aG hM;obtain ⟨bx,hM⟩:=M.e_gq hM;refine kA 8 ?_;intro bz bA H;refine kS 1 ?_;intro bB H;refine kDT 1 [0,3] (.q 0 (.q 1 (.q 2 (.q 3 (.q 4 (.q 6 (.q 7 (.q 8 (.q 9 (.q 11 (.q 12 (.l2 5 (.l 10 (.q 13 (.l 14 (.l 15 (.q 16 (.q 17 (.q 18 (.l 19 .nil)))))))) 10 (.q 13 (.l2 5 (.l 14 (.l 15 (.q 16 (.q 17 (.q 18 (.l 19 .nil)))))) 14 (.l 5 (.l 15 (.q 16 (.q 17 (.q 18 (.l 19 .nil)))))))))))))))))))) ?_;intro bC H;obtain ⟨bD,hM⟩:=M.e_gq hM;refine kg 11 ?_;refine t_l2 rfl rfl ?_ ?_
  ·refine kG 1 ?_;refine kN ?_;refine kG 2 ?_;refine kN ?_;refine kL 2 (α:=BWay) [⟨n_Gains.length,s2,(n_Gains.getD s2 default).lo,(n_Gains.getD s2 default).hi,0⟩] ?_;intro bE bF H;refine kN ?_;refine kP 1 ?_;intro bG bH H;refine kN ?_;refine kS 4 ?_;intro bI H;refine kN ?_;refine t_nil ?_;replace H:=H.pk [2,3,4];exact kX 4
  refine kG 1 ?_;refine kN ?_;refine kG 1 ?_;refine t_l2 rfl rfl ?_ ?_
  ·refine kG 1 ?_;refine kN ?_;refine kL 1 (α:=BWay) [⟨n_Gains.length,s2,(n_Gains.getD s2 default).lo,(n_Gains.getD s2 default).hi,0⟩] ?_;intro bJ bK H;refine kN ?_;refine kP 1 ?_;intro bL bM H;refine kN ?_;refine kS 4 ?_;intro bN H;refine kN ?_;refine t_nil ?_;replace H:=H.pk [2,3,4];exact kX 4
  refine kL 0 (α:=BWay) [⟨n_Gains.length,s2,(n_Gains.getD s2 default).lo,(n_Gains.getD s2 default).hi,0⟩] ?_;intro bO bP H;refine kN ?_;refine kG 2 ?_;refine kN ?_;refine kP 1 ?_;intro bQ bR H;refine kN ?_;refine kS 4 ?_;intro bS H;refine kN ?_;refine t_nil ?_;replace H:=H.pk [2,3,4];exact kX 4
 intro aG hM;refine W.exit ?_;obtain rfl:=M.e_inr hM aF;replace hM:=aD;have bT:=((H.os 0)).len_le;refine kg 12 ?_;obtain ⟨aH,aw,aI⟩:=M.e_bind hM;obtain ⟨au,aw⟩:=M.e_iter aw;refine W.loop (fun m σ W=>∃ (l7:List BWay) (s3:Nat) (ah:Value) (ρ:Env),σ=upds ρ [(3,Pq ac),(77,ah),(78,I (l4.length:Int)),(79,I (s3:Int))]/\M.iterN (m_balance_begun_b2 l4) m (l7,s3)=some aH/\St w W [cOwn (α:=BWay) 203 ah l7,cBlk ac [ah,I (n_Gains.length:Int),I (n_Reaches.length:Int)] 200,cBlk ae [aa,ab] 133] R) ?_ ?_
 ·exact kY
 rintro bU σ bV ⟨l7,s3,ah,ρ,rfl,aJ,H⟩;obtain ⟨bW,bX,bY,hM,aK⟩:=M.e_iterN aJ;refine kI 5 ?_ ?_
 ·intro aL hM;obtain ⟨bZ,hM⟩:=M.e_gq hM;refine kA 8 ?_;intro b4 b6 H;refine kS 1 ?_;intro b7 H;refine kD 1 [0,2,3] [14,15,16] ?_;intro b8 H;refine kG 16 ?_;refine kN ?_;refine kG 2 ?_;refine kN ?_;refine kO 1 (α:=BWay) ({ (l7.getD s3 default) with now:=min (max 0 ((l7.getD s3 default).lo)) ((l7.getD s3 default).hi) }) ?_;intro b9 H;have cb:(l7.set s3 ({ (l7.getD s3 default) with now:=min (max 0 ((l7.getD s3 default).lo)) ((l7.getD s3 default).hi) })).length=(l7).length:=List.length_set;refine kN ?_;exact kXp 5 [1,2,3]
 intro aL hM;refine W.exit ?_;obtain rfl:=M.e_inr hM aK;replace hM:=aI;exact kR 5 [1,0]

end Go.Proofs.YtbgoclcmgbpckabGreat
end
section
set_option maxRecDepth 100000
set_option maxHeartbeats 16000000
namespace Go.Proofs.YtbgoclcmgbpckabGreat
open Go Go.Nm
attribute [local irreducible] gd execOp SL SLD SLT WR
def m_balance_desk_over_b0 (d_ways_all:List BWay):((List Int) × Nat)->M (((List Int) × Nat) ⊕ (List Int)):=fun (s,s2) =>
  bif decide ((s2:Int)<(d_ways_all.length:Int)) then (
  M.grd (decide ((s2:Int)<(d_ways_all.length:Int))) <|
  M.grd (decide ((0:Int)<=((d_ways_all.getD s2 default).src))&&decide (((d_ways_all.getD s2 default).src)<(10:Int))) <|
  M.gi ((s.getD (Int.toNat ((d_ways_all.getD s2 default).src)) 0)-((d_ways_all.getD s2 default).now)) <|
  M.grd (decide ((0:Int)<=((d_ways_all.getD s2 default).dst))&&decide (((d_ways_all.getD s2 default).dst)<(10:Int))) <|
  M.gi (((s.set (Int.toNat ((d_ways_all.getD s2 default).src)) ((s.getD (Int.toNat ((d_ways_all.getD s2 default).src)) 0)-((d_ways_all.getD s2 default).now))).getD (Int.toNat ((d_ways_all.getD s2 default).dst)) 0)+((d_ways_all.getD s2 default).now)) <|
  M.pure (.inl ((s.set (Int.toNat ((d_ways_all.getD s2 default).src)) ((s.getD (Int.toNat ((d_ways_all.getD s2 default).src)) 0)-((d_ways_all.getD s2 default).now))).set (Int.toNat ((d_ways_all.getD s2 default).dst)) (((s.set (Int.toNat ((d_ways_all.getD s2 default).src)) ((s.getD (Int.toNat ((d_ways_all.getD s2 default).src)) 0)-((d_ways_all.getD s2 default).now))).getD (Int.toNat ((d_ways_all.getD s2 default).dst)) 0)+((d_ways_all.getD s2 default).now)),s2+1)))
  else (
  M.pure (.inr s))
def m_balance_desk_over (d_ways_all:List BWay) (d_ways_outside d_reaches:Int):M (List Int) :=
  M.bind (M.iter (m_balance_desk_over_b0 d_ways_all) (List.replicate 10 0,0)) fun l =>
  M.pure l
theorem balance_desk_over_ok {R ak al ae}(d_ways_all d_ways_outside d_reaches)(aC:Reads R al)(ap:Sl al ae d_ways_all)(aD:Has R (cBlk ak [ae,I d_ways_outside,I d_reaches] 200)){r}(hM:(m_balance_desk_over d_ways_all d_ways_outside d_reaches).Ends r)(w)(H:St w w [] R):Ret Tryz.prog 227 #[Pq ak] w fun v w'=>∃ y0,y0=r/\v = .agg (List.flatten [[],encF (α:=Int) y0]).toArray/\St w w' [] R/\y0.length=10:=by
 refine ret_of_W Tryz.func227 rfl rfl rfl ?_;refine kg 2 ?_;refine t_alloc (cs:=(List.flatten [[],encF (α:=Int) (List.replicate 10 0)])) H Al339.h (by kernel_rfl) ?_;intro ac aE H;refine kg 3 ?_;refine t_alloc (cs:=(List.flatten [[],encF (α:=Int) (List.replicate 10 0)])) H Al339.h (by kernel_rfl) ?_;intro aa aF H;have aG:=(ap).len_le;refine kg 13 ?_;obtain ⟨aq,ah,au⟩:=M.e_bind hM;obtain ⟨aH,ah⟩:=M.e_iter ah;refine W.loop (fun m σ W=>∃ (s:List Int) (s2:Nat) (ρ:Env),σ=upds ρ [(2,Pq ac),(3,Pq aa),(10,ae),(11,I (d_ways_all.length:Int)),(12,I (s2:Int))]/\M.iterN (m_balance_desk_over_b0 d_ways_all) m (s,s2)=some aq/\St w W [cBlk aa (List.flatten [[],encF (α:=Int) s]) 339,cBlk ac (List.flatten [[],encF (α:=Int) (List.replicate 10 0)]) 339] R/\s.length=10) ?_ ?_
 ·exact ⟨_,List.replicate 10 0,0,_,jQ,ah,H,List.length_replicate⟩
 rintro aI σ aJ ⟨s,s2,ρ,rfl,av,H,ab⟩;obtain ⟨aw,ax,aK,hM,am⟩:=M.e_iterN av;refine kI 5 ?_ ?_
 ·intro ay hM;obtain ⟨aL,hM⟩:=M.e_gq hM;refine kA 7 ?_;intro ao aM H;refine ksw ?_;intro aN H;refine kDo 2 [0,2] [(0,true),(1,true),(2,true),(4,true),(5,true),(3,false),(6,true),(7,true),(8,false)] ?_;intro aO H;obtain ⟨aP,hM⟩:=M.e_gq hM;refine kg 2 ?_;refine d_q rfl (fun w' H=>x_ix (v:=.pointer (some ⟨aa,0+Int.toNat ((d_ways_all.getD s2 default).src)*1,none⟩)) rfl rfl (run_indexS Tryz.underlying339 Sz3.h (by omega) (by omega))) ?_;refine kG 3 ?_;refine s_val (x_ld (v:=I (s.getD (Int.toNat ((d_ways_all.getD s2 default).src)) 0)) rfl (ldS (α:=Int) (k:=1) (off:=0) (i:=(Int.toNat ((d_ways_all.getD s2 default).src))) (f:=0) (sz:=1) 0 Sc3.h (H.bl 1) rfl (sgo1 rfl) rfl (by decide) (by have ai:=ab; omega) (by omega) rfl)) ?_;refine kN ?_;obtain ⟨aQ,hM⟩:=M.e_gq hM;refine kg 1 ?_;refine d_q rfl (fun w' H=>x_ix (v:=.pointer (some ⟨aa,0+Int.toNat ((d_ways_all.getD s2 default).src)*1,none⟩)) rfl rfl (run_indexS Tryz.underlying339 Sz3.h (by omega) (by omega)))<|d_l rfl ?_;refine t_stS (α:=Int) (kc:=1) (b:=aa) (k:=1) (off:=0) (i:=(Int.toNat ((d_ways_all.getD s2 default).src))) (f:=0) (sz:=1) (segs:=[[],encF (α:=Int) s]) (segs':=[[],encF (α:=Int) (s.set (Int.toNat ((d_ways_all.getD s2 default).src)) ((s.getD (Int.toNat ((d_ways_all.getD s2 default).src)) 0)-((d_ways_all.getD s2 default).now)))]) (l:=s) (l':=s.set (Int.toNat ((d_ways_all.getD s2 default).src)) ((s.getD (Int.toNat ((d_ways_all.getD s2 default).src)) 0)-((d_ways_all.getD s2 default).now))) (vs:=[I ((s.getD (Int.toNat ((d_ways_all.getD s2 default).src)) 0)-((d_ways_all.getD s2 default).now))]) (L':=[cBlk ao [I ((d_ways_all.getD s2 default).src),I ((d_ways_all.getD s2 default).dst),I ((d_ways_all.getD s2 default).lo),I ((d_ways_all.getD s2 default).hi),I ((d_ways_all.getD s2 default).now)] 203,cBlk aa (List.flatten [[],encF (α:=Int) (s.set (Int.toNat ((d_ways_all.getD s2 default).src)) ((s.getD (Int.toNat ((d_ways_all.getD s2 default).src)) 0)-((d_ways_all.getD s2 default).now)))]) 339,cBlk ac (List.flatten [[],encF (α:=Int) (List.replicate 10 0)]) 339]) H rfl rfl rfl Sz3.h rfl rfl rfl rfl (sgo1 rfl) rfl rfl (by have ai:=ab; omega) (by omega) 0 ((s.getD (Int.toNat ((d_ways_all.getD s2 default).src)) 0)-((d_ways_all.getD s2 default).now)) rfl rfl rfl rfl ?_;intro aR H
  have aj:(s.set (Int.toNat ((d_ways_all.getD s2 default).src)) ((s.getD (Int.toNat ((d_ways_all.getD s2 default).src)) 0)-((d_ways_all.getD s2 default).now))).length=10:=List.length_set.trans ab;refine kN ?_;refine kDo 1 [0,2] [(0,true),(1,true),(2,true),(4,true),(5,true),(3,false),(6,true),(7,true),(8,false)] ?_;intro aS H;obtain ⟨aT,hM⟩:=M.e_gq hM;refine kg 2 ?_;refine d_q rfl (fun w' H=>x_ix (v:=.pointer (some ⟨aa,0+Int.toNat ((d_ways_all.getD s2 default).dst)*1,none⟩)) rfl rfl (run_indexS Tryz.underlying339 Sz3.h (by omega) (by omega))) ?_;refine kG 3 ?_;refine s_val (x_ld (v:=I ((s.set (Int.toNat ((d_ways_all.getD s2 default).src)) ((s.getD (Int.toNat ((d_ways_all.getD s2 default).src)) 0)-((d_ways_all.getD s2 default).now))).getD (Int.toNat ((d_ways_all.getD s2 default).dst)) 0)) rfl (ldS (α:=Int) (k:=1) (off:=0) (i:=(Int.toNat ((d_ways_all.getD s2 default).dst))) (f:=0) (sz:=1) 0 Sc3.h (H.bl 1) rfl (sgo1 rfl) rfl (by decide) (by have ai:=aj; omega) (by omega) rfl)) ?_;refine kN ?_;obtain ⟨aU,hM⟩:=M.e_gq hM;refine kg 1 ?_;refine d_q rfl (fun w' H=>x_ix (v:=.pointer (some ⟨aa,0+Int.toNat ((d_ways_all.getD s2 default).dst)*1,none⟩)) rfl rfl (run_indexS Tryz.underlying339 Sz3.h (by omega) (by omega)))<|d_l rfl ?_;refine t_stS (α:=Int) (kc:=1) (b:=aa) (k:=1) (off:=0) (i:=(Int.toNat ((d_ways_all.getD s2 default).dst))) (f:=0) (sz:=1) (segs:=[[],encF (α:=Int) (s.set (Int.toNat ((d_ways_all.getD s2 default).src)) ((s.getD (Int.toNat ((d_ways_all.getD s2 default).src)) 0)-((d_ways_all.getD s2 default).now)))]) (segs':=[[],encF (α:=Int) ((s.set (Int.toNat ((d_ways_all.getD s2 default).src)) ((s.getD (Int.toNat ((d_ways_all.getD s2 default).src)) 0)-((d_ways_all.getD s2 default).now))).set (Int.toNat ((d_ways_all.getD s2 default).dst)) (((s.set (Int.toNat ((d_ways_all.getD s2 default).src)) ((s.getD (Int.toNat ((d_ways_all.getD s2 default).src)) 0)-((d_ways_all.getD s2 default).now))).getD (Int.toNat ((d_ways_all.getD s2 default).dst)) 0)+((d_ways_all.getD s2 default).now)))]) (l:=s.set (Int.toNat ((d_ways_all.getD s2 default).src)) ((s.getD (Int.toNat ((d_ways_all.getD s2 default).src)) 0)-((d_ways_all.getD s2 default).now))) (l':=(s.set (Int.toNat ((d_ways_all.getD s2 default).src)) ((s.getD (Int.toNat ((d_ways_all.getD s2 default).src)) 0)-((d_ways_all.getD s2 default).now))).set (Int.toNat ((d_ways_all.getD s2 default).dst)) (((s.set (Int.toNat ((d_ways_all.getD s2 default).src)) ((s.getD (Int.toNat ((d_ways_all.getD s2 default).src)) 0)-((d_ways_all.getD s2 default).now))).getD (Int.toNat ((d_ways_all.getD s2 default).dst)) 0)+((d_ways_all.getD s2 default).now))) (vs:=[I (((s.set (Int.toNat ((d_ways_all.getD s2 default).src)) ((s.getD (Int.toNat ((d_ways_all.getD s2 default).src)) 0)-((d_ways_all.getD s2 default).now))).getD (Int.toNat ((d_ways_all.getD s2 default).dst)) 0)+((d_ways_all.getD s2 default).now))]) (L':=[cBlk ao [I ((d_ways_all.getD s2 default).src),I ((d_ways_all.getD s2 default).dst),I ((d_ways_all.getD s2 default).lo),I ((d_ways_all.getD s2 default).hi),I ((d_ways_all.getD s2 default).now)] 203,cBlk aa (List.flatten [[],encF (α:=Int) ((s.set (Int.toNat ((d_ways_all.getD s2 default).src)) ((s.getD (Int.toNat ((d_ways_all.getD s2 default).src)) 0)-((d_ways_all.getD s2 default).now))).set (Int.toNat ((d_ways_all.getD s2 default).dst)) (((s.set (Int.toNat ((d_ways_all.getD s2 default).src)) ((s.getD (Int.toNat ((d_ways_all.getD s2 default).src)) 0)-((d_ways_all.getD s2 default).now))).getD (Int.toNat ((d_ways_all.getD s2 default).dst)) 0)+((d_ways_all.getD s2 default).now)))]) 339,cBlk ac (List.flatten [[],encF (α:=Int) (List.replicate 10 0)]) 339]) H rfl rfl rfl Sz3.h rfl rfl rfl rfl (sgo1 rfl) rfl rfl (by have ai:=aj; omega) (by omega) 0 (((s.set (Int.toNat ((d_ways_all.getD s2 default).src)) ((s.getD (Int.toNat ((d_ways_all.getD s2 default).src)) 0)-((d_ways_all.getD s2 default).now))).getD (Int.toNat ((d_ways_all.getD s2 default).dst)) 0)+((d_ways_all.getD s2 default).now)) rfl rfl rfl rfl ?_;intro aV H
  have az:((s.set (Int.toNat ((d_ways_all.getD s2 default).src)) ((s.getD (Int.toNat ((d_ways_all.getD s2 default).src)) 0)-((d_ways_all.getD s2 default).now))).set (Int.toNat ((d_ways_all.getD s2 default).dst)) (((s.set (Int.toNat ((d_ways_all.getD s2 default).src)) ((s.getD (Int.toNat ((d_ways_all.getD s2 default).src)) 0)-((d_ways_all.getD s2 default).now))).getD (Int.toNat ((d_ways_all.getD s2 default).dst)) 0)+((d_ways_all.getD s2 default).now))).length=10:=List.length_set.trans aj;refine kN ?_;refine kg 5 ?_;exact ⟨aw,ax,(s.set (Int.toNat ((d_ways_all.getD s2 default).src)) ((s.getD (Int.toNat ((d_ways_all.getD s2 default).src)) 0)-((d_ways_all.getD s2 default).now))).set (Int.toNat ((d_ways_all.getD s2 default).dst)) (((s.set (Int.toNat ((d_ways_all.getD s2 default).src)) ((s.getD (Int.toNat ((d_ways_all.getD s2 default).src)) 0)-((d_ways_all.getD s2 default).now))).getD (Int.toNat ((d_ways_all.getD s2 default).dst)) 0)+((d_ways_all.getD s2 default).now)),s2+1,_,jQ,M.e_inl hM am,(H.pk [1,2]),az⟩
 intro ay hM;refine W.exit ?_;obtain rfl:=M.e_inr hM am;replace hM:=au;refine kg 2 ?_;refine s_val (x_ld (v:=.agg (List.flatten [[],encF (α:=Int) s]).toArray) rfl (ldb_seg (l:=s) (pre:=[]) (post:=[]) (by simp) Ag339.h Sz339.h (H.bl 0) (by simp) rfl ab)) ?_;refine t_swI 1 H rfl rfl Sz339.h List.length_replicate ab ?_;intro aW H;refine s_nil ?_;refine W.ret ?_;have aA:=(H.bl 1)
 have aB:=M.e_pure hM;exact ⟨_,(resE_of1 (v:=.agg (List.flatten [[],encF (α:=Int) s]).toArray) rfl (.cell (v:=.agg (List.flatten [[],encF (α:=Int) s]).toArray) rfl (run_loadVar_ag (ds:=(List.flatten [[],encF (α:=Int) s])) Ag339.h Sz339.h aA (seg_whole ab) (seg_len ab))<|.nil)),⟨s,aB,rfl,(H.pk []),ab⟩⟩

def m_balance_desk_settle_2 (x:Int):M Bool :=
  M.pure (decide (0<x))
theorem balance_desk_settle_2_ok {R}(x){r}(hM:(m_balance_desk_settle_2 x).Ends r)(w)(H:St w w [] R):Ret Tryz.prog 228 #[I x] w fun v w'=>∃ y0,y0=r/\v=B y0/\St w w' [] R:=by
 refine ret_of_W Tryz.func228 rfl rfl rfl ?_;refine kg 10 ?_;exact rt

def m_balance_desk_steps (d_ways_all:List BWay) (d_ways_outside d_reaches place:Int):M Int :=
  M.pure place
theorem balance_desk_steps_ok {R aa ab ac}(d_ways_all d_ways_outside d_reaches place)(ak:Reads R ab)(al:Sl ab ac d_ways_all)(am:Has R (cBlk aa [ac,I d_ways_outside,I d_reaches] 200)){r}(hM:(m_balance_desk_steps d_ways_all d_ways_outside d_reaches place).Ends r)(w)(H:St w w [] R):Ret Tryz.prog 231 #[Pq aa,I place] w fun v w'=>∃ y0 ae ah,y0=r/\v = .func (.func 248) #[] #[Pq ae,Pq ah]/\St w w' [cBlk ae [Pq aa] 192,cBlk ah [I y0] 3] R:=by
 refine ret_of_W Tryz.func231 rfl rfl rfl ?_;refine kB 2 ?_;intro ai ao H;refine kbx ?_;intro aj ap H;refine kg 4 ?_;refine s_val (x_mf (fs:=[]) (cs:=[Pq ai,Pq aj]) rfl rfl) ?_;exact kR 2 [1,0]

def m_balance_desk_steps_1_b0 {T_:Type} (ac:T_->BStep->M (Bool × T_)) (aa:List BWay) (ab:Int):(Nat × T_)->M ((Nat × T_) ⊕ T_):=fun (s,t3) =>
  bif decide ((s:Int)<(aa.length:Int)) then (
  M.grd (decide ((s:Int)<(aa.length:Int))) <|
  M.bind (M.opt (((aa.getD s default).src)==ab) (ac t3 (⟨(s:Int),false⟩:BStep)) (false,t3)) fun (go,t) =>
  M.bind (M.opt ((!((((aa.getD s default).src)==ab)&&(!go)))&&(((aa.getD s default).dst)==ab)) (ac t (⟨(s:Int),true⟩:BStep)) (false,t)) fun (go2,t2) =>
  bif (((((aa.getD s default).src)==ab)&&(!go))||((((aa.getD s default).dst)==ab)&&(!go2))) then (
  M.fail)
  else (
  M.pure (.inl (s+1,t2))))
  else (
  M.pure (.inr t3))
def m_balance_desk_steps_1 {T_:Type} (aa:T_->BStep->M (Bool × T_)) (t_:T_) (ab:List BWay) (ae ah ac:Int):M T_ :=
  M.bind (M.iter (m_balance_desk_steps_1_b0 aa ab ac) (0,t_)) fun t4 =>
  M.pure t4
theorem balance_desk_steps_1_ok {R:List Chunk} {T_:Type} {Y_:T_->List Chunk->Prop} {ac:Value} {ae:List Chunk} {al:Nat} {am:Nat} {ao:Cells} {ah:Value} {ai:Nat} (aj:T_->BStep->M (Bool × T_)) (t_:T_) (aa:List BWay) (ap:Int) (aq:Int) (ab:Int) (au:YieldC Tryz.prog R arBStep Y_ ac aj) (ax:Y_ t_ ae) (aM:Reads R ao) (ay:Sl ao ah aa) (aN:Has R (cBlk am [ah,I ap,I aq] 200)) (aO:Has R (cBlk al [Pq am] 192)) (aP:Has R (cBlk ai [I ab] 3)) {r:T_} (hM:(m_balance_desk_steps_1 aj t_ aa ap aq ab).Ends r) (w:World) (H:St w w [cAll ae] R):Ret Tryz.prog 248 #[ac,Pq al,Pq ai] w fun v w'=>∃ (y0:T_) (Ls0:List Chunk),y0=r/\v = .tuple #[]/\St w w' [cAll Ls0] R/\Y_ y0 Ls0:=by
 refine ret_of_W Tryz.func248 rfl rfl rfl ?_;have aQ:=(ay).len_le;refine kg 11 ?_;obtain ⟨az,ak,aA⟩:=M.e_bind hM;obtain ⟨aR,ak⟩:=M.e_iter ak;refine W.loop (fun m σ W=>∃ (s:Nat) (t3:T_) (Ls_t3:List Chunk) (ρ:Env),σ=upds ρ [(0,ac),(2,Pq ai),(10,ah),(11,I (aa.length:Int)),(12,I (s:Int))]/\M.iterN (m_balance_desk_steps_1_b0 aj aa ab) m (s,t3)=some az/\St w W [cAll Ls_t3] R/\Y_ t3 Ls_t3) ?_ ?_
 ·exact ⟨_,0,t_,ae,_,jQ,ak,H,ax⟩
 rintro aS σ aT ⟨s,t3,Ls_t3,ρ,rfl,aB,H,hY_t3⟩;obtain ⟨aC,aD,aU,hM,av⟩:=M.e_iterN aB;refine kI 5 ?_ ?_
 ·intro aE hM;obtain ⟨aV,hM⟩:=M.e_gq hM;refine kA 8 ?_;intro aw aW H;refine kS 1 ?_;intro aX H;refine kg 10 ?_;refine g_val (((aa.getD s default).src)==ab) (gy_t rfl) (fun hg=>x_bld (ps:=[(0,I (s:Int)),(1,B false)]) (zs:=[I 0,B false]) (L':=[I (s:Int),B false]) (by exact prs2 (gd_of hg (I (s:Int))) rfl) Tryz.underlying309 Al309.h rfl (Bd309 Tryz.underlying309) (.cons (cs:=[I (s:Int)]) rfl rfl rfl rfl rfl<|.cons (cs:=[B false]) rfl rfl rfl rfl rfl<|.nil)) ?_;obtain ⟨⟨go,t⟩,aF,hM⟩:=M.e_bind hM;refine t_gyield (L:=[cBlk aw [I ((aa.getD s default).src),I ((aa.getD s default).dst),I ((aa.getD s default).lo),I ((aa.getD s default).hi),I ((aa.getD s default).now)] 203]) (((aa.getD s default).src)==ab) (gy_t rfl) (H.pk [1,0]) au hY_t3 (fun hg=>(gd_of hg (ac))) [.agg #[I (s:Int),B false]] (fun hg=>lst1 (gd_of hg (.agg #[I (s:Int),B false]))) (⟨(s:Int),false⟩:BStep) Reads.none rfl aF ?_;intro aY aZ aG H;replace H:=H.nf;refine kg 10 ?_;refine g_val ((!((((aa.getD s default).src)==ab)&&(!go)))&&(((aa.getD s default).dst)==ab)) (gy_gt rfl rfl) (fun hg=>x_bld (ps:=[(0,I (s:Int)),(1,B true)]) (zs:=[I 0,B false]) (L':=[I (s:Int),B true]) (by exact prs2 (gd_of hg (I (s:Int))) rfl) Tryz.underlying309 Al309.h rfl (Bd309 Tryz.underlying309) (.cons (cs:=[I (s:Int)]) rfl rfl rfl rfl rfl<|.cons (cs:=[B true]) rfl rfl rfl rfl rfl<|.nil)) ?_;obtain ⟨⟨go2,t2⟩,aH,hM⟩:=M.e_bind hM;refine t_gyield (L:=[cBlk aw [I ((aa.getD s default).src),I ((aa.getD s default).dst),I ((aa.getD s default).lo),I ((aa.getD s default).hi),I ((aa.getD s default).now)] 203]) ((!((((aa.getD s default).src)==ab)&&(!go)))&&(((aa.getD s default).dst)==ab)) (gy_gt rfl rfl) H au aG (fun hg=>(gd_of hg (ac))) [.agg #[I (s:Int),B true]] (fun hg=>lst1 (gd_of hg (.agg #[I (s:Int),B true]))) (⟨(s:Int),true⟩:BStep) Reads.none rfl aH ?_;intro aI a6 aJ H;replace H:=H.nf;refine kI 4 ?_ ?_
  ·intro aK hM;exact (M.e_fail hM).elim
  intro aK hM;refine kg 5 ?_;exact ⟨aC,aD,s+1,t2,aI,_,jQ,M.e_inl hM av,(H.pk [0]),aJ⟩
 intro aE hM;refine W.exit ?_;obtain rfl:=M.e_inr hM av;replace hM:=aA;have aL:=M.e_pure hM;exact ⟨_,resE_tmp0 rfl,⟨t3,Ls_t3,aL,rfl,H,hY_t3⟩⟩
def m_balance_desk_settle_1 (x:BStep):M Bool :=
  M.pure true
theorem balance_desk_settle_1_ok {R}(x){r}(hM:(m_balance_desk_settle_1 x).Ends r)(w)(H:St w w [] R):Ret Tryz.prog 226 #[.agg #[I x.way,B x.back]] w fun v w'=>∃ y0,y0=r/\v=B y0/\St w w' [] R:=by
 refine ret_of_W Tryz.func226 rfl rfl rfl ?_;refine kB 2 ?_;intro aa ab H;refine kg 6 ?_;exact rt

def m_balance_desk_room (d_ways_all:List BWay) (d_ways_outside d_reaches:Int) (s:BStep):M (Int × Int) :=
  M.grd (decide ((0:Int)<=s.way)&&decide (s.way<(d_ways_all.length:Int))) <|
  bif s.back then (
  M.grd (decide (-9223372036854775807<=((d_ways_all.getD (Int.toNat s.way) default).now))&&decide (((d_ways_all.getD (Int.toNat s.way) default).now)<=9223372036854775807)) <|
  M.grd (decide (-9223372036854775807<=((d_ways_all.getD (Int.toNat s.way) default).hi))&&decide (((d_ways_all.getD (Int.toNat s.way) default).hi)<=9223372036854775807)) <|
  M.grd (decide (-9223372036854775807<=((d_ways_all.getD (Int.toNat s.way) default).lo))&&decide (((d_ways_all.getD (Int.toNat s.way) default).lo)<=9223372036854775807)) <|
  bif decide ((-((d_ways_all.getD (Int.toNat s.way) default).now))<(-((d_ways_all.getD (Int.toNat s.way) default).hi))) then (
  M.fail)
  else (
  bif decide ((-((d_ways_all.getD (Int.toNat s.way) default).now))<(-((d_ways_all.getD (Int.toNat s.way) default).lo))) then (
  M.gi ((-((d_ways_all.getD (Int.toNat s.way) default).lo))-(-((d_ways_all.getD (Int.toNat s.way) default).now))) <|
  M.pure (0,((-((d_ways_all.getD (Int.toNat s.way) default).lo))-(-((d_ways_all.getD (Int.toNat s.way) default).now)))))
  else (
  M.pure (1,10000000000))))
  else (
  bif decide (((d_ways_all.getD (Int.toNat s.way) default).now)<((d_ways_all.getD (Int.toNat s.way) default).lo)) then (
  M.fail)
  else (
  bif decide (((d_ways_all.getD (Int.toNat s.way) default).now)<((d_ways_all.getD (Int.toNat s.way) default).hi)) then (
  M.gi (((d_ways_all.getD (Int.toNat s.way) default).hi)-((d_ways_all.getD (Int.toNat s.way) default).now)) <|
  M.pure (0,(((d_ways_all.getD (Int.toNat s.way) default).hi)-((d_ways_all.getD (Int.toNat s.way) default).now))))
  else (
  M.pure (1,10000000000))))
theorem balance_desk_room_ok {R aa ab ac}(d_ways_all d_ways_outside d_reaches s)(al:Reads R ab)(am:Sl ab ac d_ways_all)(ao:Has R (cBlk aa [ac,I d_ways_outside,I d_reaches] 200)){r}(hM:(m_balance_desk_room d_ways_all d_ways_outside d_reaches s).Ends r)(w)(H:St w w [] R):Ret Tryz.prog 187 #[Pq aa,.agg #[I s.way,B s.back]] w fun v w'=>∃ y0 y1,(y0,y1)=r/\v = .tuple #[I y0,I y1]/\St w w' [] R:=by
 refine ret_of_W Tryz.func187 rfl rfl rfl ?_;refine kB 2 ?_;intro ap aq H;refine kD 4 [0] [9,10] ?_;intro au H;obtain ⟨av,hM⟩:=M.e_gq hM;refine kA 10 ?_;intro aw ax H;refine kN ?_;refine kS 1 ?_;intro ay H;refine kN ?_;refine kD 2 [0,1] [] ?_;intro az H;refine kg 18 ?_;replace H:=H.pk [];refine kI 0 ?_ ?_
 ·intro ae hM;obtain ⟨aA,hM⟩:=M.e_gq hM;refine kg 2 ?_;refine s_val (x_neg (a:=(d_ways_all.getD (Int.toNat s.way) default).now) rfl (by omega)) ?_;obtain ⟨aB,hM⟩:=M.e_gq hM;refine kg 1 ?_;refine s_val (x_neg (a:=(d_ways_all.getD (Int.toNat s.way) default).hi) rfl (by omega)) ?_;obtain ⟨aC,hM⟩:=M.e_gq hM;refine kg 1 ?_;refine s_val (x_neg (a:=(d_ways_all.getD (Int.toNat s.way) default).lo) rfl (by omega)) ?_;refine kI 13 ?_ ?_
  ·intro ah hM;exact (M.e_fail hM).elim
  intro ah hM;refine kI 7 ?_ ?_
  ·intro ai hM;obtain ⟨aD,hM⟩:=M.e_gq hM;refine kg 8 ?_;exact rt
  intro ai hM;refine kg 6 ?_;exact rt
 intro ae hM;refine kI 10 ?_ ?_
 ·intro aj hM;exact (M.e_fail hM).elim
 intro aj hM;refine kI 7 ?_ ?_
 ·intro ak hM;obtain ⟨aE,hM⟩:=M.e_gq hM;refine kg 8 ?_;exact rt
 intro ak hM;refine kg 6 ?_;exact rt

def m_balance_desk_to (d_ways_all:List BWay) (d_ways_outside d_reaches:Int) (s:BStep):M Int :=
  bif s.back then (
  M.grd (decide ((0:Int)<=s.way)&&decide (s.way<(d_ways_all.length:Int))) <|
  M.pure ((d_ways_all.getD (Int.toNat s.way) default).src))
  else (
  M.grd (decide ((0:Int)<=s.way)&&decide (s.way<(d_ways_all.length:Int))) <|
  M.pure ((d_ways_all.getD (Int.toNat s.way) default).dst))
theorem balance_desk_to_ok {R aa ab ac}(d_ways_all d_ways_outside d_reaches s)(ah:Reads R ab)(ai:Sl ab ac d_ways_all)(aj:Has R (cBlk aa [ac,I d_ways_outside,I d_reaches] 200)){r}(hM:(m_balance_desk_to d_ways_all d_ways_outside d_reaches s).Ends r)(w)(H:St w w [] R):Ret Tryz.prog 188 #[Pq aa,.agg #[I s.way,B s.back]] w fun v w'=>∃ y0,y0=r/\v=I y0/\St w w' [] R:=by
 refine ret_of_W Tryz.func188 rfl rfl rfl ?_;refine kB 2 ?_;intro ak al H;refine kI 8 ?_ ?_
 ·intro ae hM;refine kD 1 [0] [] ?_;intro am H;obtain ⟨ao,hM⟩:=M.e_gq hM;refine kg 12 ?_;exact rt
 intro ae hM;refine kD 2 [0] [] ?_;intro ap H;obtain ⟨aq,hM⟩:=M.e_gq hM;refine kg 12 ?_;exact rt

def m_balance_desk_reach_226_b4 (d_ways_all:List BWay) (d_ways_outside d_reaches:Int) (s2:Nat) (aa:List (Int × BFar)):((List (Int × BFar)) × Bool)->BStep->M (((List (Int × BFar)) × Bool) ⊕ Unit):=fun (mp,s5) x =>
  M.bind (m_balance_desk_settle_1 x) fun r2 =>
  bif !r2 then (
  M.fail)
  else (
  M.bind (m_balance_desk_room d_ways_all d_ways_outside d_reaches x) fun (r0,r1) =>
  M.gi ((((lookM aa (s2:Int)).getD default).cost)+r0) <|
  M.gi ((((lookM aa (s2:Int)).getD default).many)+1) <|
  M.bind (m_balance_desk_to d_ways_all d_ways_outside d_reaches x) fun r3 =>
  bif (((!((lookM mp (r3:Int)).isSome))||(decide (((((lookM aa (s2:Int)).getD default).cost)+r0)<(((lookM mp (r3:Int)).getD default).cost))))||((((((lookM aa (s2:Int)).getD default).cost)+r0)==(((lookM mp (r3:Int)).getD default).cost))&&(decide (((((lookM aa (s2:Int)).getD default).many)+1)<(((lookM mp (r3:Int)).getD default).many))))) then (
  M.bind (m_balance_desk_to d_ways_all d_ways_outside d_reaches x) fun r4 =>
  M.pure (.inl (setM mp (r4:Int) (⟨((((lookM aa (s2:Int)).getD default).cost)+r0:Int),((((lookM aa (s2:Int)).getD default).many)+1:Int),(x.way:Int),x.back⟩:BFar),true)))
  else (
  M.pure (.inl (mp,s5))))
def m_balance_desk_reach_226_b5 (d_ways_all:List BWay) (d_ways_outside d_reaches:Int):(Nat × (List (Int × BFar)) × Bool)->M ((Nat × (List (Int × BFar)) × Bool) ⊕ ((List (Int × BFar)) × Bool)):=fun (s2,aa,s6) =>
  bif decide ((s2:Int)<(d_ways_outside+2)) then (
  bif !((lookM aa (s2:Int)).isSome) then (
  M.gi ((s2:Int)+1) <|
  M.pure (.inl (s2+1,aa,s6)))
  else (
  M.bind (m_balance_desk_steps d_ways_all d_ways_outside d_reaches (s2:Int)) fun ab =>
  M.bind (m_balance_desk_steps_1 (M.yl (m_balance_desk_reach_226_b4 d_ways_all d_ways_outside d_reaches s2 aa)) (.inl (aa,s6)) d_ways_all d_ways_outside d_reaches ab) fun x_=>match x_ with
  | .inl (mp,s5)=>(
  M.gi ((s2:Int)+1) <|
  M.pure (.inl (s2+1,mp,s5)))
  | .inr _=>M.fail))
  else (
  M.pure (.inr (aa,s6)))
def m_balance_desk_reach_226_b6 (d_ways_all:List BWay) (d_ways_outside d_reaches:Int):((List (Int × BFar)) × Bool)->M (((List (Int × BFar)) × Bool) ⊕ (List (Int × BFar))):=fun (aa,s8) =>
  bif s8 then (
  M.gi (d_ways_outside+2) <|
  M.bind (M.iter (m_balance_desk_reach_226_b5 d_ways_all d_ways_outside d_reaches) (0,aa,false)) fun (ab,s7) =>
  M.pure (.inl (ab,s7)))
  else (
  M.pure (.inr aa))
def m_balance_desk_reach_226 (d_ways_all:List BWay) (d_ways_outside d_reaches aa:Int):M (List (Int × BFar)) :=
  M.bind (M.iter (m_balance_desk_reach_226_b6 d_ways_all d_ways_outside d_reaches) (setM ([]:List (Int × BFar)) (aa:Int) (⟨(0:Int),(0:Int),(0:Int),false⟩:BFar),true)) fun ab =>
  M.pure ab
theorem balance_desk_reach_226_ok {R ab aL aM}(d_ways_all d_ways_outside d_reaches ax)(ay:Reads R aL)(aE:Sl aL aM d_ways_all)(az:Has R (cBlk ab [aM,I d_ways_outside,I d_reaches] 200)){r}(hM:(m_balance_desk_reach_226 d_ways_all d_ways_outside d_reaches ax).Ends r)(w)(H:St w w [] R):Ret Tryz.prog 189 #[Pq ab,I ax,.agg #[.func (.func 226) #[] #[]]] w fun v w'=>∃ y0 aN,y0=r/\v = .map (some aN)/\St w w' [cMl I encFar aN y0] R:=by
 refine ret_of_WD Tryz.func189 rfl rfl rfl ?_;replace H:St w w [cMk ([])] R:=H.mk0;have bo:=aE.len_le;unfold m_balance_desk_reach_226 at hM;refine WD.seq<|WD.of ?_;refine kB 1 ?_;intro ah bp H;refine kbx ?_;intro ai br H;refine kg 2 ?_;refine WD.seq<|WD.of<|W.region rfl ?_;refine t_mkMl (κ:=Int) (ν:=BFar) I encFar H ?_;intro ac bt H;refine kG 2 ?_;refine t_insMl (i:=0) (kenc:=I) (venc:=encFar) (m:=([]:List (Int × BFar))) (k:=(ax:Int)) (v:=(⟨(0:Int),(0:Int),(0:Int),false⟩:BFar)) (L':=[cMl I encFar ac (setM ([]:List (Int × BFar)) (ax:Int) (⟨(0:Int),(0:Int),(0:Int),false⟩:BFar)),cBlk ai [.func (.func 226) #[] #[]] 314,cBlk ah [Pq ab] 192,cMk ([])]) keyIntFar Tryz.underlying316 H rfl rfl rfl rfl rfl ?_;intro bu H;refine kA 1 ?_;intro aj bv H;refine ksw ?_;intro bw H;refine s_nil<|WD.seq<|WD.of ?_;refine kg 2 ?_;refine s_val (x_mf (fs:=[Pq ab]) (cs:=[]) rfl rfl) ?_;refine kal ?_;intro ak bx H;refine ksw ?_;intro bz H;refine s_nil<|WD.seq<|WD.seq<|WD.of ?_;refine kA 1 ?_;intro bA bB H;refine ksw ?_;intro bC H;refine s_nil<|WD.block ?_;obtain ⟨aT,aO,aU⟩:=M.e_bind hM
 obtain ⟨aV,aO⟩:=M.e_iter aO;refine WD.loop (fun m aP σ W=>∃ (ae:Nat) (aA:List (Int × BFar)) (s8:Bool) (ρ:Env),σ=upds ρ [(3,Pq ah),(5,Pq ai),(7,Pq aj),(8,Pq ak),(9,Pq ae)]/\M.iterN (m_balance_desk_reach_226_b6 d_ways_all d_ways_outside d_reaches) m (aA,s8)=some aT/\St w W [cBlk ae [B s8] 4,cBlk ak [.func (.func 187) #[Pq ab] #[]] 311,cBlk aj [.map (some ac)] 316,cMl I encFar ac aA,cBlk ai [.func (.func 226) #[] #[]] 314,cBlk ah [Pq ab] 192,cMk aP] R) ?_ ?_
 ·exact kY
 rintro bD aP σ bE ⟨ae,aA,s8,ρ,rfl,aW,H⟩;obtain ⟨bF,bG,bH,hM,aX⟩:=M.e_iterN aW;refine WD.seq<|WD.seq<|WD.of ?_;refine kg 3 ?_
 refine WD.cond s8 rfl (fun aF=>?_) (fun aF=>?_)
 ·replace hM:=M.e_t hM aF;refine WD.of<|W.skip<|WD.seq<|WD.block<|WD.seq<|WD.of ?_;refine kS 1 ?_;intro bI H;refine s_nil<|WD.seq<|WD.of ?_;obtain ⟨bJ,hM⟩:=M.e_gq hM;refine kg 9 ?_;refine WD.block ?_;obtain ⟨aY,aQ,aZ⟩:=M.e_bind hM
  obtain ⟨aV,aQ⟩:=M.e_iter aQ;refine WD.loop (fun m ap σ W=>∃ (s2:Nat) (aa:List (Int × BFar)) (s6:Bool) (ρ:Env),σ=upds ρ [(3,Pq ah),(5,Pq ai),(7,Pq aj),(8,Pq ak),(9,Pq ae),(31,I (d_ways_outside+2)),(32,I (s2:Int))]/\M.iterN (m_balance_desk_reach_226_b5 d_ways_all d_ways_outside d_reaches) m (s2,aa,s6)=some aY/\St w W [cBlk ae [B s6] 4,cBlk ak [.func (.func 187) #[Pq ab] #[]] 311,cBlk aj [.map (some ac)] 316,cMl I encFar ac aa,cBlk ai [.func (.func 226) #[] #[]] 314,cBlk ah [Pq ab] 192,cMk ap] R) ?_ ?_
  ·exact kY
  rintro bK ap σ bL ⟨s2,aa,s6,ρ,rfl,a6,H⟩;obtain ⟨bM,bN,bO,hM,a7⟩:=M.e_iterN a6;refine WD.seq<|WD.of ?_;refine kg 3 ?_;refine WD.seq ?_
  refine WD.cond (decide ((s2:Int)<(d_ways_outside+2))) rfl (fun aq=>?_) (fun aq=>?_)
  ·replace hM:=M.e_t hM aq;replace aq:=dI aq;refine WD.of<|W.skip<|WD.seq<|WD.block<|WD.seq<|WD.of ?_;refine kg 4 ?_;refine WD.seq<|WD.of ?_;refine kg 3 ?_;refine s_val (q_look (kenc:=I) (venc:=encFar) (f:=lookM aa) (k:=(s2:Int)) (v:=.tuple #[.agg #[I (((lookM aa (s2:Int)).getD default).cost),I (((lookM aa (s2:Int)).getD default).many),I (((lookM aa (s2:Int)).getD default).way),B (((lookM aa (s2:Int)).getD default).back)],B ((lookM aa (s2:Int)).isSome)]) keyIntFar Tryz.underlying316 Al319.h rfl rfl (mlMap (H.get (k:=3) rfl)) true (by rw [if_pos rfl,far_val])) ?_;refine kA 3 ?_;intro au bP H;refine ksw ?_;intro bQ H;refine kg 2 ?_;refine WD.seq<|WD.seq<|WD.of ?_;refine kg 4 ?_
   refine WD.cond (!((lookM aa (s2:Int)).isSome)) rfl (fun aG=>?_) (fun aG=>?_)
   ·replace hM:=M.e_t hM aG;refine WD.of ?_;refine W.exit<|WD.of ?_;obtain ⟨bR,hM⟩:=M.e_gq hM
    exact kXp 4 [1,2,3,4,5,6,7]
   replace hM:=M.e_f hM aG;refine WD.of<|W.skip<|WD.seq<|WD.of ?_;refine kC 3 @balance_desk_steps_ok ?_;intro bS al am ao hM H;refine s_nil<|WD.block ?_;obtain ⟨bT,a8,hM⟩:=M.e_bind hM;refine WD.range (L:=[cBlk ae [B s6] 4,cMl I encFar ac aa,cBlk am [Pq ab] 192,cBlk ao [I al] 3,cBlk au [I (((lookM aa (s2:Int)).getD default).cost),I (((lookM aa (s2:Int)).getD default).many),I (((lookM aa (s2:Int)).getD default).way),B (((lookM aa (s2:Int)).getD default).back)] 319,cBlk ak [.func (.func 187) #[Pq ab] #[]] 311,cBlk aj [.map (some ac)] 316,cBlk ai [.func (.func 226) #[] #[]] 314,cBlk ah [Pq ab] 192]) [Pq am,Pq ao] (H.pk [9,3,6,0,1,2,4,5,7,8]) rfl cq ?_;intro aB aw aH ba aI H
   have hYC:YieldC Tryz.prog ([cMk (aw :: ap),cBlk am [Pq ab] 192,cBlk ao [I al] 3,cBlk au [I (((lookM aa (s2:Int)).getD default).cost),I (((lookM aa (s2:Int)).getD default).many),I (((lookM aa (s2:Int)).getD default).way),B (((lookM aa (s2:Int)).getD default).back)] 319,cBlk ak [.func (.func 187) #[Pq ab] #[]] 311,cBlk aj [.map (some ac)] 316,cBlk ai [.func (.func 226) #[] #[]] 314,cBlk ah [Pq ab] 192]++R) arBStep (yJ aB aH (fun (mp,s5) aC=>aC=[cBlk ae [B s5] 4,cMl I encFar ac mp]) (fun (_:Unit) _=>False) (fun _=>.ret)) (.func (.yield aB) #[] #[]) (M.yl (m_balance_desk_reach_226_b4 d_ways_all d_ways_outside d_reaches s2 aa)):=by
    refine YieldC.mk2 aI (fun (mp,s5) aC=>aC=[cBlk ae [B s5] 4,cMl I encFar ac mp]) (fun (_:Unit) _=>False) (fun _=>.ret) (m_balance_desk_reach_226_b4 d_ways_all d_ways_outside d_reaches s2 aa) (by rintro ⟨mp,s5⟩ _ h_; obtain ⟨rfl⟩:=h_; rfl) (fun _ _ h_=>h_.elim) rfl (arBStep_len rfl) ?_;intro C_ bU x bb;obtain rfl:=bb;intro w R aD aC s_ r bc hM H;obtain ⟨mp,s5⟩:=s_;obtain ⟨rfl⟩:=bc;replace H:=H.nf;refine kA 1 ?_;intro aJ bV H;refine ksw ?_;intro bW H;refine s_nil ?_;refine ⟨rfl,[cBlk aJ [I x.way,B x.back] 309],H.pick [0,1,2,3,4,5,6,7,8,9,10] (by decide) rfl,?_⟩;clear H aD;intro w R aD H;replace ay:=ay.sub aD;replace az:=az.sub aD;replace hM:(m_balance_desk_reach_226_b4 d_ways_all d_ways_outside d_reaches s2 aa (mp,s5) x).Ends r:=hM;simp only [m_balance_desk_reach_226_b4] at hM;replace H:=H.nf;refine kg 7 ?_;obtain ⟨bX,bf,hM⟩:=M.e_bind hM;refine s_callv (f:=226) rfl cq [.agg #[I x.way,B x.back]] rfl (balance_desk_settle_1_ok x bf _ (H.gt 11)) ?_;rintro _ bY ⟨r2,rfl,rfl,av⟩;replace H:=H.bk av;refine kI 2 ?_ ?_
    ·intro bg hM;exact (M.e_fail hM).elim
    intro bg hM;refine kg 5 ?_;obtain ⟨bZ,bh,hM⟩:=M.e_bind hM;refine s_callm (f:=187) (fs:=[Pq ab]) rfl cq [.agg #[I x.way,B x.back]] rfl (balance_desk_room_ok d_ways_all d_ways_outside d_reaches x (ay.app _) aE (az.app _) bh _ (H.gt 11)) ?_;rintro _ b4 ⟨r0,r1,rfl,rfl,av⟩;replace H:=H.bk av;obtain ⟨b6,hM⟩:=M.e_gq hM;obtain ⟨b7,hM⟩:=M.e_gq hM;refine kA 17 ?_;intro aR b8 H;refine ksw ?_;intro b9 H;refine kDT 2 [0,1,2,3,4,5,6,7,8,9,10,11] (.q 0 (.q 1 (.q 2 (.l2 3 (.q 4 (.q 5 (.q 6 (.q 7 (.l 8 (.l 9 (.q 10 .nil))))))) 8 (.l 3 (.q 4 (.q 5 (.q 6 (.q 7 (.l 9 (.q 10 .nil))))))))))) ?_;intro cb H;refine kg 3 ?_;refine t_l2 rfl rfl ?_ ?_
    ·refine kC 0 @balance_desk_to_ok ?_;intro cc r3 hM H;refine kN ?_;refine t_q rfl (fun w' H=>q_look (kenc:=I) (venc:=encFar) (f:=lookM mp) (k:=(r3:Int)) (v:=.tuple #[.agg #[I (((lookM mp (r3:Int)).getD default).cost),I (((lookM mp (r3:Int)).getD default).many),I (((lookM mp (r3:Int)).getD default).way),B (((lookM mp (r3:Int)).getD default).back)],B ((lookM mp (r3:Int)).isSome)]) keyIntFar Tryz.underlying316 Al319.h rfl rfl (mlMap (H.get (k:=3) rfl)) true (by rw [if_pos rfl,far_val])) ?_;refine kA 4 ?_;intro aK cd H;refine kN ?_;refine kS 1 ?_;intro ce H;refine kN ?_;refine kI 28 ?_ ?_
     ·intro bi hM;refine kDo 0 [0,1,2,5,6,7,8,9,10,11,12] [(0,true),(1,true),(2,true),(4,true),(3,false),(5,false),(6,true),(7,false),(8,false)] ?_;intro cf H;refine kC 5 @balance_desk_to_ok ?_;intro cg r4 hM H;refine kN ?_;refine d_l rfl ?_;refine t_mentL (i:=4) (kenc:=I) (venc:=encFar) (m:=mp) (k:=(r4:Int)) (z:=default) keyIntFar Tryz.underlying316 Al319.h H rfl rfl rfl ?_;intro ch cj H;replace H:=H.nf;refine kN ?_;refine kG 2 ?_;refine t_enstL (i:=4) (kenc:=I) (venc:=encFar) (m0:=mp) (k:=(r4:Int)) (v:=(⟨((((lookM aa (s2:Int)).getD default).cost)+r0:Int),((((lookM aa (s2:Int)).getD default).many)+1:Int),(x.way:Int),x.back⟩:BFar)) (L':=[cBlk aK [I (((lookM mp (r3:Int)).getD default).cost),I (((lookM mp (r3:Int)).getD default).many),I (((lookM mp (r3:Int)).getD default).way),B (((lookM mp (r3:Int)).getD default).back)] 319,cBlk aR [I ((((lookM aa (s2:Int)).getD default).cost)+r0),I ((((lookM aa (s2:Int)).getD default).many)+1),I x.way,B x.back] 319,cBlk aJ [I x.way,B x.back] 309,cBlk ae [B s5] 4,cMl I encFar ac (setM mp (r4:Int) (⟨((((lookM aa (s2:Int)).getD default).cost)+r0:Int),((((lookM aa (s2:Int)).getD default).many)+1:Int),(x.way:Int),x.back⟩:BFar)),cMk (aw :: ap),cBlk am [Pq ab] 192,cBlk ao [I al] 3,cBlk au [I (((lookM aa (s2:Int)).getD default).cost),I (((lookM aa (s2:Int)).getD default).many),I (((lookM aa (s2:Int)).getD default).way),B (((lookM aa (s2:Int)).getD default).back)] 319,cBlk ak [.func (.func 187) #[Pq ab] #[]] 311,cBlk aj [.map (some ac)] 316,cBlk ai [.func (.func 226) #[] #[]] 314,cBlk ah [Pq ab] 192]) H rfl rfl rfl rfl rfl ?_;intro ck H;refine kN ?_;refine kS 1 ?_;intro cn H;refine kN ?_;refine d_nil ?_;exact ⟨(setM mp (r4:Int) (⟨((((lookM aa (s2:Int)).getD default).cost)+r0:Int),((((lookM aa (s2:Int)).getD default).many)+1:Int),(x.way:Int),x.back⟩:BFar),true),[cBlk ae [B true] 4,cMl I encFar ac (setM mp (r4:Int) (⟨((((lookM aa (s2:Int)).getD default).cost)+r0:Int),((((lookM aa (s2:Int)).getD default).many)+1:Int),(x.way:Int),x.back⟩:BFar))],(M.e_pure hM).symm,rfl,H.pick [3,4,5,6,7,8,9,10,11,12] (by decide) rfl⟩
     intro bi hM;refine W.skip ?_;exact ⟨(mp,s5),[cBlk ae [B s5] 4,cMl I encFar ac mp],(M.e_pure hM).symm,rfl,H.pick [3,4,5,6,7,8,9,10,11,12] (by decide) rfl⟩
    refine kal ?_;intro aK cp H;refine kN ?_;refine kC 1 @balance_desk_to_ok ?_;intro cr r3 hM H;refine kN ?_;refine t_q rfl (fun w' H=>q_look (kenc:=I) (venc:=encFar) (f:=lookM mp) (k:=(r3:Int)) (v:=.tuple #[.agg #[I (((lookM mp (r3:Int)).getD default).cost),I (((lookM mp (r3:Int)).getD default).many),I (((lookM mp (r3:Int)).getD default).way),B (((lookM mp (r3:Int)).getD default).back)],B ((lookM mp (r3:Int)).isSome)]) keyIntFar Tryz.underlying316 Al319.h rfl rfl (mlMap (H.get (k:=3) rfl)) true (by rw [if_pos rfl,far_val])) ?_;refine kS 4 ?_;intro ct H;refine kN ?_;refine kI 28 ?_ ?_
    ·intro bj hM;refine kDo 0 [0,1,2,5,6,7,8,9,10,11,12] [(0,true),(1,true),(2,true),(4,true),(3,false),(5,false),(6,true),(7,false),(8,false)] ?_;intro cu H;refine kC 5 @balance_desk_to_ok ?_;intro cv r4 hM H;refine kN ?_;refine d_l rfl ?_;refine t_mentL (i:=4) (kenc:=I) (venc:=encFar) (m:=mp) (k:=(r4:Int)) (z:=default) keyIntFar Tryz.underlying316 Al319.h H rfl rfl rfl ?_;intro cB cC H;replace H:=H.nf;refine kN ?_;refine kG 2 ?_;refine t_enstL (i:=4) (kenc:=I) (venc:=encFar) (m0:=mp) (k:=(r4:Int)) (v:=(⟨((((lookM aa (s2:Int)).getD default).cost)+r0:Int),((((lookM aa (s2:Int)).getD default).many)+1:Int),(x.way:Int),x.back⟩:BFar)) (L':=[cBlk aK [I (((lookM mp (r3:Int)).getD default).cost),I (((lookM mp (r3:Int)).getD default).many),I (((lookM mp (r3:Int)).getD default).way),B (((lookM mp (r3:Int)).getD default).back)] 319,cBlk aR [I ((((lookM aa (s2:Int)).getD default).cost)+r0),I ((((lookM aa (s2:Int)).getD default).many)+1),I x.way,B x.back] 319,cBlk aJ [I x.way,B x.back] 309,cBlk ae [B s5] 4,cMl I encFar ac (setM mp (r4:Int) (⟨((((lookM aa (s2:Int)).getD default).cost)+r0:Int),((((lookM aa (s2:Int)).getD default).many)+1:Int),(x.way:Int),x.back⟩:BFar)),cMk (aw :: ap),cBlk am [Pq ab] 192,cBlk ao [I al] 3,cBlk au [I (((lookM aa (s2:Int)).getD default).cost),I (((lookM aa (s2:Int)).getD default).many),I (((lookM aa (s2:Int)).getD default).way),B (((lookM aa (s2:Int)).getD default).back)] 319,cBlk ak [.func (.func 187) #[Pq ab] #[]] 311,cBlk aj [.map (some ac)] 316,cBlk ai [.func (.func 226) #[] #[]] 314,cBlk ah [Pq ab] 192]) H rfl rfl rfl rfl rfl ?_;intro cD H;refine kN ?_;refine kS 1 ?_;intro cE H;refine kN ?_;refine d_nil ?_;exact ⟨(setM mp (r4:Int) (⟨((((lookM aa (s2:Int)).getD default).cost)+r0:Int),((((lookM aa (s2:Int)).getD default).many)+1:Int),(x.way:Int),x.back⟩:BFar),true),[cBlk ae [B true] 4,cMl I encFar ac (setM mp (r4:Int) (⟨((((lookM aa (s2:Int)).getD default).cost)+r0:Int),((((lookM aa (s2:Int)).getD default).many)+1:Int),(x.way:Int),x.back⟩:BFar))],(M.e_pure hM).symm,rfl,H.pick [3,4,5,6,7,8,9,10,11,12] (by decide) rfl⟩
    intro bj hM;refine W.skip ?_;exact ⟨(mp,s5),[cBlk ae [B s5] 4,cMl I encFar ac mp],(M.e_pure hM).symm,rfl,H.pick [3,4,5,6,7,8,9,10,11,12] (by decide) rfl⟩
   replace H:St w ba (cAll (cObj aB (.loop aH) :: [cBlk ae [B s6] 4,cMl I encFar ac aa]) :: [cMk (aw :: ap),cBlk am [Pq ab] 192,cBlk ao [I al] 3,cBlk au [I (((lookM aa (s2:Int)).getD default).cost),I (((lookM aa (s2:Int)).getD default).many),I (((lookM aa (s2:Int)).getD default).way),B (((lookM aa (s2:Int)).getD default).back)] 319,cBlk ak [.func (.func 187) #[Pq ab] #[]] 311,cBlk aj [.map (some ac)] 316,cBlk ai [.func (.func 226) #[] #[]] 314,cBlk ah [Pq ab] 192]) R:=St.bundleB (A:=cObj aB (.loop aH) :: [cBlk ae [B s6] 4,cMl I encFar ac aa]) (T:=[cMk (aw :: ap),cBlk am [Pq ab] 192,cBlk ao [I al] 3,cBlk au [I (((lookM aa (s2:Int)).getD default).cost),I (((lookM aa (s2:Int)).getD default).many),I (((lookM aa (s2:Int)).getD default).way),B (((lookM aa (s2:Int)).getD default).back)] 319,cBlk ak [.func (.func 187) #[Pq ab] #[]] 311,cBlk aj [.map (some ac)] 316,cBlk ai [.func (.func 226) #[] #[]] 314,cBlk ah [Pq ab] 192]) rfl (H.pk [0,2,3,1,4,5,6,7,8,9,10]);refine (balance_desk_steps_1_ok (M.yl (m_balance_desk_reach_226_b4 d_ways_all d_ways_outside d_reaches s2 aa)) (.inl (aa,s6)) d_ways_all d_ways_outside d_reaches al hYC ⟨_,rfl,rfl⟩ (ay.app _) aE (az.app _) (Has.here (k:=1) rfl) (Has.here (k:=2) rfl) a8 _ (H.gt 8)).mono ?_;rintro vq cF ⟨bm,cG,rfl,hvq,av,aS⟩;replace H:=H.back av rfl;clear av hYC;rcases bm with ⟨mp,s5⟩ | _
   ·obtain ⟨_,rfl,rfl⟩:=aS;refine ⟨_,[cBlk ae [B s5] 4,cMl I encFar ac mp,cBlk am [Pq ab] 192,cBlk ao [I al] 3,cBlk au [I (((lookM aa (s2:Int)).getD default).cost),I (((lookM aa (s2:Int)).getD default).many),I (((lookM aa (s2:Int)).getD default).way),B (((lookM aa (s2:Int)).getD default).back)] 319,cBlk ak [.func (.func 187) #[Pq ab] #[]] 311,cBlk aj [.map (some ac)] 316,cBlk ai [.func (.func 226) #[] #[]] 314,cBlk ah [Pq ab] 192],H.unbundle.pick [0,3,1,2,4,5,6,7,8,9,10] (by decide) rfl,aI.nb,?_⟩;intro cH H;rw [aI.pd];replace H:=H.nf
    try simp only []
    replace H:=H.pk [0,1,2,6,7,8,9];refine WD.of ?_;obtain ⟨cI,hM⟩:=M.e_gq hM;exact kXp 4 [1,3,4,2,5,6,0]
   obtain ⟨_,_,h_⟩:=aS; exact h_.elim
  replace hM:=M.e_f hM aq;replace aq:=dI aq;refine WD.of ?_;refine W.exit ?_;obtain rfl:=M.e_inr hM a7;replace hM:=aZ;refine WD.seq<|WD.of ?_;refine kg 3 ?_;refine WD.of ?_;refine kA 1 ?_;intro cJ cK H;refine ksw ?_;intro cL H
  exact kXp 1 [0,2,3,4,5,6,7]
 replace hM:=M.e_f hM aF;refine WD.of ?_;refine W.exit ?_;obtain rfl:=M.e_inr hM aX;replace hM:=aU;replace H:=H.pk [2,3,6];refine WD.seq<|WD.of ?_;refine kg 4 ?_;refine WD.of ?_;refine W.ret ?_;refine bodyD_r (H.pk [2,0,1]) ?_;intro cM H;replace H:=H.nf
 have bn:=M.e_pure hM;exact ⟨_,resE_tmp rfl,⟨aA,ac,bn,rfl,(H.pk [1])⟩⟩

def m_balance_desk_moved_1 (s:BStep) (aa:List BWay) (ac ae ab:Int):M (List BWay) :=
  bif s.back then (
  M.grd (decide ((0:Int)<=s.way)&&decide (s.way<(aa.length:Int))) <|
  M.gi (((aa.getD (Int.toNat s.way) default).now)-ab) <|
  M.pure (aa.set (Int.toNat s.way) ({ (aa.getD (Int.toNat s.way) default) with now:=((aa.getD (Int.toNat s.way) default).now)-ab })))
  else (
  M.grd (decide ((0:Int)<=s.way)&&decide (s.way<(aa.length:Int))) <|
  M.gi (((aa.getD (Int.toNat s.way) default).now)+ab) <|
  M.pure (aa.set (Int.toNat s.way) ({ (aa.getD (Int.toNat s.way) default) with now:=((aa.getD (Int.toNat s.way) default).now)+ab })))
theorem balance_desk_moved_1_ok {R ak ae ac al}(s aa ah ai ab)(ao:Has R (cBlk ak [Pq ae] 192))(ap:Has R (cBlk al [I ab] 3)){r}(hM:(m_balance_desk_moved_1 s aa ah ai ab).Ends r)(w)(H:St w w [cOwn (α:=BWay) 203 ac aa,cBlk ae [ac,I ah,I ai] 200] R):Ret Tryz.prog 232 #[.agg #[I s.way,B s.back],Pq ak,Pq al] w fun v w'=>∃ y0 u0,y0=r/\v = .tuple #[]/\St w w' [cOwn (α:=BWay) 203 u0 y0,cBlk ae [u0,I ah,I ai] 200] R:=by
 refine ret_of_W Tryz.func232 rfl rfl rfl ?_;refine kB 2 ?_;intro aq au H;refine kI 6 ?_ ?_
 ·intro am hM;refine kDo 0 [0,2] [(0,true),(1,true),(2,true),(3,true),(4,true),(5,true),(6,true),(10,true),(7,false),(8,false),(9,false),(11,true),(12,false),(13,false),(14,false)] ?_;intro av H;refine kG 9 ?_;obtain ⟨aw,hM⟩:=M.e_gq hM;refine kG 1 ?_;refine kN ?_;refine kG 2 ?_;refine kN ?_;refine kG 2 ?_;refine kN ?_;obtain ⟨ax,hM⟩:=M.e_gq hM;refine kG 3 ?_;refine kN ?_;refine kG 2 ?_;refine kN ?_;refine kO 1 (α:=BWay) ({ (aa.getD (Int.toNat s.way) default) with now:=((aa.getD (Int.toNat s.way) default).now)-ab }) ?_;intro ay H;have az:(aa.set (Int.toNat s.way) ({ (aa.getD (Int.toNat s.way) default) with now:=((aa.getD (Int.toNat s.way) default).now)-ab })).length=(aa).length:=List.length_set;refine kN ?_;refine d_nil ?_;have aj:=M.e_pure hM;exact ⟨_,resE_tmp0 rfl,⟨(aa.set (Int.toNat s.way) ({ (aa.getD (Int.toNat s.way) default) with now:=((aa.getD (Int.toNat s.way) default).now)-ab })),ac,aj,rfl,(H.pk [1,2])⟩⟩
 intro am hM;refine kDo 0 [0,2] [(0,true),(1,true),(2,true),(3,true),(4,true),(5,true),(6,true),(10,true),(7,false),(8,false),(9,false),(11,true),(12,false),(13,false),(14,false)] ?_;intro aA H;refine kG 9 ?_;obtain ⟨aB,hM⟩:=M.e_gq hM;refine kG 1 ?_;refine kN ?_;refine kG 2 ?_;refine kN ?_;refine kG 2 ?_;refine kN ?_;obtain ⟨aC,hM⟩:=M.e_gq hM;refine kG 3 ?_;refine kN ?_;refine kG 2 ?_;refine kN ?_;refine kO 1 (α:=BWay) ({ (aa.getD (Int.toNat s.way) default) with now:=((aa.getD (Int.toNat s.way) default).now)+ab }) ?_;intro aD H;have aE:(aa.set (Int.toNat s.way) ({ (aa.getD (Int.toNat s.way) default) with now:=((aa.getD (Int.toNat s.way) default).now)+ab })).length=(aa).length:=List.length_set;refine kN ?_;refine d_nil ?_;have aj:=M.e_pure hM;exact ⟨_,resE_tmp0 rfl,⟨(aa.set (Int.toNat s.way) ({ (aa.getD (Int.toNat s.way) default) with now:=((aa.getD (Int.toNat s.way) default).now)+ab })),ac,aj,rfl,(H.pk [1,2])⟩⟩

end Go.Proofs.YtbgoclcmgbpckabGreat
end
section
set_option maxRecDepth 100000
set_option maxHeartbeats 16000000
namespace Go.Proofs.YtbgoclcmgbpckabGreat
open Go Go.Nm
attribute [local irreducible] gd execOp SL SLD SLT WR
def m_balance_desk_moved_b0 (d_ways_all:List BWay) (d_ways_outside d_reaches aa:Int) (l:List (Int × BFar)):(Int × (List BStep))->M ((Int × (List BStep)) ⊕ ((List BStep) × (List BStep))):=fun (s,l2) =>
  bif s != aa then (
  M.grd (decide ((l2.length+([(⟨(((lookM l (s:Int)).getD default).way:Int),(((lookM l (s:Int)).getD default).back)⟩:BStep)]).length)*16<=140737488355328)) <|
  M.bind (m_balance_desk_to d_ways_all d_ways_outside d_reaches (⟨(((lookM l (s:Int)).getD default).way:Int),(!(((lookM l (s:Int)).getD default).back))⟩:BStep)) fun r2 =>
  M.pure (.inl (r2,l2++([(⟨(((lookM l (s:Int)).getD default).way:Int),(((lookM l (s:Int)).getD default).back)⟩:BStep)]))))
  else (
  M.pure (.inr (l2,l2)))
def m_balance_desk_moved_b1 (d_ways_all:List BWay) (d_ways_outside d_reaches:Int) (l4:List BStep):(Int × Nat)->M ((Int × Nat) ⊕ Int):=fun (s2,s3) =>
  bif decide ((s3:Int)<(l4.length:Int)) then (
  M.grd (decide ((s3:Int)<(l4.length:Int))) <|
  M.bind (m_balance_desk_room d_ways_all d_ways_outside d_reaches (l4.getD s3 default)) fun (r0,r1) =>
  M.pure (.inl (min s2 r1,s3+1)))
  else (
  M.pure (.inr s2))
def m_balance_desk_moved_b2 (d_ways_outside d_reaches:Int) (l4:List BStep) (s4:Int):((List BWay) × Nat)->M (((List BWay) × Nat) ⊕ ((List BWay) × (List BWay))):=fun (l5,s5) =>
  bif decide ((s5:Int)<(l4.length:Int)) then (
  M.grd (decide ((s5:Int)<(l4.length:Int))) <|
  M.bind (m_balance_desk_moved_1 (l4.getD s5 default) l5 d_ways_outside d_reaches s4) fun l_k020 =>
  M.pure (.inl (l_k020,s5+1)))
  else (
  M.pure (.inr (l5,l5)))
def m_balance_desk_moved (d_ways_all:List BWay) (d_ways_outside d_reaches aa ab:Int) (l:List (Int × BFar)) (most:Int):M (Int × (List BWay)) :=
  M.bind (M.iter (m_balance_desk_moved_b0 d_ways_all d_ways_outside d_reaches aa l) (ab,[])) fun (l3,l4) =>
  M.bind (M.iter (m_balance_desk_moved_b1 d_ways_all d_ways_outside d_reaches l4) (most,0)) fun s4 =>
  M.bind (M.iter (m_balance_desk_moved_b2 d_ways_outside d_reaches l4 s4) (d_ways_all,0)) fun (l6,l7) =>
  M.pure (s4,l7)
theorem balance_desk_moved_ok {R aa ah aj}(d_ways_all d_ways_outside d_reaches ai al l most)(au:Has R (cMl I encFar aj l)){r}(hM:(m_balance_desk_moved d_ways_all d_ways_outside d_reaches ai al l most).Ends r)(w)(H:St w w [cOwn (α:=BWay) 203 ah d_ways_all,cBlk aa [ah,I d_ways_outside,I d_reaches] 200] R):Ret Tryz.prog 190 #[Pq aa,I ai,I al,.map (some aj),I most] w fun v w'=>∃ y0 y1 u0,(y0,y1)=r/\v=I y0/\St w w' [cOwn (α:=BWay) 203 u0 y1,cBlk aa [u0,I d_ways_outside,I d_reaches] 200] R:=by
 refine ret_of_W Tryz.func190 rfl rfl rfl ?_;refine kB 2 ?_;intro ae aM H;refine kbx ?_;intro ab aN H;refine kg 13 ?_;replace H:=H.nilOwn (α:=BStep) 309;obtain ⟨av,am,aw⟩:=M.e_bind hM;obtain ⟨ao,am⟩:=M.e_iter am;refine W.loop (fun m σ W=>∃ (s:Int) (l2:List BStep) (ac:Value) (ρ:Env),σ=upds ρ [(1,I ai),(3,.map (some aj)),(5,Pq ae),(9,Pq ab),(11,ac),(12,I s)]/\M.iterN (m_balance_desk_moved_b0 d_ways_all d_ways_outside d_reaches ai l) m (s,l2)=some av/\St w W [cOwn (α:=BStep) 309 ac l2,cBlk ab [I most] 3,cBlk ae [Pq aa] 192,cOwn (α:=BWay) 203 ah d_ways_all,cBlk aa [ah,I d_ways_outside,I d_reaches] 200] R) ?_ ?_
 ·exact kY
 rintro aO σ aP ⟨s,l2,ac,ρ,rfl,ax,H⟩;obtain ⟨aQ,aR,aS,hM,ay⟩:=M.e_iterN ax;refine kI 7 ?_ ?_
 ·intro az hM;refine kg 6 ?_;refine s_val (q_look (kenc:=I) (venc:=encFar) (f:=lookM l) (k:=(s:Int)) (v:=.agg #[I (((lookM l (s:Int)).getD default).cost),I (((lookM l (s:Int)).getD default).many),I (((lookM l (s:Int)).getD default).way),B (((lookM l (s:Int)).getD default).back)]) keyIntFar Tryz.underlying316 Al319.h rfl rfl (mlMap (au.at H)) false (by rw [if_neg (by decide),far_val]))<|s_val (x_fdA (cs:=[I (((lookM l (s:Int)).getD default).cost),I (((lookM l (s:Int)).getD default).many),I (((lookM l (s:Int)).getD default).way),B (((lookM l (s:Int)).getD default).back)]) (ds:=[I (((lookM l (s:Int)).getD default).way),B (((lookM l (s:Int)).getD default).back)]) Fd319_2.h Ag309.h Sz309.h rfl rfl) ?_;refine kal ?_;intro aT aU H;refine ksw ?_;intro aV H;refine kL 5 (α:=BStep) [⟨((lookM l (s:Int)).getD default).way,(((lookM l (s:Int)).getD default).back)⟩] ?_;intro aW aX H;obtain ⟨aY,hM⟩:=M.e_gq hM;refine kP 0 ?_;intro aZ a6 H;refine kS 8 ?_;intro a7 H;refine kC 4 @balance_desk_to_ok ?_;intro a8 r2 hM H
  exact kXp 2 [2,3,4,5,6]
 intro az hM;refine W.exit ?_;obtain rfl:=M.e_inr hM ay;replace hM:=aw;have ba:=((H.os 0)).len_le;refine kg 8 ?_;obtain ⟨aA,ap,aB⟩:=M.e_bind hM;obtain ⟨ao,ap⟩:=M.e_iter ap;refine W.loop (fun m σ W=>∃ (s2:Int) (s3:Nat) (ρ:Env),σ=upds ρ [(5,Pq ae),(9,Pq ab),(11,ac),(40,ac),(41,I (l2.length:Int)),(42,I (s3:Int))]/\M.iterN (m_balance_desk_moved_b1 d_ways_all d_ways_outside d_reaches l2) m (s2,s3)=some aA/\St w W [cOwn (α:=BStep) 309 ac l2,cBlk ab [I s2] 3,cBlk ae [Pq aa] 192,cOwn (α:=BWay) 203 ah d_ways_all,cBlk aa [ah,I d_ways_outside,I d_reaches] 200] R) ?_ ?_
 ·exact kY
 rintro bb σ bc ⟨s2,s3,ρ,rfl,aC,H⟩;obtain ⟨bf,bg,bh,hM,aD⟩:=M.e_iterN aC;refine kI 5 ?_ ?_
 ·intro aE hM;obtain ⟨bi,hM⟩:=M.e_gq hM;refine kA 7 ?_;intro bj bm H;refine ksw ?_;intro bn H;refine kC 5 @balance_desk_room_ok ?_;intro bo r0 r1 hM H;refine kS 10 ?_;intro bp H;exact kXp 5 [1,2,3,4,5]
 intro aE hM;refine W.exit ?_;obtain rfl:=M.e_inr hM aD;replace hM:=aB;refine kg 2 ?_;refine s_val (x_mf (fs:=[]) (cs:=[Pq ae,Pq ab]) rfl rfl) ?_;have br:=((H.os 0)).len_le;refine kg 10 ?_;obtain ⟨aF,aq,aG⟩:=M.e_bind hM;obtain ⟨ao,aq⟩:=M.e_iter aq;refine W.loop (fun m σ W=>∃ (l5:List BWay) (s5:Nat) (ak:Value) (ρ:Env),σ=upds ρ [(9,Pq ab),(18,.func (.func 232) #[] #[Pq ae,Pq ab]),(57,ac),(58,I (l2.length:Int)),(59,I (s5:Int))]/\M.iterN (m_balance_desk_moved_b2 d_ways_outside d_reaches l2 s2) m (l5,s5)=some aF/\St w W [cOwn (α:=BStep) 309 ac l2,cBlk ab [I s2] 3,cBlk ae [Pq aa] 192,cOwn (α:=BWay) 203 ak l5,cBlk aa [ak,I d_ways_outside,I d_reaches] 200] R) ?_ ?_
 ·exact kY
 rintro bt σ bu ⟨l5,s5,ak,ρ,rfl,aH,H⟩;obtain ⟨bv,bw,bx,hM,aI⟩:=M.e_iterN aH;refine kI 5 ?_ ?_
 ·intro aJ hM;obtain ⟨bz,hM⟩:=M.e_gq hM;refine kA 7 ?_;intro bA bB H;refine ksw ?_;intro bC H;refine kg 4 ?_;obtain ⟨bD,aK,hM⟩:=M.e_bind hM;refine s_callv (f:=232) rfl cq [.agg #[I ((l2.getD s5 default).way),B ((l2.getD s5 default).back)]] rfl (balance_desk_moved_1_ok (l2.getD s5 default) l5 d_ways_outside d_reaches s2 (Has.here (k:=3) rfl) (Has.here (k:=2) rfl) aK _ ((H.pk [4,5,0,1,2,3]).gt 4)) ?_;rintro _ bE ⟨l_k020,bF,rfl,rfl,aL⟩;replace H:=H.pk [4,5,0,1,2,3] |>.bk aL
  exact kXp 5 [3,4,5,0,1]
 intro aJ hM;refine W.exit ?_;obtain rfl:=M.e_inr hM aI;replace hM:=aG;replace H:=H.pk [1,3,4];exact kR 5 [1,2]

def m_balance_desk_settle_b1 (aa:List Int) (r2:Int) (r3:List (Int × BFar)):(Nat × Int × Int × Int × Int × Bool)->M ((Nat × Int × Int × Int × Int × Bool) ⊕ (Int × Int × Int × Int × Bool)):=fun (s,s2,s3,s4,s5,s6) =>
  bif decide ((s:Int)<10) then (
  M.grd (decide ((0:Int)<=(s:Int))&&decide ((s:Int)<(10:Int))) <|
  bif ((decide (0<=(aa.getD s 0)))||(!((lookM r3 (s:Int)).isSome))) then (
  M.pure (.inl (s+1,s2,s3,s4,s5,s6)))
  else (
  bif (((s2==r2)||(decide ((((lookM r3 (s:Int)).getD default).cost)<s3)))||(((((lookM r3 (s:Int)).getD default).cost)==s3)&&(decide ((((lookM r3 (s:Int)).getD default).many)<s4)))) then (
  M.pure (.inl (s+1,(s:Int),((lookM r3 (s:Int)).getD default).cost,((lookM r3 (s:Int)).getD default).many,((lookM r3 (s:Int)).getD default).way,((lookM r3 (s:Int)).getD default).back)))
  else (
  M.fail)))
  else (
  M.pure (.inr (s2,s3,s4,s5,s6)))
def m_balance_desk_settle_b2 (d_ways_outside d_reaches:Int):((List BWay) × (List Int))->M (((List BWay) × (List Int)) ⊕ ((List BWay) × (List BWay))):=fun (l,aa) =>
  bif !(decide (aa=(List.replicate 10 0))) then (
  M.bind (zay aa (fun ab=>m_balance_desk_settle_2 ab)) fun r2 =>
  M.bind (m_balance_desk_reach_226 l d_ways_outside d_reaches r2) fun r3 =>
  M.bind (M.iter (m_balance_desk_settle_b1 aa r2 r3) (0,r2,0,0,0,false)) fun (s7,s8,s9,ae,ah) =>
  M.grd (decide ((0:Int)<=r2)&&decide (r2<(10:Int))) <|
  M.grd (decide ((0:Int)<=s7)&&decide (s7<(10:Int))) <|
  M.grd (decide (-9223372036854775807<=(aa.getD (Int.toNat s7) 0))&&decide ((aa.getD (Int.toNat s7) 0)<=9223372036854775807)) <|
  M.bind (m_balance_desk_moved l d_ways_outside d_reaches r2 s7 r3 (min (aa.getD (Int.toNat r2) 0) (-(aa.getD (Int.toNat s7) 0)))) fun (r4,l_d_ways_all) =>
  M.bind (m_balance_desk_over l_d_ways_all d_ways_outside d_reaches) fun ac =>
  M.pure (.inl (l_d_ways_all,ac)))
  else (
  M.pure (.inr (l,l)))
def m_balance_desk_settle (d_ways_all:List BWay) (d_ways_outside d_reaches:Int):M (List BWay) :=
  M.bind (m_balance_desk_over d_ways_all d_ways_outside d_reaches) fun r0 =>
  M.bind (M.iter (m_balance_desk_settle_b2 d_ways_outside d_reaches) (d_ways_all,r0)) fun (l2,l3) =>
  M.pure l3
theorem balance_desk_settle_ok {R ae aj}(d_ways_all d_ways_outside d_reaches){r}(hM:(m_balance_desk_settle d_ways_all d_ways_outside d_reaches).Ends r)(w)(H:St w w [cOwn (α:=BWay) 203 aj d_ways_all,cBlk ae [aj,I d_ways_outside,I d_reaches] 200] R):Ret Tryz.prog 183 #[Pq ae] w fun v w'=>∃ y0 u0,y0=r/\v = .tuple #[]/\St w w' [cOwn (α:=BWay) 203 u0 y0,cBlk ae [u0,I d_ways_outside,I d_reaches] 200] R:=by
 refine ret_of_W Tryz.func183 rfl rfl rfl ?_;refine kA 3 ?_;intro ai a8 H;refine ksw ?_;intro ba H;refine kC 4 @balance_desk_over_ok ?_;intro bb r0 ap hM H;refine t_alloc (cs:=(List.flatten [[],encF (α:=Int) (List.replicate 10 0)])) H Al339.h (by kernel_rfl) ?_;intro ay bc H;refine t_swI 0 H rfl rfl Sz339.h List.length_replicate ap ?_;intro bf H;refine kg 2 ?_;obtain ⟨az,ak,aA⟩:=M.e_bind hM;obtain ⟨aB,ak⟩:=M.e_iter ak;refine W.loop (fun m σ W=>∃ (ab:Nat) (l:List BWay) (aa:List Int) (ah:Value) (ρ:Env),σ=upds ρ [(0,Pq ae),(2,Pq ai),(3,Pq ab)]/\M.iterN (m_balance_desk_settle_b2 d_ways_outside d_reaches) m (l,aa)=some az/\St w W [cBlk ab (List.flatten [[],encF (α:=Int) aa]) 339,cBlk ai [.func (.func 226) #[] #[]] 314,cOwn (α:=BWay) 203 ah l,cBlk ae [ah,I d_ways_outside,I d_reaches] 200] R/\aa.length=10) ?_ ?_
 ·exact ⟨_,ay,d_ways_all,r0,aj,_,jQ,ak,H,ap⟩
 rintro bg σ bh ⟨ab,l,aa,ah,ρ,rfl,aC,H,ac⟩;obtain ⟨aD,aE,bi,hM,aq⟩:=M.e_iterN aC;refine kg 3 ?_;refine s_val (x_ld (v:=.agg (List.flatten [[],encF (α:=Int) aa]).toArray) rfl (ldb_seg (l:=aa) (pre:=[]) (post:=[]) (by simp) Ag339.h Sz339.h (H.bl 0) (by simp) rfl ac))<|s_val (x_bldA (e:=3) (n:=10) (s:=1) (ps:=[]) (zs:=(List.flatten [[],encF (α:=Int) (List.replicate 10 0)])) (L':=(List.flatten [[],encF (α:=Int) (List.replicate 10 0)])) rfl Tryz.underlying339 Al339.h (by kernel_rfl) Sz3.h rfl .nil)<|s_val (x_neS (eqArr (d:=9998) (by simp) (by simp) Tryz.underlying339 Tryz.underlying3 Sz3.h ac (List.length_replicate (n:=10) (a:=(0:Int))) _) gdA339 rfl rfl) ?_;refine kI 1 ?_ ?_
 ·intro aF hM;refine kg 3 ?_;refine W.scope ?_;refine kg 2 ?_;have aG:Sl (blkC ab (List.flatten [[],encF (α:=Int) aa])) (.slice (some ⟨ab,0,none⟩) 10 10) aa:=segSlA (α:=Int) (pre:=[]) (post:=[]) (by simp) rfl ac (by omega);refine s_val (x_sl (v:=Pq ab) (u:=(.slice (some ⟨ab,0,none⟩) 10 10)) (lo':=none) (hi':=none) (mx':=none) rfl rfl rfl rfl (run_sliceN Tryz.underlying339 Sz3.h)) ?_;obtain ⟨bj,aH,hM⟩:=M.e_bind hM;refine s_call cq [(.slice (some ⟨ab,0,none⟩) 10 10),.func (.func 228) #[] #[]] rfl (zeN aa (fun al=>m_balance_desk_settle_2 al) (Reads.of (k:=0) rfl blkLe) aG ⟨228,[],rfl,cq,fun au bm bn aI al bo aJ bp aK aL=>by obtain rfl:=Arg.int aK; exact (balance_desk_settle_2_ok al aL au (St.refl aJ)).mono fun aI au ⟨br,aM,aN,aO⟩=>by subst aM; exact ⟨aN,aO⟩⟩ aH _ (H.gt 4)) ?_;rintro _ bt ⟨r2,rfl,rfl,am⟩;replace H:=H.bk am;refine kC 7 @balance_desk_reach_226_ok ?_;intro bu r3 ao hM H;refine kA 6 ?_;intro av bv H;refine kS 1 ?_;intro bw H;refine kg 2 ?_;refine W.label ?_;refine kg 3 ?_;refine s_val (x_ld (v:=.agg (List.flatten [[],encF (α:=Int) aa]).toArray) rfl (ldb_seg (l:=aa) (pre:=[]) (post:=[]) (by simp) Ag339.h Sz339.h (H.bl 2) (by simp) rfl ac)) ?_;refine kg 3 ?_;obtain ⟨aP,aw,aQ⟩:=M.e_bind hM;obtain ⟨aB,aw⟩:=M.e_iter aw;refine W.loop (fun m σ W=>∃ (s:Nat) (s2:Int) (s3:Int) (s4:Int) (s5:Int) (s6:Bool) (ρ:Env),σ=upds ρ [(0,Pq ae),(2,Pq ai),(3,Pq ab),(4,I r2),(5,.map (some ao)),(6,I s2),(7,Pq av),(28,.agg (List.flatten [[],encF (α:=Int) aa]).toArray),(29,I (s:Int))]/\M.iterN (m_balance_desk_settle_b1 aa r2 r3) m (s,s2,s3,s4,s5,s6)=some aP/\St w W [cBlk av [I s3,I s4,I s5,B s6] 319,cMl I encFar ao r3,cBlk ab (List.flatten [[],encF (α:=Int) aa]) 339,cBlk ai [.func (.func 226) #[] #[]] 314,cOwn (α:=BWay) 203 ah l,cBlk ae [ah,I d_ways_outside,I d_reaches] 200] R) ?_ ?_
  ·exact kY
  rintro bx σ bz ⟨s,s2,s3,s4,s5,s6,ρ,rfl,aR,H⟩;obtain ⟨bA,bB,bC,hM,aS⟩:=M.e_iterN aR;refine kI 5 ?_ ?_
  ·intro aT hM;obtain ⟨bD,hM⟩:=M.e_gq hM;refine kg 6 ?_;refine s_val (x_idxA (l:=aa) (i:=(s:Int)) (by simp) Tryz.underlying339 Sc3.h Sz3.h rfl rfl ac (by omega)) ?_;refine kg 7 ?_;refine s_val (q_look (kenc:=I) (venc:=encFar) (f:=lookM r3) (k:=(s:Int)) (v:=.tuple #[.agg #[I (((lookM r3 (s:Int)).getD default).cost),I (((lookM r3 (s:Int)).getD default).many),I (((lookM r3 (s:Int)).getD default).way),B (((lookM r3 (s:Int)).getD default).back)],B ((lookM r3 (s:Int)).isSome)]) keyIntFar Tryz.underlying316 Al319.h rfl rfl (mlMap (H.get (k:=1) rfl)) true (by rw [if_pos rfl,far_val])) ?_;refine kA 3 ?_;intro bE bF H;refine ksw ?_;intro bG H;refine kI 12 ?_ ?_
   ·intro aU hM;refine W.exit ?_;exact kXp 4 [1,2,3,4,5,6]
   intro aU hM;refine kI 28 ?_ ?_
   ·intro aV hM;refine kD 0 [0,2,3,4,5,6] [3] ?_;intro bH H;refine kS 4 ?_;intro bI H;refine kN ?_;exact kXp 5 [1,2,3,4,5,6]
   intro aV hM;exact (M.e_fail hM).elim
  intro aT hM;refine W.exit ?_;obtain rfl:=M.e_inr hM aS;replace hM:=aQ;refine kD 0 [0,1,2,3] [12] ?_;intro bJ H;obtain ⟨bK,hM⟩:=M.e_gq hM;refine kg 5 ?_;refine d_q rfl (fun w' H=>x_ix (v:=.pointer (some ⟨ab,0+Int.toNat r2*1,none⟩)) rfl rfl (run_indexS Tryz.underlying339 Sz3.h (by omega) (by omega)))<|d_q rfl (fun w' H=>x_ld (v:=I (aa.getD (Int.toNat r2) 0)) rfl (ldS (α:=Int) (k:=1) (off:=0) (i:=(Int.toNat r2)) (f:=0) (sz:=1) 0 Sc3.h (H.bl 2) rfl (sgo1 rfl) rfl (by decide) (by have aW:=ac; omega) (by omega) rfl)) ?_;obtain ⟨bL,hM⟩:=M.e_gq hM;refine kg 1 ?_;refine d_q rfl (fun w' H=>x_ix (v:=.pointer (some ⟨ab,0+Int.toNat s2*1,none⟩)) rfl rfl (run_indexS Tryz.underlying339 Sz3.h (by omega) (by omega)))<|d_q rfl (fun w' H=>x_ld (v:=I (aa.getD (Int.toNat s2) 0)) rfl (ldS (α:=Int) (k:=1) (off:=0) (i:=(Int.toNat s2)) (f:=0) (sz:=1) 0 Sc3.h (H.bl 2) rfl (sgo1 rfl) rfl (by decide) (by have aW:=ac; omega) (by omega) rfl)) ?_;obtain ⟨bM,hM⟩:=M.e_gq hM;refine d_q rfl (fun w' H=>x_neg (a:=aa.getD (Int.toNat s2) 0) rfl (by omega)) ?_;refine kG 2 ?_;obtain ⟨bN,aX,hM⟩:=M.e_bind hM;refine s_call cq [Pq ae,I r2,I s2,.map (some ao),I (min (aa.getD (Int.toNat r2) 0) (-(aa.getD (Int.toNat s2) 0)))] rfl (balance_desk_moved_ok l d_ways_outside d_reaches r2 s2 r3 (min (aa.getD (Int.toNat r2) 0) (-(aa.getD (Int.toNat s2) 0))) (Has.here (k:=1) rfl) aX _ ((H.pk [4,5,0,1,2,3]).gt 4)) ?_
  rintro _ bO ⟨r4,l_d_ways_all,aY,rfl,rfl,am⟩;replace H:=H.pk [4,5,0,1,2,3] |>.bk am
  refine kN ?_;refine d_nil ?_;replace H:=H.pk [0,1,4,5];refine kg 3 ?_;refine s_val (x_ld (v:=.agg (List.flatten [[],encF (α:=Int) aa]).toArray) rfl (ldb_seg (l:=aa) (pre:=[]) (post:=[]) (by simp) Ag339.h Sz339.h (H.bl 2) (by simp) rfl ac)) ?_;refine kg 2 ?_;refine t_alloc (cs:=(List.flatten [[],encF (α:=Int) (List.replicate 10 0)])) H Al339.h (by kernel_rfl) ?_;intro aZ bP H;refine t_swI 0 H rfl rfl Sz339.h List.length_replicate ac ?_;intro bQ H;refine kC 3 @balance_desk_over_ok ?_;intro bR a6 ax hM H;refine t_swI 0 H rfl rfl Sz339.h ac ax ?_;intro bS H;refine s_nil ?_;exact ⟨aD,aE,aZ,l_d_ways_all,a6,aY,_,jQ,M.e_inl hM aq,(H.pk [0,4,1,2]),ax⟩
 intro aF hM;refine W.exit ?_;obtain rfl:=M.e_inr hM aq;replace hM:=aA;have a7:=M.e_pure hM;exact ⟨_,resE_tmp0 rfl,⟨l,ah,a7,rfl,(H.pk [2,3])⟩⟩

def m_balance_desk_truth_b0 (d_ways_all:List BWay):(Nat × (List Int))->M ((Nat × (List Int)) ⊕ ((List Int) × (List Int))):=fun (s,l) =>
  bif decide ((s:Int)<(d_ways_all.length:Int)) then (
  M.grd (decide ((s:Int)<(d_ways_all.length:Int))) <|
  M.grd (decide ((l.length+([((d_ways_all.getD s default).now:Int)]).length)*8<=140737488355328)) <|
  M.pure (.inl (s+1,l++([((d_ways_all.getD s default).now:Int)]))))
  else (
  M.pure (.inr (l,l)))
def m_balance_desk_truth_j1 (d_ways_outside d_reaches:Int) (l3:List Int):M ((List Int) × (List Int)) :=
  M.grd (decide ((0:Int)<=d_reaches)&&decide (d_reaches<=(l3.length:Int))) <|
  M.pure ((l3.take (List.replicate (Int.toNat d_reaches) (0:Int)).length++(List.replicate (Int.toNat d_reaches) (0:Int)).drop l3.length),((l3.drop (Int.toNat d_reaches)).take (List.replicate (Int.toNat d_ways_outside) (0:Int)).length++(List.replicate (Int.toNat d_ways_outside) (0:Int)).drop (l3.drop (Int.toNat d_reaches)).length))
def m_balance_desk_truth (d_ways_all:List BWay) (d_ways_outside d_reaches:Int):M ((List Int) × (List Int)) :=
  M.bind (M.iter (m_balance_desk_truth_b0 d_ways_all) (0,[])) fun (l2,l3) =>
  M.grd (decide ((0:Int)<=d_reaches)&&decide ((8:Int)*d_reaches<=281474976710656)&&decide (d_reaches<=(9223372036854775807:Int))) <|
  M.grd (decide ((0:Int)<=d_ways_outside)&&decide ((8:Int)*d_ways_outside<=281474976710656)&&decide (d_ways_outside<=(9223372036854775807:Int))) <|
  m_balance_desk_truth_j1 d_ways_outside d_reaches l3
theorem balance_desk_truth_ok {R ak az ax}(d_ways_all d_ways_outside d_reaches)(aT:Reads R az)(aE:Sl az ax d_ways_all)(aU:Has R (cBlk ak [ax,I d_ways_outside,I d_reaches] 200)){r}(hM:(m_balance_desk_truth d_ways_all d_ways_outside d_reaches).Ends r)(w)(H:St w w [] R):Ret Tryz.prog 185 #[Pq ak] w fun v w'=>∃ y0 y1 u0 u1,(y0,y1)=r/\v = .agg #[u0,u1]/\St w w' [cOwn (α:=Int) 3 u0 y0,cOwn (α:=Int) 3 u1 y1] R:=by
 refine ret_of_W Tryz.func185 rfl rfl rfl ?_;refine kA 2 ?_;intro aj aV H;have aW:=(aE).len_le;refine kg 17 ?_;replace H:=H.nilOwn (α:=Int) 3;obtain ⟨aF,aA,aG⟩:=M.e_bind hM;obtain ⟨aX,aA⟩:=M.e_iter aA;refine W.loop (fun m σ W=>∃ (s:Nat) (l:List Int) (ab:Value) (ρ:Env),σ=upds ρ [(0,Pq ak),(2,Pq aj),(3,ab),(11,ax),(12,I (d_ways_all.length:Int)),(13,I (s:Int))]/\M.iterN (m_balance_desk_truth_b0 d_ways_all) m (s,l)=some aF/\St w W [cOwn (α:=Int) 3 ab l,cBlk aj [.slice none 0 0,.slice none 0 0] 306] R) ?_ ?_
 ·exact kY
 rintro aY σ aZ ⟨s,l,ab,ρ,rfl,aH,H⟩;obtain ⟨a6,a7,a8,hM,aI⟩:=M.e_iterN aH;refine kI 5 ?_ ?_
 ·intro aJ hM;obtain ⟨ba,hM⟩:=M.e_gq hM;refine kA 7 ?_;intro bb bc H;refine ksw ?_;intro bf H;refine kL 5 (α:=Int) [(d_ways_all.getD s default).now] ?_;intro bg bh H;obtain ⟨bi,hM⟩:=M.e_gq hM;refine kP 0 ?_;intro bj bm H;refine kg 2 ?_;replace H:=H.pk [2,3];exact kX 4
 intro aJ hM;refine W.exit ?_;obtain rfl:=M.e_inr hM aI;replace hM:=aG;refine W.seqJ (fun σ W=>∃ (aa:Nat) (ah:Value) (ai:Value) (ρ:Env),σ=upds ρ [(0,Pq ak),(2,Pq aj),(3,ab),(6,Pq aa)]/\(m_balance_desk_truth_j1 d_ways_outside d_reaches l).Ends r/\St w W [cBlk aa [ah,ai] 306,cOwn (α:=Int) 3 ai (List.replicate (Int.toNat d_ways_outside) (0:Int)),cOwn (α:=Int) 3 ah (List.replicate (Int.toNat d_reaches) (0:Int)),cOwn (α:=Int) 3 ab l,cBlk aj [.slice none 0 0,.slice none 0 0] 306] R) ?_ ?_
 ·refine kDT 0 [0,1] (.q 0 (.q 1 (.q 2 (.q 3 (.q 5 (.q 6 (.q 7 (.q 8 (.q 9 (.l3 4 (.l2 10 (.q 11 (.l 12 (.l 13 .nil))) 12 (.l 10 (.q 11 (.l 13 .nil)))) 10 (.l2 4 (.q 11 (.l 12 (.l 13 .nil))) 12 (.l 4 (.q 11 (.l 13 .nil)))) 12 (.l2 4 (.l 10 (.q 11 (.l 13 .nil))) 10 (.l 4 (.q 11 (.l 13 .nil)))))))))))))) ?_;intro bn H;obtain ⟨bo,hM⟩:=M.e_gq hM;obtain ⟨bp,hM⟩:=M.e_gq hM;refine kg 9 ?_;refine t_l3 rfl rfl rfl ?_ ?_ ?_
  ·refine t_mk (α:=Int) T24.h (0:Int) rfl (n:=d_reaches) H rfl rfl (by omega) (by omega) (by omega) ?_;intro ac br H;replace H:=H.nf;have aB:=Sl.cells (H.os 0);refine kN ?_;refine t_l2 rfl rfl ?_ ?_
   ·refine t_mk (α:=Int) T24.h (0:Int) rfl (n:=d_ways_outside) H rfl rfl (by omega) (by omega) (by omega) ?_;intro al bt H;replace H:=H.nf;have aK:=Sl.cells (H.os 0);refine kN ?_;refine t_q rfl (fun w' H=>x_bld (ps:=[(0,ac),(1,al)]) (zs:=[.slice none 0 0,.slice none 0 0]) (L':=[ac,al]) rfl Tryz.underlying306 Al306.h rfl (Bd306 Tryz.underlying306) (.cons (cs:=[ac]) aB rfl rfl rfl rfl<|.cons (cs:=[al]) aK rfl rfl rfl rfl<|.nil)) ?_;refine kA 1 ?_;intro aa bu H;refine kN ?_;refine kS 1 ?_;intro bv H;refine kN ?_;refine t_nil ?_;exact ⟨aa,ac,al,_,jQ,hM,H⟩
   refine kal ?_;intro aa bw H;refine kN ?_;refine t_l rfl ?_;refine t_mk (α:=Int) T24.h (0:Int) rfl (n:=d_ways_outside) H rfl rfl (by omega) (by omega) (by omega) ?_;intro am bx H;replace H:=H.nf;have aL:=Sl.cells (H.os 0);refine kN ?_;refine t_q rfl (fun w' H=>x_bld (ps:=[(0,ac),(1,am)]) (zs:=[.slice none 0 0,.slice none 0 0]) (L':=[ac,am]) rfl Tryz.underlying306 Al306.h rfl (Bd306 Tryz.underlying306) (.cons (cs:=[ac]) aB rfl rfl rfl rfl<|.cons (cs:=[am]) aL rfl rfl rfl rfl<|.nil)) ?_;refine kS 1 ?_;intro bz H;refine kN ?_;refine t_nil ?_;exact ⟨aa,ac,am,_,jQ,hM,(H.pk [1,0,2,3,4])⟩
  ·refine t_mk (α:=Int) T24.h (0:Int) rfl (n:=d_ways_outside) H rfl rfl (by omega) (by omega) (by omega) ?_;intro ae bA H;replace H:=H.nf;have aC:=Sl.cells (H.os 0);refine kN ?_;refine t_l2 rfl rfl ?_ ?_
   ·refine t_mk (α:=Int) T24.h (0:Int) rfl (n:=d_reaches) H rfl rfl (by omega) (by omega) (by omega) ?_;intro ao bB H;replace H:=H.nf;have aM:=Sl.cells (H.os 0);refine kN ?_;refine t_q rfl (fun w' H=>x_bld (ps:=[(0,ao),(1,ae)]) (zs:=[.slice none 0 0,.slice none 0 0]) (L':=[ao,ae]) rfl Tryz.underlying306 Al306.h rfl (Bd306 Tryz.underlying306) (.cons (cs:=[ao]) aM rfl rfl rfl rfl<|.cons (cs:=[ae]) aC rfl rfl rfl rfl<|.nil)) ?_;refine kA 1 ?_;intro aa bC H;refine kN ?_;refine kS 1 ?_;intro bD H;refine kN ?_;refine t_nil ?_;exact ⟨aa,ao,ae,_,jQ,hM,(H.pk [0,2,1,3,4])⟩
   refine kal ?_;intro aa bE H;refine kN ?_;refine t_l rfl ?_;refine t_mk (α:=Int) T24.h (0:Int) rfl (n:=d_reaches) H rfl rfl (by omega) (by omega) (by omega) ?_;intro ap bF H;replace H:=H.nf;have aN:=Sl.cells (H.os 0);refine kN ?_;refine t_q rfl (fun w' H=>x_bld (ps:=[(0,ap),(1,ae)]) (zs:=[.slice none 0 0,.slice none 0 0]) (L':=[ap,ae]) rfl Tryz.underlying306 Al306.h rfl (Bd306 Tryz.underlying306) (.cons (cs:=[ap]) aN rfl rfl rfl rfl<|.cons (cs:=[ae]) aC rfl rfl rfl rfl<|.nil)) ?_;refine kS 1 ?_;intro bG H;refine kN ?_;refine t_nil ?_;exact ⟨aa,ap,ae,_,jQ,hM,(H.pk [1,2,0,3,4])⟩
  refine kal ?_;intro aa bH H;refine kN ?_;refine t_l2 rfl rfl ?_ ?_
  ·refine t_mk (α:=Int) T24.h (0:Int) rfl (n:=d_reaches) H rfl rfl (by omega) (by omega) (by omega) ?_;intro aq bI H;replace H:=H.nf;have aO:=Sl.cells (H.os 0);refine kN ?_;refine t_l rfl ?_;refine t_mk (α:=Int) T24.h (0:Int) rfl (n:=d_ways_outside) H rfl rfl (by omega) (by omega) (by omega) ?_;intro au bJ H;replace H:=H.nf;have aP:=Sl.cells (H.os 0);refine kN ?_;refine t_q rfl (fun w' H=>x_bld (ps:=[(0,aq),(1,au)]) (zs:=[.slice none 0 0,.slice none 0 0]) (L':=[aq,au]) rfl Tryz.underlying306 Al306.h rfl (Bd306 Tryz.underlying306) (.cons (cs:=[aq]) aO rfl rfl rfl rfl<|.cons (cs:=[au]) aP rfl rfl rfl rfl<|.nil)) ?_;refine kS 1 ?_;intro bK H;refine kN ?_;refine t_nil ?_;exact ⟨aa,aq,au,_,jQ,hM,(H.pk [2,0,1,3,4])⟩
  refine t_mk (α:=Int) T24.h (0:Int) rfl (n:=d_ways_outside) H rfl rfl (by omega) (by omega) (by omega) ?_;intro av bL H;replace H:=H.nf;have aQ:=Sl.cells (H.os 0);refine kN ?_;refine t_l rfl ?_;refine t_mk (α:=Int) T24.h (0:Int) rfl (n:=d_reaches) H rfl rfl (by omega) (by omega) (by omega) ?_;intro aw bM H;replace H:=H.nf;have aR:=Sl.cells (H.os 0);refine kN ?_;refine t_q rfl (fun w' H=>x_bld (ps:=[(0,aw),(1,av)]) (zs:=[.slice none 0 0,.slice none 0 0]) (L':=[aw,av]) rfl Tryz.underlying306 Al306.h rfl (Bd306 Tryz.underlying306) (.cons (cs:=[aw]) aR rfl rfl rfl rfl<|.cons (cs:=[av]) aQ rfl rfl rfl rfl<|.nil)) ?_;refine kS 1 ?_;intro bN H;refine kN ?_;refine t_nil ?_;exact ⟨aa,aw,av,_,jQ,hM,(H.pk [2,1,0,3,4])⟩
 rintro _ bO ⟨aa,ah,ai,ρ,rfl,hM,H⟩;unfold m_balance_desk_truth_j1 at hM;refine kg 5 ?_;refine t_copyI (k:=2) (l:=List.replicate (Int.toNat d_reaches) (0:Int)) (s:=l) (L':=[cBlk aa [ah,ai] 306,cOwn (α:=Int) 3 ai (List.replicate (Int.toNat d_ways_outside) (0:Int)),cOwn (α:=Int) 3 ah (l.take (List.replicate (Int.toNat d_reaches) (0:Int)).length++(List.replicate (Int.toNat d_reaches) (0:Int)).drop l.length),cOwn (α:=Int) 3 ab l,cBlk aj [.slice none 0 0,.slice none 0 0] 306]) H rfl T24.h.und T24.h.size rfl rfl (H.os 3) (H.ol 3) rfl ?_;intro bP bQ H;refine kD 2 [0,2,3,4] [8] ?_;intro bR H;obtain ⟨bS,hM⟩:=M.e_gq hM;refine kg 7 ?_;obtain ⟨aD,aS,ay⟩:=sl_lo T24.h.und T24.h.size (H.os 3) (i:=d_reaches) (by omega) (by omega);replace ay:Sl _ aD (l.drop (Int.toNat d_reaches)):=ay;refine d_q rfl (fun w' H=>x_sl (v:=ab) (u:=aD) (lo':=some (I d_reaches)) (hi':=none) (mx':=none) rfl rfl rfl rfl (aS _))<|d_l rfl ?_;refine t_copyI (k:=1) (l:=List.replicate (Int.toNat d_ways_outside) (0:Int)) (s:=l.drop (Int.toNat d_reaches)) (L':=[cBlk aa [ah,ai] 306,cOwn (α:=Int) 3 ai ((l.drop (Int.toNat d_reaches)).take (List.replicate (Int.toNat d_ways_outside) (0:Int)).length++(List.replicate (Int.toNat d_ways_outside) (0:Int)).drop (l.drop (Int.toNat d_reaches)).length),cOwn (α:=Int) 3 ah (l.take (List.replicate (Int.toNat d_reaches) (0:Int)).length++(List.replicate (Int.toNat d_reaches) (0:Int)).drop l.length),cOwn (α:=Int) 3 ab l,cBlk aj [.slice none 0 0,.slice none 0 0] 306]) H rfl T24.h.und T24.h.size rfl rfl ay (H.ol 3) rfl ?_;intro bT bU H;refine kN ?_;refine kS 4 ?_;intro bV H;refine s_nil ?_;replace H:=H.pk [1,2,4]
 exact kR 0 [1,0]

def m_balance_off (x:Int) (s:Span):M Int :=
  M.gi (s.lo-x) <|
  M.gi (x-s.hi) <|
  M.pure (max (max 0 (s.lo-x)) (x-s.hi))
theorem balance_off_ok {R}(x s){r}(hM:(m_balance_off x s).Ends r)(w)(H:St w w [] R):Ret Tryz.prog 229 #[I x,.agg #[I s.lo,I s.hi]] w fun v w'=>∃ y0,y0=r/\v=I y0/\St w w' [] R:=by
 refine ret_of_W Tryz.func229 rfl rfl rfl ?_;refine kB 2 ?_;intro aa ab H;obtain ⟨ac,hM⟩:=M.e_gq hM;obtain ⟨ae,hM⟩:=M.e_gq hM;refine kg 12 ?_;refine s_val (x_max3 (a:=0) (b:=s.lo-x) (c:=x-s.hi) rfl rfl rfl) ?_;refine kg 2 ?_;exact rt

def m_balance_sum_b0 (l:List Int):(Int × Nat)->M ((Int × Nat) ⊕ Int):=fun (n,s) =>
  bif decide ((s:Int)<(l.length:Int)) then (
  M.grd (decide ((s:Int)<(l.length:Int))) <|
  M.gi (n+(l.getD s 0)) <|
  M.pure (.inl (n+(l.getD s 0),s+1)))
  else (
  M.pure (.inr n))
def m_balance_sum (l:List Int):M Int :=
  M.bind (M.iter (m_balance_sum_b0 l) (0,0)) fun n2 =>
  M.pure n2
theorem balance_sum_ok {R ab aa}(l)(am:Reads R ab)(ae:Sl ab aa l){r}(hM:(m_balance_sum l).Ends r)(w)(H:St w w [] R):Ret Tryz.prog 230 #[aa] w fun v w'=>∃ y0,y0=r/\v=I y0/\St w w' [] R:=by
 refine ret_of_W Tryz.func230 rfl rfl rfl ?_;have ao:=(ae).len_le;refine kg 16 ?_;obtain ⟨ah,ac,ai⟩:=M.e_bind hM;obtain ⟨ap,ac⟩:=M.e_iter ac;refine W.loop (fun m σ W=>∃ (n:Int) (s:Nat) (ρ:Env),σ=upds ρ [(3,I n),(6,aa),(7,I (l.length:Int)),(8,I (s:Int))]/\M.iterN (m_balance_sum_b0 l) m (n,s)=some ah/\St w W [] R) ?_ ?_
 ·exact kY
 rintro aq σ au ⟨n,s,ρ,rfl,aj,H⟩;obtain ⟨av,aw,ax,hM,ak⟩:=M.e_iterN aj;refine kI 5 ?_ ?_
 ·intro al hM;obtain ⟨ay,hM⟩:=M.e_gq hM;obtain ⟨az,hM⟩:=M.e_gq hM;exact kX 19
 intro al hM;refine W.exit ?_;obtain rfl:=M.e_inr hM ak;replace hM:=ai;refine kg 5 ?_;exact rt

def m_balance_cost_b0 (n_Reaches:List BRch) (t_Flows:List Int):(Nat × (List Int))->M ((Nat × (List Int)) ⊕ ((List Int) × (List Int))):=fun (s,l) =>
  bif decide ((s:Int)<(n_Reaches.length:Int)) then (
  M.grd (decide ((s:Int)<(n_Reaches.length:Int))) <|
  M.grd (decide ((s:Int)<(t_Flows.length:Int))) <|
  M.bind (m_balance_off (t_Flows.getD s 0) (⟨((n_Reaches.getD s default).lo:Int),((n_Reaches.getD s default).hi:Int)⟩:Span)) fun r2 =>
  M.grd (decide ((l.length+([(r2:Int)]).length)*8<=140737488355328)) <|
  M.pure (.inl (s+1,l++([(r2:Int)]))))
  else (
  M.pure (.inr (l,l)))
def m_balance_cost_b1 (n_Gains:List Span) (t_Gains:List Int):((List Int) × Nat)->M (((List Int) × Nat) ⊕ ((List Int) × (List Int))):=fun (l4,s2) =>
  bif decide ((s2:Int)<(n_Gains.length:Int)) then (
  M.grd (decide ((s2:Int)<(n_Gains.length:Int))) <|
  M.grd (decide ((s2:Int)<(t_Gains.length:Int))) <|
  M.bind (m_balance_off (t_Gains.getD s2 0) (n_Gains.getD s2 default)) fun r3 =>
  M.grd (decide ((l4.length+([(r3:Int)]).length)*8<=140737488355328)) <|
  M.pure (.inl (l4++([(r3:Int)]),s2+1)))
  else (
  M.pure (.inr (l4,l4)))
def m_balance_cost (n_Gains:List Span) (n_Reaches:List BRch) (t_Flows t_Gains:List Int):M Int :=
  M.bind (M.iter (m_balance_cost_b0 n_Reaches t_Flows) (0,[])) fun (l2,l3) =>
  M.bind (M.iter (m_balance_cost_b1 n_Gains t_Gains) (l3,0)) fun (l5,l6) =>
  M.bind (m_balance_sum l6) fun r4 =>
  M.pure r4
theorem balance_cost_ok {R al aa am ab ao ac ap ae}(n_Gains n_Reaches t_Flows t_Gains)(aI:Reads R al)(av:Sl al aa n_Gains)(aJ:Reads R am)(aw:Sl am ab n_Reaches)(aK:Reads R ao)(aL:Sl ao ac t_Flows)(aM:Reads R ap)(aN:Sl ap ae t_Gains){r}(hM:(m_balance_cost n_Gains n_Reaches t_Flows t_Gains).Ends r)(w)(H:St w w [] R):Ret Tryz.prog 184 #[.agg #[aa,ab],.agg #[ac,ae]] w fun v w'=>∃ y0,y0=r/\v=I y0/\St w w' [] R:=by
 refine ret_of_W Tryz.func184 rfl rfl rfl ?_;refine kB 2 ?_;intro ai aO H;refine kbx ?_;intro ah aP H;have aQ:=(aw).len_le;refine kg 15 ?_;replace H:=H.nilOwn (α:=Int) 3;obtain ⟨ax,aq,ay⟩:=M.e_bind hM;obtain ⟨az,aq⟩:=M.e_iter aq;refine W.loop (fun m σ W=>∃ (s:Nat) (l:List Int) (aj:Value) (ρ:Env),σ=upds ρ [(2,Pq ai),(3,Pq ah),(5,aj),(11,ab),(12,I (n_Reaches.length:Int)),(13,I (s:Int))]/\M.iterN (m_balance_cost_b0 n_Reaches t_Flows) m (s,l)=some ax/\St w W [cOwn (α:=Int) 3 aj l,cBlk ah [ac,ae] 306,cBlk ai [aa,ab] 133] R) ?_ ?_
 ·exact kY
 rintro aR σ aS ⟨s,l,aj,ρ,rfl,aA,H⟩;obtain ⟨aT,aU,aV,hM,aB⟩:=M.e_iterN aA;refine kI 5 ?_ ?_
 ·intro aC hM;obtain ⟨aW,hM⟩:=M.e_gq hM;refine kA 8 ?_;intro aX aY H;refine kS 1 ?_;intro aZ H;refine kD 1 [0,2,3] [8,9,10] ?_;intro a6 H;obtain ⟨a7,hM⟩:=M.e_gq hM;refine kC 9 @balance_off_ok ?_;intro a8 r2 hM H;refine kN ?_;refine kL 1 (α:=Int) [r2] ?_;intro ba bb H;refine kN ?_;refine d_l rfl ?_;obtain ⟨bc,hM⟩:=M.e_gq hM;refine kP 0 ?_;intro bf bg H;refine kN ?_;refine kg 2 ?_;replace H:=H.pk [2,3,4];exact kX 4
 intro aC hM;refine W.exit ?_;obtain rfl:=M.e_inr hM aB;replace hM:=ay;have bh:=(av).len_le;refine kg 9 ?_;obtain ⟨aD,au,aE⟩:=M.e_bind hM;obtain ⟨az,au⟩:=M.e_iter au;refine W.loop (fun m σ W=>∃ (l4:List Int) (s2:Nat) (ak:Value) (ρ:Env),σ=upds ρ [(3,Pq ah),(5,ak),(31,aa),(32,I (n_Gains.length:Int)),(33,I (s2:Int))]/\M.iterN (m_balance_cost_b1 n_Gains t_Gains) m (l4,s2)=some aD/\St w W [cOwn (α:=Int) 3 ak l4,cBlk ah [ac,ae] 306,cBlk ai [aa,ab] 133] R) ?_ ?_
 ·exact kY
 rintro bi σ bj ⟨l4,s2,ak,ρ,rfl,aF,H⟩;obtain ⟨bm,bn,bo,hM,aG⟩:=M.e_iterN aF;refine kI 5 ?_ ?_
 ·intro aH hM;obtain ⟨bp,hM⟩:=M.e_gq hM;refine kA 8 ?_;intro br bt H;refine kS 1 ?_;intro bu H;refine kD 1 [0,2,3] [7,8,9] ?_;intro bv H;obtain ⟨bw,hM⟩:=M.e_gq hM;refine kC 8 @balance_off_ok ?_;intro bx r3 hM H;refine kN ?_;refine kL 1 (α:=Int) [r3] ?_;intro bz bA H;refine kN ?_;refine d_l rfl ?_;obtain ⟨bB,hM⟩:=M.e_gq hM;refine kP 0 ?_;intro bC bD H;refine kN ?_;refine kg 2 ?_;replace H:=H.pk [2,3,4];exact kX 4
 intro aH hM;refine W.exit ?_;obtain rfl:=M.e_inr hM aG;replace hM:=aE;replace H:=H.pk [0];refine kC 3 @balance_sum_ok ?_;intro bE r4 hM H;refine kg 2 ?_;exact rt

def m_balance_settled (n_Gains:List Span) (n_Reaches:List BRch):M ((List BWay) × Int × Int × Int × Int) :=
  M.bind (m_balance_Check n_Gains n_Reaches) fun r2 =>
  bif r2 != 0 then (
  M.fail)
  else (
  M.bind (m_balance_begun n_Gains n_Reaches) fun (r0,r1,aa) =>
  M.bind (m_balance_desk_settle r0 r1 aa) fun l_d_ways_all =>
  M.bind (m_balance_desk_truth l_d_ways_all r1 aa) fun (ab,ac) =>
  M.bind (m_balance_cost n_Gains n_Reaches ab ac) fun r3 =>
  M.pure (l_d_ways_all,r1,aa,r3,0))
theorem balance_settled_ok {R aa ab ac ae}(n_Gains n_Reaches)(ao:Reads R aa)(ap:Sl aa ab n_Gains)(aq:Reads R ac)(au:Sl ac ae n_Reaches){r}(hM:(m_balance_settled n_Gains n_Reaches).Ends r)(w)(H:St w w [] R):Ret Tryz.prog 135 #[.agg #[ab,ae]] w fun v w'=>∃ y0 y1 y2 y3 y4 ah u1,(y0,y1,y2,y3,y4)=r/\v = .tuple #[Pq ah,I y3,I y4]/\St w w' [cBlk ah [u1,I y1,I y2] 200,cOwn (α:=BWay) 203 u1 y0] R:=by
 refine ret_of_W Tryz.func135 rfl rfl rfl ?_;refine kB 2 ?_;intro av aw H;refine kC 8 @balance_Check_ok ?_;intro ax r2 hM H;refine kI 7 ?_ ?_
 ·intro ai hM;exact (M.e_fail hM).elim
 intro ai hM;refine kC 4 @balance_begun_ok ?_;intro ay r0 r1 aj ak az hM H;refine kg 5 ?_;obtain ⟨aA,al,hM⟩:=M.e_bind hM;refine s_call cq [Pq ak] rfl (balance_desk_settle_ok r0 r1 aj al _ ((H.pk [1,0,2]).gt 1)) ?_;rintro _ aB ⟨l_d_ways_all,aC,rfl,rfl,am⟩;replace H:=H.pk [1,0,2] |>.bk am
 refine kD 2 [0,1,2] [3,4] ?_;intro aD H;refine kC 4 @balance_desk_truth_ok ?_;intro aE aF aG aH aI hM H;refine kN ?_;refine kC 1 @balance_cost_ok ?_;intro aJ r3 hM H;refine kN ?_;refine kg 4 ?_;replace H:=H.pk [2,3];exact kR 0 [1,0]

def m_balance_fitting (n_Gains:List Span) (n_Reaches:List BRch):M ((List BWay) × Int × Int × Int) :=
  M.bind (m_balance_settled n_Gains n_Reaches) fun (aa,ab,ac,r1,r2) =>
  bif ((r2==0)&&(decide (0<r1))) then (
  M.fail)
  else (
  M.pure (aa,ab,ac,r2))
theorem balance_fitting_ok {R aa ab ac ae}(n_Gains n_Reaches)(aj:Reads R aa)(ak:Sl aa ab n_Gains)(al:Reads R ac)(am:Sl ac ae n_Reaches){r}(hM:(m_balance_fitting n_Gains n_Reaches).Ends r)(w)(H:St w w [] R):Ret Tryz.prog 88 #[.agg #[ab,ae]] w fun v w'=>∃ y0 y1 y2 y3 ah u1,(y0,y1,y2,y3)=r/\v = .tuple #[Pq ah,I y3]/\St w w' [cBlk ah [u1,I y1,I y2] 200,cOwn (α:=BWay) 203 u1 y0] R:=by
 refine ret_of_W Tryz.func88 rfl rfl rfl ?_;refine kB 2 ?_;intro ao ap H;refine kC 6 @balance_settled_ok ?_;intro aq au av aw r1 r2 ax ay hM H;refine kI 18 ?_ ?_
 ·intro ai hM;exact (M.e_fail hM).elim
 intro ai hM;exact kR 8 [0,1]

def zeM (s:List BWay):M (List BWay) :=
  M.grd (decide (0<s.length)) <|
  M.grd (decide ((([]:List BWay).length+s.length)*40<=140737488355328)) <|
  M.pure s
theorem zgv {R aa ab}(s)(ah:Reads R aa)(ae:Sl aa ab s){r}(hM:(zeM s).Ends r)(w)(H:St w w [] R):Ret Tryz.prog 136 #[ab] w fun v w'=>∃ y0 u0,y0=r/\v=u0/\St w w' [cOwn (α:=BWay) 203 u0 y0] R:=by
 refine ret_of_W Tryz.func136 rfl rfl rfl ?_;obtain ⟨ai,hM⟩:=M.e_gq hM;refine kg 8 ?_;refine s_val (x_eqnilp (α:=BWay) T196.h.und rfl rfl ae (by omega))<|s_nil ?_
 refine W.cond false rfl (fun ac=>?_) (fun ac=>?_)
 ·exact absurd ac (by decide)
 refine kg 3 ?_;refine t_bs0 (α:=BWay) T196.h H ?_;intro aj ak H;obtain ⟨al,hM⟩:=M.e_gq hM;refine kP 1 ?_;intro am ao H;refine kg 2 ?_;exact rt

def m_balance_desk_copied (d_ways_all:List BWay) (d_ways_outside d_reaches:Int):M ((List BWay) × Int × Int) :=
  M.bind (zeM d_ways_all) fun r2 =>
  M.pure (r2,d_ways_outside,d_reaches)
theorem balance_desk_copied_ok {R ab ac ae}(d_ways_all d_ways_outside d_reaches)(aj:Reads R ac)(ak:Sl ac ae d_ways_all)(al:Has R (cBlk ab [ae,I d_ways_outside,I d_reaches] 200)){r}(hM:(m_balance_desk_copied d_ways_all d_ways_outside d_reaches).Ends r)(w)(H:St w w [] R):Ret Tryz.prog 89 #[Pq ab] w fun v w'=>∃ y0 y1 y2 ah u1,(y0,y1,y2)=r/\v=Pq ah/\St w w' [cBlk ah [u1,I y1,I y2] 200,cOwn (α:=BWay) 203 u1 y0] R:=by
 refine ret_of_W Tryz.func89 rfl rfl rfl ?_;refine kDo 5 [] [(0,true),(1,true),(2,true),(3,true),(4,true),(6,true),(7,true),(8,true),(9,true),(10,true),(12,true),(13,true),(14,true),(15,true),(5,false),(11,true),(16,true),(17,false),(18,true)] ?_;intro am H;refine kC 15 @zgv ?_;intro ao r2 aa hM H;have ai:=Sl.cells (H.os 0);refine kN ?_;refine d_q rfl (fun w' H=>x_bld (ps:=[(0,aa),(1,I d_ways_outside)]) (zs:=[.slice none 0 0,I 0]) (L':=[aa,I d_ways_outside]) rfl Tryz.underlying198 Al198.h rfl (Bd198 Tryz.underlying198) (.cons (cs:=[aa]) ai rfl rfl rfl rfl<|.cons (cs:=[I d_ways_outside]) rfl rfl rfl rfl rfl<|.nil)) ?_;refine kB 2 ?_;intro ap aq H;refine kN ?_;refine kg 2 ?_;exact rt

def m_balance_desk_shift_1 (s:BStep) (ab:List BWay) (ac ae aa:Int):M Bool :=
  M.bind (m_balance_desk_room ab ac ae s) fun (r0,r1) =>
  M.pure (((r0==0)&&(!(decide (s=(⟨(aa:Int),true⟩:BStep)))))&&(!(decide (s=(⟨(aa:Int),false⟩:BStep)))))
theorem balance_desk_shift_1_ok {R ab ac ae ah ai}(s aj ak al aa)(am:Reads R ae)(ao:Sl ae ah aj)(ap:Has R (cBlk ac [ah,I ak,I al] 200))(aq:Has R (cBlk ab [Pq ac] 192))(au:Has R (cBlk ai [I aa] 3)){r}(hM:(m_balance_desk_shift_1 s aj ak al aa).Ends r)(w)(H:St w w [] R):Ret Tryz.prog 186 #[.agg #[I s.way,B s.back],Pq ab,Pq ai] w fun v w'=>∃ y0,y0=r/\v=B y0/\St w w' [] R:=by
 refine ret_of_W Tryz.func186 rfl rfl rfl ?_;refine kB 2 ?_;intro av aw H;refine kC 6 @balance_desk_room_ok ?_;intro ax r0 r1 hM H;refine kg 13 ?_;refine g_val (r0==0) (gy_t rfl) (fun hg=>x_bld (ps:=[(0,I aa),(1,B true)]) (zs:=[I 0,B false]) (L':=[I aa,B true]) (by exact prs2 (gd_of hg (I aa)) rfl) Tryz.underlying309 Al309.h rfl (Bd309 Tryz.underlying309) (.cons (cs:=[I aa]) rfl rfl rfl rfl rfl<|.cons (cs:=[B true]) rfl rfl rfl rfl rfl<|.nil))<|g_val (r0==0) (gy_t rfl) (fun hg=>x_neS (eqT309 s (⟨(aa:Int),true⟩:BStep) _) gdT309 (gd_of hg (.agg #[I s.way,B s.back])) (gd_of hg (.agg #[I aa,B true]))) ?_;refine kg 4 ?_;refine g_val ((r0==0)&&(!(decide (s=(⟨(aa:Int),true⟩:BStep))))) (gy_t rfl) (fun hg=>x_bld (ps:=[(0,I aa),(1,B false)]) (zs:=[I 0,B false]) (L':=[I aa,B false]) (by exact prs2 (gd_of hg (I aa)) rfl) Tryz.underlying309 Al309.h rfl (Bd309 Tryz.underlying309) (.cons (cs:=[I aa]) rfl rfl rfl rfl rfl<|.cons (cs:=[B false]) rfl rfl rfl rfl rfl<|.nil))<|g_val ((r0==0)&&(!(decide (s=(⟨(aa:Int),true⟩:BStep))))) (gy_t rfl) (fun hg=>x_neS (eqT309 s (⟨(aa:Int),false⟩:BStep) _) gdT309 (gd_of hg (.agg #[I s.way,B s.back])) (gd_of hg (.agg #[I aa,B false]))) ?_;refine kg 3 ?_
 exact rt

end Go.Proofs.YtbgoclcmgbpckabGreat
end
section
set_option maxRecDepth 100000
set_option maxHeartbeats 16000000
namespace Go.Proofs.YtbgoclcmgbpckabGreat
open Go Go.Nm
attribute [local irreducible] gd execOp SL SLD SLT WR
def m_balance_desk_reach_186_b4 (d_ways_all:List BWay) (d_ways_outside d_reaches:Int) (ab:List BWay) (ac ae ah:Int) (s2:Nat) (aa:List (Int × BFar)):((List (Int × BFar)) × Bool)->BStep->M (((List (Int × BFar)) × Bool) ⊕ Unit):=fun (mp,s5) x =>
  M.bind (m_balance_desk_shift_1 x ab ac ae ah) fun r2 =>
  bif !r2 then (
  M.pure (.inl (mp,s5)))
  else (
  M.bind (m_balance_desk_room d_ways_all d_ways_outside d_reaches x) fun (r0,r1) =>
  M.gi ((((lookM aa (s2:Int)).getD default).cost)+r0) <|
  M.gi ((((lookM aa (s2:Int)).getD default).many)+1) <|
  M.bind (m_balance_desk_to d_ways_all d_ways_outside d_reaches x) fun r3 =>
  bif (((!((lookM mp (r3:Int)).isSome))||(decide (((((lookM aa (s2:Int)).getD default).cost)+r0)<(((lookM mp (r3:Int)).getD default).cost))))||((((((lookM aa (s2:Int)).getD default).cost)+r0)==(((lookM mp (r3:Int)).getD default).cost))&&(decide (((((lookM aa (s2:Int)).getD default).many)+1)<(((lookM mp (r3:Int)).getD default).many))))) then (
  M.bind (m_balance_desk_to d_ways_all d_ways_outside d_reaches x) fun r4 =>
  M.pure (.inl (setM mp (r4:Int) (⟨((((lookM aa (s2:Int)).getD default).cost)+r0:Int),((((lookM aa (s2:Int)).getD default).many)+1:Int),(x.way:Int),x.back⟩:BFar),true)))
  else (
  M.pure (.inl (mp,s5))))
def m_balance_desk_reach_186_b5 (d_ways_all:List BWay) (d_ways_outside d_reaches:Int) (ab:List BWay) (ac ae ah:Int):(Nat × (List (Int × BFar)) × Bool)->M ((Nat × (List (Int × BFar)) × Bool) ⊕ ((List (Int × BFar)) × Bool)):=fun (s2,aa,s6) =>
  bif decide ((s2:Int)<(d_ways_outside+2)) then (
  bif !((lookM aa (s2:Int)).isSome) then (
  M.gi ((s2:Int)+1) <|
  M.pure (.inl (s2+1,aa,s6)))
  else (
  M.bind (m_balance_desk_steps d_ways_all d_ways_outside d_reaches (s2:Int)) fun ai =>
  M.bind (m_balance_desk_steps_1 (M.yl (m_balance_desk_reach_186_b4 d_ways_all d_ways_outside d_reaches ab ac ae ah s2 aa)) (.inl (aa,s6)) d_ways_all d_ways_outside d_reaches ai) fun x_=>match x_ with
  | .inl (mp,s5)=>(
  M.gi ((s2:Int)+1) <|
  M.pure (.inl (s2+1,mp,s5)))
  | .inr _=>M.fail))
  else (
  M.pure (.inr (aa,s6)))
def m_balance_desk_reach_186_b6 (d_ways_all:List BWay) (d_ways_outside d_reaches:Int) (ab:List BWay) (ac ae ah:Int):((List (Int × BFar)) × Bool)->M (((List (Int × BFar)) × Bool) ⊕ (List (Int × BFar))):=fun (aa,s8) =>
  bif s8 then (
  M.gi (d_ways_outside+2) <|
  M.bind (M.iter (m_balance_desk_reach_186_b5 d_ways_all d_ways_outside d_reaches ab ac ae ah) (0,aa,false)) fun (ai,s7) =>
  M.pure (.inl (ai,s7)))
  else (
  M.pure (.inr aa))
def m_balance_desk_reach_186 (d_ways_all:List BWay) (d_ways_outside d_reaches aa:Int) (ab:List BWay) (ac ae ah:Int):M (List (Int × BFar)) :=
  M.bind (M.iter (m_balance_desk_reach_186_b6 d_ways_all d_ways_outside d_reaches ab ac ae ah) (setM ([]:List (Int × BFar)) (aa:Int) (⟨(0:Int),(0:Int),(0:Int),false⟩:BFar),true)) fun ai =>
  M.pure ai
theorem balance_desk_reach_186_ok {R ab aV aW ah aX aY aZ ai}(d_ways_all d_ways_outside d_reaches aE ao ap aq au)(aF:Reads R aV)(aK:Sl aV aW d_ways_all)(aG:Has R (cBlk ab [aW,I d_ways_outside,I d_reaches] 200))(aL:Reads R aY)(a6:Sl aY aZ ao)(aM:Has R (cBlk aX [aZ,I ap,I aq] 200))(aN:Has R (cBlk ah [Pq aX] 192))(aO:Has R (cBlk ai [I au] 3)){r}(hM:(m_balance_desk_reach_186 d_ways_all d_ways_outside d_reaches aE ao ap aq au).Ends r)(w)(H:St w w [] R):Ret Tryz.prog 189 #[Pq ab,I aE,.agg #[.func (.func 186) #[] #[Pq ah,Pq ai]]] w fun v w'=>∃ y0 a7,y0=r/\v = .map (some a7)/\St w w' [cMl I encFar a7 y0] R:=by
 refine ret_of_WD Tryz.func189 rfl rfl rfl ?_;replace H:St w w [cMk ([])] R:=H.mk0;have bF:=aK.len_le;have bG:=a6.len_le;unfold m_balance_desk_reach_186 at hM;refine WD.seq<|WD.of ?_;refine kB 1 ?_;intro aj bH H;refine kbx ?_;intro ak bI H;refine kg 2 ?_;refine WD.seq<|WD.of<|W.region rfl ?_;refine t_mkMl (κ:=Int) (ν:=BFar) I encFar H ?_;intro ac bJ H;refine kG 2 ?_;refine t_insMl (i:=0) (kenc:=I) (venc:=encFar) (m:=([]:List (Int × BFar))) (k:=(aE:Int)) (v:=(⟨(0:Int),(0:Int),(0:Int),false⟩:BFar)) (L':=[cMl I encFar ac (setM ([]:List (Int × BFar)) (aE:Int) (⟨(0:Int),(0:Int),(0:Int),false⟩:BFar)),cBlk ak [.func (.func 186) #[] #[Pq ah,Pq ai]] 314,cBlk aj [Pq ab] 192,cMk ([])]) keyIntFar Tryz.underlying316 H rfl rfl rfl rfl rfl ?_;intro bK H;refine kA 1 ?_;intro al bL H;refine ksw ?_;intro bM H;refine s_nil<|WD.seq<|WD.of ?_;refine kg 2 ?_;refine s_val (x_mf (fs:=[Pq ab]) (cs:=[]) rfl rfl) ?_;refine kal ?_;intro am bN H;refine ksw ?_;intro bO H;refine s_nil<|WD.seq<|WD.seq<|WD.of ?_;refine kA 1 ?_;intro bP bQ H;refine ksw ?_;intro bR H;refine s_nil<|WD.block ?_;obtain ⟨bg,a8,bh⟩:=M.e_bind hM
 obtain ⟨bi,a8⟩:=M.e_iter a8;refine WD.loop (fun m ba σ W=>∃ (ae:Nat) (aH:List (Int × BFar)) (s8:Bool) (ρ:Env),σ=upds ρ [(3,Pq aj),(5,Pq ak),(7,Pq al),(8,Pq am),(9,Pq ae)]/\M.iterN (m_balance_desk_reach_186_b6 d_ways_all d_ways_outside d_reaches ao ap aq au) m (aH,s8)=some bg/\St w W [cBlk ae [B s8] 4,cBlk am [.func (.func 187) #[Pq ab] #[]] 311,cBlk al [.map (some ac)] 316,cMl I encFar ac aH,cBlk ak [.func (.func 186) #[] #[Pq ah,Pq ai]] 314,cBlk aj [Pq ab] 192,cMk ba] R) ?_ ?_
 ·exact kY
 rintro bS ba σ bT ⟨ae,aH,s8,ρ,rfl,bj,H⟩;obtain ⟨bU,bV,bW,hM,bm⟩:=M.e_iterN bj;refine WD.seq<|WD.seq<|WD.of ?_;refine kg 3 ?_
 refine WD.cond s8 rfl (fun aP=>?_) (fun aP=>?_)
 ·replace hM:=M.e_t hM aP;refine WD.of<|W.skip<|WD.seq<|WD.block<|WD.seq<|WD.of ?_;refine kS 1 ?_;intro bX H;refine s_nil<|WD.seq<|WD.of ?_;obtain ⟨bY,hM⟩:=M.e_gq hM;refine kg 9 ?_;refine WD.block ?_;obtain ⟨bn,bb,bo⟩:=M.e_bind hM
  obtain ⟨bi,bb⟩:=M.e_iter bb;refine WD.loop (fun m az σ W=>∃ (s2:Nat) (aa:List (Int × BFar)) (s6:Bool) (ρ:Env),σ=upds ρ [(3,Pq aj),(5,Pq ak),(7,Pq al),(8,Pq am),(9,Pq ae),(31,I (d_ways_outside+2)),(32,I (s2:Int))]/\M.iterN (m_balance_desk_reach_186_b5 d_ways_all d_ways_outside d_reaches ao ap aq au) m (s2,aa,s6)=some bn/\St w W [cBlk ae [B s6] 4,cBlk am [.func (.func 187) #[Pq ab] #[]] 311,cBlk al [.map (some ac)] 316,cMl I encFar ac aa,cBlk ak [.func (.func 186) #[] #[Pq ah,Pq ai]] 314,cBlk aj [Pq ab] 192,cMk az] R) ?_ ?_
  ·exact kY
  rintro bZ az σ b4 ⟨s2,aa,s6,ρ,rfl,bp,H⟩;obtain ⟨b6,b7,b8,hM,br⟩:=M.e_iterN bp;refine WD.seq<|WD.of ?_;refine kg 3 ?_;refine WD.seq ?_
  refine WD.cond (decide ((s2:Int)<(d_ways_outside+2))) rfl (fun aA=>?_) (fun aA=>?_)
  ·replace hM:=M.e_t hM aA;replace aA:=dI aA;refine WD.of<|W.skip<|WD.seq<|WD.block<|WD.seq<|WD.of ?_;refine kg 4 ?_;refine WD.seq<|WD.of ?_;refine kg 3 ?_;refine s_val (q_look (kenc:=I) (venc:=encFar) (f:=lookM aa) (k:=(s2:Int)) (v:=.tuple #[.agg #[I (((lookM aa (s2:Int)).getD default).cost),I (((lookM aa (s2:Int)).getD default).many),I (((lookM aa (s2:Int)).getD default).way),B (((lookM aa (s2:Int)).getD default).back)],B ((lookM aa (s2:Int)).isSome)]) keyIntFar Tryz.underlying316 Al319.h rfl rfl (mlMap (H.get (k:=3) rfl)) true (by rw [if_pos rfl,far_val])) ?_;refine kA 3 ?_;intro aB b9 H;refine ksw ?_;intro cb H;refine kg 2 ?_;refine WD.seq<|WD.seq<|WD.of ?_;refine kg 4 ?_
   refine WD.cond (!((lookM aa (s2:Int)).isSome)) rfl (fun aQ=>?_) (fun aQ=>?_)
   ·replace hM:=M.e_t hM aQ;refine WD.of ?_;refine W.exit<|WD.of ?_;obtain ⟨cc,hM⟩:=M.e_gq hM
    exact kXp 4 [1,2,3,4,5,6,7]
   replace hM:=M.e_f hM aQ;refine WD.of<|W.skip<|WD.seq<|WD.of ?_;refine kC 3 @balance_desk_steps_ok ?_;intro cd av aw ax hM H;refine s_nil<|WD.block ?_;obtain ⟨ce,bt,hM⟩:=M.e_bind hM;refine WD.range (L:=[cBlk ae [B s6] 4,cMl I encFar ac aa,cBlk aw [Pq ab] 192,cBlk ax [I av] 3,cBlk aB [I (((lookM aa (s2:Int)).getD default).cost),I (((lookM aa (s2:Int)).getD default).many),I (((lookM aa (s2:Int)).getD default).way),B (((lookM aa (s2:Int)).getD default).back)] 319,cBlk am [.func (.func 187) #[Pq ab] #[]] 311,cBlk al [.map (some ac)] 316,cBlk ak [.func (.func 186) #[] #[Pq ah,Pq ai]] 314,cBlk aj [Pq ab] 192]) [Pq aw,Pq ax] (H.pk [9,3,6,0,1,2,4,5,7,8]) rfl cq ?_;intro aI aD aR bu aS H
   have hYC:YieldC Tryz.prog ([cMk (aD :: az),cBlk aw [Pq ab] 192,cBlk ax [I av] 3,cBlk aB [I (((lookM aa (s2:Int)).getD default).cost),I (((lookM aa (s2:Int)).getD default).many),I (((lookM aa (s2:Int)).getD default).way),B (((lookM aa (s2:Int)).getD default).back)] 319,cBlk am [.func (.func 187) #[Pq ab] #[]] 311,cBlk al [.map (some ac)] 316,cBlk ak [.func (.func 186) #[] #[Pq ah,Pq ai]] 314,cBlk aj [Pq ab] 192]++R) arBStep (yJ aI aR (fun (mp,s5) aJ=>aJ=[cBlk ae [B s5] 4,cMl I encFar ac mp]) (fun (_:Unit) _=>False) (fun _=>.ret)) (.func (.yield aI) #[] #[]) (M.yl (m_balance_desk_reach_186_b4 d_ways_all d_ways_outside d_reaches ao ap aq au s2 aa)):=by
    refine YieldC.mk2 aS (fun (mp,s5) aJ=>aJ=[cBlk ae [B s5] 4,cMl I encFar ac mp]) (fun (_:Unit) _=>False) (fun _=>.ret) (m_balance_desk_reach_186_b4 d_ways_all d_ways_outside d_reaches ao ap aq au s2 aa) (by rintro ⟨mp,s5⟩ _ h_; obtain ⟨rfl⟩:=h_; rfl) (fun _ _ h_=>h_.elim) rfl (arBStep_len rfl) ?_;intro C_ cf x bv;obtain rfl:=bv;intro w R ay aJ s_ r bw hM H;obtain ⟨mp,s5⟩:=s_;obtain ⟨rfl⟩:=bw;replace H:=H.nf;refine kA 1 ?_;intro aT cg H;refine ksw ?_;intro ch H;refine s_nil ?_;refine ⟨rfl,[cBlk aT [I x.way,B x.back] 309],H.pick [0,1,2,3,4,5,6,7,8,9,10] (by decide) rfl,?_⟩;clear H ay;intro w R ay H;replace aF:=aF.sub ay;replace aG:=aG.sub ay;replace aL:=aL.sub ay;replace aM:=aM.sub ay;replace aN:=aN.sub ay;replace aO:=aO.sub ay;replace hM:(m_balance_desk_reach_186_b4 d_ways_all d_ways_outside d_reaches ao ap aq au s2 aa (mp,s5) x).Ends r:=hM;simp only [m_balance_desk_reach_186_b4] at hM;replace H:=H.nf;refine kg 7 ?_;obtain ⟨cj,bx,hM⟩:=M.e_bind hM;refine s_callv (f:=186) rfl cq [.agg #[I x.way,B x.back]] rfl (balance_desk_shift_1_ok x ao ap aq au (aL.app _) a6 (aM.app _) (aN.app _) (aO.app _) bx _ (H.gt 11)) ?_;rintro _ ck ⟨r2,rfl,rfl,aC⟩;replace H:=H.bk aC;refine kI 2 ?_ ?_
    ·intro bz hM;refine W.exit ?_;exact ⟨(mp,s5),[cBlk ae [B s5] 4,cMl I encFar ac mp],(M.e_pure hM).symm,rfl,H.pick [1,2,3,4,5,6,7,8,9,10] (by decide) rfl⟩
    intro bz hM;refine kg 5 ?_;obtain ⟨cn,bA,hM⟩:=M.e_bind hM;refine s_callm (f:=187) (fs:=[Pq ab]) rfl cq [.agg #[I x.way,B x.back]] rfl (balance_desk_room_ok d_ways_all d_ways_outside d_reaches x (aF.app _) aK (aG.app _) bA _ (H.gt 11)) ?_;rintro _ cp ⟨r0,r1,rfl,rfl,aC⟩;replace H:=H.bk aC;obtain ⟨cr,hM⟩:=M.e_gq hM;obtain ⟨ct,hM⟩:=M.e_gq hM;refine kA 17 ?_;intro bc cu H;refine ksw ?_;intro cv H;refine kDT 2 [0,1,2,3,4,5,6,7,8,9,10,11] (.q 0 (.q 1 (.q 2 (.l2 3 (.q 4 (.q 5 (.q 6 (.q 7 (.l 8 (.l 9 (.q 10 .nil))))))) 8 (.l 3 (.q 4 (.q 5 (.q 6 (.q 7 (.l 9 (.q 10 .nil))))))))))) ?_;intro cB H;refine kg 3 ?_;refine t_l2 rfl rfl ?_ ?_
    ·refine kC 0 @balance_desk_to_ok ?_;intro cC r3 hM H;refine kN ?_;refine t_q rfl (fun w' H=>q_look (kenc:=I) (venc:=encFar) (f:=lookM mp) (k:=(r3:Int)) (v:=.tuple #[.agg #[I (((lookM mp (r3:Int)).getD default).cost),I (((lookM mp (r3:Int)).getD default).many),I (((lookM mp (r3:Int)).getD default).way),B (((lookM mp (r3:Int)).getD default).back)],B ((lookM mp (r3:Int)).isSome)]) keyIntFar Tryz.underlying316 Al319.h rfl rfl (mlMap (H.get (k:=3) rfl)) true (by rw [if_pos rfl,far_val])) ?_;refine kA 4 ?_;intro aU cD H;refine kN ?_;refine kS 1 ?_;intro cE H;refine kN ?_;refine kI 28 ?_ ?_
     ·intro bB hM;refine kDo 0 [0,1,2,5,6,7,8,9,10,11,12] [(0,true),(1,true),(2,true),(4,true),(3,false),(5,false),(6,true),(7,false),(8,false)] ?_;intro cF H;refine kC 5 @balance_desk_to_ok ?_;intro cG r4 hM H;refine kN ?_;refine d_l rfl ?_;refine t_mentL (i:=4) (kenc:=I) (venc:=encFar) (m:=mp) (k:=(r4:Int)) (z:=default) keyIntFar Tryz.underlying316 Al319.h H rfl rfl rfl ?_;intro cH cI H;replace H:=H.nf;refine kN ?_;refine kG 2 ?_;refine t_enstL (i:=4) (kenc:=I) (venc:=encFar) (m0:=mp) (k:=(r4:Int)) (v:=(⟨((((lookM aa (s2:Int)).getD default).cost)+r0:Int),((((lookM aa (s2:Int)).getD default).many)+1:Int),(x.way:Int),x.back⟩:BFar)) (L':=[cBlk aU [I (((lookM mp (r3:Int)).getD default).cost),I (((lookM mp (r3:Int)).getD default).many),I (((lookM mp (r3:Int)).getD default).way),B (((lookM mp (r3:Int)).getD default).back)] 319,cBlk bc [I ((((lookM aa (s2:Int)).getD default).cost)+r0),I ((((lookM aa (s2:Int)).getD default).many)+1),I x.way,B x.back] 319,cBlk aT [I x.way,B x.back] 309,cBlk ae [B s5] 4,cMl I encFar ac (setM mp (r4:Int) (⟨((((lookM aa (s2:Int)).getD default).cost)+r0:Int),((((lookM aa (s2:Int)).getD default).many)+1:Int),(x.way:Int),x.back⟩:BFar)),cMk (aD :: az),cBlk aw [Pq ab] 192,cBlk ax [I av] 3,cBlk aB [I (((lookM aa (s2:Int)).getD default).cost),I (((lookM aa (s2:Int)).getD default).many),I (((lookM aa (s2:Int)).getD default).way),B (((lookM aa (s2:Int)).getD default).back)] 319,cBlk am [.func (.func 187) #[Pq ab] #[]] 311,cBlk al [.map (some ac)] 316,cBlk ak [.func (.func 186) #[] #[Pq ah,Pq ai]] 314,cBlk aj [Pq ab] 192]) H rfl rfl rfl rfl rfl ?_;intro cJ H;refine kN ?_;refine kS 1 ?_;intro cK H;refine kN ?_;refine d_nil ?_;exact ⟨(setM mp (r4:Int) (⟨((((lookM aa (s2:Int)).getD default).cost)+r0:Int),((((lookM aa (s2:Int)).getD default).many)+1:Int),(x.way:Int),x.back⟩:BFar),true),[cBlk ae [B true] 4,cMl I encFar ac (setM mp (r4:Int) (⟨((((lookM aa (s2:Int)).getD default).cost)+r0:Int),((((lookM aa (s2:Int)).getD default).many)+1:Int),(x.way:Int),x.back⟩:BFar))],(M.e_pure hM).symm,rfl,H.pick [3,4,5,6,7,8,9,10,11,12] (by decide) rfl⟩
     intro bB hM;refine W.skip ?_;exact ⟨(mp,s5),[cBlk ae [B s5] 4,cMl I encFar ac mp],(M.e_pure hM).symm,rfl,H.pick [3,4,5,6,7,8,9,10,11,12] (by decide) rfl⟩
    refine kal ?_;intro aU cL H;refine kN ?_;refine kC 1 @balance_desk_to_ok ?_;intro cM r3 hM H;refine kN ?_;refine t_q rfl (fun w' H=>q_look (kenc:=I) (venc:=encFar) (f:=lookM mp) (k:=(r3:Int)) (v:=.tuple #[.agg #[I (((lookM mp (r3:Int)).getD default).cost),I (((lookM mp (r3:Int)).getD default).many),I (((lookM mp (r3:Int)).getD default).way),B (((lookM mp (r3:Int)).getD default).back)],B ((lookM mp (r3:Int)).isSome)]) keyIntFar Tryz.underlying316 Al319.h rfl rfl (mlMap (H.get (k:=3) rfl)) true (by rw [if_pos rfl,far_val])) ?_;refine kS 4 ?_;intro cN H;refine kN ?_;refine kI 28 ?_ ?_
    ·intro bC hM;refine kDo 0 [0,1,2,5,6,7,8,9,10,11,12] [(0,true),(1,true),(2,true),(4,true),(3,false),(5,false),(6,true),(7,false),(8,false)] ?_;intro cO H;refine kC 5 @balance_desk_to_ok ?_;intro cP r4 hM H;refine kN ?_;refine d_l rfl ?_;refine t_mentL (i:=4) (kenc:=I) (venc:=encFar) (m:=mp) (k:=(r4:Int)) (z:=default) keyIntFar Tryz.underlying316 Al319.h H rfl rfl rfl ?_;intro cQ cR H;replace H:=H.nf;refine kN ?_;refine kG 2 ?_;refine t_enstL (i:=4) (kenc:=I) (venc:=encFar) (m0:=mp) (k:=(r4:Int)) (v:=(⟨((((lookM aa (s2:Int)).getD default).cost)+r0:Int),((((lookM aa (s2:Int)).getD default).many)+1:Int),(x.way:Int),x.back⟩:BFar)) (L':=[cBlk aU [I (((lookM mp (r3:Int)).getD default).cost),I (((lookM mp (r3:Int)).getD default).many),I (((lookM mp (r3:Int)).getD default).way),B (((lookM mp (r3:Int)).getD default).back)] 319,cBlk bc [I ((((lookM aa (s2:Int)).getD default).cost)+r0),I ((((lookM aa (s2:Int)).getD default).many)+1),I x.way,B x.back] 319,cBlk aT [I x.way,B x.back] 309,cBlk ae [B s5] 4,cMl I encFar ac (setM mp (r4:Int) (⟨((((lookM aa (s2:Int)).getD default).cost)+r0:Int),((((lookM aa (s2:Int)).getD default).many)+1:Int),(x.way:Int),x.back⟩:BFar)),cMk (aD :: az),cBlk aw [Pq ab] 192,cBlk ax [I av] 3,cBlk aB [I (((lookM aa (s2:Int)).getD default).cost),I (((lookM aa (s2:Int)).getD default).many),I (((lookM aa (s2:Int)).getD default).way),B (((lookM aa (s2:Int)).getD default).back)] 319,cBlk am [.func (.func 187) #[Pq ab] #[]] 311,cBlk al [.map (some ac)] 316,cBlk ak [.func (.func 186) #[] #[Pq ah,Pq ai]] 314,cBlk aj [Pq ab] 192]) H rfl rfl rfl rfl rfl ?_;intro cS H;refine kN ?_;refine kS 1 ?_;intro cT H;refine kN ?_;refine d_nil ?_;exact ⟨(setM mp (r4:Int) (⟨((((lookM aa (s2:Int)).getD default).cost)+r0:Int),((((lookM aa (s2:Int)).getD default).many)+1:Int),(x.way:Int),x.back⟩:BFar),true),[cBlk ae [B true] 4,cMl I encFar ac (setM mp (r4:Int) (⟨((((lookM aa (s2:Int)).getD default).cost)+r0:Int),((((lookM aa (s2:Int)).getD default).many)+1:Int),(x.way:Int),x.back⟩:BFar))],(M.e_pure hM).symm,rfl,H.pick [3,4,5,6,7,8,9,10,11,12] (by decide) rfl⟩
    intro bC hM;refine W.skip ?_;exact ⟨(mp,s5),[cBlk ae [B s5] 4,cMl I encFar ac mp],(M.e_pure hM).symm,rfl,H.pick [3,4,5,6,7,8,9,10,11,12] (by decide) rfl⟩
   replace H:St w bu (cAll (cObj aI (.loop aR) :: [cBlk ae [B s6] 4,cMl I encFar ac aa]) :: [cMk (aD :: az),cBlk aw [Pq ab] 192,cBlk ax [I av] 3,cBlk aB [I (((lookM aa (s2:Int)).getD default).cost),I (((lookM aa (s2:Int)).getD default).many),I (((lookM aa (s2:Int)).getD default).way),B (((lookM aa (s2:Int)).getD default).back)] 319,cBlk am [.func (.func 187) #[Pq ab] #[]] 311,cBlk al [.map (some ac)] 316,cBlk ak [.func (.func 186) #[] #[Pq ah,Pq ai]] 314,cBlk aj [Pq ab] 192]) R:=St.bundleB (A:=cObj aI (.loop aR) :: [cBlk ae [B s6] 4,cMl I encFar ac aa]) (T:=[cMk (aD :: az),cBlk aw [Pq ab] 192,cBlk ax [I av] 3,cBlk aB [I (((lookM aa (s2:Int)).getD default).cost),I (((lookM aa (s2:Int)).getD default).many),I (((lookM aa (s2:Int)).getD default).way),B (((lookM aa (s2:Int)).getD default).back)] 319,cBlk am [.func (.func 187) #[Pq ab] #[]] 311,cBlk al [.map (some ac)] 316,cBlk ak [.func (.func 186) #[] #[Pq ah,Pq ai]] 314,cBlk aj [Pq ab] 192]) rfl (H.pk [0,2,3,1,4,5,6,7,8,9,10]);refine (balance_desk_steps_1_ok (M.yl (m_balance_desk_reach_186_b4 d_ways_all d_ways_outside d_reaches ao ap aq au s2 aa)) (.inl (aa,s6)) d_ways_all d_ways_outside d_reaches av hYC ⟨_,rfl,rfl⟩ (aF.app _) aK (aG.app _) (Has.here (k:=1) rfl) (Has.here (k:=2) rfl) bt _ (H.gt 8)).mono ?_;rintro vq cU ⟨bD,cV,rfl,hvq,aC,bf⟩;replace H:=H.back aC rfl;clear aC hYC;rcases bD with ⟨mp,s5⟩ | _
   ·obtain ⟨_,rfl,rfl⟩:=bf;refine ⟨_,[cBlk ae [B s5] 4,cMl I encFar ac mp,cBlk aw [Pq ab] 192,cBlk ax [I av] 3,cBlk aB [I (((lookM aa (s2:Int)).getD default).cost),I (((lookM aa (s2:Int)).getD default).many),I (((lookM aa (s2:Int)).getD default).way),B (((lookM aa (s2:Int)).getD default).back)] 319,cBlk am [.func (.func 187) #[Pq ab] #[]] 311,cBlk al [.map (some ac)] 316,cBlk ak [.func (.func 186) #[] #[Pq ah,Pq ai]] 314,cBlk aj [Pq ab] 192],H.unbundle.pick [0,3,1,2,4,5,6,7,8,9,10] (by decide) rfl,aS.nb,?_⟩;intro cW H;rw [aS.pd];replace H:=H.nf
    try simp only []
    replace H:=H.pk [0,1,2,6,7,8,9];refine WD.of ?_;obtain ⟨cX,hM⟩:=M.e_gq hM;exact kXp 4 [1,3,4,2,5,6,0]
   obtain ⟨_,_,h_⟩:=bf; exact h_.elim
  replace hM:=M.e_f hM aA;replace aA:=dI aA;refine WD.of ?_;refine W.exit ?_;obtain rfl:=M.e_inr hM br;replace hM:=bo;refine WD.seq<|WD.of ?_;refine kg 3 ?_;refine WD.of ?_;refine kA 1 ?_;intro cY cZ H;refine ksw ?_;intro c4 H
  exact kXp 1 [0,2,3,4,5,6,7]
 replace hM:=M.e_f hM aP;refine WD.of ?_;refine W.exit ?_;obtain rfl:=M.e_inr hM bm;replace hM:=bh;replace H:=H.pk [2,3,6];refine WD.seq<|WD.of ?_;refine kg 4 ?_;refine WD.of ?_;refine W.ret ?_;refine bodyD_r (H.pk [2,0,1]) ?_;intro c6 H;replace H:=H.nf
 have bE:=M.e_pure hM;exact ⟨_,resE_tmp rfl,⟨aH,ac,bE,rfl,(H.pk [1])⟩⟩

def m_balance_desk_shift_b0 (d_ways_outside d_reaches at_:Int) (up:Bool) (most:Int):((List BWay) × Int)->M (((List BWay) × Int) ⊕ (Int × (List BWay) × (List BWay))):=fun (l,total) =>
  bif decide (total<most) then (
  M.bind (m_balance_desk_room l d_ways_outside d_reaches (⟨(at_:Int),(!up)⟩:BStep)) fun (r0,r1) =>
  M.bind (m_balance_desk_to l d_ways_outside d_reaches (⟨(at_:Int),(!up)⟩:BStep)) fun r2 =>
  M.bind (m_balance_desk_to l d_ways_outside d_reaches (⟨(at_:Int),up⟩:BStep)) fun r3 =>
  M.bind (m_balance_desk_reach_186 l d_ways_outside d_reaches r2 l d_ways_outside d_reaches at_) fun r4 =>
  bif ((!((lookM r4 (r3:Int)).isSome))||(decide (0<r0))) then (
  M.pure (.inr (total,l,l)))
  else (
  M.gi (most-total) <|
  M.bind (m_balance_desk_moved l d_ways_outside d_reaches r2 r3 r4 (min r1 (most-total))) fun (r5,l_d_ways_all) =>
  bif up then (
  M.grd (decide ((0:Int)<=at_)&&decide (at_<(l_d_ways_all.length:Int))) <|
  M.gi (((l_d_ways_all.getD (Int.toNat at_) default).now)+r5) <|
  M.gi (total+r5) <|
  M.pure (.inl (l_d_ways_all.set (Int.toNat at_) ({ (l_d_ways_all.getD (Int.toNat at_) default) with now:=((l_d_ways_all.getD (Int.toNat at_) default).now)+r5 }),total+r5)))
  else (
  M.fail)))
  else (
  M.fail)
def m_balance_desk_shift (d_ways_all:List BWay) (d_ways_outside d_reaches at_:Int) (up:Bool) (most:Int):M (Int × (List BWay)) :=
  M.bind (M.iter (m_balance_desk_shift_b0 d_ways_outside d_reaches at_ up most) (d_ways_all,0)) fun (total2,l2,l3) =>
  M.pure (total2,l3)
theorem balance_desk_shift_ok {R aa ah}(d_ways_all d_ways_outside d_reaches at_ up most){r}(hM:(m_balance_desk_shift d_ways_all d_ways_outside d_reaches at_ up most).Ends r)(w)(H:St w w [cOwn (α:=BWay) 203 ah d_ways_all,cBlk aa [ah,I d_ways_outside,I d_reaches] 200] R):Ret Tryz.prog 137 #[Pq aa,I at_,B up,I most] w fun v w'=>∃ y0 y1 u0,(y0,y1)=r/\v=I y0/\St w w' [cOwn (α:=BWay) 203 u0 y1,cBlk aa [u0,I d_ways_outside,I d_reaches] 200] R:=by
 refine ret_of_W Tryz.func137 rfl rfl rfl ?_;refine kB 2 ?_;intro ab az H;refine kbx ?_;intro ac aA H;refine kg 4 ?_;refine s_val (x_mf (fs:=[]) (cs:=[Pq ab,Pq ac]) rfl rfl) ?_;refine kA 1 ?_;intro ai aB H;refine ksw ?_;intro aC H;refine kA 7 ?_;intro aj aD H;refine ksw ?_;intro aE H;refine kg 7 ?_;obtain ⟨al,ak,am⟩:=M.e_bind hM;obtain ⟨aF,ak⟩:=M.e_iter ak;refine W.loop (fun m σ W=>∃ (l:List BWay) (total:Int) (ae:Value) (ρ:Env),σ=upds ρ [(2,B up),(3,I most),(4,Pq ab),(5,Pq ac),(9,Pq ai),(10,Pq aj),(11,I total)]/\M.iterN (m_balance_desk_shift_b0 d_ways_outside d_reaches at_ up most) m (l,total)=some al/\St w W [cBlk aj [I at_,B (!up)] 309,cBlk ai [.func (.func 186) #[] #[Pq ab,Pq ac]] 314,cBlk ac [I at_] 3,cBlk ab [Pq aa] 192,cOwn (α:=BWay) 203 ae l,cBlk aa [ae,I d_ways_outside,I d_reaches] 200] R) ?_ ?_
 ·exact kY
 rintro aG σ aH ⟨l,total,ae,ρ,rfl,ao,H⟩;obtain ⟨aI,aJ,aK,hM,ap⟩:=M.e_iterN ao;refine kI 7 ?_ ?_
 ·intro aq hM;refine kC 6 @balance_desk_room_ok ?_;intro aL r0 r1 hM H;refine kDo 7 [0,1,2,3,4,5] [(0,true),(1,true),(3,true),(4,true),(5,true),(6,true),(2,false),(7,false),(8,true),(9,true)] ?_;intro aM H;refine kC 7 @balance_desk_to_ok ?_;intro aN r2 hM H;refine kN ?_;refine kC 1 @balance_desk_to_ok ?_;intro aO r3 hM H;refine kN ?_;refine kC 8 @balance_desk_reach_186_ok ?_;intro aP r4 au hM H;refine kg 7 ?_;refine s_val (q_look (kenc:=I) (venc:=encFar) (f:=lookM r4) (k:=(r3:Int)) (v:=.tuple #[.agg #[I (((lookM r4 (r3:Int)).getD default).cost),I (((lookM r4 (r3:Int)).getD default).many),I (((lookM r4 (r3:Int)).getD default).way),B (((lookM r4 (r3:Int)).getD default).back)],B ((lookM r4 (r3:Int)).isSome)]) keyIntFar Tryz.underlying316 Al319.h rfl rfl (mlMap (H.get (k:=0) rfl)) true (by rw [if_pos rfl,far_val])) ?_;refine kA 3 ?_;intro aQ aR H;refine ksw ?_;intro aS H;refine kI 11 ?_ ?_
  ·intro av hM;refine W.exit ?_;obtain rfl:=M.e_inr hM ap;replace hM:=am;replace H:=H.pk [6,7];refine kg 5 ?_;exact rt
  intro av hM;obtain ⟨aT,hM⟩:=M.e_gq hM;refine kg 12 ?_;obtain ⟨aU,aw,hM⟩:=M.e_bind hM;refine s_call cq [Pq aa,I r2,I r3,.map (some au),I (min r1 (most-total))] rfl (balance_desk_moved_ok l d_ways_outside d_reaches r2 r3 r4 (min r1 (most-total)) (Has.here (k:=1) rfl) aw _ ((H.pk [6,7,0,1,2,3,4,5]).gt 6)) ?_;rintro _ aV ⟨r5,l_d_ways_all,aW,rfl,rfl,ax⟩;replace H:=H.pk [6,7,0,1,2,3,4,5] |>.bk ax
  refine kg 2 ?_;replace H:=H.pk [0,1,4,5,6,7];refine kI 5 ?_ ?_
  ·intro ay hM;refine kDo 0 [1,2,3,4,5] [(0,true),(1,true),(2,true),(3,true),(4,true),(5,true),(9,true),(6,false),(7,false),(8,false),(10,true),(11,false),(12,false),(13,false)] ?_;intro aX H;refine kG 8 ?_;obtain ⟨aY,hM⟩:=M.e_gq hM;refine kG 1 ?_;refine kN ?_;refine kG 2 ?_;refine kN ?_;refine kG 2 ?_;refine kN ?_;obtain ⟨aZ,hM⟩:=M.e_gq hM;refine kG 3 ?_;refine kN ?_;refine kG 2 ?_;refine kN ?_;refine kO 1 (α:=BWay) ({ (l_d_ways_all.getD (Int.toNat at_) default) with now:=((l_d_ways_all.getD (Int.toNat at_) default).now)+r5 }) ?_;intro a6 H;have a7:(l_d_ways_all.set (Int.toNat at_) ({ (l_d_ways_all.getD (Int.toNat at_) default) with now:=((l_d_ways_all.getD (Int.toNat at_) default).now)+r5 })).length=(l_d_ways_all).length:=List.length_set;refine kN ?_;obtain ⟨a8,hM⟩:=M.e_gq hM;exact kXp 7 [2,3,4,5,0,1]
  intro ay hM;exact (M.e_fail hM).elim
 intro aq hM;exact (M.e_fail hM).elim

def m_balance_desk_span (d_ways_all:List BWay) (d_ways_outside d_reaches at_:Int):M (Int × Int) :=
  M.bind (m_balance_desk_copied d_ways_all d_ways_outside d_reaches) fun (r0,r1,r2) =>
  M.bind (m_balance_desk_copied d_ways_all d_ways_outside d_reaches) fun (aa,ab,ac) =>
  M.bind (m_balance_desk_shift r0 r1 r2 at_ false 100000000) fun (r3,l_d_ways_all) =>
  M.bind (m_balance_desk_shift aa ab ac at_ true 100000000) fun (r4,l_d_ways_all2) =>
  M.grd (decide ((0:Int)<=at_)&&decide (at_<(l_d_ways_all.length:Int))) <|
  M.grd (decide ((0:Int)<=at_)&&decide (at_<(l_d_ways_all2.length:Int))) <|
  M.pure (((l_d_ways_all.getD (Int.toNat at_) default).now),((l_d_ways_all2.getD (Int.toNat at_) default).now))
theorem balance_desk_span_ok {R ab ac ae}(d_ways_all d_ways_outside d_reaches at_)(ap:Reads R ac)(aq:Sl ac ae d_ways_all)(au:Has R (cBlk ab [ae,I d_ways_outside,I d_reaches] 200)){r}(hM:(m_balance_desk_span d_ways_all d_ways_outside d_reaches at_).Ends r)(w)(H:St w w [] R):Ret Tryz.prog 90 #[Pq ab,I at_] w fun v w'=>∃ y0 y1,(y0,y1)=r/\v = .agg #[I y0,I y1]/\St w w' [] R:=by
 refine ret_of_W Tryz.func90 rfl rfl rfl ?_;refine kA 2 ?_;intro av aw H;refine kC 4 @balance_desk_copied_ok ?_;intro ax r0 r1 r2 ah ay hM H;refine kC 1 @balance_desk_copied_ok ?_;intro az ai aj ak al aA hM H;refine kg 7 ?_;obtain ⟨aB,am,hM⟩:=M.e_bind hM;refine s_call cq [Pq ah,I at_,B false,I 100000000] rfl (balance_desk_shift_ok r0 r1 r2 at_ false 100000000 am _ ((H.pk [3,2,0,1,4]).gt 3)) ?_;rintro _ aC ⟨r3,l_d_ways_all,aD,rfl,rfl,aa⟩;replace H:=H.pk [3,2,0,1,4] |>.bk aa
 refine kg 5 ?_;obtain ⟨aE,ao,hM⟩:=M.e_bind hM;refine s_call cq [Pq al,I at_,B true,I 100000000] rfl (balance_desk_shift_ok ai aj ak at_ true 100000000 ao _ ((H.pk [3,2,0,1,4]).gt 3)) ?_;rintro _ aF ⟨r4,l_d_ways_all2,aG,rfl,rfl,aa⟩;replace H:=H.pk [3,2,0,1,4] |>.bk aa
 refine kD 2 [0,1,2,3] [19] ?_;intro aH H;obtain ⟨aI,hM⟩:=M.e_gq hM;obtain ⟨aJ,hM⟩:=M.e_gq hM;refine kS 20 ?_;intro aK H;refine kN ?_;refine d_nil ?_;replace H:=H.pk [4];exact kR 0 []

end Go.Proofs.YtbgoclcmgbpckabGreat
end
section
set_option maxRecDepth 100000
set_option maxHeartbeats 16000000
namespace Go.Proofs.YtbgoclcmgbpckabGreat
open Go Go.Nm
attribute [local irreducible] gd execOp SL SLD SLT WR
def m_balance_Group_b0 (n_Gains:List Span) (stations:List Int) (r2:Int):(Int × Nat)->M ((Int × Nat) ⊕ Unit):=fun (last,s) =>
  bif decide ((s:Int)<(stations.length:Int)) then (
  M.grd (decide ((s:Int)<(stations.length:Int))) <|
  M.grd ((!(r2==0)||(decide ((-9223372036854775808:Int)<=(last+1))&&decide ((last+1)<=(9223372036854775807:Int))))) <|
  M.bind (M.opt (r2==0) (m_balance_in (stations.getD s 0) (last+1) ((n_Gains.length:Int)-1)) false) fun r3 =>
  bif ((r2==0)&&(!r3)) then (
  M.fail)
  else (
  M.pure (.inl (stations.getD s 0,s+1))))
  else (
  M.pure (.inr ()))
def m_balance_Group_b1 (stations:List Int) (ab aa:Int):((List BWay) × Int × Nat)->M (((List BWay) × Int × Nat) ⊕ ((List BWay) × Int × (List BWay))):=fun (l,total,s2) =>
  bif decide ((s2:Int)<(stations.length:Int)) then (
  M.grd (decide ((s2:Int)<(stations.length:Int))) <|
  M.gi (aa+(stations.getD s2 0)) <|
  M.grd (decide ((0:Int)<=(aa+(stations.getD s2 0)))&&decide ((aa+(stations.getD s2 0))<(l.length:Int))) <|
  M.gi (total+(((l.set (Int.toNat (aa+(stations.getD s2 0))) ({ (l.getD (Int.toNat (aa+(stations.getD s2 0))) default) with src:=ab+1 })).getD (Int.toNat (aa+(stations.getD s2 0))) default).now)) <|
  M.pure (.inl (l.set (Int.toNat (aa+(stations.getD s2 0))) ({ (l.getD (Int.toNat (aa+(stations.getD s2 0))) default) with src:=ab+1 }),total+(((l.set (Int.toNat (aa+(stations.getD s2 0))) ({ (l.getD (Int.toNat (aa+(stations.getD s2 0))) default) with src:=ab+1 })).getD (Int.toNat (aa+(stations.getD s2 0))) default).now),s2+1)))
  else (
  M.pure (.inr (l,total,l)))
def m_balance_Group (n_Gains:List Span) (n_Reaches:List BRch) (stations:List Int):M (Int × Int × Int) :=
  M.bind (m_balance_Check n_Gains n_Reaches) fun r2 =>
  M.bind (M.iter (m_balance_Group_b0 n_Gains stations r2) (-1,0)) fun (_:Unit) =>
  bif ((r2==0)&&((stations.length:Int)==0)) then (
  M.fail)
  else (
  bif r2 != 0 then (
  M.fail)
  else (
  M.bind (m_balance_fitting n_Gains n_Reaches) fun (ac,ae,ah,r1) =>
  bif r1 != 0 then (
  M.fail)
  else (
  M.bind (m_balance_desk_copied ac ae ah) fun (r0,aa,ab) =>
  M.gi (aa+1) <|
  M.bind (M.iter (m_balance_Group_b1 stations aa ab) (r0,0,0)) fun (l2,total2,l3) =>
  M.grd (decide ((r0.length:Int)=(l3.length:Int))) <|
  M.grd (decide (0<l3.length)&&decide (0<([(⟨(aa:Int),(aa+1:Int),(-100000000:Int),(100000000:Int),(total2:Int)⟩:BWay)]).length)&&decide ((l3.length+([(⟨(aa:Int),(aa+1:Int),(-100000000:Int),(100000000:Int),(total2:Int)⟩:BWay)]).length)*40<=140737488355328)) <|
  M.bind (m_balance_desk_span (l3++([(⟨(aa:Int),(aa+1:Int),(-100000000:Int),(100000000:Int),(total2:Int)⟩:BWay)])) aa ab (r0.length:Int)) fun (ai,aj) =>
  M.pure (ai,aj,0))))
theorem balance_Group_ok {R am ai ao aj ap ae}(n_Gains n_Reaches stations)(a7:Reads R am)(az:Sl am ai n_Gains)(a8:Reads R ao)(ba:Sl ao aj n_Reaches)(bb:Reads R ap)(ak:Sl ap ae stations){r}(hM:(m_balance_Group n_Gains n_Reaches stations).Ends r)(w)(H:St w w [] R):Ret Tryz.prog 43 #[.agg #[ai,aj],ae] w fun v w'=>∃ y0 y1 y2,(y0,y1,y2)=r/\v = .tuple #[.agg #[I y0,I y1],I y2]/\St w w' [] R:=by
 refine ret_of_W Tryz.func43 rfl rfl rfl ?_;refine kB 2 ?_;intro aq bc H;refine kal ?_;intro ah bf H;refine kC 5 @balance_Check_ok ?_;intro bg r2 hM H;have bh:=(ak).len_le;refine kg 14 ?_;obtain ⟨aA,au,aB⟩:=M.e_bind hM;obtain ⟨aC,au⟩:=M.e_iter au;refine W.loop (fun m σ W=>∃ (last:Int) (s:Nat) (ρ:Env),σ=upds ρ [(1,ae),(2,Pq aq),(4,Pq ah),(6,I r2),(7,I last),(19,ae),(20,I (stations.length:Int)),(21,I (s:Int))]/\M.iterN (m_balance_Group_b0 n_Gains stations r2) m (last,s)=some aA/\St w W [cBlk ah [I 0,I 0] 27,cBlk aq [ai,aj] 133] R) ?_ ?_
 ·exact kY
 rintro bi σ bj ⟨last,s,ρ,rfl,aD,H⟩;obtain ⟨bm,bn,bo,hM,aE⟩:=M.e_iterN aD;refine kI 5 ?_ ?_
 ·intro aF hM;obtain ⟨bp,hM⟩:=M.e_gq hM;obtain ⟨al,hM⟩:=M.e_grd hM;replace al:=M.imp_of al;simp only [Bool.and_eq_true,decide_eq_true_eq] at al;have br:=(az).len_le;refine kg 22 ?_;obtain ⟨r3,aG,hM⟩:=M.e_bind hM;refine t_gcall (r2==0) (gy_t rfl) cq (B r3) (fun _=>[I (stations.getD s 0),I (last+1),I ((n_Gains.length:Int)-1)]) (fun hg=>lst3 (gd_of hg (I (stations.getD s 0))) (gd_of hg (I (last+1))) (gd_of hg (I ((n_Gains.length:Int)-1)))) H (fun hg=>(balance_in_ok (stations.getD s 0) (last+1) ((n_Gains.length:Int)-1) (M.e_opt aG hg) _ (H.give (A:=[]) rfl)).mono fun v_ w_ ⟨y_,aH,aI,H_⟩=>by subst aH; exact ⟨aI,H.via H_⟩) ?_;intro bt H;refine kI 3 ?_ ?_
  ·intro aJ hM;exact (M.e_fail hM).elim
  intro aJ hM;exact kX 9
 intro aF hM;refine W.exit ?_;obtain rfl:=M.e_inr hM aE;replace hM:=aB;have bu:=(ak).len_le;refine kI 11 ?_ ?_
 ·intro aK hM;exact (M.e_fail hM).elim
 intro aK hM;refine kI 7 ?_ ?_
 ·intro aL hM;exact (M.e_fail hM).elim
 intro aL hM;refine kC 4 @balance_fitting_ok ?_;intro bv bw bx bz r1 bA bB hM H;refine kI 12 ?_ ?_
 ·intro aM hM;exact (M.e_fail hM).elim
 intro aM hM;refine kC 4 @balance_desk_copied_ok ?_;intro bC r0 aa ab av bD hM H;refine kg 2 ?_;replace H:=H.pk [0,1,4];refine kD 1 [0,1,2] [] ?_;intro bE H;obtain ⟨bF,hM⟩:=M.e_gq hM;have bG:=((H.os 1)).len_le;have bH:=(ak).len_le;refine kg 27 ?_;obtain ⟨aN,aw,aO⟩:=M.e_bind hM;obtain ⟨aC,aw⟩:=M.e_iter aw;refine W.loop (fun m σ W=>∃ (l:List BWay) (total:Int) (s2:Nat) (ac:Value) (ρ:Env),σ=upds ρ [(4,Pq ah),(10,Pq av),(11,I (aa+1)),(12,I (r0.length:Int)),(13,I total),(74,ae),(75,I (stations.length:Int)),(76,I (s2:Int))]/\M.iterN (m_balance_Group_b1 stations aa ab) m (l,total,s2)=some aN/\St w W [cBlk av [ac,I aa,I ab] 200,cOwn (α:=BWay) 203 ac l,cBlk ah [I 0,I 0] 27] R) ?_ ?_
 ·exact kY
 rintro bI σ bJ ⟨l,total,s2,ac,ρ,rfl,aP,H⟩;obtain ⟨bK,bL,bM,hM,aQ⟩:=M.e_iterN aP;refine kI 5 ?_ ?_
 ·intro aR hM;obtain ⟨bN,hM⟩:=M.e_gq hM;refine kD 10 [0,1,2] [] ?_;intro bO H;obtain ⟨bP,hM⟩:=M.e_gq hM;obtain ⟨bQ,hM⟩:=M.e_gq hM;refine kg 18 ?_;refine s_val (x_ncE (p:=vat ac 5 (Int.toNat (ab+(stations.getD s2 0)))) rfl (Sl.pl (i:=ab+(stations.getD s2 0)) (H.os 1) (by omega) (by omega))) ?_;refine kO 1 (α:=BWay) ({ (l.getD (Int.toNat (ab+(stations.getD s2 0))) default) with src:=aa+1 }) ?_;intro bR H;have bS:(l.set (Int.toNat (ab+(stations.getD s2 0))) ({ (l.getD (Int.toNat (ab+(stations.getD s2 0))) default) with src:=aa+1 })).length=(l).length:=List.length_set;refine kg 4 ?_;refine s_val (x_ncE (p:=vat ac 5 (Int.toNat (ab+(stations.getD s2 0)))) rfl (Sl.pl (i:=ab+(stations.getD s2 0)) (H.os 1) (by omega) (by omega))) ?_;obtain ⟨bT,hM⟩:=M.e_gq hM;exact kX 9
 intro aR hM;refine W.exit ?_;obtain rfl:=M.e_inr hM aQ;replace hM:=aO;refine kDT 1 [1,2] (.q 0 (.q 1 (.q 2 (.q 3 (.q 4 (.q 6 (.q 7 (.q 9 (.q 10 (.q 11 (.q 12 (.q 14 (.q 15 (.q 16 (.l2 5 (.q 8 (.l 13 (.q 17 (.l 18 (.l 19 (.q 20 (.q 21 (.q 22 (.l 23 .nil))))))))) 13 (.q 17 (.l2 5 (.q 8 (.l 18 (.l 19 (.q 20 (.q 21 (.q 22 (.l 23 .nil))))))) 18 (.l 5 (.q 8 (.l 19 (.q 20 (.q 21 (.q 22 (.l 23 .nil)))))))))))))))))))))))) ?_;intro bU H;refine kG 13 ?_;obtain ⟨bV,hM⟩:=M.e_gq hM;obtain ⟨bW,hM⟩:=M.e_gq hM;refine kg 1 ?_;refine t_l2 rfl rfl ?_ ?_
 ·refine kG 1 ?_;refine kN ?_;obtain ⟨aS,aT,aU⟩:=sl_full T196.h.und T196.h.size (H.os 1) (j:=(r0.length:Int)) (by omega);refine t_q rfl (fun w' H=>x_sl (v:=ac) (u:=(.slice aS l.length l.length)) (lo':=none) (hi':=some (I (r0.length:Int))) (mx':=some (I (r0.length:Int))) rfl rfl rfl rfl (aT _)) ?_;refine kG 2 ?_;refine kN ?_;refine kL 2 (α:=BWay) [⟨aa,aa+1,-100000000,100000000,total⟩] ?_;intro bX bY H;refine kN ?_;refine t_l rfl ?_;refine t_app3 (α:=BWay) (l:=l) (l2:=[(⟨(aa:Int),(aa+1:Int),(-100000000:Int),(100000000:Int),(total:Int)⟩:BWay)]) T196.h H rfl rfl aU (H.ol 2) (H.os 0) (H.ol 0) (by omega) (by omega) (by omega) (by omega) ?_;intro bZ b4 H;refine kN ?_;refine kS 4 ?_;intro b6 H;refine kN ?_;refine t_nil ?_;replace H:=H.pk [0,2,4];refine kC 4 @balance_desk_span_ok ?_;intro b7 ax ay hM H;refine ksw ?_;intro b8 H;refine kg 2 ?_;replace H:=H.pk [2];exact kR 0 []
 refine kG 1 ?_;refine kN ?_;refine kG 1 ?_;refine t_l2 rfl rfl ?_ ?_
 ·refine kG 1 ?_;refine kN ?_;obtain ⟨aV,aW,aX⟩:=sl_full T196.h.und T196.h.size (H.os 1) (j:=(r0.length:Int)) (by omega);refine t_q rfl (fun w' H=>x_sl (v:=ac) (u:=(.slice aV l.length l.length)) (lo':=none) (hi':=some (I (r0.length:Int))) (mx':=some (I (r0.length:Int))) rfl rfl rfl rfl (aW _)) ?_;refine kL 1 (α:=BWay) [⟨aa,aa+1,-100000000,100000000,total⟩] ?_;intro b9 cb H;refine kN ?_;refine t_l rfl ?_;refine t_app3 (α:=BWay) (l:=l) (l2:=[(⟨(aa:Int),(aa+1:Int),(-100000000:Int),(100000000:Int),(total:Int)⟩:BWay)]) T196.h H rfl rfl aX (H.ol 2) (H.os 0) (H.ol 0) (by omega) (by omega) (by omega) (by omega) ?_;intro cc cd H;refine kN ?_;refine kS 4 ?_;intro ce H;refine kN ?_;refine t_nil ?_;replace H:=H.pk [0,2,4];refine kC 4 @balance_desk_span_ok ?_;intro cf ax ay hM H;refine ksw ?_;intro cg H;refine kg 2 ?_;replace H:=H.pk [2];exact kR 0 []
 refine kL 0 (α:=BWay) [⟨aa,aa+1,-100000000,100000000,total⟩] ?_;intro ch cj H;refine kN ?_;refine kG 2 ?_;refine kN ?_;obtain ⟨aY,aZ,a6⟩:=sl_full T196.h.und T196.h.size (H.os 2) (j:=(r0.length:Int)) (by omega);refine t_q rfl (fun w' H=>x_sl (v:=ac) (u:=(.slice aY l.length l.length)) (lo':=none) (hi':=some (I (r0.length:Int))) (mx':=some (I (r0.length:Int))) rfl rfl rfl rfl (aZ _))<|t_l rfl ?_;refine t_app3 (α:=BWay) (l:=l) (l2:=[(⟨(aa:Int),(aa+1:Int),(-100000000:Int),(100000000:Int),(total:Int)⟩:BWay)]) T196.h H rfl rfl a6 (H.ol 2) (H.os 0) (H.ol 0) (by omega) (by omega) (by omega) (by omega) ?_;intro ck cn H;refine kN ?_;refine kS 4 ?_;intro cp H;refine kN ?_;refine t_nil ?_;replace H:=H.pk [0,2,4];refine kC 4 @balance_desk_span_ok ?_;intro cr ax ay hM H;refine ksw ?_;intro ct H;refine kg 2 ?_;replace H:=H.pk [2]
 exact kR 0 []

end Go.Proofs.YtbgoclcmgbpckabGreat
end
section
set_option maxRecDepth 100000
set_option maxHeartbeats 16000000
namespace Go.Proofs.YtbgoclcmgbpckabGreat
open Go Go.Nm
attribute [local irreducible] gd execOp SL SLD SLT WR
def zbA (ac:List Int) (ae:List Span) (ah:List Int) (ai:List Town) (aa ab:Int) (aj:List Flood) (station:Int):M (Int × Int × Int) :=
  M.pure (station,aa,ab)
theorem zch {R ai aa aj ab ak ac al ae am ah}(ao ap aq au av aw ax station)(aC:Reads R ai)(aD:Sl ai aa ao)(aE:Reads R aj)(aF:Sl aj ab ap)(aG:Reads R ak)(aH:Sl ak ac aq)(aI:Reads R al)(aJ:Sl al ae au)(aK:Reads R am)(aL:Sl am ah ax){r}(hM:(zbA ao ap aq au av aw ax station).Ends r)(w)(H:St w w [] R):Ret Tryz.prog 149 #[.agg #[aa,ab,ac,ae,I av,I aw,ah],I station] w fun v w'=>∃ y0 y1 y2 ay az,(y0,y1,y2)=r/\v = .func (.func 205) #[] #[Pq ay,Pq az]/\St w w' [cBlk ay [I y0] 3,cBlk az [aa,ab,ac,ae,I y1,I y2,ah] 146] R:=by
 refine ret_of_W Tryz.func149 rfl rfl rfl ?_;refine kB 2 ?_;intro aA aM H;refine kbx ?_;intro aB aN H;refine kg 4 ?_;refine s_val (x_mf (fs:=[]) (cs:=[Pq aB,Pq aA]) rfl rfl) ?_;refine kg 2 ?_;exact rt

def zel {T_:Type} (ab:T_->(Int × Int)->M (Bool × T_)) (aa:List Int):(Int × Nat × T_)->M ((Int × Nat × T_) ⊕ ((T_ × Int) ⊕ (T_ × Int))):=fun (s,s2,t2) =>
  bif ((s != (-1))&&(decide (s<(aa.length:Int)))) then (
  M.bind (ab t2 ((s2:Int),s)) fun (go,t) =>
  bif !go then (
  M.pure (.inr (.inl (t,s))))
  else (
  M.grd (decide ((0:Int)<=s)&&decide (s<(aa.length:Int))) <|
  M.gi ((s2:Int)+1) <|
  M.pure (.inl (aa.getD (Int.toNat s) 0,s2+1,t))))
  else (
  M.pure (.inr (.inr (t2,s))))
def za5 {T_:Type} (aa:T_->(Int × Int)->M (Bool × T_)) (t_:T_) (ab:Int) (ac:List Int) (ae:List Span) (ah:List Int) (ai:List Town) (aj ak:Int) (al:List Flood):M (T_ × Int) :=
  M.bind (M.iter (zel aa ac) (ab,0,t_)) fun x_=>match x_ with
  | (.inl (t3,s3))=>(
  M.pure (t3,s3))
  | (.inr (t4,s4))=>(
  M.pure (t4,s4))
theorem zc2 {R:List Chunk} {T_:Type} {Y_:T_->List Chunk->Prop} {ac:Value} {ae:List Chunk} {aa:Nat} {ah:Nat} {ao:Cells} {ap:Value} {aq:Cells} {au:Value} {av:Cells} {aw:Value} {ax:Cells} {ay:Value} {az:Cells} {aA:Value} (ai:T_->(Int × Int)->M (Bool × T_)) (t_:T_) (aj:Int) (ab:List Int) (aB:List Span) (aC:List Int) (aD:List Town) (aE:Int) (aF:Int) (aG:List Flood) (aK:YieldC Tryz.prog R arII Y_ ac ai) (aL:Y_ t_ ae) (aU:Reads R ao) (aM:Sl ao ap ab) (aV:Reads R aq) (aW:Sl aq au aB) (aX:Reads R av) (aY:Sl av aw aC) (aZ:Reads R ax) (a6:Sl ax ay aD) (a7:Reads R az) (a8:Sl az aA aG) (ba:Has R (cBlk ah [ap,au,aw,ay,I aE,I aF,aA] 146)) {r:(T_ × Int)} (hM:(za5 ai t_ aj ab aB aC aD aE aF aG).Ends r) (w:World) (H:St w w [cAll ae,cBlk aa [I aj] 3] R):Ret Tryz.prog 205 #[ac,Pq aa,Pq ah] w fun v w'=>∃ (y0:T_) (y1:Int) (Ls0:List Chunk),(y0,y1)=r/\v = .tuple #[]/\St w w' [cAll Ls0,cBlk aa [I y1] 3] R/\Y_ y0 Ls0:=by
 refine ret_of_W Tryz.func205 rfl rfl rfl ?_;refine kg 5 ?_;obtain ⟨aN,ak,aH⟩:=M.e_bind hM;obtain ⟨bb,ak⟩:=M.e_iter ak;refine W.loop (fun m σ W=>∃ (s:Int) (s2:Nat) (t2:T_) (Ls_t2:List Chunk) (ρ:Env),σ=upds ρ [(0,ac),(1,Pq aa),(2,Pq ah),(4,I (s2:Int))]/\M.iterN (zel ai ab) m (s,s2,t2)=some aN/\St w W [cAll Ls_t2,cBlk aa [I s] 3] R/\Y_ t2 Ls_t2) ?_ ?_
 ·exact ⟨_,aj,0,t_,ae,_,jQ,ak,H,aL⟩
 rintro bc σ bf ⟨s,s2,t2,Ls_t2,ρ,rfl,aO,H,hY_t2⟩;obtain ⟨aP,aQ,bg,hM,al⟩:=M.e_iterN aO;have bh:=(aM).len_le;refine kI 13 ?_ ?_
 ·intro aR hM;refine kg 9 ?_;obtain ⟨⟨go,t⟩,aS,hM⟩:=M.e_bind hM;refine t_yield (L:=[cBlk aa [I s] 3]) H aK hY_t2 rfl [I (s2:Int),I s] rfl ((s2:Int),s) Reads.none rfl aS ?_;intro aI bi aJ H;replace H:=H.nf;refine kI 2 ?_ ?_
  ·intro aT hM;refine W.ret ?_;obtain rfl:=M.e_inr hM al;replace hM:=aH;have am:=M.e_pure hM;exact ⟨_,resE_tmp0 rfl,⟨t,s,aI,am,rfl,H,aJ⟩⟩
  intro aT hM;obtain ⟨bj,hM⟩:=M.e_gq hM;refine kS 7 ?_;intro bm H;obtain ⟨bn,hM⟩:=M.e_gq hM;refine kg 6 ?_;exact ⟨aP,aQ,ab.getD (Int.toNat s) 0,s2+1,t,aI,_,jQ,M.e_inl hM al,H,aJ⟩
 intro aR hM;refine W.exit ?_;obtain rfl:=M.e_inr hM al;replace hM:=aH;have am:=M.e_pure hM;exact ⟨_,resE_tmp0 rfl,⟨t2,s,Ls_t2,am,rfl,H,hY_t2⟩⟩
def zeq (l:List Span):(Int × Int × Nat)->M ((Int × Int × Nat) ⊕ (Int × Int)):=fun (s,s2,s3) =>
  bif decide ((s3:Int)<(l.length:Int)) then (
  M.grd (decide ((s3:Int)<(l.length:Int))) <|
  M.gi (s+((l.getD s3 default).lo)) <|
  M.gi (s2+((l.getD s3 default).hi)) <|
  M.pure (.inl (s+((l.getD s3 default).lo),s2+((l.getD s3 default).hi),s3+1)))
  else (
  M.pure (.inr (s,s2)))
def zem (l:List Span):M (Int × Int) :=
  M.bind (M.iter (zeq l) (0,0,0)) fun (s4,s5) =>
  M.pure (s4,s5)
theorem zfi {R ab aa}(l)(ap:Reads R ab)(ai:Sl ab aa l){r}(hM:(zem l).Ends r)(w)(H:St w w [] R):Ret Tryz.prog 237 #[aa] w fun v w'=>∃ y0 y1,(y0,y1)=r/\v = .agg #[I y0,I y1]/\St w w' [] R:=by
 refine ret_of_W Tryz.func237 rfl rfl rfl ?_;refine kA 2 ?_;intro ac aq H;refine kA 3 ?_;intro ae au H;have av:=(ai).len_le;refine kg 9 ?_;obtain ⟨aj,ah,ak⟩:=M.e_bind hM;obtain ⟨aw,ah⟩:=M.e_iter ah;refine W.loop (fun m σ W=>∃ (s:Int) (s2:Int) (s3:Nat) (ρ:Env),σ=upds ρ [(2,Pq ac),(3,Pq ae),(6,aa),(7,I (l.length:Int)),(8,I (s3:Int))]/\M.iterN (zeq l) m (s,s2,s3)=some aj/\St w W [cBlk ae [I s,I s2] 27,cBlk ac [I 0,I 0] 27] R) ?_ ?_
 ·exact kY
 rintro ax σ ay ⟨s,s2,s3,ρ,rfl,al,H⟩;obtain ⟨az,aA,aB,hM,am⟩:=M.e_iterN al;refine kI 5 ?_ ?_
 ·intro ao hM;obtain ⟨aC,hM⟩:=M.e_gq hM;refine kA 7 ?_;intro aD aE H;refine ksw ?_;intro aF H;obtain ⟨aG,hM⟩:=M.e_gq hM;obtain ⟨aH,hM⟩:=M.e_gq hM;refine kS 13 ?_;intro aI H;exact kXp 5 [1,2]
 intro ao hM;refine W.exit ?_;obtain rfl:=M.e_inr hM am;replace hM:=ak;refine kS 3 ?_;intro aJ H;exact kR 1 []

def zaJ (aa:List Span) (ab:Int):(List Span)->(Int × Int)->M ((List Span) ⊕ ((List Span) × (List Span) × Int × Int)):=fun l (x,x2) =>
  bif x2==ab then (
  M.bind (zem l) fun (r0,r1) =>
  M.pure (.inr (l,l,r0,r1)))
  else (
  M.grd (decide ((0:Int)<=x2)&&decide (x2<(aa.length:Int))) <|
  M.grd (decide ((l.length+([(aa.getD (Int.toNat x2) default)]).length)*16<=140737488355328)) <|
  M.pure (.inl (l++([(aa.getD (Int.toNat x2) default)]))))
def zcg (ab:List Int) (aa:List Span) (ac:List Int) (ae:List Town) (ai aj:Int) (ah:List Flood) (ak al:Int):M (Int × Int × Bool) :=
  M.bind (zbA ab aa ac ae ai aj ah ak) fun (am,ao,ap) =>
  M.bind (za5 (M.yl (zaJ aa al)) (.inl ([])) am ab aa ac ae ao ap ah) fun x_=>match x_ with
  | (.inl l,q0)=>(
  M.pure (0,0,false))
  | (.inr (l2,l3,s,s2),q0)=>(
  M.pure (s,s2,true))
theorem zed {R ap aW aj aX ak aY al aZ am a6 ao bi}(aG aa aH aI aC aD aJ a7 ab)(aK:Reads R aW)(a8:Sl aW aj aG)(aL:Reads R aX)(ba:Sl aX ak aa)(aM:Reads R aY)(bb:Sl aY al aH)(aN:Reads R aZ)(bc:Sl aZ am aI)(aO:Reads R a6)(bf:Sl a6 ao aJ)(aP:Has R (cBlk ap [aj,ak,al,am,I aC,I aD,ao,.map (some bi)] 266)){r}(hM:(zcg aG aa aH aI aC aD aJ a7 ab).Ends r)(w)(H:St w w [] R):Ret Tryz.prog 202 #[Pq ap,I a7,I ab] w fun v w'=>∃ y0 y1 y2,(y0,y1,y2)=r/\v = .tuple #[.agg #[I y0,I y1],B y2]/\St w w' [] R:=by
 refine ret_of_WD Tryz.func202 rfl rfl rfl ?_;replace H:St w w [cMk ([])] R:=H.mk0;have bA:=a8.len_le;have bB:=ba.len_le;have bC:=bb.len_le;have bD:=bc.len_le;have bE:=bf.len_le;unfold zcg at hM;refine WD.seq<|WD.of ?_;refine kB 1 ?_;intro ay bF H;refine kbx ?_;intro az bG H;refine kal ?_;intro ac bH H;refine kal ?_;intro ae bI H;refine s_nil<|WD.seq<|WD.of ?_;refine kA 1 ?_;intro ah bJ H;refine s_nil<|WD.seq<|WD.seq<|WD.of ?_;refine kg 4 ?_;refine s_val (x_ld (v:=.agg #[aj,ak,al,am,I aC,I aD,ao]) rfl (ldb_ag (ds:=[aj,ak,al,am,I aC,I aD,ao]) Ag146.h Sz146.h (aP.blk H) rfl rfl)) ?_;refine kC 1 @zch ?_;intro bK aE av aw aA ax hM H;refine s_nil<|WD.block ?_
 replace H:=H.nilOwn (α:=Span) 27;obtain ⟨bL,bj,hM⟩:=M.e_bind hM;refine WD.range (L:=[cOwn (α:=Span) 27 (.slice none 0 0) ([]),cBlk ah [(.slice none 0 0)] 23,cBlk ae [B false] 4,cBlk ac [I 0,I 0] 27,cBlk ax [aj,ak,al,am,I av,I aw,ao] 146,cBlk az [I ab] 3,cBlk ay [Pq ap] 212,cBlk aA [I aE] 3]) [Pq aA,Pq ax] (H.pk [8,0,3,4,5,2,6,7,1]) rfl cq ?_;intro aF aQ aR bm aS H;have hYC:YieldC Tryz.prog ([cMk (aQ :: ([])),cBlk ax [aj,ak,al,am,I av,I aw,ao] 146,cBlk az [I ab] 3,cBlk ay [Pq ap] 212]++R) arII (yJ aF aR (fun l aq=>∃ (ai:Value),aq=[cOwn (α:=Span) 27 ai l,cBlk ah [ai] 23,cBlk ae [B false] 4,cBlk ac [I 0,I 0] 27]) (fun (l2,l3,s,s2) aq=>∃ (au:Value),aq=[cOwn (α:=Span) 27 au l3,cBlk ah [au] 23,cBlk ae [B true] 4,cBlk ac [I s,I s2] 27]) (fun _=>.ret)) (.func (.yield aF) #[] #[]) (M.yl (zaJ aa ab)):=by
  refine YieldC.mk aS (fun l aq=>∃ (ai:Value),aq=[cOwn (α:=Span) 27 ai l,cBlk ah [ai] 23,cBlk ae [B false] 4,cBlk ac [I 0,I 0] 27]) (fun (l2,l3,s,s2) aq=>∃ (au:Value),aq=[cOwn (α:=Span) 27 au l3,cBlk ah [au] 23,cBlk ae [B true] 4,cBlk ac [I s,I s2] 27]) (fun _=>.ret) (zaJ aa ab) (by rintro l _ h_; obtain ⟨_,rfl⟩:=h_; rfl) (by rintro ⟨l2,l3,s,s2⟩ _ h_; (obtain ⟨_,rfl⟩:=h_; rfl)) rfl (arII_len rfl) ?_;intro C_ bM x_ W_ bn;obtain ⟨x,x2⟩:=x_;obtain rfl:=bn;refine kg 3 ?_;refine ⟨rfl,rfl,?_⟩;intro w R aB aq s_ r bo hM H
  skip
  obtain ⟨l,bp⟩:∃ y_,y_=s_:=⟨_,rfl⟩
  subst bp;obtain ⟨ai,rfl⟩:=bo;replace aK:=aK.sub aB;replace aL:=aL.sub aB;replace aM:=aM.sub aB;replace aN:=aN.sub aB;replace aO:=aO.sub aB;replace aP:=aP.sub aB;replace hM:(zaJ aa ab l (x,x2)).Ends r:=hM;simp only [zaJ] at hM;replace H:=H.pk [0,1,2,3,5,6,7,4];refine kI 8 ?_ ?_
  ·intro br hM;refine kC 3 @zfi ?_;intro bN r0 r1 hM H;refine ksw ?_;intro bO H;refine ksw ?_;intro bP H;refine s_nil ?_;refine W.ret ?_;exact ⟨(l,l,r0,r1),[cOwn (α:=Span) 27 ai l,cBlk ah [ai] 23,cBlk ae [B true] 4,cBlk ac [I r0,I r1] 27],(M.e_pure hM).symm,⟨ai,rfl⟩,H.pick [0,1,2,3,7,4,5,6] (by decide) rfl,rfl⟩
  intro br hM;refine kDT 1 [2,3,4,5,6,7] (.q 1 (.q 2 (.q 3 (.q 4 (.q 5 (.q 6 (.q 7 (.q 8 (.l2 0 (.l 9 (.l 10 (.l 11 .nil))) 9 (.l 0 (.l 10 (.l 11 .nil)))))))))))) ?_;intro bQ H;obtain ⟨bR,hM⟩:=M.e_gq hM;obtain ⟨bS,hM⟩:=M.e_gq hM;refine kg 8 ?_;refine t_l2 rfl rfl ?_ ?_
  ·refine kG 1 ?_;refine kN ?_;refine kL 1 (α:=Span) [(aa.getD (Int.toNat x2) default)] ?_;intro bT bU H;refine kN ?_;refine kP 1 ?_;intro aT bV H;refine kN ?_;refine kS 1 ?_;intro bW H;refine kN ?_;refine t_nil ?_;exact ⟨l++([(aa.getD (Int.toNat x2) default)]),[cOwn (α:=Span) 27 aT (l++([(aa.getD (Int.toNat x2) default)])),cBlk ah [aT] 23,cBlk ae [B false] 4,cBlk ac [I 0,I 0] 27],(M.e_pure hM).symm,⟨aT,rfl⟩,H.pick [1,2,3,4,8,5,6,7] (by decide) rfl⟩
  refine kL 0 (α:=Span) [(aa.getD (Int.toNat x2) default)] ?_;intro bX bY H;refine kN ?_;refine kG 2 ?_;refine kN ?_;refine kP 1 ?_;intro aU bZ H;refine kN ?_;refine kS 1 ?_;intro b4 H;refine kN ?_;refine t_nil ?_;exact ⟨l++([(aa.getD (Int.toNat x2) default)]),[cOwn (α:=Span) 27 aU (l++([(aa.getD (Int.toNat x2) default)])),cBlk ah [aU] 23,cBlk ae [B false] 4,cBlk ac [I 0,I 0] 27],(M.e_pure hM).symm,⟨aU,rfl⟩,H.pick [1,2,3,4,8,5,6,7] (by decide) rfl⟩
 replace H:St w bm (cAll (cObj aF (.loop aR) :: [cOwn (α:=Span) 27 (.slice none 0 0) ([]),cBlk ah [(.slice none 0 0)] 23,cBlk ae [B false] 4,cBlk ac [I 0,I 0] 27]) :: [cBlk aA [I aE] 3,cMk (aQ :: ([])),cBlk ax [aj,ak,al,am,I av,I aw,ao] 146,cBlk az [I ab] 3,cBlk ay [Pq ap] 212]) R:=St.bundleB (A:=cObj aF (.loop aR) :: [cOwn (α:=Span) 27 (.slice none 0 0) ([]),cBlk ah [(.slice none 0 0)] 23,cBlk ae [B false] 4,cBlk ac [I 0,I 0] 27]) (T:=[cBlk aA [I aE] 3,cMk (aQ :: ([])),cBlk ax [aj,ak,al,am,I av,I aw,ao] 146,cBlk az [I ab] 3,cBlk ay [Pq ap] 212]) rfl (H.pk [0,2,3,4,5,9,1,6,7,8]);refine (zc2 (M.yl (zaJ aa ab)) (.inl ([])) aE aG aa aH aI av aw aJ hYC ⟨_,rfl,⟨(.slice none 0 0),rfl⟩⟩ (aK.app _) a8 (aL.app _) ba (aM.app _) bb (aN.app _) bc (aO.app _) bf (Has.here (k:=1) rfl) bj _ (H.gt 4)).mono ?_;rintro vq b6 ⟨bt,q0,b7,rfl,hvq,bg,bh⟩;replace H:=H.back bg rfl;clear bg hYC;rcases bt with l | ⟨l2,l3,s,s2⟩
 ·obtain ⟨_,rfl,ai,rfl⟩:=bh;refine ⟨_,[cOwn (α:=Span) 27 ai l,cBlk ah [ai] 23,cBlk ae [B false] 4,cBlk ac [I 0,I 0] 27,cBlk ax [aj,ak,al,am,I av,I aw,ao] 146,cBlk az [I ab] 3,cBlk ay [Pq ap] 212,cBlk aA [I q0] 3],H.unbundle.pick [0,6,1,2,3,4,7,8,9,5] (by decide) rfl,aS.nb,?_⟩;intro bu H;rw [aS.pd];replace H:=H.nf
  try simp only []
  replace H:=H.pk [0,3,4];refine WD.seq<|WD.of ?_;refine kS 2 ?_;intro b8 H;refine ksw ?_;intro b9 H;refine s_nil<|WD.of ?_;refine W.ret ?_;refine bodyD_r (H.pk [0,1,2]) ?_;intro cb H;replace H:=H.nf
  have bv:=(H.bl 1)
  have bw:=(H.bl 0)
  have aV:=M.e_pure hM;exact ⟨_,(resE_ofn (vs:=[.agg #[I 0,I 0],B false]) rfl rfl (.cell (v:=.agg #[I 0,I 0]) rfl (run_loadVar_ag (ds:=[I 0,I 0]) Ag27.h Sz27.h bv rfl rfl)<|.cell (v:=B false) rfl (run_loadVar_sc Sc4.h bw rfl)<|.nil)),⟨0,0,false,aV,rfl,(H.pk [])⟩⟩
 obtain ⟨_,rfl,au,rfl⟩:=bh;refine ⟨_,[cOwn (α:=Span) 27 au l3,cBlk ah [au] 23,cBlk ae [B true] 4,cBlk ac [I s,I s2] 27,cBlk ax [aj,ak,al,am,I av,I aw,ao] 146,cBlk az [I ab] 3,cBlk ay [Pq ap] 212,cBlk aA [I q0] 3],H.unbundle.pick [0,6,1,2,3,4,7,8,9,5] (by decide) rfl,nofun,?_⟩;intro bu H;show WD _ _ _ (.ret) _ _ _;refine WD.of ?_;refine W.ret ?_;replace H:=H.nf;refine bodyD_r (H.pk [0,1,2,3,4,5,6,7,8]) ?_;intro cc H;replace H:=H.nf;have bx:=(H.bl 3)
 have bz:=(H.bl 2)
 have aV:=M.e_pure hM;exact ⟨_,(resE_ofn (vs:=[.agg #[I s,I s2],B true]) rfl rfl (.cell (v:=.agg #[I s,I s2]) rfl (run_loadVar_ag (ds:=[I s,I s2]) Ag27.h Sz27.h bx rfl rfl)<|.cell (v:=B true) rfl (run_loadVar_sc Sc4.h bz rfl)<|.nil)),⟨s,s2,true,aV,rfl,(H.pk [])⟩⟩

def zaK (ac:List Int) (ae:List Span) (ah:List Int) (aa:List Town) (ai ab:Int) (aj:List Flood) (d:Dem):(List Int)->(Int × Int)->M ((List Int) ⊕ Unit):=fun l (x,x2) =>
  M.bind (zcg ac ae ah aa ai ab aj x2 ((aa.getD (Int.toNat d.town) default).station)) fun (ak,al,r1) =>
  M.grd ((!r1||(decide ((-9223372036854775808:Int)<=(((aa.getD (Int.toNat d.town) default).lead)+ab))&&decide ((((aa.getD (Int.toNat d.town) default).lead)+ab)<=(9223372036854775807:Int))))) <|
  bif (r1&&(decide ((((aa.getD (Int.toNat d.town) default).lead)+ab)<=ak))) then (
  M.grd (decide ((l.length+([(x2:Int)]).length)*8<=140737488355328)) <|
  M.pure (.inl (l++([(x2:Int)]))))
  else (
  M.pure (.inl l))
def zaa (ab:List Int) (ac:List Span) (ae:List Int) (aa:List Town) (ai aj:Int) (ah:List Flood) (d:Dem):M (List Int) :=
  M.grd (decide ((0:Int)<=d.town)&&decide (d.town<(aa.length:Int))) <|
  M.bind (zbA ab ac ae aa ai aj ah d.spring) fun (ak,al,am) =>
  M.bind (za5 (M.yl (zaK ab ac ae aa ai aj ah d)) (.inl ([])) ak ab ac ae aa al am ah) fun x_=>match x_ with
  | (.inl l,q0)=>(
  M.pure l)
  | (.inr _,_)=>M.fail
theorem zdu {R ay a6 ao a7 ap a8 aq ba au bb av ah aw}(ai aj ak aa ac ae al d)(aL:Reads R a6)(bc:Sl a6 ao ai)(aM:Reads R a7)(bf:Sl a7 ap aj)(aN:Reads R a8)(bg:Sl a8 aq ak)(aO:Reads R ba)(bh:Sl ba au aa)(aP:Reads R bb)(bi:Sl bb av al)(aQ:Has R (cBlk ay [ao,ap,aq,au,I ac,I ae,av,.map (some ah)] 266)){r}(hM:(zaa ai aj ak aa ac ae al d).Ends r)(w)(H:St w w [cMem encDm ah aw (zaa ai aj ak aa ac ae al)] R):Ret Tryz.prog 145 #[Pq ay,.agg #[I d.spring,I d.town]] w fun v w'=>∃ y0 u0 bj,y0=r/\v=u0/\St w w' [cMem encDm ah bj (zaa ai aj ak aa ac ae al)] R/\Sl bj.cells u0 y0:=by
 refine ret_of_WD Tryz.func145 rfl rfl rfl ?_;replace H:St w w [cMk ([]),cMem encDm ah aw (zaa ai aj ak aa ac ae al)] R:=H.mk0;have bE:=bc.len_le;have bF:=bf.len_le;have bG:=bg.len_le;have bH:=bh.len_le;have bI:=bi.len_le;unfold zaa at hM;have hM0:=hM;obtain ⟨am,H,aR⟩:=St.memOpen H (i:=1) rfl;replace H:=H.nf;cases aS:am d with
 | none =>
  refine WD.seq<|WD.of ?_;refine kB 1 ?_;intro az bJ H;refine kbx ?_;intro aA bK H;refine kg 2 ?_;refine WD.seq<|WD.seq<|WD.of ?_;refine kD 0 [0,1,3,4] [5] ?_;intro bL H;refine kG 6 ?_;refine s_val (q_look (kenc:=encDm) (venc:=id) (f:=am) (k:=d) (z:=.slice none 0 0) (v:=.tuple #[.slice none 0 0,B false]) keyDem Tryz.underlying264 (by kernel_rfl) rfl rfl (H.get (k:=2) rfl) true (by simp [aS])) ?_;refine kN ?_;refine kg 6 ?_;refine WD.seq<|WD.of ?_;refine kg 3 ?_
  refine WD.cond false rfl (fun bm=>?_) (fun bm=>?_)
  ·exact absurd bm (by decide)
  refine WD.of<|W.skip<|WD.seq<|WD.of ?_;refine kA 1 ?_;intro ax bM H;refine s_nil<|WD.seq<|WD.of ?_;refine kD 0 [0,1,2,3,4,5] [9,10] ?_;intro bN H;obtain ⟨bO,hM⟩:=M.e_gq hM;refine kA 10 ?_;intro aF bP H;refine kN ?_;refine kS 1 ?_;intro bQ H;refine kN ?_;refine d_nil<|WD.seq<|WD.seq<|WD.of ?_;refine kD 0 [0,1,2,3,4,5,6] [6] ?_;intro bR H;refine kg 3 ?_;refine d_q rfl (fun w' H=>x_ld (v:=.agg #[ao,ap,aq,au,I ac,I ae,av]) rfl (ldb_ag (ds:=[ao,ap,aq,au,I ac,I ae,av]) Ag146.h Sz146.h (aQ.blk H) rfl rfl)) ?_;refine kC 3 @zch ?_;intro bS aH aB aC aG aD hM H;refine kN ?_;refine d_nil<|WD.block ?_
  replace H:=H.nilOwn (α:=Int) 3;obtain ⟨bT,br,hM⟩:=M.e_bind hM;refine WD.range (L:=[cOwn (α:=Int) 3 (.slice none 0 0) ([]),cBlk ax [(.slice none 0 0)] 24,cBlk aD [ao,ap,aq,au,I aB,I aC,av] 146,cBlk aF [I ((aa.getD (Int.toNat d.town) default).station),I ((aa.getD (Int.toNat d.town) default).lead),I ((aa.getD (Int.toNat d.town) default).alarm)] 219,cBlk aA [I d.spring,I d.town] 271,cBlk az [Pq ay] 212,cMap encDm id ah am,cRx aw,cBlk aG [I aH] 3]) [Pq aG,Pq aD] (H.pk [9,0,4,2,3,5,6,7,8,1]) rfl cq ?_;intro aI aJ aT bt aU H;have hYC:YieldC Tryz.prog ([cMk (aJ :: ([])),cBlk aD [ao,ap,aq,au,I aB,I aC,av] 146,cBlk aF [I ((aa.getD (Int.toNat d.town) default).station),I ((aa.getD (Int.toNat d.town) default).lead),I ((aa.getD (Int.toNat d.town) default).alarm)] 219,cBlk aA [I d.spring,I d.town] 271,cBlk az [Pq ay] 212,cMap encDm id ah am,cRx aw]++R) arII (yJ aI aT (fun l aK=>∃ (ab:Value),aK=[cOwn (α:=Int) 3 ab l,cBlk ax [ab] 24]) (fun (_:Unit) _=>False) (fun _=>.ret)) (.func (.yield aI) #[] #[]) (M.yl (zaK ai aj ak aa ac ae al d)):=by
   refine YieldC.mk aU (fun l aK=>∃ (ab:Value),aK=[cOwn (α:=Int) 3 ab l,cBlk ax [ab] 24]) (fun (_:Unit) _=>False) (fun _=>.ret) (zaK ai aj ak aa ac ae al d) (by rintro l _ h_; obtain ⟨_,rfl⟩:=h_; rfl) (fun _ _ h_=>h_.elim) rfl (arII_len rfl) ?_;intro C_ bU x_ W_ bu;obtain ⟨x,x2⟩:=x_;obtain rfl:=bu;refine kg 3 ?_;refine ⟨rfl,rfl,?_⟩;intro w R aE aK s_ r bv hM H
   skip
   obtain ⟨l,bw⟩:∃ y_,y_=s_:=⟨_,rfl⟩
   subst bw;obtain ⟨ab,rfl⟩:=bv;replace aL:=aL.sub aE;replace aM:=aM.sub aE;replace aN:=aN.sub aE;replace aO:=aO.sub aE;replace aP:=aP.sub aE;replace aQ:=aQ.sub aE;replace hM:(zaK ai aj ak aa ac ae al d l (x,x2)).Ends r:=hM;simp only [zaK] at hM;replace H:=H.pk [0,1,3,4,5,6,7,8,2];refine kC 7 @zed ?_;intro bV bW bX r1 hM H;refine kA 3 ?_;intro bY bZ H;refine ksw ?_;intro b4 H;refine kD 3 [0,1,2,3,4,5,6,7,8,9] [] ?_;intro b6 H;obtain ⟨aV,hM⟩:=M.e_grd hM;replace aV:=M.imp_of aV;simp only [Bool.and_eq_true,decide_eq_true_eq] at aV;refine kI 16 ?_ ?_
   ·intro bx hM;refine kL 3 (α:=Int) [x2] ?_;intro b7 b8 H;obtain ⟨b9,hM⟩:=M.e_gq hM;refine kP 0 ?_;intro aW cb H;refine kS 0 ?_;intro cc H;refine s_nil ?_;exact ⟨l++([(x2:Int)]),[cOwn (α:=Int) 3 aW (l++([(x2:Int)])),cBlk ax [aW] 24],(M.e_pure hM).symm,⟨aW,rfl⟩,H.pick [2,3,10,4,5,6,7,8,9] (by decide) rfl⟩
   intro bx hM;refine W.skip ?_;exact ⟨l,[cOwn (α:=Int) 3 ab l,cBlk ax [ab] 24],(M.e_pure hM).symm,⟨ab,rfl⟩,H.pick [1,2,9,3,4,5,6,7,8] (by decide) rfl⟩
  replace H:St w bt (cAll (cObj aI (.loop aT) :: [cOwn (α:=Int) 3 (.slice none 0 0) ([]),cBlk ax [(.slice none 0 0)] 24]) :: [cBlk aG [I aH] 3,cMk (aJ :: ([])),cBlk aD [ao,ap,aq,au,I aB,I aC,av] 146,cBlk aF [I ((aa.getD (Int.toNat d.town) default).station),I ((aa.getD (Int.toNat d.town) default).lead),I ((aa.getD (Int.toNat d.town) default).alarm)] 219,cBlk aA [I d.spring,I d.town] 271,cBlk az [Pq ay] 212,cMap encDm id ah am,cRx aw]) R:=St.bundleB (A:=cObj aI (.loop aT) :: [cOwn (α:=Int) 3 (.slice none 0 0) ([]),cBlk ax [(.slice none 0 0)] 24]) (T:=[cBlk aG [I aH] 3,cMk (aJ :: ([])),cBlk aD [ao,ap,aq,au,I aB,I aC,av] 146,cBlk aF [I ((aa.getD (Int.toNat d.town) default).station),I ((aa.getD (Int.toNat d.town) default).lead),I ((aa.getD (Int.toNat d.town) default).alarm)] 219,cBlk aA [I d.spring,I d.town] 271,cBlk az [Pq ay] 212,cMap encDm id ah am,cRx aw]) rfl (H.pk [0,2,3,10,1,4,5,6,7,8,9]);refine (zc2 (M.yl (zaK ai aj ak aa ac ae al d)) (.inl ([])) aH ai aj ak aa aB aC al hYC ⟨_,rfl,⟨(.slice none 0 0),rfl⟩⟩ (aL.app _) bc (aM.app _) bf (aN.app _) bg (aO.app _) bh (aP.app _) bi (Has.here (k:=1) rfl) br _ (H.gt 7)).mono ?_;rintro vq cd ⟨bz,q0,ce,rfl,hvq,bn,bo⟩;replace H:=H.back bn rfl;clear bn hYC;rcases bz with l | _
  ·obtain ⟨_,rfl,ab,rfl⟩:=bo;refine ⟨_,[cOwn (α:=Int) 3 ab l,cBlk ax [ab] 24,cBlk aD [ao,ap,aq,au,I aB,I aC,av] 146,cBlk aF [I ((aa.getD (Int.toNat d.town) default).station),I ((aa.getD (Int.toNat d.town) default).lead),I ((aa.getD (Int.toNat d.town) default).alarm)] 219,cBlk aA [I d.spring,I d.town] 271,cBlk az [Pq ay] 212,cMap encDm id ah am,cRx aw,cBlk aG [I q0] 3],H.unbundle.pick [0,4,1,2,5,6,7,8,9,10,3] (by decide) rfl,aU.nb,?_⟩;intro cf H;rw [aU.pd];replace H:=H.nf
   try simp only []
   replace H:=H.pk [0,1,2,5,6,7,8];refine WD.seq<|WD.of ?_;refine kD 0 [0,1,2,3,4,6] [6] ?_;intro cg H;refine kG 7 ?_;refine t_mapu (i:=5) (kenc:=encDm) (venc:=id) (f:=am) (k:=d) (v:=ab) (L':=[cMk (aJ :: ([])),cOwn (α:=Int) 3 ab l,cBlk ax [ab] 24,cBlk aA [I d.spring,I d.town] 271,cBlk az [Pq ay] 212,cMap encDm id ah (updF am d ab),cRx aw]) keyDem Tryz.underlying264 H rfl rfl rfl rfl rfl ?_;intro ch H;refine kN ?_;refine d_nil ?_;replace H:=H.pk [0,1,2,5,6];refine WD.seq<|WD.of ?_;refine kg 4 ?_;refine WD.of ?_;refine W.ret ?_;refine bodyD_r (H.pk [0,1,2,3,4]) ?_;intro cj H;replace H:=H.nf
   obtain ⟨bA,ck,bB,H⟩:=St.memShut1 (H.pk [2,3,0,1]) aR (by rw [M.e_pure hM]; exact hM0);replace H:=H.nf;have aX:=M.e_pure hM;exact ⟨_,resE_tmp rfl,⟨l,ab,bA,aX,rfl,(H.pk [0]),bB⟩⟩
  obtain ⟨_,_,h_⟩:=bo; exact h_.elim
 | some aY =>
  obtain ⟨aZ,bC,bD⟩:=aR d aY aS;obtain rfl:=M.Ends.det bC hM0;replace hM:(M.pure aZ).Ends aZ:=M.i_pure;refine WD.seq<|WD.of ?_;refine kB 1 ?_;intro az cn H;refine kbx ?_;intro aA cp H;refine kg 2 ?_;refine WD.seq<|WD.seq<|WD.of ?_;refine kD 0 [0,1,3,4] [5] ?_;intro cr H;refine kG 6 ?_;refine s_val (q_look (kenc:=encDm) (venc:=id) (f:=am) (k:=d) (z:=.slice none 0 0) (v:=.tuple #[aY,B true]) keyDem Tryz.underlying264 (by kernel_rfl) rfl rfl (H.get (k:=2) rfl) true (by simp [aS])) ?_;refine kN ?_;refine kg 6 ?_;refine WD.seq<|WD.of ?_;refine kg 3 ?_
  refine WD.cond true rfl (fun bp=>?_) (fun bp=>?_)
  ·refine WD.seq<|WD.of ?_;refine kg 4 ?_;replace H:=H.pk [2,3,4];refine WD.of ?_;refine W.ret ?_;refine bodyD_r (H.pk [2,0,1]) ?_;intro ct H;replace H:=H.nf
   replace H:=St.memShut (H.pk [0,1]) aR;replace H:=H.nf;have aX:=M.e_pure hM;exact ⟨_,resE_tmp rfl,⟨aZ,aY,aw,aX,rfl,H,bD⟩⟩
  exact absurd bp (by decide)

def zam (n aa greatest:Int):M Bool :=
  M.pure ((decide (aa<=n))&&(decide (n<=greatest)))
theorem zao {R}(n aa greatest){r}(hM:(zam n aa greatest).Ends r)(w)(H:St w w [] R):Ret Tryz.prog 194 #[I n,I aa,I greatest] w fun v w'=>∃ y0,y0=r/\v=B y0/\St w w' [] R:=by
 refine ret_of_W Tryz.func194 rfl rfl rfl ?_;refine kg 16 ?_;exact rt

def zdh (s:Span):M Bool :=
  M.bind (zam s.lo 0 s.hi) fun r2 =>
  M.bind (M.opt r2 (zam s.hi 0 1000) false) fun r3 =>
  M.pure (r2&&r3)
theorem zdN {R}(s){r}(hM:(zdh s).Ends r)(w)(H:St w w [] R):Ret Tryz.prog 195 #[.agg #[I s.lo,I s.hi]] w fun v w'=>∃ y0,y0=r/\v=B y0/\St w w' [] R:=by
 refine ret_of_W Tryz.func195 rfl rfl rfl ?_;refine kB 2 ?_;intro ae ah H;refine kC 8 @zao ?_;intro ai r2 hM H;refine kg 3 ?_;obtain ⟨r3,aa,hM⟩:=M.e_bind hM;refine t_gcall r2 (gy_t rfl) cq (B r3) (fun _=>[I s.hi,I 0,I 1000]) (fun hg=>lst3 (gd_of hg (I s.hi)) rfl rfl) H (fun hg=>(zao s.hi 0 1000 (M.e_opt aa hg) _ (H.give (A:=[]) rfl)).mono fun v_ w_ ⟨y_,ab,ac,H_⟩=>by subst ab; exact ⟨ac,H.via H_⟩) ?_;intro aj H;refine kg 3 ?_;exact rt

def zeu (l:List Int) (aa:Int):(Int × Nat)->M ((Int × Nat) ⊕ Unit):=fun (last,s) =>
  bif decide ((s:Int)<(l.length:Int)) then (
  M.grd (decide ((s:Int)<(l.length:Int))) <|
  M.gi (last+1) <|
  M.gi (aa-1) <|
  M.bind (zam (l.getD s 0) (last+1) (aa-1)) fun r2 =>
  bif !r2 then (
  M.fail)
  else (
  M.pure (.inl (l.getD s 0,s+1))))
  else (
  M.pure (.inr ()))
def zeB (l:List Int) (aa:Int):M Bool :=
  M.bind (M.iter (zeu l aa) (-1,0)) fun (_:Unit) =>
  M.pure true
theorem ze2 {R ac ab}(l aa)(ap:Reads R ac)(ah:Sl ac ab l){r}(hM:(zeB l aa).Ends r)(w)(H:St w w [] R):Ret Tryz.prog 196 #[ab,I aa] w fun v w'=>∃ y0,y0=r/\v=B y0/\St w w' [] R:=by
 refine ret_of_W Tryz.func196 rfl rfl rfl ?_;have aq:=(ah).len_le;refine kg 16 ?_;obtain ⟨ai,ae,aj⟩:=M.e_bind hM;obtain ⟨au,ae⟩:=M.e_iter ae;refine W.loop (fun m σ W=>∃ (last:Int) (s:Nat) (ρ:Env),σ=upds ρ [(1,I aa),(5,I last),(8,ab),(9,I (l.length:Int)),(10,I (s:Int))]/\M.iterN (zeu l aa) m (last,s)=some ai/\St w W [] R) ?_ ?_
 ·exact kY
 rintro av σ aw ⟨last,s,ρ,rfl,ak,H⟩;obtain ⟨ax,ay,az,hM,al⟩:=M.e_iterN ak;refine kI 5 ?_ ?_
 ·intro am hM;obtain ⟨aA,hM⟩:=M.e_gq hM;obtain ⟨aB,hM⟩:=M.e_gq hM;obtain ⟨aC,hM⟩:=M.e_gq hM;refine kC 17 @zao ?_;intro aD r2 hM H;refine kI 2 ?_ ?_
  ·intro ao hM;exact (M.e_fail hM).elim
  intro ao hM;exact kX 9
 intro am hM;refine W.exit ?_;obtain rfl:=M.e_inr hM al;replace hM:=aj;refine kg 4 ?_;exact rt

def zeH (s:List Town) (f:Town->M Bool):Nat->M (Nat ⊕ Unit):=fun s2 =>
  bif decide ((s2:Int)<(s.length:Int)) then (
  M.grd (decide ((s2:Int)<(s.length:Int))) <|
  M.bind (f (s.getD s2 default)) fun r2 =>
  bif r2 then (
  M.fail)
  else (
  M.pure (.inl (s2+1))))
  else (
  M.pure (.inr ()))
def zd6 (s:List Town) (f:Town->M Bool):M Int :=
  M.bind (M.iter (zeH s f) 0) fun (_:Unit) =>
  M.pure (-1)
theorem ze5 {R ac aa ab}(s f)(au:Reads R ac)(ah:Sl ac aa s)(ai:FnM Tryz.prog R ab f){r}(hM:(zd6 s f).Ends r)(w)(H:St w w [] R):Ret Tryz.prog 249 #[aa,ab] w fun v w'=>∃ y0,y0=r/\v=I y0/\St w w' [] R:=by
 refine ret_of_W Tryz.func249 rfl rfl rfl ?_;have av:=(ah).len_le;refine kg 12 ?_;obtain ⟨aj,ae,ak⟩:=M.e_bind hM;obtain ⟨aw,ae⟩:=M.e_iter ae;refine W.loop (fun m σ W=>∃ (s2:Nat) (ρ:Env),σ=upds ρ [(0,aa),(1,ab),(7,I (s.length:Int)),(8,I (s2:Int))]/\M.iterN (zeH s f) m s2=some aj/\St w W [] R) ?_ ?_
 ·exact kY
 rintro ax σ ay ⟨s2,ρ,rfl,al,H⟩;obtain ⟨az,aA,aB,hM,am⟩:=M.e_iterN al;refine kI 5 ?_ ?_
 ·intro ao hM;obtain ⟨aC,hM⟩:=M.e_gq hM;refine kg 15 ?_;obtain ⟨r2,ap,hM⟩:=M.e_bind hM;refine t_callM H ai rfl rfl (s.getD s2 default) Reads.none ⟨_,rfl,rfl⟩ ap ?_;intro aD H;refine kI 1 ?_ ?_
  ·intro aq hM;exact (M.e_fail hM).elim
  intro aq hM;exact kX 5
 intro ao hM;refine W.exit ?_;obtain rfl:=M.e_inr hM am;replace hM:=ak;refine kg 4 ?_;exact rt

def zea (s:List Town) (f:Town->M Bool):M Bool :=
  M.bind (zd6 s f) fun r2 =>
  M.pure (decide (0<=r2))
theorem zf8 {R aa ab ac}(s f)(ae:Reads R aa)(ah:Sl aa ab s)(ai:FnM Tryz.prog R ac f){r}(hM:(zea s f).Ends r)(w)(H:St w w [] R):Ret Tryz.prog 234 #[ab,ac] w fun v w'=>∃ y0,y0=r/\v=B y0/\St w w' [] R:=by
 refine ret_of_W Tryz.func234 rfl rfl rfl ?_;refine kC 8 @ze5 ?_;intro aj r2 hM H;refine kg 3 ?_;exact rt

def zdA (x:Town) (aa:Town->M Bool):M Bool :=
  M.bind (aa x) fun r2 =>
  M.pure (!r2)
theorem zgA {R aa ab}(x ac)(ae:FnM Tryz.prog R ab ac)(ai:Has R (cBlk aa [ab] 324)){r}(hM:(zdA x ac).Ends r)(w)(H:St w w [] R):Ret Tryz.prog 235 #[.agg #[I x.station,I x.lead,I x.alarm],Pq aa] w fun v w'=>∃ y0,y0=r/\v=B y0/\St w w' [] R:=by
 refine ret_of_W Tryz.func235 rfl rfl rfl ?_;refine kB 2 ?_;intro aj ak H;refine kg 6 ?_;obtain ⟨r2,ah,hM⟩:=M.e_bind hM;refine t_callM H ae rfl rfl x Reads.none ⟨_,rfl,rfl⟩ ah ?_;intro al H;refine kg 3 ?_;exact rt

def zdw (l:List Town) (so:Town->M Bool):M Bool :=
  M.bind (zea l (fun aa=>zdA aa so)) fun r2 =>
  M.pure (!r2)
theorem zet {R ae aa ah}(l so)(aj:Reads R ae)(ak:Sl ae aa l)(al:FnM Tryz.prog R ah so){r}(hM:(zdw l so).Ends r)(w)(H:St w w [] R):Ret Tryz.prog 197 #[aa,ah] w fun v w'=>∃ y0,y0=r/\v=B y0/\St w w' [] R:=by
 refine ret_of_W Tryz.func197 rfl rfl rfl ?_;refine kB 2 ?_;intro ab az H;refine kg 5 ?_;refine s_val (x_mf (fs:=[]) (cs:=[Pq ab]) rfl rfl) ?_;obtain ⟨aA,am,hM⟩:=M.e_bind hM;refine s_call cq [aa,.func (.func 235) #[] #[Pq ab]] rfl (zf8 l (fun ac=>zdA ac so) (aj.app _) ak ⟨235,[Pq ab],rfl,cq,fun ai aB aC ao ac aD ap aE aq au=>by obtain rfl:=Town_arg aq; exact (zgA ac so (FnM.app (al.app _) _) (Has.app (Has.here (k:=0) rfl) _) au ai (St.refl ap)).mono fun ao ai ⟨aF,av,aw,ax⟩=>by subst av; exact ⟨aw,ax⟩⟩ am _ (H.gt 1)) ?_;rintro _ aG ⟨r2,rfl,rfl,ay⟩;replace H:=H.bk ay;refine kg 3 ?_;exact rt

def zcH (n:Int):M Bool :=
  M.bind (zam n 0 2000) fun r2 =>
  M.pure r2
theorem zeG {R}(n){r}(hM:(zcH n).Ends r)(w)(H:St w w [] R):Ret Tryz.prog 201 #[I n] w fun v w'=>∃ y0,y0=r/\v=B y0/\St w w' [] R:=by
 refine ret_of_W Tryz.func201 rfl rfl rfl ?_;refine kC 7 @zao ?_;intro aa r2 hM H;refine kg 2 ?_;exact rt

def zdx (t:Town):M Bool :=
  M.bind (zam t.lead 0 1000) fun r2 =>
  M.bind (M.opt r2 (zcH t.alarm) false) fun r3 =>
  M.pure (r2&&r3)
theorem zfG {R}(t){r}(hM:(zdx t).Ends r)(w)(H:St w w [] R):Ret Tryz.prog 198 #[.agg #[I t.station,I t.lead,I t.alarm]] w fun v w'=>∃ y0,y0=r/\v=B y0/\St w w' [] R:=by
 refine ret_of_W Tryz.func198 rfl rfl rfl ?_;refine kB 2 ?_;intro ae ah H;refine kC 6 @zao ?_;intro ai r2 hM H;refine kg 3 ?_;obtain ⟨r3,aa,hM⟩:=M.e_bind hM;refine t_gcall r2 (gy_t rfl) cq (B r3) (fun _=>[I t.alarm]) (fun hg=>lst1 (gd_of hg (I t.alarm))) H (fun hg=>(zeG t.alarm (M.e_opt aa hg) _ (H.give (A:=[]) rfl)).mono fun v_ w_ ⟨y_,ab,ac,H_⟩=>by subst ab; exact ⟨ac,H.via H_⟩) ?_;intro aj H;refine kg 3 ?_;exact rt

def zdk (t:Town) (aa:Int):M Bool :=
  M.gi (aa-1) <|
  M.bind (zam t.station 0 (aa-1)) fun r2 =>
  M.pure r2
theorem zeX {R aa}(t ab)(ac:Has R (cBlk aa [I ab] 3)){r}(hM:(zdk t ab).Ends r)(w)(H:St w w [] R):Ret Tryz.prog 199 #[.agg #[I t.station,I t.lead,I t.alarm],Pq aa] w fun v w'=>∃ y0,y0=r/\v=B y0/\St w w' [] R:=by
 refine ret_of_W Tryz.func199 rfl rfl rfl ?_;refine kB 2 ?_;intro ae ah H;obtain ⟨ai,hM⟩:=M.e_gq hM;refine kC 8 @zao ?_;intro aj r2 hM H;refine kg 2 ?_;exact rt

def zdt (x:Int) (aa:Int->M Bool):M Bool :=
  M.bind (aa x) fun r2 =>
  M.pure (!r2)
theorem zf9 {R aa ab}(x ac)(ae:FnM Tryz.prog R ab ac)(ai:Has R (cBlk aa [ab] 112)){r}(hM:(zdt x ac).Ends r)(w)(H:St w w [] R):Ret Tryz.prog 236 #[I x,Pq aa] w fun v w'=>∃ y0,y0=r/\v=B y0/\St w w' [] R:=by
 refine ret_of_W Tryz.func236 rfl rfl rfl ?_;refine kg 8 ?_;obtain ⟨r2,ah,hM⟩:=M.e_bind hM;refine t_callM H ae rfl rfl x Reads.none (Arg.mkI (fun _=>none) _) ah ?_;intro aj H;refine kg 3 ?_;exact rt

def zeo (l:List Int) (so:Int->M Bool):M Bool :=
  M.bind (zaD l (fun aa=>zdt aa so)) fun r2 =>
  M.pure (!r2)
theorem zfP {R ae aa ah}(l so)(aj:Reads R ae)(ak:Sl ae aa l)(al:FnM Tryz.prog R ah so){r}(hM:(zeo l so).Ends r)(w)(H:St w w [] R):Ret Tryz.prog 200 #[aa,ah] w fun v w'=>∃ y0,y0=r/\v=B y0/\St w w' [] R:=by
 refine ret_of_W Tryz.func200 rfl rfl rfl ?_;refine kB 2 ?_;intro ab az H;refine kg 5 ?_;refine s_val (x_mf (fs:=[]) (cs:=[Pq ab]) rfl rfl) ?_;obtain ⟨aA,am,hM⟩:=M.e_bind hM;refine s_call cq [aa,.func (.func 236) #[] #[Pq ab]] rfl (zdn l (fun ac=>zdt ac so) (aj.app _) ak ⟨236,[Pq ab],rfl,cq,fun ai aB aC ao ac aD ap aE aq au=>by obtain rfl:=Arg.int aq; exact (zf9 ac so (FnM.app (al.app _) _) (Has.app (Has.here (k:=0) rfl) _) au ai (St.refl ap)).mono fun ao ai ⟨aF,av,aw,ax⟩=>by subst av; exact ⟨aw,ax⟩⟩ am _ (H.gt 1)) ?_;rintro _ aG ⟨r2,rfl,rfl,ay⟩;replace H:=H.bk ay;refine kg 3 ?_;exact rt

def zdK (aa:List Int) (ab:List Span):Nat->M (Nat ⊕ Unit):=fun s =>
  bif decide ((s:Int)<(aa.length:Int)) then (
  M.grd (decide ((s:Int)<(aa.length:Int))) <|
  M.bind (M.opt ((aa.getD s 0) != (-1)) (zam (aa.getD s 0) ((s:Int)+1) ((aa.length:Int)-1)) false) fun r4 =>
  bif (((aa.getD s 0) != (-1))&&(!r4)) then (
  M.fail)
  else (
  M.grd (decide ((s:Int)<(ab.length:Int))) <|
  M.bind (zdh (ab.getD s default)) fun r5 =>
  bif !r5 then (
  M.fail)
  else (
  M.pure (.inl (s+1)))))
  else (
  M.pure (.inr ()))
def zaC  : Int->(Int × Int)->M (Int ⊕ Unit):=fun s2 (x,x2) =>
  M.gi (s2+1) <|
  M.pure (.inl (s2+1))
def zdW (ac:List Int) (ae:List Span) (ab:List Int) (ah:List Town) (ai aj:Int) (aa:List Flood):Nat->M (Nat ⊕ Unit):=fun s3 =>
  bif decide ((s3:Int)<(aa.length:Int)) then (
  M.grd (decide ((s3:Int)<(aa.length:Int))) <|
  M.bind (zbA ac ae ab ah ai aj aa (max 0 ((aa.getD s3 default).spring))) fun (ak,al,am) =>
  M.bind (za5 (M.yl zaC) (.inl 0) ak ac ae ab ah al am aa) fun x_=>match x_ with
  | (.inl s2,q0)=>(
  M.bind (zbo ab ((aa.getD s3 default).spring)) fun ao =>
  bif ((!ao)||((((aa.getD s3 default).stages).length:Int) != s2)) then (
  M.fail)
  else (
  M.bind (zeo ((aa.getD s3 default).stages) (fun ap=>zcH ap)) fun aq =>
  bif !aq then (
  M.fail)
  else (
  M.pure (.inl (s3+1)))))
  | (.inr _,_)=>M.fail)
  else (
  M.pure (.inr ()))
def zdG (aa:List Int) (ab:List Span) (ae:List Int) (ac:List Town) (ai aj:Int) (ak:List Flood):M Int :=
  M.bind (zam (aa.length:Int) 1 12) fun r2 =>
  M.bind (M.opt (!((!r2)||((ab.length:Int) != (aa.length:Int)))) (zam (ae.length:Int) 1 8) false) fun r3 =>
  bif (((((!r2)||((ab.length:Int) != (aa.length:Int)))||(!r3))||(decide (8<(ac.length:Int))))||(decide (20<(ak.length:Int)))) then (
  M.fail)
  else (
  M.bind (M.iter (zdK aa ab) 0) fun (_:Unit) =>
  M.bind (zeB ae (aa.length:Int)) fun r6 =>
  bif !r6 then (
  M.fail)
  else (
  M.bind (zdw ac (fun ah=>zdx ah)) fun r7 =>
  M.bind (M.opt (!(!r7)) (zdw ac (fun ah=>zdk ah (aa.length:Int))) false) fun r8 =>
  M.bind (M.opt (!((!r7)||(!r8))) (zdh (⟨(ai:Int),(aj:Int)⟩:Span)) false) fun r9 =>
  bif (((!r7)||(!r8))||(!r9)) then (
  M.fail)
  else (
  M.bind (M.iter (zdW aa ab ae ac ai aj ak) 0) fun (_:Unit) =>
  M.pure 0)))
theorem zgE {R bt ae bu ai bv aj bw ab bx ah}(aa aw ax ay ak al ac)(a7:Reads R bt)(aX:Sl bt ae aa)(a8:Reads R bu)(ba:Sl bu ai aw)(bb:Reads R bv)(bc:Sl bv aj ax)(aH:Reads R bw)(aI:Sl bw ab ay)(aJ:Reads R bx)(aK:Sl bx ah ac){r}(hM:(zdG aa aw ax ay ak al ac).Ends r)(w)(H:St w w [] R):Ret Tryz.prog 143 #[.agg #[ae,ai,aj,ab,I ak,I al,ah]] w fun v w'=>∃ y0,y0=r/\v=I y0/\St w w' [] R:=by
 refine ret_of_WD Tryz.func143 rfl rfl rfl ?_;replace H:St w w [cMk ([])] R:=H.mk0;have cc:=aX.len_le;have cd:=ba.len_le;have ce:=bc.len_le;have cf:=aI.len_le;have cg:=aK.len_le;unfold zdG at hM;refine WD.seq<|WD.of ?_;refine kB 1 ?_;intro ap ch H;refine kg 2 ?_;refine WD.seq<|WD.of ?_
 have cj:=(aX).len_le;refine kA 4 ?_;intro am ck H;refine ksw ?_;intro cn H;refine s_nil<|WD.seq<|WD.seq<|WD.of ?_;refine kC 2 @zao ?_;intro cp r2 hM H
 have cr:=(ba).len_le;have ct:=(bc).len_le;refine kg 12 ?_;obtain ⟨r3,bI,hM⟩:=M.e_bind hM;refine t_gcall (!((!r2)||((aw.length:Int) != (aa.length:Int)))) (gy_f rfl) cq (B r3) (fun _=>[I (ax.length:Int),I 1,I 8]) (fun hg=>lst3 (gd_of hg (I (ax.length:Int))) rfl rfl) H (fun hg=>(zao (ax.length:Int) 1 8 (M.e_opt bI hg) _ (H.give (A:=[]) rfl)).mono fun v_ w_ ⟨y_,aq,az,H_⟩=>by subst aq; exact ⟨az,H.via H_⟩) ?_;intro cu H;have cv:=(aI).len_le;have cB:=(aK).len_le;refine kg 15 ?_;refine WD.cond (((((!r2)||((aw.length:Int) != (aa.length:Int)))||(!r3))||(decide (8<(ay.length:Int))))||(decide (20<(ac.length:Int)))) rfl (fun bf=>?_) (fun bf=>?_)
 ·replace hM:=M.e_t hM bf;exact (M.e_fail hM).elim
 replace hM:=M.e_f hM bf;refine WD.of<|W.skip<|WD.seq<|WD.seq<|WD.of ?_
 have cC:=(aX).len_le;refine kg 6 ?_;refine WD.block ?_;obtain ⟨bJ,bz,bK⟩:=M.e_bind hM;obtain ⟨bL,bz⟩:=M.e_iter bz;refine WD.loop (fun m bA σ W=>∃ (s:Nat) (ρ:Env),σ=upds ρ [(1,Pq ap),(3,Pq am),(42,ae),(43,I (aa.length:Int)),(44,I (s:Int))]/\M.iterN (zdK aa aw) m s=some bJ/\St w W [cBlk am [I (aa.length:Int)] 3,cBlk ap [ae,ai,aj,ab,I ak,I al,ah] 146,cMk bA] R) ?_ ?_
 ·exact kY
 rintro cD bA σ cE ⟨s,ρ,rfl,bM,H⟩;obtain ⟨cF,cG,cH,hM,bN⟩:=M.e_iterN bM;refine WD.seq<|WD.of ?_;refine kg 3 ?_;refine WD.seq ?_
 refine WD.cond (decide ((s:Int)<(aa.length:Int))) rfl (fun aA=>?_) (fun aA=>?_)
 ·replace hM:=M.e_t hM aA;replace aA:=dI aA;refine WD.of<|W.skip<|WD.seq<|WD.block<|WD.seq<|WD.of ?_;obtain ⟨cI,hM⟩:=M.e_gq hM;refine kg 7 ?_;refine WD.block<|WD.seq<|WD.of ?_;refine kg 9 ?_;obtain ⟨r4,bO,hM⟩:=M.e_bind hM;refine t_gcall ((aa.getD s 0) != (-1)) (gy_t rfl) cq (B r4) (fun _=>[I (aa.getD s 0),I ((s:Int)+1),I ((aa.length:Int)-1)]) (fun hg=>lst3 (gd_of hg (I (aa.getD s 0))) (gd_of hg (I ((s:Int)+1))) (gd_of hg (I ((aa.length:Int)-1)))) H (fun hg=>(zao (aa.getD s 0) ((s:Int)+1) ((aa.length:Int)-1) (M.e_opt bO hg) _ (H.give (A:=[]) rfl)).mono fun v_ w_ ⟨y_,aq,az,H_⟩=>by subst aq; exact ⟨az,H.via H_⟩) ?_;intro cJ H;refine kg 4 ?_
  refine WD.cond (((aa.getD s 0) != (-1))&&(!r4)) rfl (fun bg=>?_) (fun bg=>?_)
  ·replace hM:=M.e_t hM bg;exact (M.e_fail hM).elim
  replace hM:=M.e_f hM bg;refine WD.seq<|WD.of ?_;obtain ⟨cK,hM⟩:=M.e_gq hM;refine kC 6 @zdN ?_;intro cL r5 hM H;refine kg 3 ?_
  refine WD.cond (!r5) rfl (fun bh=>?_) (fun bh=>?_)
  ·replace hM:=M.e_t hM bh;exact (M.e_fail hM).elim
  replace hM:=M.e_f hM bh;refine WD.of<|W.skip<|WD.of ?_
  exact kX 4
 replace hM:=M.e_f hM aA;replace aA:=dI aA;refine WD.of ?_;refine W.exit ?_;obtain rfl:=M.e_inr hM bN;replace hM:=bK;refine WD.seq<|WD.block<|WD.seq<|WD.of ?_;refine kC 4 @ze2 ?_;intro cM r6 hM H;refine kg 3 ?_
 refine WD.cond (!r6) rfl (fun bi=>?_) (fun bi=>?_)
 ·replace hM:=M.e_t hM bi;exact (M.e_fail hM).elim
 replace hM:=M.e_f hM bi;refine WD.seq<|WD.of ?_;refine kg 3 ?_;obtain ⟨cN,bP,hM⟩:=M.e_bind hM;refine s_call cq [ab,.func (.func 198) #[] #[]] rfl (zet ay (fun ao=>zdx ao) (aH.app _) aI ⟨198,[],rfl,cq,fun au bB bC aL ao bD aM bE aN aO=>by obtain rfl:=Town_arg aN; exact (zfG ao aO au (St.refl aM)).mono fun aL au ⟨bF,aP,aQ,aR⟩=>by subst aP; exact ⟨aQ,aR⟩⟩ bP _ (H.gt 3)) ?_
 rintro _ cO ⟨r7,rfl,rfl,aD⟩;replace H:=H.bk aD;refine kg 4 ?_;refine g_val (!(!r7)) (gy_f rfl) (fun hg=>x_mf (fs:=[]) (cs:=[Pq am]) rfl rfl) ?_;obtain ⟨r8,bQ,hM⟩:=M.e_bind hM;refine t_gcall (!(!r7)) (gy_f rfl) cq (B r8) (fun _=>[ab,.func (.func 199) #[] #[Pq am]]) (fun hg=>lst2 (gd_of hg (ab)) (gd_of hg (.func (.func 199) #[] #[Pq am]))) H (fun hg=>(zet ay (fun ao=>zdk ao (aa.length:Int)) (aH.app _) aI ⟨199,[Pq am],rfl,cq,fun au bB bC aL ao bD aM bE aN aO=>by obtain rfl:=Town_arg aN; exact (zeX ao (aa.length:Int) (Has.app (Has.here (k:=0) rfl) _) aO au (St.refl aM)).mono fun aL au ⟨bF,aP,aQ,aR⟩=>by subst aP; exact ⟨aQ,aR⟩⟩ (M.e_opt bQ hg) _ (H.give (A:=[]) rfl)).mono fun v_ w_ ⟨y_,aq,az,H_⟩=>by subst aq; exact ⟨az,H.via H_⟩) ?_;intro cP H;refine kg 5 ?_;obtain ⟨r9,bR,hM⟩:=M.e_bind hM;refine t_gcall (!((!r7)||(!r8))) (gy_f rfl) cq (B r9) (fun _=>[.agg #[I ak,I al]]) (fun hg=>lst1 (gd_of hg (.agg #[I ak,I al]))) H (fun hg=>(zdN (⟨(ak:Int),(al:Int)⟩:Span) (M.e_opt bR hg) _ (H.give (A:=[]) rfl)).mono fun v_ w_ ⟨y_,aq,az,H_⟩=>by subst aq; exact ⟨az,H.via H_⟩) ?_;intro cQ H;refine kg 4 ?_;refine WD.cond (((!r7)||(!r8))||(!r9)) rfl (fun bj=>?_) (fun bj=>?_)
 ·replace hM:=M.e_t hM bj;exact (M.e_fail hM).elim
 replace hM:=M.e_f hM bj;refine WD.of<|W.skip<|WD.seq<|WD.seq<|WD.of ?_
 have cR:=(aK).len_le;refine kg 6 ?_;refine WD.block ?_;obtain ⟨bS,bG,bT⟩:=M.e_bind hM;obtain ⟨bL,bG⟩:=M.e_iter bG;refine WD.loop (fun m aS σ W=>∃ (s3:Nat) (ρ:Env),σ=upds ρ [(1,Pq ap),(95,ah),(96,I (ac.length:Int)),(97,I (s3:Int))]/\M.iterN (zdW aa aw ax ay ak al ac) m s3=some bS/\St w W [cBlk am [I (aa.length:Int)] 3,cBlk ap [ae,ai,aj,ab,I ak,I al,ah] 146,cMk aS] R) ?_ ?_
 ·exact kY
 rintro cS aS σ cT ⟨s3,ρ,rfl,bU,H⟩;obtain ⟨cU,cV,cW,hM,bV⟩:=M.e_iterN bU;refine WD.seq<|WD.of ?_;refine kg 3 ?_;refine WD.seq ?_
 refine WD.cond (decide ((s3:Int)<(ac.length:Int))) rfl (fun aB=>?_) (fun aB=>?_)
 ·replace hM:=M.e_t hM aB;replace aB:=dI aB;refine WD.of<|W.skip<|WD.seq<|WD.block<|WD.seq<|WD.of ?_;obtain ⟨cX,hM⟩:=M.e_gq hM;refine kg 2 ?_
  obtain ⟨av,bW,aT⟩:=Flood_atA aK (i:=(s3:Int)) (by omega) (by omega);replace aT:Sl _ av (ac.getD s3 default).stages:=aT;have cY:=aT.len_le;refine s_val (x_ld (v:=.agg #[I ((ac.getD s3 default).spring),av]) rfl (ld_ag Ag221.h Sz221.h (At.mono bW (aJ.at H)))) ?_;refine kal ?_;intro aU cZ H;refine kS 0 ?_;intro c4 H;refine s_nil<|WD.seq<|WD.of ?_;refine kA 1 ?_;intro aC c6 H;refine ksw ?_;intro c7 H;refine s_nil<|WD.seq<|WD.seq<|WD.of ?_;refine kC 5 @zch ?_;intro c8 aY aE aF aV aG hM H;refine s_nil<|WD.block ?_;obtain ⟨c9,bX,hM⟩:=M.e_bind hM;refine WD.range (L:=[cBlk aC [I 0] 3,cBlk aG [ae,ai,aj,ab,I aE,I aF,ah] 146,cBlk aU [I ((ac.getD s3 default).spring),av] 221,cBlk am [I (aa.length:Int)] 3,cBlk ap [ae,ai,aj,ab,I ak,I al,ah] 146,cBlk aV [I aY] 3]) [Pq aV,Pq aG] (H.pk [6,2,1,3,4,5,0]) rfl cq ?_;intro aZ bm bn bY bo H
  have hYC:YieldC Tryz.prog ([cMk (bm :: aS),cBlk aG [ae,ai,aj,ab,I aE,I aF,ah] 146,cBlk aU [I ((ac.getD s3 default).spring),av] 221,cBlk am [I (aa.length:Int)] 3,cBlk ap [ae,ai,aj,ab,I ak,I al,ah] 146]++R) arII (yJ aZ bn (fun s2 a6=>a6=[cBlk aC [I s2] 3]) (fun (_:Unit) _=>False) (fun _=>.ret)) (.func (.yield aZ) #[] #[]) (M.yl zaC):=by
   refine YieldC.mk bo (fun s2 a6=>a6=[cBlk aC [I s2] 3]) (fun (_:Unit) _=>False) (fun _=>.ret) zaC (by rintro s2 _ h_; obtain ⟨rfl⟩:=h_; rfl) (fun _ _ h_=>h_.elim) rfl (arII_len rfl) ?_;intro C_ da x_ W_ bZ;obtain ⟨x,x2⟩:=x_;obtain rfl:=bZ;refine W.skip ?_;refine ⟨rfl,rfl,?_⟩;intro w R aW a6 s_ r b4 hM H
   skip
   obtain ⟨s2,b6⟩:∃ y_,y_=s_:=⟨_,rfl⟩
   subst b6;obtain ⟨rfl⟩:=b4;replace a7:=a7.sub aW;replace a8:=a8.sub aW;replace bb:=bb.sub aW;replace aH:=aH.sub aW;replace aJ:=aJ.sub aW;replace hM:(zaC s2 (x,x2)).Ends r:=hM;simp only [zaC] at hM;replace H:=H.pk [0,2,3,4,5,1];obtain ⟨db,hM⟩:=M.e_gq hM;refine kS 4 ?_;intro dc H;refine s_nil ?_;exact ⟨s2+1,[cBlk aC [I (s2+1)] 3],(M.e_pure hM).symm,rfl,H.pick [0,5,1,2,3,4] (by decide) rfl⟩
  replace H:St w bY (cAll (cObj aZ (.loop bn) :: [cBlk aC [I 0] 3]) :: [cBlk aV [I aY] 3,cMk (bm :: aS),cBlk aG [ae,ai,aj,ab,I aE,I aF,ah] 146,cBlk aU [I ((ac.getD s3 default).spring),av] 221,cBlk am [I (aa.length:Int)] 3,cBlk ap [ae,ai,aj,ab,I ak,I al,ah] 146]) R:=St.bundleB (A:=cObj aZ (.loop bn) :: [cBlk aC [I 0] 3]) (T:=[cBlk aV [I aY] 3,cMk (bm :: aS),cBlk aG [ae,ai,aj,ab,I aE,I aF,ah] 146,cBlk aU [I ((ac.getD s3 default).spring),av] 221,cBlk am [I (aa.length:Int)] 3,cBlk ap [ae,ai,aj,ab,I ak,I al,ah] 146]) rfl (H.pk [0,2,7,1,3,4,5,6]);refine (zc2 (M.yl zaC) (.inl 0) aY aa aw ax ay aE aF ac hYC ⟨_,rfl,rfl⟩ (a7.app _) aX (a8.app _) ba (bb.app _) bc (aH.app _) aI (aJ.app _) aK (Has.here (k:=1) rfl) bX _ (H.gt 5)).mono ?_;rintro vq dg ⟨b7,q0,dh,rfl,hvq,aD,bH⟩;replace H:=H.back aD rfl;clear aD hYC;rcases b7 with s2 | _
  ·obtain ⟨_,rfl,rfl⟩:=bH;refine ⟨_,[cBlk aC [I s2] 3,cBlk aG [ae,ai,aj,ab,I aE,I aF,ah] 146,cBlk aU [I ((ac.getD s3 default).spring),av] 221,cBlk am [I (aa.length:Int)] 3,cBlk ap [ae,ai,aj,ab,I ak,I al,ah] 146,cBlk aV [I q0] 3],H.unbundle.pick [0,3,1,4,5,6,7,2] (by decide) rfl,bo.nb,?_⟩;intro di H;rw [bo.pd];replace H:=H.nf
   try simp only []
   replace H:=H.pk [0,1,3,4,5];refine WD.block<|WD.seq<|WD.of ?_;refine kC 5 @zeP ?_;intro dj b8 hM H
   have dk:=(aT).len_le;refine kg 10 ?_;refine WD.cond ((!b8)||((((ac.getD s3 default).stages).length:Int) != s2)) rfl (fun bp=>?_) (fun bp=>?_)
   ·replace hM:=M.e_t hM bp;exact (M.e_fail hM).elim
   replace hM:=M.e_f hM bp;refine WD.seq<|WD.of ?_;refine kg 3 ?_;obtain ⟨dm,b9,hM⟩:=M.e_bind hM;refine s_call cq [av,.func (.func 201) #[] #[]] rfl (zfP ((ac.getD s3 default).stages) (fun ao=>zcH ao) (aJ.app _) aT ⟨201,[],rfl,cq,fun au bB bC aL ao bD aM bE aN aO=>by obtain rfl:=Arg.int aN; exact (zeG ao aO au (St.refl aM)).mono fun aL au ⟨bF,aP,aQ,aR⟩=>by subst aP; exact ⟨aQ,aR⟩⟩ b9 _ (H.gt 5)) ?_
   rintro _ dp ⟨cb,rfl,rfl,aD⟩;replace H:=H.bk aD;refine kg 3 ?_;refine WD.cond (!cb) rfl (fun br=>?_) (fun br=>?_)
   ·replace hM:=M.e_t hM br;exact (M.e_fail hM).elim
   replace hM:=M.e_f hM br;refine WD.of<|W.skip<|WD.of ?_
   exact kXp 4 [3,4,0]
  obtain ⟨_,_,h_⟩:=bH; exact h_.elim
 replace hM:=M.e_f hM aB;replace aB:=dI aB;refine WD.of ?_;refine W.exit ?_;obtain rfl:=M.e_inr hM bV;replace hM:=bT;replace H:=H.pk [2];refine WD.seq<|WD.of ?_;refine kg 3 ?_;refine WD.of ?_;refine W.ret ?_;refine bodyD_r (H.pk [0]) ?_;intro dq H;replace H:=H.nf
 have aq:=M.e_pure hM;exact ⟨_,resE_tmp rfl,⟨0,aq,rfl,H⟩⟩

def zee (ac:List Int) (ae:List Span) (ah:List Int) (ai:List Town) (aa ab:Int) (aj:List Flood):M (Int × Int × Int) :=
  M.bind (zdG ac ae ah ai aa ab aj) fun r2 =>
  bif r2 != 0 then (
  M.fail)
  else (
  M.pure (aa,ab,0))
theorem zgt {R aq ai au aj av ak aw al ax am}(aa ab ac ae ao ap ah)(aC:Reads R aq)(aD:Sl aq ai aa)(aE:Reads R au)(aF:Sl au aj ab)(aG:Reads R av)(aH:Sl av ak ac)(aI:Reads R aw)(aJ:Sl aw al ae)(aK:Reads R ax)(aL:Sl ax am ah){r}(hM:(zee aa ab ac ae ao ap ah).Ends r)(w)(H:St w w [] R):Ret Tryz.prog 95 #[.agg #[ai,aj,ak,al,I ao,I ap,am]] w fun v w'=>∃ y0 y1 y2 ay az aA,(y0,y1,y2)=r/\v = .tuple #[Pq ay,I y2]/\St w w' [cBlk ay [ai,aj,ak,al,I y0,I y1,am,.map (some az)] 266,cMem encDm az aA (zaa aa ab ac ae y0 y1 ah)] R:=by
 refine ret_of_W Tryz.func95 rfl rfl rfl ?_;refine kB 2 ?_;intro aM aN H;refine kC 7 @zgE ?_;intro aO r2 hM H;refine kI 7 ?_ ?_
 ·intro aB hM;exact (M.e_fail hM).elim
 intro aB hM;refine kg 4 ?_;refine t_mkmem encDm (zaa aa ab ac ae ao ap ah) H ?_;intro aP aQ aR H;refine kB 1 ?_;intro aS aT H;exact kR 3 [0,1]

end Go.Proofs.YtbgoclcmgbpckabGreat
end
