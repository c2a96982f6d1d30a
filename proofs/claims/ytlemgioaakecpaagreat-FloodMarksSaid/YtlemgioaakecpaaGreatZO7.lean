/- The statement 'FloodMarks' holds: which sites are right, what sections carry, which marks contradict each other, how many are true together and whether rows prove it is as specified. Conditions: none. -/
import Derived.Test.YtlemgioaakecpaaGreatRows
import Derived.ProofKit
import Derived.OpenShut
import Derived.JoinedOf
import Derived.Test.YtlemgioaakecpaaGreatZO6
set_option linter.unusedVariables false
set_option linter.unusedSimpArgs false
set_option linter.unusedSectionVars false
set_option maxRecDepth 4000
namespace Go.Proofs.YtlemgioaakecpaaGreat.FloodK
open Go Go.Nm Go.ChangeShapes Go.WideShapes Go.ChangeAt Go.RowKit
theorem own:ownKnob Tryz.prog.godebug=none:=by kernel_rfl
theorem laid:laidOutB Tryz.prog=true:=by kernel_rfl
theorem rowed:mapsRowed Tryz.prog=true:=by kernel_rfl
theorem sizes:∀ {t e:TypeId},t<Tryz.prog.types.size->Tryz.prog.underlying t=some (.slice e)->0<Tryz.prog.cellsOf e:=by
  have h:(List.range Tryz.prog.types.size).all (fun t=>match Tryz.prog.underlying t with
    | some (.slice e)=>decide (0<Tryz.prog.cellsOf e)
    | _=>true)=true:=by kernel_rfl
  intro t e ht hu
  have:=List.all_eq_true.1 h t (List.mem_range.2 ht)
  rw [hu] at this
  simpa using this
section
variable {H:Type} {enc:TypeId × Value->H} {w:World} {sp:Nat->Bool} {held:Bool}
theorem elInt {n:Nat} {cs:List Value} {d:DataW H × List MemPlace} (h:DataW.trod enc Tryz.prog w 0 sp held n 3 cs=some d):∃ x:Int,Elt.rep w.cell? cs x:=open_i Tryz.underlying3 h
theorem elList (n:Nat) (cs:List Value) (d:DataW H × List MemPlace) (h:DataW.trod enc Tryz.prog w 0 sp held n 28 cs=some d):∃ x:List Int,Elt.rep w.cell? cs x:=by
  obtain ⟨u,l,hu,hl⟩:=open_sl (α:=Int) Tryz.underlying28 (by kernel_rfl) (fun _ _ _ h=>elInt h) h
  exact ⟨l,u,hu,hl⟩
theorem elRow (n:Nat) (cs:List Value) (d:DataW H × List MemPlace) (h:DataW.trod enc Tryz.prog w 0 sp held n 109 cs=some d):∃ x:FRow,Elt.rep w.cell? cs x:=by
  obtain ⟨v0,v1,m,d0,d1,rfl,h0,h1⟩:=open_f2 Tryz.underlying109 (by kernel_rfl) rfl rfl (by kernel_rfl) (by kernel_rfl) h
  obtain ⟨a,ha⟩:=open_i Tryz.underlying3 h0
  obtain ⟨b,hb⟩:=open_i Tryz.underlying3 h1
  exact ⟨⟨a,b⟩,by rw [(List.cons.inj ha).1,(List.cons.inj hb).1]; rfl⟩
theorem elSect (n:Nat) (cs:List Value) (d:DataW H × List MemPlace) (h:DataW.trod enc Tryz.prog w 0 sp held n 68 cs=some d):∃ x:Sect,Elt.rep w.cell? cs x:=by
  obtain ⟨v0,v1,m,d0,d1,rfl,h0,h1⟩:=open_f2 Tryz.underlying68 (by kernel_rfl) rfl rfl (by kernel_rfl) (by kernel_rfl) h
  obtain ⟨a,ha⟩:=open_i Tryz.underlying3 h0
  obtain ⟨u,l,hu,hl⟩:=open_sl (α:=FRow) Tryz.underlying66 (by kernel_rfl) (fun n cs d h=>elRow n cs d h) h1
  exact ⟨⟨a,l⟩,u,by rw [(List.cons.inj ha).1,(List.cons.inj hu).1],hl⟩
theorem elMark (n:Nat) (cs:List Value) (d:DataW H × List MemPlace) (h:DataW.trod enc Tryz.prog w 0 sp held n 70 cs=some d):∃ x:Mrk,Elt.rep w.cell? cs x:=by
  obtain ⟨v0,v1,v2,m,d0,d1,rfl,h0,h1⟩:=open_f12 Tryz.underlying70 (by kernel_rfl) rfl rfl (by kernel_rfl) (by kernel_rfl) h
  obtain ⟨a,ha⟩:=open_i Tryz.underlying3 h0
  obtain ⟨w0,w1,m',e0,e1,hw,g0,g1⟩:=open_f2 Tryz.underlying54 (by kernel_rfl) rfl rfl (by kernel_rfl) (by kernel_rfl) h1
  obtain ⟨b,hb⟩:=open_i Tryz.underlying3 g0
  obtain ⟨c,hc⟩:=open_i Tryz.underlying3 g1
  obtain ⟨rfl,hw2⟩:=List.cons.inj hw
  obtain ⟨rfl,_⟩:=List.cons.inj hw2
  exact ⟨⟨a,b,c⟩,by rw [(List.cons.inj ha).1,(List.cons.inj hb).1,(List.cons.inj hc).1]; rfl⟩
theorem elReach (n:Nat) (cs:List Value) (d:DataW H × List MemPlace) (h:DataW.trod enc Tryz.prog w 0 sp held n 58 cs=some d):∃ x:Rch,Elt.rep w.cell? cs x:=by
  obtain ⟨v0,v1,v2,v3,v4,m,d0,d1,d2,d3,rfl,h0,h1,h2,h3⟩:=open_f1121 Tryz.underlying58 (by kernel_rfl) rfl rfl rfl rfl (by kernel_rfl) (by kernel_rfl) (by kernel_rfl) (by kernel_rfl) h
  obtain ⟨a,ha⟩:=open_i Tryz.underlying3 h0
  obtain ⟨b,hb⟩:=open_i Tryz.underlying3 h1
  obtain ⟨w0,w1,m',e0,e1,hw,g0,g1⟩:=open_f2 Tryz.underlying54 (by kernel_rfl) rfl rfl (by kernel_rfl) (by kernel_rfl) h2
  obtain ⟨c,hc⟩:=open_i Tryz.underlying3 g0
  obtain ⟨e,he⟩:=open_i Tryz.underlying3 g1
  obtain ⟨rfl,hw2⟩:=List.cons.inj hw
  obtain ⟨rfl,_⟩:=List.cons.inj hw2
  obtain ⟨k,hk⟩:=open_bo Tryz.underlying4 h3
  exact ⟨⟨a,b,c,e,k⟩,by rw [(List.cons.inj ha).1,(List.cons.inj hb).1,(List.cons.inj hc).1,(List.cons.inj he).1,(List.cons.inj hk).1]; rfl⟩
end
theorem walked (W:World) {u v w v6:Value} {S:List Sect} {M:List Mrk} {R:List Rch} {T:List (List Int)} (a1 a2 a3 a4 a5:Int) (hS:Sl W.cell? u S) (hM:Sl W.cell? v M) (hR:Sl W.cell? w R) (h6:Sl W.cell? v6 T) :
    Ret Tryz.prog 6 #[.agg #[u,v,w],I a1,I a2,I a3,I a4,I a5,v6] W fun v W'=>v=B true/\Old W W':=by
  have h:=zed (R:=[cRo ⟨W,fun _=>True⟩]) S M R a1 a2 a3 a4 a5 T (reads_all W) hS.base (reads_all W) hM.base (reads_all W) hR.base (reads_all W) h6.base (zdW a1 a2 a3 a4 a5 T) W (st_all W)
  refine Ret.mono h ?_
  rintro v W' ⟨y,hy,hv,hst⟩
  exact ⟨by rw [hv,hy],ext_all hst⟩
theorem contract (H:Type) (enc:TypeId × Value->H) (W:World) (base:Nat) (args:Array Value) (ds gs:List (DataW H)) (before:List MemPlace)
    (hval:∀ (j:Nat) t v,Tryz.f6.params[j]?=some t->args[j]?=some v->Value.okWide Tryz.prog W .any base t v)
    (hW:DataW.Whole enc Tryz.prog Tryz.f6.params.toList Rows.floodMarksSpec.vars false W args.toList ds gs before) :
    Calls Tryz.prog 6 args W fun e W'=>∃ v,e = .returned v/\Rows.floodMarksSpec.post enc Tryz.prog Tryz.f6 false true false false W args v W':=by
  have hps:Tryz.f6.params = #[27,3,3,3,3,3,38]:=by kernel_rfl
  rw [hps] at hval
  have hW':=hW
  obtain ⟨p,q,hA0,hV,rfl,hfz,hnd⟩:=hW
  have hA:DataW.TrodAll enc Tryz.prog W 0 (fun _=>true) true [27,3,3,3,3,3,38] args.toList ds p:=hA0
  have hA1:=hA
  obtain ⟨v0,vs0,d0,ds0,p0,q0,hargs,rfl,rfl,t0,r0⟩:=trodAll_cons hA
  obtain ⟨v1,vs1,d1,ds1,p1,q1,rfl,rfl,rfl,t1,r1⟩:=trodAll_cons r0
  obtain ⟨v2,vs2,d2,ds2,p2,q2,rfl,rfl,rfl,t2,r2⟩:=trodAll_cons r1
  obtain ⟨v3,vs3,d3,ds3,p3,q3,rfl,rfl,rfl,t3,r3⟩:=trodAll_cons r2
  obtain ⟨v4,vs4,d4,ds4,p4,q4,rfl,rfl,rfl,t4,r4⟩:=trodAll_cons r3
  obtain ⟨v5,vs5,d5,ds5,p5,q5,rfl,rfl,rfl,t5,r5⟩:=trodAll_cons r4
  obtain ⟨v6,vs6,d6,ds6,p6,q6,rfl,rfl,rfl,t6,r6⟩:=trodAll_cons r5
  obtain ⟨rfl,rfl,rfl⟩:=trodAll_nil r6
  obtain rfl:args = #[v0,v1,v2,v3,v4,v5,v6]:=by cases args; simp_all
  obtain ⟨rfl,rfl⟩:=trodVars_none hV
  have e0:Value.okWide Tryz.prog W .any base 27 v0:=hval 0 27 v0 (by simp) (by simp)
  have e1:Value.okWide Tryz.prog W .any base 3 v1:=hval 1 3 v1 (by simp) (by simp)
  have e2:Value.okWide Tryz.prog W .any base 3 v2:=hval 2 3 v2 (by simp) (by simp)
  have e3:Value.okWide Tryz.prog W .any base 3 v3:=hval 3 3 v3 (by simp) (by simp)
  have e4:Value.okWide Tryz.prog W .any base 3 v4:=hval 4 3 v4 (by simp) (by simp)
  have e5:Value.okWide Tryz.prog W .any base 3 v5:=hval 5 3 v5 (by simp) (by simp)
  have e6:Value.okWide Tryz.prog W .any base 38 v6:=hval 6 38 v6 (by simp) (by simp)
  obtain ⟨u0,u1,u2,k0,z0,z1,z2,rfl,g0,g1,g2⟩:=open_three Tryz.underlying27 (by kernel_rfl) rfl rfl rfl (by kernel_rfl) (by kernel_rfl) (by kernel_rfl) e0 t0
  obtain ⟨s0,S,b0,hS⟩:=open_sl (α:=Sect) Tryz.underlying23 (by kernel_rfl) (fun n cs d h=>elSect n cs d h) g0
  obtain rfl:u0=s0:=(List.cons.inj b0).1
  obtain ⟨s1,M,b1,hM⟩:=open_sl (α:=Mrk) Tryz.underlying24 (by kernel_rfl) (fun n cs d h=>elMark n cs d h) g1
  obtain rfl:u1=s1:=(List.cons.inj b1).1
  obtain ⟨s2,R,b2,hR⟩:=open_sl (α:=Rch) Tryz.underlying25 (by kernel_rfl) (fun n cs d h=>elReach n cs d h) g2
  obtain rfl:u2=s2:=(List.cons.inj b2).1
  obtain ⟨a1,rfl⟩:=arg_i Tryz.underlying3 e1
  obtain ⟨a2,rfl⟩:=arg_i Tryz.underlying3 e2
  obtain ⟨a3,rfl⟩:=arg_i Tryz.underlying3 e3
  obtain ⟨a4,rfl⟩:=arg_i Tryz.underlying3 e4
  obtain ⟨a5,rfl⟩:=arg_i Tryz.underlying3 e5
  obtain ⟨T,h6⟩:=open_arg (α:=List Int) Tryz.underlying38 (w:=W) (enc:=enc) (sp:=fun _=>true) (held:=true) (by kernel_rfl) (fun n cs d h=>elList n cs d h) e6 t6
  have key:Ret Tryz.prog 6 #[.agg #[u0,u1,u2],I a1,I a2,I a3,I a4,I a5,v6] W fun v W'=>v=B true/\Old W W':=walked W a1 a2 a3 a4 a5 hS hM hR h6
  refine Calls.mono key ?_
  rintro e W' ⟨v,rfl,rfl,hx⟩
  exact ⟨_,rfl,post_old hx hW' rfl (trodAll_cons_mk (shut_bool Tryz.underlying4 _) trodAll_mk0) (fun sp hs=>by rw [List.append_nil]; exact trod_ext (kids_rows laid rowed) sizes hx (by decide +kernel) hA1 (fun m hm=>hs m (by simpa using hm))) rfl⟩
set_option maxRecDepth 100000 in
theorem lifted (os:Os) (started:os.Started) (H:Type) (enc:TypeId × Value->H) :
    ReturnsInHanded {} Tryz.checked os 6 .any (Rows.floodMarksSpec.pre6 enc Tryz.prog Tryz.f6 Rows.floodMarksRow.domain false) (Rows.floodMarksSpec.post enc Tryz.prog Tryz.f6 false true false false):=by
  refine returnsInHanded_of_change (C:=Tryz.checked) own started (by kernel_rfl) Tryz.func6
    (ChangeSpec.witness6 (enc:=enc) (C:=Tryz.checked) false ⟨#[],#[.agg #[.slice none 0 0,.slice none 0 0,.slice none 0 0],I 0,I 0,I 0,I 0,I 0,.slice none 0 0],[]⟩ 8 (by kernel_rfl) (by kernel_rfl) (by kernel_rfl) (by kernel_rfl)) ?_
  intro W base args ds gs before hval hW _ _
  exact contract H enc W base args ds gs before hval hW
theorem over:Rows.floodMarksRow.holds Tryz.pinned (OpenSpec.ofChange Rows.floodMarksSpec) :=
  OpenClaim.holds_of_wide 6 Tryz.f6 rfl rfl rfl rfl rfl rfl rfl ⟨rfl,rfl,rfl,rfl,rfl⟩ rfl rfl rfl rfl rfl (by kernel_rfl) Tryz.func6 (by kernel_rfl)
    (of_decide_eq_true (by kernel_rfl)) (by unfold Func.isWrapper; first | (rw [if_pos (by decide +kernel)]; kernel_rfl) | (rw [if_neg (by decide +kernel)]; exact ⟨rfl,rfl⟩))
    (fun os started H enc _=>lifted os started H enc)
theorem proved:Rows.FloodMarksSaid:=over
#print axioms proved
end Go.Proofs.YtlemgioaakecpaaGreat.FloodK
