/- The statement 'TopFlooded' holds: For all nets of levelling, sites, sections and numbers TopFlooded answers yes, never panics, and changes nothing old. Conditions: none. -/
import Derived.Test.YtaolcidinlnklaaGreatRows
import Derived.ProofKit
import Derived.OpenShut
import Derived.JoinedOf
import Derived.Test.YtaolcidinlnklaaGreatZA7
set_option linter.unusedVariables false
set_option linter.unusedSimpArgs false
set_option linter.unusedSectionVars false
set_option maxRecDepth 4000
namespace Go.Proofs.YtaolcidinlnklaaGreat.FloodedT
open Go Go.Nm Go.ChangeShapes Go.WideShapes Go.ChangeAt Go.RowKit
theorem own:ownKnob Tryz.prog.godebug=none:=by kernel_rfl
theorem laid:laidOutB Tryz.prog=true:=by kernel_rfl
theorem rowed:mapsRowed Tryz.prog=true:=by kernel_rfl
theorem sizes:∀ {t e:TypeId},t<Tryz.prog.types.size->Tryz.prog.underlying t=some (.slice e)->0<Tryz.prog.cellsOf e:=by
  have h:(List.range Tryz.prog.types.size).all (fun t=>match Tryz.prog.underlying t with
    | some (.slice e)=>decide (0<Tryz.prog.cellsOf e)
    | _=>true)=true:=by kernel_rfl
  intro t e ht hu;have:=List.all_eq_true.1 h t (List.mem_range.2 ht);rw [hu] at this
  simpa using this
section
variable {H:Type} {enc:TypeId × Value->H} {w:World} {sp:Nat->Bool} {held:Bool}
theorem elU8 {n:Nat} {cs:List Value} {d:DataW H × List MemPlace} (h:DataW.trod enc Tryz.prog w 0 sp held n 5 cs=some d):∃ x:UInt8,Elt.rep w.cell? cs x:=open_u8 Tryz.underlying5 h
end
theorem walked (W:World) {v0 v1 v2:Value} {a0:List UInt8} {a1:List UInt8} {a2:List UInt8} (a3:Int) (a4:Int) (a5:Int) (h0:Sl W.cell? v0 a0) (h1:Sl W.cell? v1 a1) (h2:Sl W.cell? v2 a2) :
    Ret Tryz.prog 3 #[v0,v1,v2,I a3,I a4,I a5] W fun v W'=>v=B true/\Old W W':=by
  have h:=zgq (R:=[cRo ⟨W,fun _=>True⟩]) a0 a1 a2 a3 a4 a5 (reads_all W) h0.base (reads_all W) h1.base (reads_all W) h2.base (topFlooded_ends a0 a1 a2 a3 a4 a5) W (st_all W);refine Ret.mono h ?_;rintro v W' ⟨y,hy,hv,hst⟩;exact ⟨by rw [hv,hy],ext_all hst⟩
theorem contract (H:Type) (enc:TypeId × Value->H) (W:World) (base:Nat) (args:Array Value) (ds gs:List (DataW H)) (before:List MemPlace)
    (hval:∀ (j:Nat) t v,Tryz.f3.params[j]?=some t->args[j]?=some v->Value.okWide Tryz.prog W .any base t v)
    (hW:DataW.Whole enc Tryz.prog Tryz.f3.params.toList Rows.topFloodedSpec.vars false W args.toList ds gs before) :
    Calls Tryz.prog 3 args W fun e W'=>∃ v,e = .returned v/\Rows.topFloodedSpec.post enc Tryz.prog Tryz.f3 false true false false W args v W':=by
  have hps:Tryz.f3.params = #[22,22,22,3,3,3]:=by kernel_rfl
  rw [hps] at hval;have hW':=hW;obtain ⟨p,q,hA0,hV,rfl,hfz,hnd⟩:=hW;have hA:DataW.TrodAll enc Tryz.prog W 0 (fun _=>true) true [22,22,22,3,3,3] args.toList ds p:=hA0;have hA1:=hA;obtain ⟨v0,vs0,d0,ds0,p0,q0,hargs,rfl,rfl,t0,r0⟩:=trodAll_cons hA;obtain ⟨v1,vs1,d1,ds1,p1,q1,rfl,rfl,rfl,t1,r1⟩:=trodAll_cons r0;obtain ⟨v2,vs2,d2,ds2,p2,q2,rfl,rfl,rfl,t2,r2⟩:=trodAll_cons r1;obtain ⟨v3,vs3,d3,ds3,p3,q3,rfl,rfl,rfl,t3,r3⟩:=trodAll_cons r2;obtain ⟨v4,vs4,d4,ds4,p4,q4,rfl,rfl,rfl,t4,r4⟩:=trodAll_cons r3;obtain ⟨v5,vs5,d5,ds5,p5,q5,rfl,rfl,rfl,t5,r5⟩:=trodAll_cons r4;obtain ⟨rfl,rfl,rfl⟩:=trodAll_nil r5;obtain rfl:args = #[v0,v1,v2,v3,v4,v5]:=by cases args; simp_all
  obtain ⟨rfl,rfl⟩:=trodVars_none hV;have e0:Value.okWide Tryz.prog W .any base 22 v0:=hval 0 22 v0 (by simp) (by simp);have e1:Value.okWide Tryz.prog W .any base 22 v1:=hval 1 22 v1 (by simp) (by simp);have e2:Value.okWide Tryz.prog W .any base 22 v2:=hval 2 22 v2 (by simp) (by simp);have e3:Value.okWide Tryz.prog W .any base 3 v3:=hval 3 3 v3 (by simp) (by simp);have e4:Value.okWide Tryz.prog W .any base 3 v4:=hval 4 3 v4 (by simp) (by simp);have e5:Value.okWide Tryz.prog W .any base 3 v5:=hval 5 3 v5 (by simp) (by simp);obtain ⟨a0,h0⟩:=open_arg (α:=UInt8) Tryz.underlying22 (w:=W) (enc:=enc) (sp:=fun _=>true) (held:=true) (by kernel_rfl) (fun _ _ _ h=>elU8 h) e0 t0;obtain ⟨a1,h1⟩:=open_arg (α:=UInt8) Tryz.underlying22 (w:=W) (enc:=enc) (sp:=fun _=>true) (held:=true) (by kernel_rfl) (fun _ _ _ h=>elU8 h) e1 t1;obtain ⟨a2,h2⟩:=open_arg (α:=UInt8) Tryz.underlying22 (w:=W) (enc:=enc) (sp:=fun _=>true) (held:=true) (by kernel_rfl) (fun _ _ _ h=>elU8 h) e2 t2;obtain ⟨a3,rfl⟩:=arg_i Tryz.underlying3 e3;obtain ⟨a4,rfl⟩:=arg_i Tryz.underlying3 e4;obtain ⟨a5,rfl⟩:=arg_i Tryz.underlying3 e5;have key:Ret Tryz.prog 3 #[v0,v1,v2,I a3,I a4,I a5] W fun v W'=>v=B true/\Old W W':=walked W a3 a4 a5 h0 h1 h2;refine Calls.mono key ?_;rintro e W' ⟨v,rfl,rfl,hx⟩;exact ⟨_,rfl,post_old hx hW' rfl (trodAll_cons_mk (shut_bool Tryz.underlying4 _) trodAll_mk0) (fun sp hs=>by rw [List.append_nil]; exact trod_ext (kids_rows laid rowed) sizes hx (by decide +kernel) hA1 (fun m hm=>hs m (by simpa using hm))) rfl⟩
set_option maxRecDepth 100000 in
theorem lifted (os:Os) (started:os.Started) (H:Type) (enc:TypeId × Value->H) :
    ReturnsInHanded {} Tryz.checked os 3 .any (Rows.topFloodedSpec.pre6 enc Tryz.prog Tryz.f3 Rows.topFloodedRow.domain false) (Rows.topFloodedSpec.post enc Tryz.prog Tryz.f3 false true false false):=by
  refine returnsInHanded_of_change (C:=Tryz.checked) own started (by kernel_rfl) Tryz.func3
    (ChangeSpec.witness6 (enc:=enc) (C:=Tryz.checked) false ⟨#[],#[.slice none 0 0,.slice none 0 0,.slice none 0 0,I 0,I 0,I 0],[]⟩ 8 (by kernel_rfl) (by kernel_rfl) (by kernel_rfl) (by kernel_rfl)) ?_
  intro W base args ds gs before hval hW _ _;exact contract H enc W base args ds gs before hval hW
theorem over:Rows.topFloodedRow.holds Tryz.pinned (OpenSpec.ofChange Rows.topFloodedSpec) :=
  OpenClaim.holds_of_wide 3 Tryz.f3 rfl rfl rfl rfl rfl rfl rfl ⟨rfl,rfl,rfl,rfl,rfl⟩ rfl rfl rfl rfl rfl (by kernel_rfl) Tryz.func3 (by kernel_rfl)
    (of_decide_eq_true (by kernel_rfl)) (by unfold Func.isWrapper; first | (rw [if_pos (by decide +kernel)]; kernel_rfl) | (rw [if_neg (by decide +kernel)]; exact ⟨rfl,rfl⟩))
    (fun os started H enc _=>lifted os started H enc)
theorem proved:Rows.TopFloodedSaid:=over
#print axioms proved
end Go.Proofs.YtaolcidinlnklaaGreat.FloodedT
