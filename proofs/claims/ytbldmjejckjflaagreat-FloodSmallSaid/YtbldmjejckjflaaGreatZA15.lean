/- The statement 'FloodSmall' holds: the examples with each number at its limits, all small sites, as many sections, rows, marks and reaches as there may be, and one more, and the greatest flow. Conditions: none. -/
import Derived.Test.YtbldmjejckjflaaGreatRows
import Derived.ProofKit
import Derived.OpenShut
import Derived.JoinedOf
import Derived.Test.YtbldmjejckjflaaGreatZA1
import Derived.Test.YtbldmjejckjflaaGreatZA14
set_option linter.unusedVariables false
set_option linter.unusedSimpArgs false
set_option linter.unusedSectionVars false
set_option maxRecDepth 4000
namespace Go.Proofs.YtbldmjejckjflaaGreat.FloodS
open Go Go.Nm Go.ChangeShapes Go.WideShapes Go.ChangeAt Go.RowKit
theorem own:ownKnob Tryz.prog.godebug=none:=by kernel_rfl
theorem laid:laidOutB Tryz.prog=true:=by kernel_rfl
theorem rowed:mapsRowed Tryz.prog=true:=by kernel_rfl
theorem sizes:∀ {t e:TypeId},t<Tryz.prog.types.size->Tryz.prog.underlying t=some (.slice e)->0<Tryz.prog.cellsOf e:=by
  have h:(List.range Tryz.prog.types.size).all (fun t=>match Tryz.prog.underlying t with
    | some (.slice e)=>decide (0<Tryz.prog.cellsOf e)
    | _=>true)=true:=by kernel_rfl
  intro t e ht hu;have:=List.all_eq_true.1 h t (List.mem_range.2 ht);rw [hu] at this
  simpa using this
theorem walked (W:World):Ret Tryz.prog 3 #[] W fun v W'=>v=B true/\Old W W':=by
  have h:=zfn (R:=[cRo ⟨W,fun _=>True⟩]) zeZ W (st_all W);refine Ret.mono h ?_;rintro v W' ⟨y,hy,hv,hst⟩;exact ⟨by rw [hv,hy],ext_all hst⟩
theorem contract (H:Type) (enc:TypeId × Value->H) (W:World) (base:Nat) (args:Array Value) (ds gs:List (DataW H)) (before:List MemPlace)
    (hval:∀ (j:Nat) t v,Tryz.f3.params[j]?=some t->args[j]?=some v->Value.okWide Tryz.prog W .any base t v)
    (hW:DataW.Whole enc Tryz.prog Tryz.f3.params.toList Rows.floodSmallSpec.vars false W args.toList ds gs before) :
    Calls Tryz.prog 3 args W fun e W'=>∃ v,e = .returned v/\Rows.floodSmallSpec.post enc Tryz.prog Tryz.f3 false true false false W args v W':=by
  have hps:Tryz.f3.params = #[]:=by kernel_rfl
  rw [hps] at hval;have hW':=hW;obtain ⟨p,q,hA0,hV,rfl,hfz,hnd⟩:=hW;have hA:DataW.TrodAll enc Tryz.prog W 0 (fun _=>true) true [] args.toList ds p:=hA0;have hA1:=hA;obtain ⟨ha,rfl,rfl⟩:=trodAll_nil hA;obtain rfl:args = #[]:=by cases args; simp_all
  obtain ⟨rfl,rfl⟩:=trodVars_none hV;have key:Ret Tryz.prog 3 #[] W fun v W'=>v=B true/\Old W W':=walked W;refine Calls.mono key ?_;rintro e W' ⟨v,rfl,rfl,hx⟩;exact ⟨_,rfl,post_old hx hW' rfl (trodAll_cons_mk (shut_bool Tryz.underlying4 _) trodAll_mk0) (fun sp hs=>by rw [List.append_nil]; exact trod_ext (kids_rows laid rowed) sizes hx (by decide +kernel) hA1 (fun m hm=>hs m (by simp at hm))) rfl⟩
set_option maxRecDepth 100000 in
theorem lifted (os:Os) (started:os.Started) (H:Type) (enc:TypeId × Value->H) :
    ReturnsInHanded {} Tryz.checked os 3 .any (Rows.floodSmallSpec.pre6 enc Tryz.prog Tryz.f3 Rows.floodSmallRow.domain false) (Rows.floodSmallSpec.post enc Tryz.prog Tryz.f3 false true false false):=by
  refine returnsInHanded_of_change (C:=Tryz.checked) own started (by kernel_rfl) Tryz.func3
    (ChangeSpec.witness6 (enc:=enc) (C:=Tryz.checked) false ⟨#[],#[],[]⟩ 8 (by kernel_rfl) (by kernel_rfl) (by kernel_rfl) (by kernel_rfl)) ?_
  intro W base args ds gs before hval hW _ _;exact contract H enc W base args ds gs before hval hW
theorem over:Rows.floodSmallRow.holds Tryz.pinned (OpenSpec.ofChange Rows.floodSmallSpec) :=
  OpenClaim.holds_of_wide 3 Tryz.f3 rfl rfl rfl rfl rfl rfl rfl ⟨rfl,rfl,rfl,rfl,rfl⟩ rfl rfl rfl rfl rfl (by kernel_rfl) Tryz.func3 (by kernel_rfl)
    (of_decide_eq_true (by kernel_rfl)) (by unfold Func.isWrapper; first | (rw [if_pos (by decide +kernel)]; kernel_rfl) | (rw [if_neg (by decide +kernel)]; exact ⟨rfl,rfl⟩))
    (fun os started H enc _=>lifted os started H enc)
theorem proved:Rows.FloodSmallSaid:=over
#print axioms proved
end Go.Proofs.YtbldmjejckjflaaGreat.FloodS
