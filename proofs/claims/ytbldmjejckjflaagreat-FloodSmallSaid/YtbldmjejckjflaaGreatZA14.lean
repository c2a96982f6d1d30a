/- Part 14 of the texts on which the proof rests. Conditions: none. -/
import Derived.Test.YtbldmjejckjflaaGreatZA5
import Derived.Test.YtbldmjejckjflaaGreatZA8
import Derived.Test.YtbldmjejckjflaaGreatZA13
set_option linter.unusedVariables false
set_option linter.unusedSimpArgs false
set_option linter.unusedSectionVars false
namespace Go.Proofs.YtbldmjejckjflaaGreat
open Go Go.Nm
theorem ze5:a_nilometerlaw06_FloodSmall.Ends true:=by
  unfold a_nilometerlaw06_FloodSmall;refine M.i_bind (a:=.inr ()) (M.i_for (fun i=>i) 34 (fun i hi=>?_) ?_) ?_
  · have hl:(vl34).length=34:=rfl;refine M.i_t (b:=decide ((i:Int)<((vl34).length:Int))) (decide_eq_true (by omega)) (M.i_grd (decide_eq_true (by omega)) (M.i_bind (a:=(.inr ():Unit ⊕ Unit)) (M.i_for (fun j=>j) 30 (fun j hj=>?_) ?_) M.i_pure))
    · exact ⟨600,of_decide_eq_true (List.all_eq_true.1 (e5 i hi) j (List.mem_range.2 hj))⟩
    · unfold a_nilometerlaw06_FloodSmall_b5 zb6;refine M.i_f ?_ M.i_pure;decide
  · refine M.i_f ?_ M.i_pure;decide
  refine M.i_bind (a:=.inr ()) (M.i_for (fun i=>i) 3000 (fun i hi=>?_) ?_) ?_
  · have h:=of_decide_eq_true (List.all_eq_true.1 (e9 (i / 25) (by omega)) (i % 25) (List.mem_range.2 (by omega)));rw [show 25*(i / 25)+i % 25=i by omega] at h;exact ⟨600,h⟩
  · refine M.i_f ?_ M.i_pure;decide
  refine M.i_bind (a:=.inr ()) (M.i_for (fun i=>i) 19 (fun i hi=>?_) ?_) ?_
  · exact ⟨3000,of_decide_eq_true (e16 i hi)⟩
  · refine M.i_f ?_ M.i_pure;decide
  exact ⟨3000,by decide +kernel⟩
theorem zeZ:zcH.Ends true:=le_nilometerlaw06_FloodSmall _ ze5
end Go.Proofs.YtbldmjejckjflaaGreat
