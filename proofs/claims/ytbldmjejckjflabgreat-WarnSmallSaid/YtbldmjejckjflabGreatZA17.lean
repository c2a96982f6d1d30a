/- Part 17 of the texts on which the proof rests. Conditions: none. -/
import Derived.Test.YtbldmjejckjflabGreatZA16
set_option linter.unusedVariables false
set_option linter.unusedSimpArgs false
set_option linter.unusedSectionVars false
namespace Go.Proofs.YtbldmjejckjflabGreat
open Go Go.Nm
theorem zeK:zbS.Ends true:=by
  unfold zbS
  refine M.i_bind (a:=.inr ()) (M.i_for (fun i=>i) 29 (fun i hi=>?_) ?_) ?_
  · have hl:(vl29).length=29:=rfl
    refine M.i_t (b:=decide ((i:Int)<((vl29).length:Int))) (decide_eq_true (by omega)) (M.i_grd (decide_eq_true (by omega)) (M.i_bind (a:=(.inr ():Unit ⊕ Unit)) (M.i_for (fun j=>j) 31 (fun j hj=>?_) ?_) M.i_pure))
    · exact ⟨600,of_decide_eq_true (List.all_eq_true.1 (e5 i hi) j (List.mem_range.2 hj))⟩
    · refine M.i_f ?_ M.i_pure
      decide
  · refine M.i_f ?_ M.i_pure
    decide
  refine M.i_bind (a:=.inr ()) (M.i_for (fun i=>i) 3000 (fun i hi=>?_) ?_) ?_
  · have h:=of_decide_eq_true (List.all_eq_true.1 (e15 (i / 25) (by omega)) (i % 25) (List.mem_range.2 (by omega)))
    rw [show 25*(i / 25)+i % 25=i by omega] at h
    exact ⟨600,h⟩
  · refine M.i_f ?_ M.i_pure
    decide
  refine M.i_bind (a:=.inr ()) (M.i_for (fun i=>i) 14 (fun i hi=>?_) ?_) ?_
  · exact ⟨3000,of_decide_eq_true (e28 i hi)⟩
  · refine M.i_f ?_ M.i_pure
    decide
  exact ⟨3000,by decide +kernel⟩
end Go.Proofs.YtbldmjejckjflabGreat
