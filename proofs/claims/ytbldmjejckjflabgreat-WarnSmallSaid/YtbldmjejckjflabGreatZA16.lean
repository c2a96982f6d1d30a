/- Part 16 of the texts on which the proof rests. Conditions: none. -/
import Derived.Test.YtbldmjejckjflabGreatZA15
set_option linter.unusedVariables false
set_option linter.unusedSimpArgs false
set_option linter.unusedSectionVars false
namespace Go.Proofs.YtbldmjejckjflabGreat
open Go Go.Nm
def k28 (i:Nat):Bool:=decide ((zdg i).run 3000=some (.inl (i+1)))
theorem e28_0:k28 0=true:=by decide +kernel
theorem e28_1:k28 1=true:=by decide +kernel
theorem e28_2:k28 2=true:=by decide +kernel
theorem e28_3:k28 3=true:=by decide +kernel
theorem e28_4:k28 4=true:=by decide +kernel
theorem e28_5:k28 5=true:=by decide +kernel
theorem e28_6:k28 6=true:=by decide +kernel
theorem e28_7:k28 7=true:=by decide +kernel
theorem e28_8:k28 8=true:=by decide +kernel
theorem e28_9:k28 9=true:=by decide +kernel
theorem e28_10:k28 10=true:=by decide +kernel
theorem e28_11:k28 11=true:=by decide +kernel
theorem e28_12:k28 12=true:=by decide +kernel
theorem e28_13:k28 13=true:=by decide +kernel
theorem e28:∀ i,i<14->k28 i=true
  | 0,_=>e28_0
  | 1,_=>e28_1
  | 2,_=>e28_2
  | 3,_=>e28_3
  | 4,_=>e28_4
  | 5,_=>e28_5
  | 6,_=>e28_6
  | 7,_=>e28_7
  | 8,_=>e28_8
  | 9,_=>e28_9
  | 10,_=>e28_10
  | 11,_=>e28_11
  | 12,_=>e28_12
  | 13,_=>e28_13
  | _+14,h=>absurd h (by omega)
end Go.Proofs.YtbldmjejckjflabGreat
namespace Go.Nm
namespace M
variable {α β σ ρ:Type}
end M
theorem M.i_f {α:Type} {b:Bool} {x y:M α} {r:α} (hb:b=false) (h:y.Ends r):(bif b then x else y).Ends r:=by subst hb; exact h
theorem M.i_for {σ ρ:Type} {body:σ->M (σ ⊕ ρ)} {r:ρ} (st:Nat->σ) (n:Nat) (step:∀ i,i<n->(body (st i)).Ends (.inl (st (i+1)))) (fin:(body (st n)).Ends (.inr r)):(M.iter body (st 0)).Ends r:=by
  refine M.i_loop (r:=r) (fun m s=>∃ i,i<=n/\m=n-i/\s=st i) ?_ n (st 0) ⟨0,Nat.zero_le _,rfl,rfl⟩
  rintro m s ⟨i,hi,rfl,rfl⟩
  by_cases h:i<n
  · exact .inl ⟨_,n-(i+1),by omega,step i h,i+1,h,rfl,rfl⟩
  · obtain rfl:i=n:=by omega
    exact .inr fin
theorem M.i_t {α:Type} {b:Bool} {x y:M α} {r:α} (hb:b=true) (h:x.Ends r):(bif b then x else y).Ends r:=by subst hb; exact h
end Go.Nm
