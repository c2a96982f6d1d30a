/- Part 10 of the texts on which the proof rests. Conditions: none. -/
import Derived.Test.YtkclldpnmolljaaGreatZA9
set_option linter.unusedVariables false
set_option linter.unusedSimpArgs false
set_option linter.unusedSectionVars false
namespace Go.Proofs.YtkclldpnmolljaaGreat
open Go Go.Nm
def k20 (i:Nat):Bool:=decide ((zde i).run 3000=some (.inl (i+1)))
theorem e20_0:k20 0=true:=by decide +kernel
theorem e20_1:k20 1=true:=by decide +kernel
theorem e20_2:k20 2=true:=by decide +kernel
theorem e20_3:k20 3=true:=by decide +kernel
theorem e20_4:k20 4=true:=by decide +kernel
theorem e20_5:k20 5=true:=by decide +kernel
theorem e20_6:k20 6=true:=by decide +kernel
theorem e20_7:k20 7=true:=by decide +kernel
theorem e20_8:k20 8=true:=by decide +kernel
theorem e20_9:k20 9=true:=by decide +kernel
theorem e20_10:k20 10=true:=by decide +kernel
theorem e20_11:k20 11=true:=by decide +kernel
theorem e20_12:k20 12=true:=by decide +kernel
theorem e20_13:k20 13=true:=by decide +kernel
theorem e20_14:k20 14=true:=by decide +kernel
theorem e20_15:k20 15=true:=by decide +kernel
theorem e20_16:k20 16=true:=by decide +kernel
theorem e20_17:k20 17=true:=by decide +kernel
theorem e20_18:k20 18=true:=by decide +kernel
theorem e20_19:k20 19=true:=by decide +kernel
theorem e20_20:k20 20=true:=by decide +kernel
theorem e20_21:k20 21=true:=by decide +kernel
theorem e20_22:k20 22=true:=by decide +kernel
theorem e20_23:k20 23=true:=by decide +kernel
theorem e20_24:k20 24=true:=by decide +kernel
theorem e20_25:k20 25=true:=by decide +kernel
theorem e20_26:k20 26=true:=by decide +kernel
theorem e20_27:k20 27=true:=by decide +kernel
theorem e20_28:k20 28=true:=by decide +kernel
theorem e20_29:k20 29=true:=by decide +kernel
theorem e20_30:k20 30=true:=by decide +kernel
theorem e20_31:k20 31=true:=by decide +kernel
theorem e20_32:k20 32=true:=by decide +kernel
theorem e20_33:k20 33=true:=by decide +kernel
theorem e20_34:k20 34=true:=by decide +kernel
theorem e20_35:k20 35=true:=by decide +kernel
theorem e20:∀ i,i<36->k20 i=true
  | 0,_=>e20_0
  | 1,_=>e20_1
  | 2,_=>e20_2
  | 3,_=>e20_3
  | 4,_=>e20_4
  | 5,_=>e20_5
  | 6,_=>e20_6
  | 7,_=>e20_7
  | 8,_=>e20_8
  | 9,_=>e20_9
  | 10,_=>e20_10
  | 11,_=>e20_11
  | 12,_=>e20_12
  | 13,_=>e20_13
  | 14,_=>e20_14
  | 15,_=>e20_15
  | 16,_=>e20_16
  | 17,_=>e20_17
  | 18,_=>e20_18
  | 19,_=>e20_19
  | 20,_=>e20_20
  | 21,_=>e20_21
  | 22,_=>e20_22
  | 23,_=>e20_23
  | 24,_=>e20_24
  | 25,_=>e20_25
  | 26,_=>e20_26
  | 27,_=>e20_27
  | 28,_=>e20_28
  | 29,_=>e20_29
  | 30,_=>e20_30
  | 31,_=>e20_31
  | 32,_=>e20_32
  | 33,_=>e20_33
  | 34,_=>e20_34
  | 35,_=>e20_35
  | _+36,h=>absurd h (by omega)
end Go.Proofs.YtkclldpnmolljaaGreat
namespace Go.Nm
namespace M
variable {α β σ ρ:Type}
end M
theorem M.i_f {α:Type} {b:Bool} {x y:M α} {r:α} (hb:b=false) (h:y.Ends r):(bif b then x else y).Ends r:=by subst hb; exact h
theorem M.i_for {σ ρ:Type} {body:σ->M (σ ⊕ ρ)} {r:ρ} (st:Nat->σ) (n:Nat) (step:∀ i,i<n->(body (st i)).Ends (.inl (st (i+1)))) (fin:(body (st n)).Ends (.inr r)):(M.iter body (st 0)).Ends r:=by
  refine M.i_loop (r:=r) (fun m s=>∃ i,i<=n/\m=n-i/\s=st i) ?_ n (st 0) ⟨0,Nat.zero_le _,rfl,rfl⟩
  rintro m s ⟨i,hi,rfl,rfl⟩
  by_cases h:i<n
  · exact .inl ⟨_,n-(i+1),by omega,step i h,i+1,h,rfl,rfl⟩
  · obtain rfl:i=n:=by omega
    exact .inr fin
theorem M.i_t {α:Type} {b:Bool} {x y:M α} {r:α} (hb:b=true) (h:x.Ends r):(bif b then x else y).Ends r:=by subst hb; exact h
theorem take_succ_D {α:Type} (l:List α) (i:Nat) (h:i<l.length) (d:α):l.take i++[l.getD i d]=l.take (i+1):=by
  rw [List.take_succ_eq_append_getElem h]
  simp [List.getD,h]
end Go.Nm
