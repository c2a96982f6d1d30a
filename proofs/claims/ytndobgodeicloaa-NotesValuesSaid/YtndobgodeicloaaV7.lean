/- The statement 'NotesValues' holds: whatever works, notes and publications come in, it returns true, and they read as they did. Conditions: none. -/
import Derived.Test.YtndobgodeicloaaRows
import Derived.ProofKit
import Derived.OpenShut
import Derived.JoinedOf
import Derived.Test.YtndobgodeicloaaV6
set_option linter.unusedVariables false
set_option linter.unusedSimpArgs false
set_option linter.unusedSectionVars false
set_option maxRecDepth 4000
namespace Go.Proofs.Ytndobgodeicloaa.NotesV
open Go Go.Nm Go.ChangeShapes Go.WideShapes Go.ChangeAt Go.RowKit
theorem own : ownKnob Try.prog.godebug = none := by kernel_rfl
theorem laid : laidOutB Try.prog = true := by kernel_rfl
theorem rowed : mapsRowed Try.prog = true := by kernel_rfl
theorem sizes : ∀ {t e : TypeId}, t < Try.prog.types.size → Try.prog.underlying t = some (.slice e) → 0 < Try.prog.cellsOf e := by
  have h : (List.range Try.prog.types.size).all (fun t => match Try.prog.underlying t with
    | some (.slice e) => decide (0 < Try.prog.cellsOf e)
    | _ => true) = true := by kernel_rfl
  intro t e ht hu
  have := List.all_eq_true.1 h t (List.mem_range.2 ht)
  rw [hu] at this
  simpa using this
section
variable {H : Type} {enc : TypeId × Value → H} {w : World} {sp : Nat → Bool} {held : Bool}
theorem elInt {n : Nat} {cs : List Value} {d : DataW H × List MemPlace} (h : DataW.trod enc Try.prog w 0 sp held n 3 cs = some d) : ∃ x : Int, Elt.rep w.cell? cs x := open_i Try.underlying3 h
theorem elNote (n : Nat) (cs : List Value) (d : DataW H × List MemPlace) (h : DataW.trod enc Try.prog w 0 sp held n 30 cs = some d) : ∃ x : Note, Elt.rep w.cell? cs x := by
  obtain ⟨v0, v1, v2, m, d0, d1, d2, rfl, h0, h1, h2⟩ := open_f3 Try.underlying30 (by kernel_rfl) rfl rfl rfl (by kernel_rfl) (by kernel_rfl) (by kernel_rfl) h
  obtain ⟨a, ha⟩ := open_i Try.underlying3 h0
  obtain ⟨b, hb⟩ := open_i Try.underlying3 h1
  obtain ⟨c, hc⟩ := open_i Try.underlying3 h2
  exact ⟨⟨a, b, c⟩, by rw [(List.cons.inj ha).1, (List.cons.inj hb).1, (List.cons.inj hc).1]; rfl⟩
theorem elPub (n : Nat) (cs : List Value) (d : DataW H × List MemPlace) (h : DataW.trod enc Try.prog w 0 sp held n 33 cs = some d) : ∃ x : Pub, Elt.rep w.cell? cs x := by
  obtain ⟨v0, v1, m, d0, d1, rfl, h0, h1⟩ := open_f2 Try.underlying33 (by kernel_rfl) rfl rfl (by kernel_rfl) (by kernel_rfl) h
  obtain ⟨a, ha⟩ := open_i Try.underlying3 h0
  obtain ⟨b, hb⟩ := open_i Try.underlying3 h1
  exact ⟨⟨a, b⟩, by rw [(List.cons.inj ha).1, (List.cons.inj hb).1]; rfl⟩
theorem elWork (n : Nat) (cs : List Value) (d : DataW H × List MemPlace) (h : DataW.trod enc Try.prog w 0 sp held n 60 cs = some d) : ∃ x : Work, Elt.rep w.cell? cs x := by
  obtain ⟨v0, v1, v2, m, d0, d1, d2, rfl, h0, h1, h2⟩ := open_f3 Try.underlying60 (by kernel_rfl) rfl rfl rfl (by kernel_rfl) (by kernel_rfl) (by kernel_rfl) h
  obtain ⟨u, l, hu, hl⟩ := open_sl (α := Int) Try.underlying34 (by kernel_rfl) (fun _ _ _ h => elInt h) h0
  obtain ⟨b, hb⟩ := open_i Try.underlying3 h1
  obtain ⟨c, hc⟩ := open_i Try.underlying3 h2
  exact ⟨⟨l, b, c⟩, u, by rw [(List.cons.inj hu).1, (List.cons.inj hb).1, (List.cons.inj hc).1], hl⟩
end
theorem walked (W : World) {v0 v1 v2 : Value} {ws : List Work} {l : List Note} {pb : List Pub} (hw : Sl W.cell? v0 ws) (hl : Sl W.cell? v1 l) (hp : Sl W.cell? v2 pb) :
    Ret Try.prog 3 #[v0, v1, v2] W fun v W' => v = B true ∧ Ext W W' := by
  have h := nilometerlaw13_NotesValues_ok (R := [cRo ⟨W, fun _ => True⟩]) ws l pb (reads_all W) hw.base (reads_all W) hl.base (reads_all W) hp.base (notesValues_ends ws l pb) W (st_all W)
  refine Ret.mono h ?_
  rintro v W' ⟨y, hy, hv, hst⟩
  exact ⟨by rw [hv, hy], ext_all hst⟩
theorem contract (H : Type) (enc : TypeId × Value → H) (W : World) (base : Nat) (args : Array Value) (ds gs : List (DataW H)) (before : List MemPlace)
    (hval : ∀ (j : Nat) t v, Try.f3.params[j]? = some t → args[j]? = some v → Value.okWide Try.prog W .any base t v)
    (hW : DataW.Whole enc Try.prog Try.f3.params.toList Rows.notesValuesSpec.vars false W args.toList ds gs before) :
    Calls Try.prog 3 args W fun e W' => ∃ v, e = .returned v ∧ Rows.notesValuesSpec.post enc Try.prog Try.f3 false true false false W args v W' := by
  have hps : Try.f3.params = #[22, 23, 24] := by kernel_rfl
  rw [hps] at hval
  have hW' := hW
  obtain ⟨p, q, hA0, hV, rfl, hfz, hnd⟩ := hW
  have hA : DataW.TrodAll enc Try.prog W 0 (fun _ => true) true [22, 23, 24] args.toList ds p := hA0
  have hA1 := hA
  obtain ⟨v0, vs0, d0, ds0, p0, q0, hargs, rfl, rfl, h0, r0⟩ := trodAll_cons hA
  obtain ⟨v1, vs1, d1, ds1, p1, q1, rfl, rfl, rfl, h1, r1⟩ := trodAll_cons r0
  obtain ⟨v2, vs2, d2, ds2, p2, q2, rfl, rfl, rfl, h2, r2⟩ := trodAll_cons r1
  obtain ⟨rfl, rfl, rfl⟩ := trodAll_nil r2
  obtain rfl : args = #[v0, v1, v2] := by cases args; simp_all
  obtain ⟨rfl, rfl⟩ := trodVars_none hV
  have e0 : Value.okWide Try.prog W .any base 22 v0 := hval 0 22 v0 (by simp) (by simp)
  have e1 : Value.okWide Try.prog W .any base 23 v1 := hval 1 23 v1 (by simp) (by simp)
  have e2 : Value.okWide Try.prog W .any base 24 v2 := hval 2 24 v2 (by simp) (by simp)
  obtain ⟨ws, hw⟩ := open_arg (α := Work) Try.underlying22 (w := W) (enc := enc) (sp := fun _ => true) (held := true) (by kernel_rfl) (fun n cs d h => elWork n cs d h) e0 h0
  obtain ⟨l, hl⟩ := open_arg (α := Note) Try.underlying23 (w := W) (enc := enc) (sp := fun _ => true) (held := true) (by kernel_rfl) (fun n cs d h => elNote n cs d h) e1 h1
  obtain ⟨pb, hp⟩ := open_arg (α := Pub) Try.underlying24 (w := W) (enc := enc) (sp := fun _ => true) (held := true) (by kernel_rfl) (fun n cs d h => elPub n cs d h) e2 h2
  have key : Ret Try.prog 3 #[v0, v1, v2] W fun v W' => v = B true ∧ Ext W W' := walked W hw hl hp
  refine Calls.mono key ?_
  rintro e W' ⟨v, rfl, rfl, hx⟩
  have hg := hx.grown
  exact ⟨_, rfl, post_of_same (pv := []) hW' (fun _ _ _ => (trodAll_cons_mk (shut_bool Try.underlying4 _) trodAll_mk0)) (fun sp hs => trod_ext (kids_rows laid rowed) sizes hx (by decide +kernel) hA1 (fun m hm => hs m (by simpa using hm))) (fun _ _ => rfl) rfl
    (hg.frame _) hg.2.1 (ok_one (by kernel_rfl) rfl (okWide_bool_mk Try.underlying4 _))⟩
set_option maxRecDepth 100000 in
theorem lifted (os : Os) (started : os.Started) (H : Type) (enc : TypeId × Value → H) :
    ReturnsInHanded {} Try.checked os 3 .any (Rows.notesValuesSpec.pre6 enc Try.prog Try.f3 Rows.notesValuesRow.domain false) (Rows.notesValuesSpec.post enc Try.prog Try.f3 false true false false) := by
  refine returnsInHanded_of_change (C := Try.checked) own started (by kernel_rfl) Try.func3
    (ChangeSpec.witness6 (enc := enc) (C := Try.checked) false ⟨#[], #[.slice none 0 0, .slice none 0 0, .slice none 0 0], []⟩ 8 (by kernel_rfl) (by kernel_rfl) (by kernel_rfl) (by kernel_rfl)) ?_
  intro W base args ds gs before hval hW _ _
  exact contract H enc W base args ds gs before hval hW
theorem over : Rows.notesValuesRow.holds Try.pinned (OpenSpec.ofChange Rows.notesValuesSpec) :=
  OpenClaim.holds_of_wide 3 Try.f3 rfl rfl rfl rfl rfl rfl rfl ⟨rfl, rfl, rfl, rfl, rfl⟩ rfl rfl rfl rfl rfl (by kernel_rfl) Try.func3 (by kernel_rfl)
    (of_decide_eq_true (by kernel_rfl)) (by unfold Func.isWrapper; first | (rw [if_pos (by decide +kernel)]; kernel_rfl) | (rw [if_neg (by decide +kernel)]; exact ⟨rfl, rfl⟩))
    (fun os started H enc _ => lifted os started H enc)
theorem proved : Rows.NotesValuesSaid := over
#print axioms proved
end Go.Proofs.Ytndobgodeicloaa.NotesV
