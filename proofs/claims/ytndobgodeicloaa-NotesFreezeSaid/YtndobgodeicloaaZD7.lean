/- The statement 'NotesFreeze' holds: frozen works and lines answer as specified, the fewest are frozen, and lines are as many. Conditions: none. -/
import Derived.Test.YtndobgodeicloaaRows
import Derived.ProofKit
import Derived.OpenShut
import Derived.JoinedOf
import Derived.Test.YtndobgodeicloaaZD6
set_option linter.unusedVariables false
set_option linter.unusedSimpArgs false
set_option linter.unusedSectionVars false
set_option maxRecDepth 4000
namespace Go.Proofs.Ytndobgodeicloaa.NotesY
open Go Go.Nm Go.ChangeShapes Go.WideShapes Go.ChangeAt Go.RowKit
theorem own : ownKnob Try.prog.godebug = none := by kernel_rfl
theorem laid : laidOutB Try.prog = true := by kernel_rfl
theorem rowed : mapsRowed Try.prog = true := by kernel_rfl
theorem sizes : ∀ {t e : TypeId}, t < Try.prog.types.size -> Try.prog.underlying t = some (.slice e) -> 0 < Try.prog.cellsOf e := by
  have h : (List.range Try.prog.types.size).all (fun t => match Try.prog.underlying t with
    | some (.slice e) => decide (0 < Try.prog.cellsOf e)
    | _ => true) = true := by kernel_rfl
  intro t e ht hu
  have := List.all_eq_true.1 h t (List.mem_range.2 ht)
  rw [hu] at this
  simpa using this
section
variable {H : Type} {enc : TypeId × Value -> H} {w : World} {sp : Nat -> Bool} {held : Bool}
theorem elInt {n : Nat} {cs : List Value} {d : DataW H × List MemPlace} (h : DataW.trod enc Try.prog w 0 sp held n 3 cs = some d) : ∃ x : Int, Elt.rep w.cell? cs x := open_i Try.underlying3 h
theorem elWork (n : Nat) (cs : List Value) (d : DataW H × List MemPlace) (h : DataW.trod enc Try.prog w 0 sp held n 60 cs = some d) : ∃ x : Work, Elt.rep w.cell? cs x := by
  obtain ⟨v0, v1, v2, m, d0, d1, d2, rfl, h0, h1, h2⟩ := open_f3 Try.underlying60 (by kernel_rfl) rfl rfl rfl (by kernel_rfl) (by kernel_rfl) (by kernel_rfl) h
  obtain ⟨u, l, hu, hl⟩ := open_sl (α := Int) Try.underlying34 (by kernel_rfl) (fun _ _ _ h => elInt h) h0
  obtain ⟨b, hb⟩ := open_i Try.underlying3 h1
  obtain ⟨c, hc⟩ := open_i Try.underlying3 h2
  exact ⟨⟨l, b, c⟩, u, by rw [(List.cons.inj hu).1, (List.cons.inj hb).1, (List.cons.inj hc).1], hl⟩
theorem elList (n : Nat) (cs : List Value) (d : DataW H × List MemPlace) (h : DataW.trod enc Try.prog w 0 sp held n 34 cs = some d) (hw : ∀ m ∈ d.1.weights Try.prog 34, m <= reachBytes) : ∃ x : List Int, Elt.rep w.cell? cs x /\ x.length * 8 <= 140737488351232 := by
  obtain ⟨u, l, hu, hl, hb, _⟩ := open_slQ (α := Int) (fun _ => True) Try.underlying34 (by kernel_rfl) (fun _ _ _ h _ => by obtain ⟨x, hx⟩ := elInt h; exact ⟨x, hx, trivial⟩) h hw
  rw [show Try.prog.bytesOf 3 = 8 from by kernel_rfl] at hb
  exact ⟨l, ⟨u, hu, hl⟩, hb⟩
end
theorem walked (W : World) {v0 v1 v3 v4 : Value} {a0 : List Work} {a1 : List Int} {a3 : List Int} {a4 : List (List Int)} (a2 : Int) (h0 : Sl W.cell? v0 a0) (h1 : Sl W.cell? v1 a1) (h3 : Sl W.cell? v3 a3) (h4 : Sl W.cell? v4 a4) (hb : a4.length * 24 <= 140737488351232) (hq : ∀ l ∈ a4, l.length * 8 <= 140737488351232) :
    Ret Try.prog 10 #[v0, v1, I a2, v3, v4] W fun v W' => v = B true /\ Ext W W' := by
  have h := zdv (R := [cRo ⟨W, fun _ => True⟩]) a0 a1 a2 a3 a4 (reads_all W) h0.base (reads_all W) h1.base (reads_all W) h3.base (reads_all W) h4.base (zc5 a0 a1 a2 a3 a4 (by omega) (fun l hl => by have := hq l hl; omega)) W (st_all W)
  refine Ret.mono h ?_
  rintro v W' ⟨y, hy, hv, hst⟩
  exact ⟨by rw [hv, hy], ext_all hst⟩
theorem contract (H : Type) (enc : TypeId × Value -> H) (W : World) (base : Nat) (args : Array Value) (ds gs : List (DataW H)) (before : List MemPlace)
    (hval : ∀ (j : Nat) t v, Try.f10.params[j]? = some t -> args[j]? = some v -> Value.okWide Try.prog W .any base t v)
    (hW : DataW.Whole enc Try.prog Try.f10.params.toList Rows.notesFreezeSpec.vars false W args.toList ds gs before)
    (hz : (DataW.weightsEach Try.prog (Try.f10.params.toList ++ Rows.notesFreezeSpec.plain.varTypes Try.prog) (ds ++ gs)).all (· <= reachBytes) = true) :
    Calls Try.prog 10 args W fun e W' => ∃ v, e = .returned v /\ Rows.notesFreezeSpec.post enc Try.prog Try.f10 false true false false W args v W' := by
  have hps : Try.f10.params = #[22, 34, 3, 34, 73] := by kernel_rfl
  rw [hps] at hval
  have hW' := hW
  obtain ⟨p, q, hA0, hV, rfl, hfz, hnd⟩ := hW
  have hA : DataW.TrodAll enc Try.prog W 0 (fun _ => true) true [22, 34, 3, 34, 73] args.toList ds p := hA0
  have hA1 := hA
  obtain ⟨v0, vs0, d0, ds0, p0, q0, hargs, rfl, rfl, t0, r0⟩ := trodAll_cons hA
  obtain ⟨v1, vs1, d1, ds1, p1, q1, rfl, rfl, rfl, t1, r1⟩ := trodAll_cons r0
  obtain ⟨v2, vs2, d2, ds2, p2, q2, rfl, rfl, rfl, t2, r2⟩ := trodAll_cons r1
  obtain ⟨v3, vs3, d3, ds3, p3, q3, rfl, rfl, rfl, t3, r3⟩ := trodAll_cons r2
  obtain ⟨v4, vs4, d4, ds4, p4, q4, rfl, rfl, rfl, t4, r4⟩ := trodAll_cons r3
  obtain ⟨rfl, rfl, rfl⟩ := trodAll_nil r4
  obtain rfl : args = #[v0, v1, v2, v3, v4] := by cases args; simp_all
  obtain ⟨rfl, rfl⟩ := trodVars_none hV
  have e0 : Value.okWide Try.prog W .any base 22 v0 := hval 0 22 v0 (by simp) (by simp)
  have e1 : Value.okWide Try.prog W .any base 34 v1 := hval 1 34 v1 (by simp) (by simp)
  have e2 : Value.okWide Try.prog W .any base 3 v2 := hval 2 3 v2 (by simp) (by simp)
  have e3 : Value.okWide Try.prog W .any base 34 v3 := hval 3 34 v3 (by simp) (by simp)
  have e4 : Value.okWide Try.prog W .any base 73 v4 := hval 4 73 v4 (by simp) (by simp)
  obtain ⟨a0, h0⟩ := open_arg (α := Work) Try.underlying22 (w := W) (enc := enc) (sp := fun _ => true) (held := true) (by kernel_rfl) (fun n cs d h => elWork n cs d h) e0 t0
  obtain ⟨a1, h1⟩ := open_arg (α := Int) Try.underlying34 (w := W) (enc := enc) (sp := fun _ => true) (held := true) (by kernel_rfl) (fun _ _ _ h => elInt h) e1 t1
  obtain ⟨a2, rfl⟩ := arg_i Try.underlying3 e2
  obtain ⟨a3, h3⟩ := open_arg (α := Int) Try.underlying34 (w := W) (enc := enc) (sp := fun _ => true) (held := true) (by kernel_rfl) (fun _ _ _ h => elInt h) e3 t3
  obtain ⟨a4, h4, hb4, hq4⟩ := open_argQ (α := List Int) (B := reachBytes) (fun l => l.length * 8 <= 140737488351232) Try.underlying73 (w := W) (enc := enc) (sp := fun _ => true) (held := true) (by kernel_rfl) (fun n cs d h hw => elList n cs d h hw) e4 t4
    (fun m hm => by simpa using List.all_eq_true.1 hz _ (DataW.weights_mem_each (j := 4) (t := 73) (d := d4) (by kernel_rfl) rfl m hm))
  rw [show Try.prog.bytesOf 34 = 24 from by kernel_rfl] at hb4
  have key : Ret Try.prog 10 #[v0, v1, I a2, v3, v4] W fun v W' => v = B true /\ Ext W W' := walked W a2 h0 h1 h3 h4 hb4 hq4
  refine Calls.mono key ?_
  rintro e W' ⟨v, rfl, rfl, hx⟩
  have hg := hx.grown
  exact ⟨_, rfl, post_of_same (pv := []) hW' (fun _ _ _ => (trodAll_cons_mk (shut_bool Try.underlying4 _) trodAll_mk0)) (fun sp hs => trod_ext (kids_rows laid rowed) sizes hx (by decide +kernel) hA1 (fun m hm => hs m (by simpa using hm))) (fun _ _ => rfl) rfl
    (hg.frame _) hg.2.1 (ok_one (by kernel_rfl) rfl (okWide_bool_mk Try.underlying4 _))⟩
set_option maxRecDepth 100000 in
theorem lifted (os : Os) (started : os.Started) (H : Type) (enc : TypeId × Value -> H) :
    ReturnsInHanded {} Try.checked os 10 .any (Rows.notesFreezeSpec.pre6 enc Try.prog Try.f10 Rows.notesFreezeRow.domain false) (Rows.notesFreezeSpec.post enc Try.prog Try.f10 false true false false) := by
  refine returnsInHanded_of_change_sized (C := Try.checked) own started (by kernel_rfl) Try.func10
    (ChangeSpec.witness6 (enc := enc) (C := Try.checked) false ⟨#[], #[.slice none 0 0, .slice none 0 0, I 0, .slice none 0 0, .slice none 0 0], []⟩ 8 (by kernel_rfl) (by kernel_rfl) (by kernel_rfl) (by kernel_rfl)) ?_
  intro W base args ds gs before hval hW _ hz _
  exact contract H enc W base args ds gs before hval hW hz
theorem facts : joinedFacts Try.prog 10 Try.f10 Rows.notesFreezeSpec Rows.notesFreezeRow = true := by kernel_rfl
theorem named : Try.prog.funcNamed Rows.notesFreezeRow.func = some 10 := by kernel_rfl
theorem inst : Try.f10.isInstance Try.prog Rows.notesFreezeRow.origin Rows.notesFreezeRow.targs := of_decide_eq_true (by kernel_rfl)
theorem over : Rows.notesFreezeRow.holds Try.pinned (OpenSpec.ofChange Rows.notesFreezeSpec) :=
  OpenClaim.holds_of_wide 10 Try.f10 rfl rfl rfl rfl rfl rfl rfl ⟨rfl, rfl, rfl, rfl, rfl⟩ rfl rfl rfl rfl rfl named Try.func10 facts
    inst (by unfold Func.isWrapper; first | (rw [if_pos (by decide +kernel)]; kernel_rfl) | (rw [if_neg (by decide +kernel)]; exact ⟨rfl, rfl⟩))
    (fun os started H enc _ => lifted os started H enc)
theorem proved : Rows.NotesFreezeSaid := over
#print axioms proved
end Go.Proofs.Ytndobgodeicloaa.NotesY
